/- What these functions of the program compute, at every world: unicode/utf8.ValidString. What these functions of the program compute, at every world: internal/stringslite.IndexByte, strings.IndexByte, unicode/utf8.ValidRune, strings.shouldUseASCIISet, strings.IndexRune. What these functions of the program compute, at every world: strings.makeASCIISet, (*strings.asciiSet).contains, strings.IndexAny, strings.ContainsAny. What these functions of the program compute, at every world: glosswright/lexrule.Word. -/
import Derived.Test.YtdgnllfbooklcaaDoorU
import Derived.Test.YtdgnllfbooklcaaDoorSim
import Derived.Test.YtdgnllfbooklcaaDoorStk
import Derived.Test.YtdgnllfbooklcaaDoorNTv
namespace Go.Proofs.YtdgnllfbooklcaaDoor
open Go.RowKit
theorem Wq:zZ Tryd.prog 89=true:=by kernel_rfl
theorem sz160:(Tryd.prog.info? 160).map (·.size)=some 2:=by kernel_rfl
theorem XX:(Tryd.prog.info? 5).map (·.size)=some 1:=by kernel_rfl
theorem ze160:(Tryd.prog.info? 160).map (·.zero)=some (some (.agg #[.int .u8 0,.int .u8 0])):=by kernel_rfl
set_option maxRecDepth 100000 in
set_option maxHeartbeats 8000000 in
theorem Gz (s:ByteArray) (w:World) (hU:U8In w) (hsz:s.size < 9223372036854775807):Calls Tryd.prog 83 #[.string s] w fun e w'=>e= .returned (.bool (vq s 0))∧Bel w w':=by
 have hs0:sdr 0 s=s:=WZ (by rw [VQ,List.drop_zero]);refine enter Tryd.func83 Tryd.ntmps83 rfl (Nat.le_of_ble_eq_true rfl) ?_;have hB:Bel w w:=Below.refl _ _;refine zn7 ?_;refine qJ [0,2,3,4,5,6,7,8,9,10,11,12,13,14,15,16,17,18,19,20,21,22,23,24,25,26,27,28,29,30,31,32,33,34,35,36,37,38,39,40,41,42,43,44,45,46,47,48,49,50,51,52,53,54,55,56,57,58,59,60,61,62,63,64,65,66,67,68,69,70,71,72,73,74,75,76,77,78,79,80,81,82,83,84,85,86,87,88,89,90,91,92,93,94,95,96,97,98,99,100,101,102,103,104,105,106,107,108,109,110,111,112,113,114,115,116,117,118,119,120,121,122,123,124,125,126,127,128,129,130,131,132,133,134,135,136,137,138,139,140,141,142,143,144,145,146,147,148,149,150,151,152,153,154,155,156,157,158,159,160,161,162,163,164,165,166,167,168] (fun m g w'=>∃ p:Nat,p≤s.size∧s.size - p≤m∧g 0= .string (sdr p s)∧vq s 0=vq s p∧Bel w w') (s.size) ?_ (fun m g1 w1 hI=>?_)
 ·exact⟨0,Nat.zero_le _,Nat.le_refl _,(by rw [hs0];rfl),rfl,hB⟩
 obtain⟨p,hp,hm,h0,hv,hB⟩:=hI;obtain⟨mo,rfl⟩:∃ x,x=m:=⟨_,rfl⟩
 refine zQ 0 _ h0 nu (zn8 ?_);refine zJ rfl (fun c9=>?_) (fun c9=>?_)
 ·have hsp:=xV p s;have hpl:p < s.size:=by omega
  have e0:=O8 p s 0;have e1:=O8 p s 1;have e2:=O8 p s 2;have e3:=O8 p s 3;rw [Nat.add_zero] at e0;have hb0:=gX s p;refine zn6 ?_;refine wl (jV (i:=0) U9 rfl rfl om) (wl (kQ (v:= .int .u8 ((gb s p:Nat):Int)) (by exact congrArg (fun z:Nat=>Value.int .u8 ((z:Nat):Int)) e0)) (zn9 ?_));refine zJ rfl (fun c13=>?_) (fun c13=>?_)
  ·have hv1:=vq_low hpl om;refine zn3 ?_;refine wl (Y9 (l:=1) U9 rfl rfl om) (wl (kQ (v:= .string (sdr (p + 1) s)) (by exact congrArg Value.string (gw _ _ s))) (zn4 ?_));have hsp1:=xV (p + 1) s;refine zn5 ?_;refine zV 19 rfl (fun g19=>?_) (fun g19=>?_)
   ·refine zn3 ?_;refine zX Wq (Q0 (sdr (p + 1) s) _ (by rw [xV];have:=xV (p + 1) s;omega)) rfl (fun e' w2 hr=>?_);obtain⟨rfl,s1⟩:=hr;replace s1:=sB s1;refine⟨_,rfl,?_⟩;refine zn1 ?_;refine wl (Jy (b:=9259542123273814144) rfl rfl (jK _ dE) dE) (zn5 ?_);replace hB:=hB.tr0 s1;refine zJ rfl (fun c24=>?_) (fun c24=>?_)
    ·have hvA:=Ny (s:=s) (p:=p + 1) (k:=8) om (asc8 (by have h:=c24;exact Int.ofNat.inj h));refine zn3 ?_;refine wl (Y9 (l:=8) U9 rfl rfl om) (wl (kQ (v:= .string (sdr (p + 9) s)) (by exact congrArg Value.string (gw _ _ s))) (zn3 ?_));by_cases q7:16 < s.size - (p + 9)
     ·refine uQ [] [0,1,2,3,4,6,7,5,8,9,10,11,12] rfl (fun w3 s2=>?_);refine zn2 ?_;refine hle rfl (fun _=>SY rfl rfl) (congrArg Value.bool (decide_eq_true (by rw [xV];omega))) (zn3 ?_);refine hg 30 rfl rfl rfl (fun _ _=>Y9 (l:=8) U9 rfl rfl (by rw [xV];omega)) (h1 rfl (zn1 ?_));refine zX Wq (Q0 (sdr (p + 9) s) w3 (by rw [xV];omega)) rfl (fun e' w4 hr=>?_);obtain⟨rfl,s3⟩:=hr;replace s3:=sB s3;have hsH5:=s3;refine⟨_,rfl,?_⟩;refine zW (Px hsH5 (h1 rfl (zn1 ?_)));refine zX Wq (Q0 (sdr 8 (sdr (p + 9) s)) w4 (by rw [xV,xV];omega)) rfl (fun e' w5 hr=>?_);obtain⟨rfl,s4⟩:=hr;replace s4:=sB s4;have hsH8:=s4;refine⟨_,rfl,?_⟩;refine zW (Px hsH8 (hg 30 rfl rfl rfl (fun _ _=>X8 rfl rfl (jK _ dE) (jK _ dE)) (hg 30 rfl rfl rfl (fun _ _=>Jy (b:=9259542123273814144) rfl rfl (Nat.or_lt_two_pow (n:=64) (jK _ dE) (jK _ dE)) dE) (zn4 ?_))));replace hB:=hB.tr0 (s2.trans (s3.trans s4));refine kv rfl (fun c39=>?_) (fun c39=>?_)
      ·have hvB:=Ny (s:=s) (p:=p + 9) (k:=16) om (asc16 (Int.ofNat.inj (of_decide_eq_true c39)));refine zn3 ?_;refine wl (Y9 (l:=16) U9 rfl rfl (by rw [xV];omega)) (wl (kQ (v:= .string (sdr (p + 25) s)) (by exact congrArg Value.string (gw _ _ s))) (zn3 ?_));refine qJ [0,42,43,44,45,46,47,48,49,50,51,52,53,54,55,56,57,58,59,60,61,62,63,64] (fun m g w'=>∃ p2:Nat,p + 25≤p2∧p2≤s.size∧m=s.size - p2∧g 0= .string (sdr p2 s)∧vq s p=vq s p2∧Bel w w') (s.size - (p + 25)) ?_ (fun m g9 w6 hI=>?_)
       ·exact⟨p + 25,Nat.le_refl _,by omega,rfl,rfl,((hv1.trans hvA).trans hvB),hB⟩
       obtain⟨p2,hp2,hp2s,hm2,h0b,hv2,hB⟩:=hI;refine zQ 0 _ h0b nu (xK (xK ?_));by_cases q9:32 < s.size - p2
       ·refine uQ [] [0,1,2,3,4,6,7,10,11,13,14,5,8,9,12,15,16,17,18,19,20] rfl (fun w7 s5=>?_);refine zn2 ?_;refine hle rfl (fun _=>SY rfl rfl) (congrArg Value.bool (decide_eq_true (by rw [xV];omega))) (zn3 ?_);refine hg 45 rfl rfl rfl (fun _ _=>Y9 (l:=8) U9 rfl rfl (by rw [xV];omega)) (zn1 ?_);refine hg 45 rfl rfl rfl (fun _ _=>Y9 (l:=16) U9 rfl rfl (by rw [xV];omega)) (zn1 ?_);refine hg 45 rfl rfl rfl (fun _ _=>Y9 (l:=24) U9 rfl rfl (by rw [xV];omega)) (h1 rfl (zn1 ?_));refine zX Wq (Q0 (sdr p2 s) w7 (by rw [xV];omega)) rfl (fun e' w8 hr=>?_);obtain⟨rfl,s6⟩:=hr;replace s6:=sB s6;have hsH5:=s6;refine⟨_,rfl,?_⟩;refine zW (Px hsH5 (h1 rfl (zn1 ?_)));refine zX Wq (Q0 (sdr 8 (sdr p2 s)) w8 (by rw [xV,xV];omega)) rfl (fun e' w9 hr=>?_);obtain⟨rfl,s7⟩:=hr;replace s7:=sB s7;have hsH8:=s7;refine⟨_,rfl,?_⟩;refine zW (Px hsH8 (hg 45 rfl rfl rfl (fun _ _=>X8 rfl rfl (jK _ dE) (jK _ dE)) (h1 rfl (zn1 ?_))));refine zX Wq (Q0 (sdr 16 (sdr p2 s)) w9 (by rw [xV,xV];omega)) rfl (fun e' w10 hr=>?_);obtain⟨rfl,s8⟩:=hr;replace s8:=sB s8;have hsH12:=s8;refine⟨_,rfl,?_⟩;refine zW (Px hsH12 (h1 rfl (zn1 ?_)));refine zX Wq (Q0 (sdr 24 (sdr p2 s)) w10 (by rw [xV,xV];omega)) rfl (fun e' w11 hr=>?_);obtain⟨rfl,s9⟩:=hr;replace s9:=sB s9;have hsH15:=s9;refine⟨_,rfl,?_⟩;refine zW (Px hsH15 (hg 45 rfl rfl rfl (fun _ _=>X8 rfl rfl (jK _ dE) (jK _ dE)) (hg 45 rfl rfl rfl (fun _ _=>X8 rfl rfl (Nat.or_lt_two_pow (n:=64) (jK _ dE) (jK _ dE)) (Nat.or_lt_two_pow (n:=64) (jK _ dE) (jK _ dE))) (hg 45 rfl rfl rfl (fun _ _=>Jy (b:=9259542123273814144) rfl rfl (Nat.or_lt_two_pow (n:=64) (Nat.or_lt_two_pow (n:=64) (jK _ dE) (jK _ dE)) (Nat.or_lt_two_pow (n:=64) (jK _ dE) (jK _ dE))) dE) (zn4 ?_)))));replace hB:=hB.tr0 (s5.trans (s6.trans (s7.trans (s8.trans s9))));refine kv rfl (fun c62=>?_) (fun c62=>?_)
        ·have hvC:=Ny (s:=s) (p:=p2) (k:=32) om (asc32 (Int.ofNat.inj (of_decide_eq_true c62)));refine zn5 ?_;refine wl (Y9 (l:=32) U9 rfl rfl (by rw [xV];omega)) (wl (kQ (v:= .string (sdr (p2 + 32) s)) (by exact congrArg Value.string (gw _ _ s))) (zW (e_B (yq (s.size - (p2 + 32)) om agA ?_))));exact⟨p2 + 32,by omega,by omega,rfl,rfl,hv2.trans hvC,hB⟩
        refine zn8 ?_;refine yq (mo - 1) om agA ?_
        first
          | exact⟨p + 1,by omega,by omega,rfl,hv.trans hv1,hB⟩
          | exact⟨p + 9,by omega,by omega,rfl,hv.trans (hv1.trans hvA),hB⟩
          | exact⟨p2,by omega,by omega,rfl,hv.trans hv2,hB⟩
          | exact⟨p + 2,by omega,by omega,rfl,hv.trans hvg,hB⟩
          | exact⟨p + 3,by omega,by omega,rfl,hv.trans hvg,hB⟩
          | exact⟨p + 4,by omega,by omega,rfl,hv.trans hvg,hB⟩
       refine uQ [] [0,1,2,3,4,6,7,10,11,13,14,5,8,9,12,15,16,17,18,19,20] rfl (fun w12 s10=>?_);refine zn2 ?_;refine hle rfl (fun _=>SY rfl rfl) (congrArg Value.bool (decide_eq_false (by rw [xV];omega))) (zn29 ?_);refine yq (mo - 1) om agA ?_;replace hB:=hB.tr0 s10
       first
         | exact⟨p + 1,by omega,by omega,rfl,hv.trans hv1,hB⟩
         | exact⟨p + 9,by omega,by omega,rfl,hv.trans (hv1.trans hvA),hB⟩
         | exact⟨p2,by omega,by omega,rfl,hv.trans hv2,hB⟩
         | exact⟨p + 2,by omega,by omega,rfl,hv.trans hvg,hB⟩
         | exact⟨p + 3,by omega,by omega,rfl,hv.trans hvg,hB⟩
         | exact⟨p + 4,by omega,by omega,rfl,hv.trans hvg,hB⟩
      refine zn5 ?_;refine yq (mo - 1) om agA ?_
      first
        | exact⟨p + 1,by omega,by omega,rfl,hv.trans hv1,hB⟩
        | exact⟨p + 9,by omega,by omega,rfl,hv.trans (hv1.trans hvA),hB⟩
        | exact⟨p2,by omega,by omega,rfl,hv.trans hv2,hB⟩
        | exact⟨p + 2,by omega,by omega,rfl,hv.trans hvg,hB⟩
        | exact⟨p + 3,by omega,by omega,rfl,hv.trans hvg,hB⟩
        | exact⟨p + 4,by omega,by omega,rfl,hv.trans hvg,hB⟩
     refine uQ [] [0,1,2,3,4,6,7,5,8,9,10,11,12] rfl (fun w13 s11=>?_);refine zn2 ?_;refine hle rfl (fun _=>SY rfl rfl) (congrArg Value.bool (decide_eq_false (by rw [xV];omega))) (zn18 ?_);refine yq (mo - 1) om agA ?_;replace hB:=hB.tr0 s11
     first
       | exact⟨p + 1,by omega,by omega,rfl,hv.trans hv1,hB⟩
       | exact⟨p + 9,by omega,by omega,rfl,hv.trans (hv1.trans hvA),hB⟩
       | exact⟨p2,by omega,by omega,rfl,hv.trans hv2,hB⟩
       | exact⟨p + 2,by omega,by omega,rfl,hv.trans hvg,hB⟩
       | exact⟨p + 3,by omega,by omega,rfl,hv.trans hvg,hB⟩
       | exact⟨p + 4,by omega,by omega,rfl,hv.trans hvg,hB⟩
    refine zn5 ?_;refine yq (mo - 1) om agA ?_
    first
      | exact⟨p + 1,by omega,by omega,rfl,hv.trans hv1,hB⟩
      | exact⟨p + 9,by omega,by omega,rfl,hv.trans (hv1.trans hvA),hB⟩
      | exact⟨p2,by omega,by omega,rfl,hv.trans hv2,hB⟩
      | exact⟨p + 2,by omega,by omega,rfl,hv.trans hvg,hB⟩
      | exact⟨p + 3,by omega,by omega,rfl,hv.trans hvg,hB⟩
      | exact⟨p + 4,by omega,by omega,rfl,hv.trans hvg,hB⟩
   refine Zk ?_;refine yq (mo - 1) om agA ?_
   first
     | exact⟨p + 1,by omega,by omega,rfl,hv.trans hv1,hB⟩
     | exact⟨p + 9,by omega,by omega,rfl,hv.trans (hv1.trans hvA),hB⟩
     | exact⟨p2,by omega,by omega,rfl,hv.trans hv2,hB⟩
     | exact⟨p + 2,by omega,by omega,rfl,hv.trans hvg,hB⟩
     | exact⟨p + 3,by omega,by omega,rfl,hv.trans hvg,hB⟩
     | exact⟨p + 4,by omega,by omega,rfl,hv.trans hvg,hB⟩
  have hb128:128≤gb s p:=by omega
  refine zn3 ?_;have hU2:=hU.mono hB;have hft:=first_256 (gb s p);refine zn2 ?_;refine wl (EZ (i:=(gb s p)) Tryd.underlying158 XX rfl rfl hb0 rfl) (wl (qK (v:= .int _ _) U5 rfl rfl (hU2.1.2 _ hb0)) (zn6 ?_));refine wl (r_and7 rfl rfl hft) (wl (r_cvI U5 U3 rfl om) (zn6 ?_));refine wl (r_shr8 (b:=4) (c:=(Lib.firstT (gb s p)) / 16) rfl rfl dE rfl) (wl (EZ (i:=((Lib.firstT (gb s p)) / 16)) Tryd.underlying161 sz160 rfl rfl om rfl) (wl (qW Nk rfl rfl (hU2.2.2 _ om) sz160) ?_));refine yj (cs:=#[.int .u8 0,.int .u8 0]) ze160 rfl (fun _=>rfl) (fun _=>rfl) sz160 rfl zK (fun b6 w15 hb6 s12 hr=>?_);refine Yq ?_;replace hB:=hB.tr0 s12;refine zJ rfl (fun c76=>?_) (fun c76=>?_)
  ·obtain⟨hbad,hgood⟩:=ok_n (n:=2) hpl (.inl rfl) om;refine xK (xK ?_);refine yz [78,79,80,81,82,83,84,85,86,87,88,89,90,91,92,93,94] (fun g w'=>(g 94= .bool (decide (yK s p 2)))∧Same [] w15 w') ?_ (fun g17 w16 hI=>?_)
   ·have hZ:SameQ [] w15 w15:=Same.refl _ _;refine gK kR kR (fun w17 s13=>?_);replace hZ:=SameQ.trans hZ s13 (by simp);refine zn4 ?_;refine kw 81 rfl (fun g81=>?_) (fun g81=>?_)
    ·refine Zk ?_;refine u4 ?_;refine e_R ⟨agA,?_⟩;refine⟨?_,hZ⟩
     first | exact congrArg Value.bool (decide_eq_true (by unfold yK;omega)).symm | exact congrArg Value.bool (decide_eq_false (by unfold yK;omega)).symm | exact congrArg Value.bool (decide_eq_decide.2 (by unfold yK;omega))
    refine vY 81 rfl rfl (x5 (v:= .string _) rfl) (vY 81 rfl rfl (jV (i:=1) U9 rfl rfl om) (vY 81 rfl rfl (o7 Nk XX dE rfl rfl rfl) ?_));replace hb6:=hb6.tr0 s13;refine vY 81 rfl rfl (qK (v:= .int _ _) U5 rfl rfl (hb6.cell rfl)) (vY 81 rfl rfl (Xz rfl rfl) (zn2 ?_));refine kw 88 rfl (fun g88=>?_) (fun g88=>?_)
    ·refine zn6 ?_;refine u4 ?_;refine e_R ⟨agA,?_⟩;refine⟨?_,hZ⟩
     first | exact congrArg Value.bool (decide_eq_true (by unfold yK;omega)).symm | exact congrArg Value.bool (decide_eq_false (by unfold yK;omega)).symm | exact congrArg Value.bool (decide_eq_decide.2 (by unfold yK;omega))
    refine vY 88 rfl rfl (o7 Nk XX dE rfl rfl rfl) (vY 88 rfl rfl (qK (v:= .int _ _) U5 rfl rfl (hb6.cell rfl)) (vY 88 rfl rfl (x5 (v:= .string _) rfl) (vY 88 rfl rfl (jV (i:=1) U9 rfl rfl om) (vY 88 rfl rfl (Xz rfl rfl) (zn1 ?_)))));refine u4 ?_;refine e_R ⟨agA,?_⟩;refine⟨?_,hZ⟩
    first | exact congrArg Value.bool (decide_eq_true (by unfold yK;omega)).symm | exact congrArg Value.bool (decide_eq_false (by unfold yK;omega)).symm | exact congrArg Value.bool (decide_eq_decide.2 (by unfold yK;omega))
   obtain⟨h94,s14⟩:=hI;refine oz 94 _ h94 nu (e_S ?_);replace hB:=hB.tr0 s14;refine zJ rfl (fun c94=>?_) (fun c94=>?_)
   ·have hvn:=WW hpl (hbad c94);refine Zk ?_;exact⟨by rw [hv,hvn];rfl,hB⟩
   have hnb:2≤s.size - p:=by unfold yK at c94;omega
   obtain⟨hok,hwd⟩:=hgood c94;have hvg:=WY hpl hok;rw [hwd] at hvg;refine zn4 ?_;refine wl (Y9 (l:=2) U9 rfl rfl (by unfold yK at c94;omega)) (wl (kQ (v:= .string (sdr (p + 2) s)) (by exact congrArg Value.string (gw _ _ s))) (zn3 ?_));refine yq (mo - 1) om agA ?_
   first
     | exact⟨p + 1,by omega,by omega,rfl,hv.trans hv1,hB⟩
     | exact⟨p + 9,by omega,by omega,rfl,hv.trans (hv1.trans hvA),hB⟩
     | exact⟨p2,by omega,by omega,rfl,hv.trans hv2,hB⟩
     | exact⟨p + 2,by omega,by omega,rfl,hv.trans hvg,hB⟩
     | exact⟨p + 3,by omega,by omega,rfl,hv.trans hvg,hB⟩
     | exact⟨p + 4,by omega,by omega,rfl,hv.trans hvg,hB⟩
  refine zn6 ?_;refine zJ rfl (fun c97=>?_) (fun c97=>?_)
  ·obtain⟨hbad,hgood⟩:=ok_n (n:=3) hpl (.inr (.inl rfl)) om;refine xK (xK ?_);refine yz [99,100,101,102,103,104,105,106,107,108,109,110,111,112,113,114,115,116,117,118,119,120,121,122,123,124,125] (fun g w'=>(g 125= .bool (decide (yK s p 3)))∧Same [] w15 w') ?_ (fun g21 w18 hI=>?_)
   ·have hZ:SameQ [] w15 w15:=Same.refl _ _;refine gK kR kR (fun w19 s15=>?_);replace hZ:=SameQ.trans hZ s15 (by simp);refine zn4 ?_;refine kw 102 rfl (fun g102=>?_) (fun g102=>?_)
    ·refine zn23 ?_;refine u4 ?_;refine e_R ⟨agA,?_⟩;refine⟨?_,hZ⟩
     first | exact congrArg Value.bool (decide_eq_true (by unfold yK;omega)).symm | exact congrArg Value.bool (decide_eq_false (by unfold yK;omega)).symm | exact congrArg Value.bool (decide_eq_decide.2 (by unfold yK;omega))
    refine vY 102 rfl rfl (x5 (v:= .string _) rfl) (vY 102 rfl rfl (jV (i:=1) U9 rfl rfl om) (vY 102 rfl rfl (o7 Nk XX dE rfl rfl rfl) ?_));replace hb6:=hb6.tr0 s15;refine vY 102 rfl rfl (qK (v:= .int _ _) U5 rfl rfl (hb6.cell rfl)) (vY 102 rfl rfl (Xz rfl rfl) (zn2 ?_));refine kw 109 rfl (fun g109=>?_) (fun g109=>?_)
    ·refine NY ?_;refine u4 ?_;refine e_R ⟨agA,?_⟩;refine⟨?_,hZ⟩
     first | exact congrArg Value.bool (decide_eq_true (by unfold yK;omega)).symm | exact congrArg Value.bool (decide_eq_false (by unfold yK;omega)).symm | exact congrArg Value.bool (decide_eq_decide.2 (by unfold yK;omega))
    refine vY 109 rfl rfl (o7 Nk XX dE rfl rfl rfl) (vY 109 rfl rfl (qK (v:= .int _ _) U5 rfl rfl (hb6.cell rfl)) (vY 109 rfl rfl (x5 (v:= .string _) rfl) (vY 109 rfl rfl (jV (i:=1) U9 rfl rfl om) (vY 109 rfl rfl (Xz rfl rfl) (zn2 ?_)))));refine kw 116 rfl (fun g116=>?_) (fun g116=>?_)
    ·refine zn9 ?_;refine u4 ?_;refine e_R ⟨agA,?_⟩;refine⟨?_,hZ⟩
     first | exact congrArg Value.bool (decide_eq_true (by unfold yK;omega)).symm | exact congrArg Value.bool (decide_eq_false (by unfold yK;omega)).symm | exact congrArg Value.bool (decide_eq_decide.2 (by unfold yK;omega))
    refine vY 116 rfl rfl (x5 (v:= .string _) rfl) (vY 116 rfl rfl (jV (i:=2) U9 rfl rfl om) (vY 116 rfl rfl (Xz rfl rfl) (zn2 ?_)));refine kw 121 rfl (fun g121=>?_) (fun g121=>?_)
    ·refine zn4 ?_;refine u4 ?_;refine e_R ⟨agA,?_⟩;refine⟨?_,hZ⟩
     first | exact congrArg Value.bool (decide_eq_true (by unfold yK;omega)).symm | exact congrArg Value.bool (decide_eq_false (by unfold yK;omega)).symm | exact congrArg Value.bool (decide_eq_decide.2 (by unfold yK;omega))
    refine vY 121 rfl rfl (x5 (v:= .string _) rfl) (vY 121 rfl rfl (jV (i:=2) U9 rfl rfl om) (vY 121 rfl rfl (Xz rfl rfl) (zn1 ?_)));refine u4 ?_;refine e_R ⟨agA,?_⟩;refine⟨?_,hZ⟩
    first | exact congrArg Value.bool (decide_eq_true (by unfold yK;omega)).symm | exact congrArg Value.bool (decide_eq_false (by unfold yK;omega)).symm | exact congrArg Value.bool (decide_eq_decide.2 (by unfold yK;omega))
   obtain⟨h125,s16⟩:=hI;refine oz 125 _ h125 nu (e_S ?_);replace hB:=hB.tr0 s16;refine zJ rfl (fun c125=>?_) (fun c125=>?_)
   ·have hvn:=WW hpl (hbad c125);refine Zk ?_;exact⟨by rw [hv,hvn];rfl,hB⟩
   have hnb:3≤s.size - p:=by unfold yK at c125;omega
   obtain⟨hok,hwd⟩:=hgood c125;have hvg:=WY hpl hok;rw [hwd] at hvg;refine zn4 ?_;refine wl (Y9 (l:=3) U9 rfl rfl (by unfold yK at c125;omega)) (wl (kQ (v:= .string (sdr (p + 3) s)) (by exact congrArg Value.string (gw _ _ s))) (zn3 ?_));refine yq (mo - 1) om agA ?_
   first
     | exact⟨p + 1,by omega,by omega,rfl,hv.trans hv1,hB⟩
     | exact⟨p + 9,by omega,by omega,rfl,hv.trans (hv1.trans hvA),hB⟩
     | exact⟨p2,by omega,by omega,rfl,hv.trans hv2,hB⟩
     | exact⟨p + 2,by omega,by omega,rfl,hv.trans hvg,hB⟩
     | exact⟨p + 3,by omega,by omega,rfl,hv.trans hvg,hB⟩
     | exact⟨p + 4,by omega,by omega,rfl,hv.trans hvg,hB⟩
  refine zn6 ?_;refine zJ rfl (fun c128=>?_) (fun c128=>?_)
  ·obtain⟨hbad,hgood⟩:=ok_n (n:=4) hpl (.inr (.inr rfl)) om;refine xK (xK ?_);refine yz [130,131,132,133,134,135,136,137,138,139,140,141,142,143,144,145,146,147,148,149,150,151,152,153,154,155,156,157,158,159,160,161,162,163,164,165,166] (fun g w'=>(g 166= .bool (decide (yK s p 4)))∧Same [] w15 w') ?_ (fun g25 w20 hI=>?_)
   ·have hZ:SameQ [] w15 w15:=Same.refl _ _;refine gK kR kR (fun w21 s17=>?_);replace hZ:=SameQ.trans hZ s17 (by simp);refine zn4 ?_;refine kw 133 rfl (fun g133=>?_) (fun g133=>?_)
    ·refine zn30 ?_;refine zn3 ?_;refine u4 ?_;refine e_R ⟨agA,?_⟩;refine⟨?_,hZ⟩
     first | exact congrArg Value.bool (decide_eq_true (by unfold yK;omega)).symm | exact congrArg Value.bool (decide_eq_false (by unfold yK;omega)).symm | exact congrArg Value.bool (decide_eq_decide.2 (by unfold yK;omega))
    refine vY 133 rfl rfl (x5 (v:= .string _) rfl) (vY 133 rfl rfl (jV (i:=1) U9 rfl rfl om) (vY 133 rfl rfl (o7 Nk XX dE rfl rfl rfl) ?_));replace hb6:=hb6.tr0 s17;refine vY 133 rfl rfl (qK (v:= .int _ _) U5 rfl rfl (hb6.cell rfl)) (vY 133 rfl rfl (Xz rfl rfl) (zn2 ?_));refine kw 140 rfl (fun g140=>?_) (fun g140=>?_)
    ·refine zn26 ?_;refine u4 ?_;refine e_R ⟨agA,?_⟩;refine⟨?_,hZ⟩
     first | exact congrArg Value.bool (decide_eq_true (by unfold yK;omega)).symm | exact congrArg Value.bool (decide_eq_false (by unfold yK;omega)).symm | exact congrArg Value.bool (decide_eq_decide.2 (by unfold yK;omega))
    refine vY 140 rfl rfl (o7 Nk XX dE rfl rfl rfl) (vY 140 rfl rfl (qK (v:= .int _ _) U5 rfl rfl (hb6.cell rfl)) (vY 140 rfl rfl (x5 (v:= .string _) rfl) (vY 140 rfl rfl (jV (i:=1) U9 rfl rfl om) (vY 140 rfl rfl (Xz rfl rfl) (zn2 ?_)))));refine kw 147 rfl (fun g147=>?_) (fun g147=>?_)
    ·refine zn19 ?_;refine u4 ?_;refine e_R ⟨agA,?_⟩;refine⟨?_,hZ⟩
     first | exact congrArg Value.bool (decide_eq_true (by unfold yK;omega)).symm | exact congrArg Value.bool (decide_eq_false (by unfold yK;omega)).symm | exact congrArg Value.bool (decide_eq_decide.2 (by unfold yK;omega))
    refine vY 147 rfl rfl (x5 (v:= .string _) rfl) (vY 147 rfl rfl (jV (i:=2) U9 rfl rfl om) (vY 147 rfl rfl (Xz rfl rfl) (zn2 ?_)));refine kw 152 rfl (fun g152=>?_) (fun g152=>?_)
    ·refine Yq ?_;refine u4 ?_;refine e_R ⟨agA,?_⟩;refine⟨?_,hZ⟩
     first | exact congrArg Value.bool (decide_eq_true (by unfold yK;omega)).symm | exact congrArg Value.bool (decide_eq_false (by unfold yK;omega)).symm | exact congrArg Value.bool (decide_eq_decide.2 (by unfold yK;omega))
    refine vY 152 rfl rfl (x5 (v:= .string _) rfl) (vY 152 rfl rfl (jV (i:=2) U9 rfl rfl om) (vY 152 rfl rfl (Xz rfl rfl) (zn2 ?_)));refine kw 157 rfl (fun g157=>?_) (fun g157=>?_)
    ·refine zn9 ?_;refine u4 ?_;refine e_R ⟨agA,?_⟩;refine⟨?_,hZ⟩
     first | exact congrArg Value.bool (decide_eq_true (by unfold yK;omega)).symm | exact congrArg Value.bool (decide_eq_false (by unfold yK;omega)).symm | exact congrArg Value.bool (decide_eq_decide.2 (by unfold yK;omega))
    refine vY 157 rfl rfl (x5 (v:= .string _) rfl) (vY 157 rfl rfl (jV (i:=3) U9 rfl rfl om) (vY 157 rfl rfl (Xz rfl rfl) (zn2 ?_)));refine kw 162 rfl (fun g162=>?_) (fun g162=>?_)
    ·refine zn4 ?_;refine u4 ?_;refine e_R ⟨agA,?_⟩;refine⟨?_,hZ⟩
     first | exact congrArg Value.bool (decide_eq_true (by unfold yK;omega)).symm | exact congrArg Value.bool (decide_eq_false (by unfold yK;omega)).symm | exact congrArg Value.bool (decide_eq_decide.2 (by unfold yK;omega))
    refine vY 162 rfl rfl (x5 (v:= .string _) rfl) (vY 162 rfl rfl (jV (i:=3) U9 rfl rfl om) (vY 162 rfl rfl (Xz rfl rfl) (zn1 ?_)));refine u4 ?_;refine e_R ⟨agA,?_⟩;refine⟨?_,hZ⟩
    first | exact congrArg Value.bool (decide_eq_true (by unfold yK;omega)).symm | exact congrArg Value.bool (decide_eq_false (by unfold yK;omega)).symm | exact congrArg Value.bool (decide_eq_decide.2 (by unfold yK;omega))
   obtain⟨h166,s18⟩:=hI;refine oz 166 _ h166 nu (e_S ?_);replace hB:=hB.tr0 s18;refine zJ rfl (fun c166=>?_) (fun c166=>?_)
   ·have hvn:=WW hpl (hbad c166);refine Zk ?_;exact⟨by rw [hv,hvn];rfl,hB⟩
   have hnb:4≤s.size - p:=by unfold yK at c166;omega
   obtain⟨hok,hwd⟩:=hgood c166;have hvg:=WY hpl hok;rw [hwd] at hvg;refine zn4 ?_;refine wl (Y9 (l:=4) U9 rfl rfl (by unfold yK at c166;omega)) (wl (kQ (v:= .string (sdr (p + 4) s)) (by exact congrArg Value.string (gw _ _ s))) (zn3 ?_));refine yq (mo - 1) om agA ?_
   first
     | exact⟨p + 1,by omega,by omega,rfl,hv.trans hv1,hB⟩
     | exact⟨p + 9,by omega,by omega,rfl,hv.trans (hv1.trans hvA),hB⟩
     | exact⟨p2,by omega,by omega,rfl,hv.trans hv2,hB⟩
     | exact⟨p + 2,by omega,by omega,rfl,hv.trans hvg,hB⟩
     | exact⟨p + 3,by omega,by omega,rfl,hv.trans hvg,hB⟩
     | exact⟨p + 4,by omega,by omega,rfl,hv.trans hvg,hB⟩
  have hvn:=WW hpl (ok_bad hb128 om om om);refine vQ ?_;exact⟨by rw [hv,hvn];rfl,hB⟩
 have hsp:=xV p s;refine vQ ?_;exact⟨by rw [hv,vq_end om];rfl,hB⟩
end Go.Proofs.YtdgnllfbooklcaaDoor
namespace Go.Proofs.YtdgnllfbooklcaaDoor
open Go.RowKit
theorem wrap8 {a:Nat} (h:a < 256):IntKind.u8.wrap (a:Int)=a:=by
  have:∀ a:Nat,a < 256→IntKind.u8.wrap (a:Int)=a:=by decide +kernel
  exact this a h
theorem fn95:zZ Tryd.prog 95=true:=by kernel_rfl
theorem fn96:zZ Tryd.prog 96=true:=by kernel_rfl
theorem fn99:zZ Tryd.prog 99=true:=by kernel_rfl
theorem ixl_any (s:ByteArray) (c:Int) (w:World):Calls Tryd.prog 99 #[.string s,.int .u8 c] w fun e w'=>e= .returned (.int .i64 (Lib.indexByte (bl s) c.toNat.toUInt8))∧w=w':=by
 refine enter Tryd.func99 Tryd.ntmps99 rfl (Nat.le_of_ble_eq_true rfl) (zn9 ?_);refine wl (r_ext (args:=[.string s,.int .u8 c]) (run_ixb (P:=Tryd.prog) Tryd.func100 kR kR kR kR) rfl) (zn5 ?_);exact⟨rfl,rfl⟩
theorem Tw (s:ByteArray) (c:Int) (w:World):Calls Tryd.prog 95 #[.string s,.int .u8 c] w fun e w'=>e= .returned (.int .i64 (Lib.indexByte (bl s) c.toNat.toUInt8))∧w=w':=by
 refine enter Tryd.func95 Tryd.ntmps95 rfl (Nat.le_of_ble_eq_true rfl) (zn9 ?_);refine zX fn99 (ixl_any s c _) rfl (fun e' w1 hr=>?_);obtain⟨rfl,rfl⟩:=hr;refine⟨_,rfl,?_⟩;refine zn5 ?_;exact⟨rfl,rfl⟩
theorem G7 (r:Int) (w:World):Calls Tryd.prog 96 #[.int .i32 r] w fun e w'=>(∃ b,e= .returned (.bool b))∧w=w':=by
 refine enter Tryd.func96 Tryd.ntmps96 rfl (Nat.le_of_ble_eq_true rfl) (zn8 ?_);refine yQ [3,4,5,6,7,8,9] 3 (.bool (decide (0≤r∧r < 55296))) nu ?_ (fun gq=>?_)
 ·refine zn4 ?_;refine zV 6 rfl (fun g6=>?_) (fun g6=>?_)
  ·refine zn6 ?_;refine zW (e_R ⟨rfl,agA,?_⟩);exact clA
  refine zn4 ?_;refine zW (e_R ⟨rfl,agA,?_⟩);exact clA
 refine e_S ?_;refine zJ rfl (fun c3=>?_) (fun c3=>?_)
 ·refine zn9 ?_;exact⟨⟨true,rfl⟩,rfl⟩
 refine xK ?_;refine yQ [10,11,12,13,14,15,16] 10 (.bool (decide (57343 < r∧r≤1114111))) nu ?_ (fun gq=>?_)
 ·refine zn4 ?_;refine zV 13 rfl (fun g13=>?_) (fun g13=>?_)
  ·refine zn6 ?_;refine zW (e_R ⟨rfl,agA,?_⟩);exact clA
  refine zn4 ?_;refine zW (e_R ⟨rfl,agA,?_⟩);exact clA
 refine e_S ?_;refine zJ rfl (fun c10=>?_) (fun c10=>?_)
 ·refine zn9 ?_;exact⟨⟨true,rfl⟩,rfl⟩
 refine jy ?_;exact⟨⟨false,rfl⟩,rfl⟩
theorem sua_any (n:Nat) (w:World):Calls Tryd.prog 92 #[.int .i64 ((n:Nat):Int)] w fun e w'=>e= .returned (.bool (decide (8 < n)))∧w=w':=by
 refine enter Tryd.func92 Tryd.ntmps92 rfl (Nat.le_of_ble_eq_true rfl) (Yq ?_);exact⟨congrArg (fun z=>Ending.returned (.bool z)) (decide_eq_decide.2 (by constructor <;> (intro h;omega))),rfl⟩
set_option maxRecDepth 100000 in
set_option maxHeartbeats 4000000 in
theorem ixr_any (r:Nat) (w:World):Calls Tryd.prog 91 #[.string CH,.int .i32 ((r:Nat):Int)] w fun e w'=>(∃ z:Int,e= .returned (.int .i64 z)∧(0≤z ↔ spc r=true))∧Bel w w':=by
 have hcs:CH.size=9:=rfl;refine enter Tryd.func91 Tryd.ntmps91 rfl (Nat.le_of_ble_eq_true rfl) ?_;have hB:Bel w w:=Below.refl _ _;refine zn7 ?_;refine yQ [160,161,162,163,164,165,166] 160 (.bool (decide (0≤(r:Int)∧(r:Int) < 128))) nu ?_ (fun gq=>?_)
 ·refine zn4 ?_;refine zV 163 rfl (fun g163=>?_) (fun g163=>?_)
  ·refine zn6 ?_;refine zW (e_R ⟨rfl,agA,?_⟩);exact clA
  refine zn4 ?_;refine zW (e_R ⟨rfl,agA,?_⟩);exact clA
 refine e_S ?_;refine zJ rfl (fun c160=>?_) (fun c160=>?_)
 ·refine zn4 ?_;refine wl (KK Tryd.underlying21 U5 rfl (wrap8 om)) ?_;refine zX fn95 (Tw CH _ _) rfl (fun e' w1 hr=>?_);obtain⟨rfl,rfl⟩:=hr;refine⟨_,rfl,?_⟩;refine zn6 ?_;have h:=ch_ix r om;exact⟨⟨_,rfl,by rw [← h,decide_eq_true_iff];rfl⟩,hB⟩
 have hs0:spc r=false:=by cases h:spc r with | false=>rfl | true=>have:=C7 h;omega
 have hr128:128≤r:=by omega
 refine zn7 ?_;refine zJ rfl (fun c171=>?_) (fun c171=>?_)
 ·refine zn4 ?_;refine wl_rg U9 rfl (fun b175 w2 hb175 s1 hr=>?_);have lo175:=nLT (Bel.size hB) hr;refine zn3 ?_;replace hB:=hB.tr0 s1;refine qJ [4,5,6,176,177,178,179,180,181,182] (fun m g w'=>∃ p:Nat,p≤9∧m=9 - p∧Bel w w'∧ItIn w' b175 CH p) (9) ?_ (fun m g38 w3 hI=>?_)
  ·exact⟨0,by omega,rfl,hB,hb175⟩
  obtain⟨p,hp,hm,hB,hb175⟩:=hI;refine zn2 ?_;rcases Nat.lt_or_ge (p) (CH).size with hnlt | hnge
  ·refine wl_nx hb175 rfl hnlt (fun w4 hq s2=>?_);replace hb175:=hq;have hwl:=Nw (LJ p om);have hlt:=LJ p om;refine wl (yk (v:= .bool true) rfl rfl) (zn9 ?_);refine wl (yk (v:= .int _ _) rfl rfl) (wl (yk (v:= .int _ _) rfl rfl) (jy ?_));refine zJ rfl (fun c181=>?_) (fun c181=>?_)
   ·exact absurd c181 (by rw [hwl.2];omega)
   refine B6 (e_B (yq (9 - (p + 1)) om agA ?_));replace hB:=hB.tr1 s2 lo175;exact⟨p + 1,by omega,rfl,hB,by have h:=hb175;rw [show (Utf8.decode CH p).2=1 from hwl.1] at h;exact h⟩
  refine wl (r_ne hb175 rfl (Nat.not_lt.2 hnge)) (wl (yk (v:= .bool false) rfl rfl) (Bx ?_));exact⟨⟨-1,rfl,⟨fun h=>by omega,fun h=>by rw [hs0] at h;cases h⟩⟩,hB⟩
 refine zn3 ?_;refine zX fn96 (G7 _ _) rfl (fun e' w5 hr=>?_);obtain⟨⟨bv,rfl⟩,rfl⟩:=hr;refine⟨_,rfl,?_⟩;refine zn4 ?_;refine kv rfl (fun c183=>?_) (fun c183=>?_)
 ·refine zn8 ?_;exact⟨⟨-1,rfl,⟨fun h=>by omega,fun h=>by rw [hs0] at h;cases h⟩⟩,hB⟩
 refine LK (zn3 ?_);refine wl (r_rstr Tryd.underlying21 U9 rfl) (zn4 ?_);obtain⟨hE2,hE4,hEh⟩:=enc_hi hr128;refine zn3 ?_;refine wl (J7 (c:=(((Utf8.encode (r:Int)).size - 1:Nat):Int)) rfl rfl om om) (NY ?_);refine qJ [4,9,10,11,12,23,24,25,26,27,28,29,30,31,32,33,34,35,36,37,38,39,40,41,42,43,44,45,46,47,48,49,50,51,52,53,54,55,56,57,58,59,60,61,62,63,64,65,66,67,68,69,70,71,72,73,74,75,76,77,78,79,80,81,82,83,84,85,86,87,88,89,90,91,92,93,94,95,96,97,98] (fun m g w'=>m=0∧g 9= .int .i64 (((Utf8.encode (r:Int)).size - 1:Nat):Int)∧Bel w w') (0) ?_ (fun m g5 w6 hI=>?_)
 ·exact⟨rfl,rfl,hB⟩
 obtain⟨hm,h9,hB⟩:=hI;refine zQ 9 _ h9 nu (zn9 ?_);refine zJ rfl (fun c26=>?_) (fun c26=>?_)
 ·obtain⟨ii,hii⟩:∃ x,x=(Utf8.encode (r:Int)).size - 1:=⟨_,rfl⟩
  have hi9:ii < 9:=by omega
  have hclo:=LJ ii hi9;have hchi:=hEh ((Utf8.encode (r:Int)).size - 1) om;have hnone:Lib.indexByte (bl (sdr (ii + 1) CH)) (((gb (Utf8.encode (r:Int)) ((Utf8.encode (r:Int)).size - 1):Nat):Int)).toNat.toUInt8 < 0:=by
    refine ixb_none (fun hm=>?_);rw [VQ] at hm;have h1:=List.mem_of_mem_drop hm;have h2:∀ x ∈ bl CH,x.toNat < 128:=by decide
    have h3:=h2 _ h1;have h4:=gX (Utf8.encode (r:Int)) ((Utf8.encode (r:Int)).size - 1);rw [Int.toNat_natCast,show ((gb (Utf8.encode (r:Int)) ((Utf8.encode (r:Int)).size - 1))).toUInt8.toNat=gb (Utf8.encode (r:Int)) ((Utf8.encode (r:Int)).size - 1) from Nat.mod_eq_of_lt h4] at h3;omega
  rw [← hii] at hnone hchi;refine zn3 ?_;refine LK (xK (xK ?_));refine gK kR kR (fun w7 s3=>?_);refine zn2 ?_;refine ws (jV (i:=((Utf8.encode (r:Int)).size - 1)) U9 rfl rfl om) (zn2 ?_);refine ws (jV (i:=((Utf8.encode (r:Int)).size - 1)) U9 rfl rfl om) (zn1 ?_);refine u4 (e_S ?_);refine zJ rfl (fun c33=>?_) (fun c33=>?_)
  ·refine xK ?_;refine gK kR kR (fun w8 s4=>?_);refine zn2 ?_;refine ws (Q5 (c:=((ii + 1:Nat):Int)) rfl rfl (by rw [← hii];rfl) om) (ws (Y9 (l:=(ii + 1)) U9 rfl rfl om) (zn2 ?_));refine ws (jV (i:=((Utf8.encode (r:Int)).size - 1)) U9 rfl rfl om) (ws_cl fn95 (Tw (sdr (ii + 1) CH) _ _) rfl (zn1 ?_));refine u4 (zn8 ?_);refine zJ rfl (fun c43=>?_) (fun c43=>?_)
   ·refine zn8 ?_;refine e_Nr (zn4 ?_);refine e_Nr (zn2 ?_);replace hB:=hB.tr0 (s3.trans s4);exact⟨⟨-1,rfl,⟨fun h=>by omega,fun h=>by rw [hs0] at h;cases h⟩⟩,hB⟩
   exact absurd (by rw [← hii];exact hnone) c43
  exact absurd (fun h=>by rw [← hii] at h;omega) c33
 refine Zk ?_;refine e_Nr (zn2 ?_);exact⟨⟨-1,rfl,⟨fun h=>by omega,fun h=>by rw [hs0] at h;cases h⟩⟩,hB⟩
end Go.Proofs.YtdgnllfbooklcaaDoor
namespace Go.Proofs.YtdgnllfbooklcaaDoor
open Go.RowKit
theorem fn90:zZ Tryd.prog 90=true:=by kernel_rfl
theorem fn91:zZ Tryd.prog 91=true:=by kernel_rfl
theorem fn92:zZ Tryd.prog 92=true:=by kernel_rfl
theorem fn93:zZ Tryd.prog 93=true:=by kernel_rfl
theorem fn94:zZ Tryd.prog 94=true:=by kernel_rfl
theorem sz165:(Tryd.prog.info? 165).map (·.size)=some 256:=by kernel_rfl
theorem ze165:(Tryd.prog.info? 165).map (·.zero)=some (some (.agg #[.bool false,.bool false,.bool false,.bool false,.bool false,.bool false,.bool false,.bool false,.bool false,.bool false,.bool false,.bool false,.bool false,.bool false,.bool false,.bool false,.bool false,.bool false,.bool false,.bool false,.bool false,.bool false,.bool false,.bool false,.bool false,.bool false,.bool false,.bool false,.bool false,.bool false,.bool false,.bool false,.bool false,.bool false,.bool false,.bool false,.bool false,.bool false,.bool false,.bool false,.bool false,.bool false,.bool false,.bool false,.bool false,.bool false,.bool false,.bool false,.bool false,.bool false,.bool false,.bool false,.bool false,.bool false,.bool false,.bool false,.bool false,.bool false,.bool false,.bool false,.bool false,.bool false,.bool false,.bool false,.bool false,.bool false,.bool false,.bool false,.bool false,.bool false,.bool false,.bool false,.bool false,.bool false,.bool false,.bool false,.bool false,.bool false,.bool false,.bool false,.bool false,.bool false,.bool false,.bool false,.bool false,.bool false,.bool false,.bool false,.bool false,.bool false,.bool false,.bool false,.bool false,.bool false,.bool false,.bool false,.bool false,.bool false,.bool false,.bool false,.bool false,.bool false,.bool false,.bool false,.bool false,.bool false,.bool false,.bool false,.bool false,.bool false,.bool false,.bool false,.bool false,.bool false,.bool false,.bool false,.bool false,.bool false,.bool false,.bool false,.bool false,.bool false,.bool false,.bool false,.bool false,.bool false,.bool false,.bool false,.bool false,.bool false,.bool false,.bool false,.bool false,.bool false,.bool false,.bool false,.bool false,.bool false,.bool false,.bool false,.bool false,.bool false,.bool false,.bool false,.bool false,.bool false,.bool false,.bool false,.bool false,.bool false,.bool false,.bool false,.bool false,.bool false,.bool false,.bool false,.bool false,.bool false,.bool false,.bool false,.bool false,.bool false,.bool false,.bool false,.bool false,.bool false,.bool false,.bool false,.bool false,.bool false,.bool false,.bool false,.bool false,.bool false,.bool false,.bool false,.bool false,.bool false,.bool false,.bool false,.bool false,.bool false,.bool false,.bool false,.bool false,.bool false,.bool false,.bool false,.bool false,.bool false,.bool false,.bool false,.bool false,.bool false,.bool false,.bool false,.bool false,.bool false,.bool false,.bool false,.bool false,.bool false,.bool false,.bool false,.bool false,.bool false,.bool false,.bool false,.bool false,.bool false,.bool false,.bool false,.bool false,.bool false,.bool false,.bool false,.bool false,.bool false,.bool false,.bool false,.bool false,.bool false,.bool false,.bool false,.bool false,.bool false,.bool false,.bool false,.bool false,.bool false,.bool false,.bool false,.bool false,.bool false,.bool false,.bool false,.bool false,.bool false,.bool false,.bool false,.bool false,.bool false,.bool false,.bool false,.bool false,.bool false,.bool false,.bool false,.bool false,.bool false,.bool false,.bool false,.bool false,.bool false,.bool false,.bool false])):=by kernel_rfl
set_option maxRecDepth 100000 in
set_option maxHeartbeats 2000000 in
theorem mas_any (w:World):Calls Tryd.prog 93 #[.string CH] w fun e w'=>e= .returned (.tuple #[.agg (row 256 (fun x=> .bool (spc x))),.bool true])∧Bel w w':=by
 have hcs:CH.size=9:=rfl;refine enter Tryd.func93 Tryd.ntmps93 rfl (Nat.le_of_ble_eq_true rfl) ?_;have hB:Bel w w:=Below.refl _ _;refine zn2 ?_;refine qw (cs:=#[.bool false,.bool false,.bool false,.bool false,.bool false,.bool false,.bool false,.bool false,.bool false,.bool false,.bool false,.bool false,.bool false,.bool false,.bool false,.bool false,.bool false,.bool false,.bool false,.bool false,.bool false,.bool false,.bool false,.bool false,.bool false,.bool false,.bool false,.bool false,.bool false,.bool false,.bool false,.bool false,.bool false,.bool false,.bool false,.bool false,.bool false,.bool false,.bool false,.bool false,.bool false,.bool false,.bool false,.bool false,.bool false,.bool false,.bool false,.bool false,.bool false,.bool false,.bool false,.bool false,.bool false,.bool false,.bool false,.bool false,.bool false,.bool false,.bool false,.bool false,.bool false,.bool false,.bool false,.bool false,.bool false,.bool false,.bool false,.bool false,.bool false,.bool false,.bool false,.bool false,.bool false,.bool false,.bool false,.bool false,.bool false,.bool false,.bool false,.bool false,.bool false,.bool false,.bool false,.bool false,.bool false,.bool false,.bool false,.bool false,.bool false,.bool false,.bool false,.bool false,.bool false,.bool false,.bool false,.bool false,.bool false,.bool false,.bool false,.bool false,.bool false,.bool false,.bool false,.bool false,.bool false,.bool false,.bool false,.bool false,.bool false,.bool false,.bool false,.bool false,.bool false,.bool false,.bool false,.bool false,.bool false,.bool false,.bool false,.bool false,.bool false,.bool false,.bool false,.bool false,.bool false,.bool false,.bool false,.bool false,.bool false,.bool false,.bool false,.bool false,.bool false,.bool false,.bool false,.bool false,.bool false,.bool false,.bool false,.bool false,.bool false,.bool false,.bool false,.bool false,.bool false,.bool false,.bool false,.bool false,.bool false,.bool false,.bool false,.bool false,.bool false,.bool false,.bool false,.bool false,.bool false,.bool false,.bool false,.bool false,.bool false,.bool false,.bool false,.bool false,.bool false,.bool false,.bool false,.bool false,.bool false,.bool false,.bool false,.bool false,.bool false,.bool false,.bool false,.bool false,.bool false,.bool false,.bool false,.bool false,.bool false,.bool false,.bool false,.bool false,.bool false,.bool false,.bool false,.bool false,.bool false,.bool false,.bool false,.bool false,.bool false,.bool false,.bool false,.bool false,.bool false,.bool false,.bool false,.bool false,.bool false,.bool false,.bool false,.bool false,.bool false,.bool false,.bool false,.bool false,.bool false,.bool false,.bool false,.bool false,.bool false,.bool false,.bool false,.bool false,.bool false,.bool false,.bool false,.bool false,.bool false,.bool false,.bool false,.bool false,.bool false,.bool false,.bool false,.bool false,.bool false,.bool false,.bool false,.bool false,.bool false,.bool false,.bool false,.bool false,.bool false,.bool false,.bool false,.bool false,.bool false,.bool false,.bool false,.bool false,.bool false,.bool false,.bool false,.bool false,.bool false,.bool false,.bool false,.bool false,.bool false,.bool false,.bool false,.bool false]) ze165 rfl (fun b2 w1 hb2 s1 hr=>?_)
 have lo2:=nLT (Bel.size hB) hr;refine jy ?_;replace hB:=hB.tr0 s1;refine qJ [3,4,5,6,7,8,9,10,11,12,13,14,15,16,17,18,19] (fun m g w'=>∃ k:Nat,k≤9∧m=9 - k∧g 4= .int .i64 k∧Bel w w'∧Blk w' b2 165 (row 256 (fun x=> .bool (chs k x)))) (9) ?_ (fun m g2 w2 hI=>?_)
 ·exact⟨0,Nat.zero_le _,rfl,rfl,hB,hb2⟩
 obtain⟨k,hk,hm,h4,hB,hb2⟩:=hI;refine zQ 4 _ h4 nu (zn9 ?_);refine zJ rfl (fun c9=>?_) (fun c9=>?_)
 ·have hk9:k < 9:=by omega
  have hlo:=LJ k hk9;refine zn8 ?_;refine wl (jV (i:=k) U9 rfl rfl om) (jy ?_);refine zJ rfl (fun c16=>?_) (fun c16=>?_)
  ·exact absurd c16 om
  refine zn4 ?_;refine wl (EZ (i:=(gb CH k)) U165 kY rfl rfl om rfl) ?_;refine xZ (v:= .bool _) hb2 rfl rfl kY (by rw [row_size];omega) rfl Qj (fun w3 hq s2=>?_);replace hb2:=hq;rw [kX (g':=fun x=> .bool (chs (k + 1) x)) (fun x _=>by rw [chs_step];by_cases e:x=gb CH k <;> simp [e])] at hb2;refine zn8 ?_;refine yq (9 - (k + 1)) om agA ?_;replace hB:=hB.tr1 s2 lo2;exact⟨k + 1,by omega,rfl,rfl,hB,hb2⟩
 have hk9:k=9:=by omega
 subst hk9;have hb2':Blk w2 b2 165 (row 256 (fun x=> .bool (spc x))):=by rw [kX (g':=fun x=> .bool (chs 9 x)) (fun x hx=>by rw [chs_all x hx])];exact hb2
 refine zn6 ?_;replace hb2:=hb2';refine zn2 ?_;refine zk hb2 rfl rfl sz165 rfl zK (fun w4 hq s3=>?_);replace hb2:=hq;refine zn4 ?_;refine ZK (.inl rfl) rfl (zw U165 rfl rfl hb2.range0 sz165) rfl ?_;replace hB:=hB.tr1 s3 lo2;exact⟨rfl,hB⟩
theorem cnt_any (b6 c:Nat) (w:World) (hb6:Blk w b6 165 (row 256 (fun x=> .bool (spc x)))) (hc:c < 256):Calls Tryd.prog 94 #[.pointer (some ⟨b6,0,none⟩),.int .u8 ((c:Nat):Int)] w fun e w'=>e= .returned (.bool (spc c))∧w=w':=by
 refine enter Tryd.func94 Tryd.ntmps94 rfl (Nat.le_of_ble_eq_true rfl) (zn7 ?_);refine wl (x5 (v:= .pointer (some _)) rfl) (wmI rfl (wl (ZQ rfl) (wl (EZ (i:=c) U165 kY rfl rfl hc rfl) (wl (qK (v:= .bool _) U4 rfl rfl (hb6.cell (gZ hc))) (zn5 ?_)))));exact⟨rfl,rfl⟩
set_option maxRecDepth 100000 in
set_option maxHeartbeats 2000000 in
theorem ixa_any (s:ByteArray) (w:World) (hsz:s.size < 9223372036854775807):Calls Tryd.prog 90 #[.string s,.string CH] w fun e w'=>(∃ z:Int,e= .returned (.int .i64 z)∧(0≤z ↔ brd s 0=true))∧Bel w w':=by
 refine enter Tryd.func90 Tryd.ntmps90 rfl (Nat.le_of_ble_eq_true rfl) ?_;have hB:Bel w w:=Below.refl _ _;refine vQ ?_;refine zJ rfl (fun c12=>?_) (fun c12=>?_)
 ·exact absurd c12 dE
 refine jy ?_;refine zJ rfl (fun c15=>?_) (fun c15=>?_)
 ·exact absurd c15 dE
 refine zn7 ?_;refine zX fn92 (sua_any s.size _) rfl (fun e' w1 hr=>?_);obtain⟨rfl,rfl⟩:=hr;refine⟨_,rfl,?_⟩;refine zW (e_S ?_);refine kv rfl (fun c26=>?_) (fun c26=>?_)
 ·refine zn3 ?_;refine zX fn93 (mas_any _) rfl (fun e' w2 hr=>?_);obtain⟨rfl,s1⟩:=hr;replace s1:=sB s1;refine⟨_,rfl,?_⟩;refine wmT rfl (wl (yk (v:= .agg _) rfl rfl) (wl (yk (v:= .bool _) rfl rfl) ?_));refine yj (cs:=#[.bool false,.bool false,.bool false,.bool false,.bool false,.bool false,.bool false,.bool false,.bool false,.bool false,.bool false,.bool false,.bool false,.bool false,.bool false,.bool false,.bool false,.bool false,.bool false,.bool false,.bool false,.bool false,.bool false,.bool false,.bool false,.bool false,.bool false,.bool false,.bool false,.bool false,.bool false,.bool false,.bool false,.bool false,.bool false,.bool false,.bool false,.bool false,.bool false,.bool false,.bool false,.bool false,.bool false,.bool false,.bool false,.bool false,.bool false,.bool false,.bool false,.bool false,.bool false,.bool false,.bool false,.bool false,.bool false,.bool false,.bool false,.bool false,.bool false,.bool false,.bool false,.bool false,.bool false,.bool false,.bool false,.bool false,.bool false,.bool false,.bool false,.bool false,.bool false,.bool false,.bool false,.bool false,.bool false,.bool false,.bool false,.bool false,.bool false,.bool false,.bool false,.bool false,.bool false,.bool false,.bool false,.bool false,.bool false,.bool false,.bool false,.bool false,.bool false,.bool false,.bool false,.bool false,.bool false,.bool false,.bool false,.bool false,.bool false,.bool false,.bool false,.bool false,.bool false,.bool false,.bool false,.bool false,.bool false,.bool false,.bool false,.bool false,.bool false,.bool false,.bool false,.bool false,.bool false,.bool false,.bool false,.bool false,.bool false,.bool false,.bool false,.bool false,.bool false,.bool false,.bool false,.bool false,.bool false,.bool false,.bool false,.bool false,.bool false,.bool false,.bool false,.bool false,.bool false,.bool false,.bool false,.bool false,.bool false,.bool false,.bool false,.bool false,.bool false,.bool false,.bool false,.bool false,.bool false,.bool false,.bool false,.bool false,.bool false,.bool false,.bool false,.bool false,.bool false,.bool false,.bool false,.bool false,.bool false,.bool false,.bool false,.bool false,.bool false,.bool false,.bool false,.bool false,.bool false,.bool false,.bool false,.bool false,.bool false,.bool false,.bool false,.bool false,.bool false,.bool false,.bool false,.bool false,.bool false,.bool false,.bool false,.bool false,.bool false,.bool false,.bool false,.bool false,.bool false,.bool false,.bool false,.bool false,.bool false,.bool false,.bool false,.bool false,.bool false,.bool false,.bool false,.bool false,.bool false,.bool false,.bool false,.bool false,.bool false,.bool false,.bool false,.bool false,.bool false,.bool false,.bool false,.bool false,.bool false,.bool false,.bool false,.bool false,.bool false,.bool false,.bool false,.bool false,.bool false,.bool false,.bool false,.bool false,.bool false,.bool false,.bool false,.bool false,.bool false,.bool false,.bool false,.bool false,.bool false,.bool false,.bool false,.bool false,.bool false,.bool false,.bool false,.bool false,.bool false,.bool false,.bool false,.bool false,.bool false,.bool false,.bool false,.bool false,.bool false,.bool false,.bool false,.bool false,.bool false,.bool false,.bool false,.bool false,.bool false,.bool false]) ze165 rfl (fun _=>rfl) (fun _=>rfl) sz165 rfl zK (fun b6 w4 hb6 s2 hr=>?_)
  refine zn8 ?_;refine kv rfl (fun c32=>?_) (fun c32=>?_)
  ·refine zn7 ?_;replace hB:=hB.tr0 (s1.trans s2);refine qJ [4,8,33,34,35,36,37,38,39,40,41,42,43] (fun m g w'=>∃ k:Nat,k≤s.size∧m=s.size - k∧g 8= .int .i64 k∧Bel w w'∧Blk w' b6 165 (row 256 (fun x=> .bool (spc x)))∧∀ j,j < k→spc (gb s j)=false) (s.size) ?_ (fun m g12 w5 hI=>?_)
   ·exact⟨0,Nat.zero_le _,rfl,rfl,hB,hb6,fun j hj=>by omega⟩
   obtain⟨k,hk,hm,h8,hB,hb6,hall⟩:=hI;refine zQ 8 _ h8 nu (zn9 ?_);refine zJ rfl (fun c36=>?_) (fun c36=>?_)
   ·refine zn8 ?_;refine wl (jV (i:=k) U9 rfl rfl om) ?_;refine zX fn94 (cnt_any b6 _ _ hb6 (gX s k)) rfl (fun e' w6 hr=>?_);obtain⟨rfl,rfl⟩:=hr;refine⟨_,rfl,?_⟩;refine zW (e_S ?_);refine kv rfl (fun c42=>?_) (fun c42=>?_)
    ·refine Yq ?_;exact⟨⟨_,rfl,⟨fun _=>brd_byte (m:=s.size) om (Nat.zero_le k) om c42,fun _=>Int.natCast_nonneg k⟩⟩,hB⟩
    refine zn8 ?_;refine yq (s.size - (k + 1)) om agA ?_
    exact⟨k + 1,by omega,rfl,rfl,hB,hb6,fun j hj=>by
      by_cases e:j=k
      · subst e;simpa using c42
      · exact hall j om⟩
   refine Zk ?_;have hno:brd s 0=false:=by
     cases h:brd s 0 with
     | false=>rfl
     | true=>
       obtain⟨q,_,h2,h3⟩:=byte_brd (m:=s.size) om h;rw [hall q om] at h3;cases h3
   exact⟨⟨-1,rfl,⟨fun h=>by omega,fun h=>by rw [hno] at h;cases h⟩⟩,hB⟩
  exact absurd c32 dE
 refine zn6 ?_;refine wl_rg U9 rfl (fun b45 w7 hb45 s3 hr=>?_);have lo45:=nLT (Bel.size hB) hr;refine zn3 ?_;replace hB:=hB.tr0 s3;refine qJ [4,9,10,46,47,48,49,50,51,52,53,54] (fun m g w'=>∃ p:Nat,p≤s.size∧s.size - p≤m∧Bel w w'∧ItIn w' b45 s p∧brd s 0=brd s p) (s.size) ?_ (fun m g18 w8 hI=>?_)
 ·exact⟨0,Nat.zero_le _,Nat.le_refl _,hB,hb45,rfl⟩
 obtain⟨p,hp,hm,hB,hb45,hbr⟩:=hI;refine zn2 ?_;rcases Nat.lt_or_ge (p) (s).size with hnlt | hnge
 ·refine wl_nx hb45 rfl hnlt (fun w9 hq s4=>?_);replace hb45:=hq;have hwp:=VV hnlt;have hwl:=wdt_le hnlt;refine wl (yk (v:= .bool true) rfl rfl) (zn9 ?_);refine wl (yk (v:= .int _ _) rfl rfl) (wl (yk (v:= .int _ _) rfl rfl) (zn8 ?_));refine zX fn91 (ixr_any _ _) rfl (fun e' w10 hr=>?_);obtain⟨⟨z,rfl,hz⟩,s5⟩:=hr;replace s5:=sB s5;refine⟨_,rfl,?_⟩;refine zn3 ?_;replace hB:=(hB.tr1 s4 lo45).tr0 s5;refine zJ rfl (fun c53=>?_) (fun c53=>?_)
  ·have hbt:brd s 0=true:=by rw [hbr,Ij hnlt,hz.1 c53];rfl
   refine vQ ?_;exact⟨⟨_,rfl,⟨fun _=>hbt,fun _=>Int.natCast_nonneg p⟩⟩,hB⟩
  have hsn:spc (Utf8.decode s p).1=false:=by cases h:spc (Utf8.decode s p).1 with | false=>rfl | true=>exact absurd (hz.2 h) c53
  refine B6 (e_B (yq (m - 1) om agA ?_));replace hb45:=hb45.tr0 s5;exact⟨p + wdt s p,hwl,by omega,hB,hb45,by rw [hbr,Ij hnlt,hsn,Bool.false_or]⟩
 refine wl (r_ne hb45 rfl (Nat.not_lt.2 hnge)) ?_;rw [B7 (Nat.not_lt.2 hnge)] at hbr;refine wl (yk (v:= .bool false) rfl rfl) (NY ?_);exact⟨⟨-1,rfl,⟨fun h=>by omega,fun h=>by rw [hbr] at h;cases h⟩⟩,hB⟩
theorem cany_any (s:ByteArray) (w:World) (hsz:s.size < 9223372036854775807):Calls Tryd.prog 84 #[.string s,.string CH] w fun e w'=>e= .returned (.bool (brd s 0))∧Bel w w':=by
 refine enter Tryd.func84 Tryd.ntmps84 rfl (Nat.le_of_ble_eq_true rfl) ?_;have hB:Bel w w:=Below.refl _ _;refine zn9 ?_;refine zX fn90 (ixa_any s _ hsz) rfl (fun e' w1 hr=>?_);obtain⟨⟨z,rfl,hz⟩,s1⟩:=hr;replace s1:=sB s1;refine⟨_,rfl,?_⟩;refine zn6 ?_;replace hB:=hB.tr0 s1;exact⟨congrArg (fun b=>Ending.returned (.bool b)) (by cases h:brd s 0 with | true=>exact decide_eq_true (hz.2 h) | false=>exact decide_eq_false (fun h2=>by rw [hz.1 h2] at h;cases h)),hB⟩
end Go.Proofs.YtdgnllfbooklcaaDoor
namespace Go.Proofs.YtdgnllfbooklcaaDoor
open Go.RowKit
theorem fn82:zZ Tryd.prog 82=true:=by kernel_rfl
theorem fn83:zZ Tryd.prog 83=true:=by kernel_rfl
theorem fn84:zZ Tryd.prog 84=true:=by kernel_rfl
set_option maxHeartbeats 1000000 in
theorem word_p (s:ByteArray) (w:World) (hU:U8In w) (hsz:s.size < 9223372036854775807):Calls Tryd.prog 67 #[.string s] w fun e w'=>e= .returned (.bool (u9 s))∧Bel w w':=by
 refine enter Tryd.func67 Tryd.ntmps67 rfl (Nat.le_of_ble_eq_true rfl) ?_;have hB:Bel w w:=Below.refl _ _;refine zn8 ?_;refine zX fn82 (rc_any s _ hsz) rfl (fun e' w1 hr=>?_);obtain⟨rfl,s1⟩:=hr;replace s1:=sB s1;refine⟨_,rfl,?_⟩;refine zn8 ?_;replace hB:=hB.tr0 s1;refine zV 8 rfl (fun g8=>?_) (fun g8=>?_)
 ·refine zn6 ?_;refine zV 12 rfl (fun g12=>?_) (fun g12=>?_)
  ·refine zn3 ?_;refine zX fn83 (Gz s _ (hU.mono hB) hsz) rfl (fun e' w2 hr=>?_);obtain⟨rfl,s2⟩:=hr;replace s2:=sB s2;refine⟨_,rfl,?_⟩;refine zn2 ?_;replace hB:=hB.tr0 s2;refine YZ 16 rfl (fun g16=>?_) (fun g16=>?_)
   ·refine zn3 ?_;refine zX fn84 (cany_any s _ hsz) rfl (fun e' w3 hr=>?_);obtain⟨rfl,s3⟩:=hr;replace s3:=sB s3;refine⟨_,rfl,?_⟩;refine zn8 ?_;replace hB:=hB.tr0 s3;exact⟨congrArg (fun b=>Ending.returned (.bool b)) (by unfold u9;first | (rw [decide_eq_true (show 1≤(ch s 0).length by omega),decide_eq_true (show (ch s 0).length≤30 by omega),g16];rfl) | (rw [decide_eq_true (show 1≤(ch s 0).length by omega),decide_eq_true (show (ch s 0).length≤30 by omega),Bool.eq_false_iff.2 g16];rfl) | (rw [decide_eq_false (show ¬(ch s 0).length≤30 by omega)];simp) | (rw [decide_eq_false (show ¬1≤(ch s 0).length by omega)];rfl)),hB⟩
   refine zn9 ?_;exact⟨congrArg (fun b=>Ending.returned (.bool b)) (by unfold u9;first | (rw [decide_eq_true (show 1≤(ch s 0).length by omega),decide_eq_true (show (ch s 0).length≤30 by omega),g16];rfl) | (rw [decide_eq_true (show 1≤(ch s 0).length by omega),decide_eq_true (show (ch s 0).length≤30 by omega),Bool.eq_false_iff.2 g16];rfl) | (rw [decide_eq_false (show ¬(ch s 0).length≤30 by omega)];simp) | (rw [decide_eq_false (show ¬1≤(ch s 0).length by omega)];rfl)),hB⟩
  refine Zk ?_;exact⟨congrArg (fun b=>Ending.returned (.bool b)) (by unfold u9;first | (rw [decide_eq_true (show 1≤(ch s 0).length by omega),decide_eq_true (show (ch s 0).length≤30 by omega),g16];rfl) | (rw [decide_eq_true (show 1≤(ch s 0).length by omega),decide_eq_true (show (ch s 0).length≤30 by omega),Bool.eq_false_iff.2 g16];rfl) | (rw [decide_eq_false (show ¬(ch s 0).length≤30 by omega)];simp) | (rw [decide_eq_false (show ¬1≤(ch s 0).length by omega)];rfl)),hB⟩
 refine Bx ?_;exact⟨congrArg (fun b=>Ending.returned (.bool b)) (by unfold u9;first | (rw [decide_eq_true (show 1≤(ch s 0).length by omega),decide_eq_true (show (ch s 0).length≤30 by omega),g16];rfl) | (rw [decide_eq_true (show 1≤(ch s 0).length by omega),decide_eq_true (show (ch s 0).length≤30 by omega),Bool.eq_false_iff.2 g16];rfl) | (rw [decide_eq_false (show ¬(ch s 0).length≤30 by omega)];simp) | (rw [decide_eq_false (show ¬1≤(ch s 0).length by omega)];rfl)),hB⟩
end Go.Proofs.YtdgnllfbooklcaaDoor
