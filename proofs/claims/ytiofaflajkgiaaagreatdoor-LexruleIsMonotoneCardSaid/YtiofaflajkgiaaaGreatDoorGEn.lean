/- What these functions compute, at every world: unicode/utf8.ValidString, internal/stringslite.IndexByte, strings.IndexByte, unicode/utf8.ValidRune, strings.shouldUseASCIISet, strings.IndexRune, strings.makeASCIISet, (*strings.asciiSet).contains and 6 more; and plain laws. -/
import Derived.Test.YtiofaflajkgiaaaGreatDoorU
import Derived.Test.YtiofaflajkgiaaaGreatDoorZst
import Derived.Test.YtiofaflajkgiaaaGreatDoorStk
import Derived.Test.YtiofaflajkgiaaaGreatDoorNTo
import Derived.Test.YtiofaflajkgiaaaGreatDoorComp
import Derived.Test.YtiofaflajkgiaaaGreatDoorGro
namespace Go.Proofs.YtiofaflajkgiaaaGreatDoor
open Go.RowKit Go.Proofs.Tryz
set_option maxRecDepth 100000
set_option maxHeartbeats 2000000
theorem C3:zX prog 111=true:=by kernel_rfl
theorem sz179:(prog.info? 179).map (·.size)=some 2:=by kernel_rfl
theorem Vw:(prog.info? 5).map (·.size)=some 1:=by kernel_rfl
theorem ze179:(prog.info? 179).map (·.zero)=some (some (.agg #[.int .u8 0,.int .u8 0])):=by kernel_rfl
set_option maxRecDepth 100000 in
set_option maxHeartbeats 8000000 in
theorem valid_any(s:ByteArray)(w:World)(hU:U8In w)(hsz:s.size<9223372036854775807):Calls prog 82 #[.string s] w fun e w'=>e= .returned (.bool (vq s 0))/\Bel w w':=by
 have hs0:sdr 0 s=s:=C4 (by rw[I0,List.drop_zero]);refine enT func82 ntmps82 rfl rfl fun hB=>?_;refine zn7 ?_;refine qj (rg [0] 2 167) (fun m g w'=>∃ p:Nat,p<=s.size/\s.size-p<=m/\g 0= .string (sdr p s)/\vq s 0=vq s p/\Bel w w') (s.size) ?_ (fun m g1 w1 hI=>?_)
 ·exact⟨0,ag _,ae _,(by rw[hs0];rfl),rfl,hB⟩
 obtain⟨p,hp,hm,h0,hv,hB⟩:=hI;obtain⟨mo,rfl⟩:∃ x,x=m:=⟨_,rfl⟩
 refine zK 0 _ h0 nu (zn8 ?_);refine zV rfl (fun c9=>?_) (fun c9=>?_)
 ·have hsp:=yq p s;have a4:p<s.size:=by omega
  have e0:=Yw p s 0;have e1:=Yw p s 1;have e2:=Yw p s 2;have e3:=Yw p s 3;rw[Nat.add_zero]at e0;have hb0:=uJ s p;refine zn6 ?_;refine wl (kZ (i:=0) U9 rfl rfl oG) (wl (gk (v:= .int .u8 ((gb s p:Nat):Int)) (by exact congrArg (fun z:Nat=>Value.int .u8 ((z:Nat):Int)) e0)) (zn9 ?_));refine zV rfl (fun c13=>?_) (fun c13=>?_)
  ·have a2:=vq_low a4 oG;refine zn3 ?_;refine wl (Y3 (l:=1) U9 rfl rfl oG) (wl (gk (v:= .string (sdr (p+1) s)) (by exact congrArg Value.string (Zw _ _ s))) (zn4 ?_));have hsp1:=yq (p+1) s;refine zn5 ?_;refine zw 19 rfl (fun g19=>?_) (fun g19=>?_)
   ·refine zn3 ?_;refine zW C3 (Xj (sdr (p+1) s) _ (by rw[yq];have:=yq (p+1) s;omega)) rfl (fun e' w2 hr=>?_);obtain⟨rfl,s1⟩:=hr;replace s1:=sB s1;refine⟨_,rfl,?_⟩;refine zn1 ?_;refine wl (Mq (b:=9259542123273814144) rfl rfl (uq _ dE) dE) (zn5 ?_);refine zV rfl (fun c24=>?_) (fun c24=>?_)
    ·have a8:=P6 (s:=s) (p:=p+1) (k:=8) oG (asc8 (by have h:=c24;exact Int.ofNat.inj h));refine zn3 ?_;refine wl (Y3 (l:=8) U9 rfl rfl oG) (wl (gk (v:= .string (sdr (p+9) s)) (by exact congrArg Value.string (Zw _ _ s))) (zn3 ?_));replace hB:=hB.tr0 s1;by_cases q7:16<s.size-(p+9)
     ·refine u5 [] [0,1,2,3,4,6,7,5,8,9,10,11,12] rfl (fun w3 s2=>?_);refine zn2 ?_;refine hle rfl (fun _=>W7 rfl rfl) (ac (ah (by rw[yq];omega))) (zn3 ?_);refine hg 30 rfl rfl rfl (fun _ _=>Y3 (l:=8) U9 rfl rfl (by rw[yq];omega)) (h1 rfl (zn1 ?_));refine zW C3 (Xj (sdr (p+9) s) w3 (by rw[yq];omega)) rfl (fun e' w4 hr=>?_);obtain⟨rfl,s3⟩:=hr;replace s3:=sB s3;have b3:=s3;refine⟨_,rfl,?_⟩;refine zQ (E2 b3 (h1 rfl (zn1 ?_)));refine zW C3 (Xj (sdr 8 (sdr (p+9) s)) w4 (by rw[yq,yq];omega)) rfl (fun e' w5 hr=>?_);obtain⟨rfl,s4⟩:=hr;replace s4:=sB s4;have b2:=s4;refine⟨_,rfl,?_⟩;refine zQ (E2 b2 (hg 30 rfl rfl rfl (fun _ _=>YW rfl rfl (uq _ dE) (uq _ dE)) (hg 30 rfl rfl rfl (fun _ _=>Mq (b:=9259542123273814144) rfl rfl (aQ (n:=64) (uq _ dE) (uq _ dE)) dE) (zn4 ?_))));refine ky rfl (fun c39=>?_) (fun c39=>?_)
      ·have hvB:=P6 (s:=s) (p:=p+9) (k:=16) oG (asc16 (Int.ofNat.inj (aO c39)));refine zn3 ?_;refine wl (Y3 (l:=16) U9 rfl rfl (by rw[yq];omega)) (wl (gk (v:= .string (sdr (p+25) s)) (by exact congrArg Value.string (Zw _ _ s))) (zn3 ?_));refine qj (rg [0] 42 23) (fun m g w'=>∃ p2:Nat,p+25<=p2/\p2<=s.size/\m=s.size-p2/\g 0= .string (sdr p2 s)/\vq s p=vq s p2/\Bel w w') (s.size-(p+25)) ?_ (fun m g9 w6 hI=>?_)
       ·exact⟨p+25,ae _,by omega,rfl,rfl,((a2.trans a8).trans hvB),hB.u⟩
       obtain⟨p2,hp2,hp2s,hm2,h0b,a9,hB⟩:=hI;refine zK 0 _ h0b nu (xy (xy ?_));by_cases q9:32<s.size-p2
       ·refine u5 [] [0,1,2,3,4,6,7,10,11,13,14,5,8,9,12,15,16,17,18,19,20] rfl (fun w7 s5=>?_);refine zn2 ?_;refine hle rfl (fun _=>W7 rfl rfl) (ac (ah (by rw[yq];omega))) (zn3 ?_);refine hg 45 rfl rfl rfl (fun _ _=>Y3 (l:=8) U9 rfl rfl (by rw[yq];omega)) (zn1 ?_);refine hg 45 rfl rfl rfl (fun _ _=>Y3 (l:=16) U9 rfl rfl (by rw[yq];omega)) (zn1 ?_);refine hg 45 rfl rfl rfl (fun _ _=>Y3 (l:=24) U9 rfl rfl (by rw[yq];omega)) (h1 rfl (zn1 ?_));refine zW C3 (Xj (sdr p2 s) w7 (by rw[yq];omega)) rfl (fun e' w8 hr=>?_);obtain⟨rfl,s6⟩:=hr;replace s6:=sB s6;have b3:=s6;refine⟨_,rfl,?_⟩;refine zQ (E2 b3 (h1 rfl (zn1 ?_)));refine zW C3 (Xj (sdr 8 (sdr p2 s)) w8 (by rw[yq,yq];omega)) rfl (fun e' w9 hr=>?_);obtain⟨rfl,s7⟩:=hr;replace s7:=sB s7;have b2:=s7;refine⟨_,rfl,?_⟩;refine zQ (E2 b2 (hg 45 rfl rfl rfl (fun _ _=>YW rfl rfl (uq _ dE) (uq _ dE)) (h1 rfl (zn1 ?_))));refine zW C3 (Xj (sdr 16 (sdr p2 s)) w9 (by rw[yq,yq];omega)) rfl (fun e' w10 hr=>?_);obtain⟨rfl,s8⟩:=hr;replace s8:=sB s8;have b8:=s8;refine⟨_,rfl,?_⟩;refine zQ (E2 b8 (h1 rfl (zn1 ?_)));refine zW C3 (Xj (sdr 24 (sdr p2 s)) w10 (by rw[yq,yq];omega)) rfl (fun e' w11 hr=>?_);obtain⟨rfl,s9⟩:=hr;replace s9:=sB s9;have b7:=s9;refine⟨_,rfl,?_⟩;refine zQ (E2 b7 (hg 45 rfl rfl rfl (fun _ _=>YW rfl rfl (uq _ dE) (uq _ dE)) (hg 45 rfl rfl rfl (fun _ _=>YW rfl rfl (aQ (n:=64) (uq _ dE) (uq _ dE)) (aQ (n:=64) (uq _ dE) (uq _ dE))) (hg 45 rfl rfl rfl (fun _ _=>Mq (b:=9259542123273814144) rfl rfl (aQ (n:=64) (aQ (n:=64) (uq _ dE) (uq _ dE)) (aQ (n:=64) (uq _ dE) (uq _ dE))) dE) (zn4 ?_)))));refine ky rfl (fun c62=>?_) (fun c62=>?_)
        ·have hvC:=P6 (s:=s) (p:=p2) (k:=32) oG (asc32 (Int.ofNat.inj (aO c62)));refine zn5 ?_;refine wl (Y3 (l:=32) U9 rfl rfl (by rw[yq];omega)) (wl (gk (v:= .string (sdr (p2+32) s)) (by exact congrArg Value.string (Zw _ _ s))) (zQ (e_B (xK (s.size-(p2+32)) oG agA ?_))));exact⟨p2+32,by omega,by omega,rfl,rfl,a9.trans hvC,hB.u⟩
        refine zn8 ?_;refine xK (mo-1) oG agA ?_;replace hB:=hB.tr0 (s5.t (s6.t (s7.t (s8.t s9))))
        first
          | exact⟨p+1,by omega,by omega,rfl,hv.trans a2,hB⟩
          | exact⟨p+9,by omega,by omega,rfl,hv.trans (a2.trans a8),hB⟩
          | exact⟨p2,by omega,by omega,rfl,hv.trans a9,hB⟩
          | exact⟨p+2,by omega,by omega,rfl,hv.trans a1,hB⟩
          | exact⟨p+3,by omega,by omega,rfl,hv.trans a1,hB⟩
          | exact⟨p+4,by omega,by omega,rfl,hv.trans a1,hB⟩
       refine u5 [] [0,1,2,3,4,6,7,10,11,13,14,5,8,9,12,15,16,17,18,19,20] rfl (fun w12 s10=>?_);refine zn2 ?_;refine hle rfl (fun _=>W7 rfl rfl) (ac (ao (by rw[yq];omega))) (zn29 ?_);refine xK (mo-1) oG agA ?_;replace hB:=hB.tr0 s10
       first
         | exact⟨p+1,by omega,by omega,rfl,hv.trans a2,hB⟩
         | exact⟨p+9,by omega,by omega,rfl,hv.trans (a2.trans a8),hB⟩
         | exact⟨p2,by omega,by omega,rfl,hv.trans a9,hB⟩
         | exact⟨p+2,by omega,by omega,rfl,hv.trans a1,hB⟩
         | exact⟨p+3,by omega,by omega,rfl,hv.trans a1,hB⟩
         | exact⟨p+4,by omega,by omega,rfl,hv.trans a1,hB⟩
      refine zn5 ?_;refine xK (mo-1) oG agA ?_;replace hB:=hB.tr0 (s2.t (s3.t s4))
      first
        | exact⟨p+1,by omega,by omega,rfl,hv.trans a2,hB⟩
        | exact⟨p+9,by omega,by omega,rfl,hv.trans (a2.trans a8),hB⟩
        | exact⟨p2,by omega,by omega,rfl,hv.trans a9,hB⟩
        | exact⟨p+2,by omega,by omega,rfl,hv.trans a1,hB⟩
        | exact⟨p+3,by omega,by omega,rfl,hv.trans a1,hB⟩
        | exact⟨p+4,by omega,by omega,rfl,hv.trans a1,hB⟩
     refine u5 [] [0,1,2,3,4,6,7,5,8,9,10,11,12] rfl (fun w13 s11=>?_);refine zn2 ?_;refine hle rfl (fun _=>W7 rfl rfl) (ac (ao (by rw[yq];omega))) (zn18 ?_);refine xK (mo-1) oG agA ?_;replace hB:=hB.tr0 s11
     first
       | exact⟨p+1,by omega,by omega,rfl,hv.trans a2,hB⟩
       | exact⟨p+9,by omega,by omega,rfl,hv.trans (a2.trans a8),hB⟩
       | exact⟨p2,by omega,by omega,rfl,hv.trans a9,hB⟩
       | exact⟨p+2,by omega,by omega,rfl,hv.trans a1,hB⟩
       | exact⟨p+3,by omega,by omega,rfl,hv.trans a1,hB⟩
       | exact⟨p+4,by omega,by omega,rfl,hv.trans a1,hB⟩
    refine zn5 ?_;refine xK (mo-1) oG agA ?_;replace hB:=hB.tr0 s1
    first
      | exact⟨p+1,by omega,by omega,rfl,hv.trans a2,hB⟩
      | exact⟨p+9,by omega,by omega,rfl,hv.trans (a2.trans a8),hB⟩
      | exact⟨p2,by omega,by omega,rfl,hv.trans a9,hB⟩
      | exact⟨p+2,by omega,by omega,rfl,hv.trans a1,hB⟩
      | exact⟨p+3,by omega,by omega,rfl,hv.trans a1,hB⟩
      | exact⟨p+4,by omega,by omega,rfl,hv.trans a1,hB⟩
   refine oJ ?_;refine xK (mo-1) oG agA ?_
   first
     | exact⟨p+1,by omega,by omega,rfl,hv.trans a2,hB⟩
     | exact⟨p+9,by omega,by omega,rfl,hv.trans (a2.trans a8),hB⟩
     | exact⟨p2,by omega,by omega,rfl,hv.trans a9,hB⟩
     | exact⟨p+2,by omega,by omega,rfl,hv.trans a1,hB⟩
     | exact⟨p+3,by omega,by omega,rfl,hv.trans a1,hB⟩
     | exact⟨p+4,by omega,by omega,rfl,hv.trans a1,hB⟩
  have ba:128<=gb s p:=by omega
  refine zn3 ?_;have hU2:=hU.mono hB;have hft:=first_256 (gb s p);refine zn2 ?_;refine wl (Dx (i:=(gb s p)) underlying177 Vw rfl rfl hb0 rfl) (wl (qW (v:= .int _ _) U5 rfl rfl (hU2.1.2 _ hb0)) (zn6 ?_));refine wl (r_and7 rfl rfl hft) (wl (Dk U5 U3 rfl oG) (zn6 ?_));refine wl (r_shr8 (b:=4) (c:=(Lib.firstT (gb s p))/16) rfl rfl dE rfl) (wl (Dx (i:=((Lib.firstT (gb s p))/16)) underlying180 sz179 rfl rfl oG rfl) (wl (qZ P5 rfl rfl (hU2.2.2 _ oG) sz179) ?_));refine yj (cs:=#[.int .u8 0,.int .u8 0]) ze179 rfl (fun _=>rfl) (fun _=>rfl) sz179 rfl zJ (fun b6 ad b4 an hr=>?_);refine Jj ?_;refine zV rfl (fun c76=>?_) (fun c76=>?_)
  ·obtain⟨a5,a3⟩:=ok_n (n:=2) a4 (.inl rfl) oG;refine xy (xy ?_);refine y7 (rg [] 78 17) (fun g w'=>(g 94= .bool (decide (vY s p 2)))/\Same [] ad w') ?_ (fun g17 w16 hI=>?_)
   ·have hZ:SameQ [] ad ad:=Same.refl _ _;refine Qx kR kR (fun w17 s13=>?_);replace hZ:=SameQ.trans hZ s13 (by simp);refine zn4 ?_;refine u7 81 rfl (fun g81=>?_) (fun g81=>?_)
    ·refine oJ ?_;refine uW ?_;refine e_R ⟨agA,?_⟩;refine⟨?_,hZ⟩
     first|exact ac (ah (by unfold vY;omega)).symm|exact ac (ao (by unfold vY;omega)).symm|exact ac (ai.2 (by unfold vY;omega))
    refine j8 81 rfl rfl (xz (v:= .string _) rfl) (j8 81 rfl rfl (kZ (i:=1) U9 rfl rfl oG) (j8 81 rfl rfl (uK P5 Vw dE rfl rfl rfl) (j8 81 rfl rfl (qW (v:= .int _ _) U5 rfl rfl (b4.u.cell rfl)) (j8 81 rfl rfl (YY rfl rfl) (zn2 ?_)))));refine u7 88 rfl (fun g88=>?_) (fun g88=>?_)
    ·refine zn6 ?_;refine uW ?_;refine e_R ⟨agA,?_⟩;refine⟨?_,hZ⟩
     first|exact ac (ah (by unfold vY;omega)).symm|exact ac (ao (by unfold vY;omega)).symm|exact ac (ai.2 (by unfold vY;omega))
    refine j8 88 rfl rfl (uK P5 Vw dE rfl rfl rfl) (j8 88 rfl rfl (qW (v:= .int _ _) U5 rfl rfl (b4.u.cell rfl)) (j8 88 rfl rfl (xz (v:= .string _) rfl) (j8 88 rfl rfl (kZ (i:=1) U9 rfl rfl oG) (j8 88 rfl rfl (YY rfl rfl) (zn1 ?_)))));refine uW ?_;refine e_R ⟨agA,?_⟩;refine⟨?_,hZ⟩
    first|exact ac (ah (by unfold vY;omega)).symm|exact ac (ao (by unfold vY;omega)).symm|exact ac (ai.2 (by unfold vY;omega))
   obtain⟨h94,s14⟩:=hI;refine jK 94 _ h94 nu (e_S ?_);refine zV rfl (fun bb=>?_) (fun bb=>?_)
   ·have b1:=RJ a4 (a5 bb);refine oJ ?_;replace hB:=hB.tr0 (an.t s14);exact⟨by rw[hv,b1];rfl,hB⟩
   have hnb:2<=s.size-p:=by unfold vY at bb;omega
   obtain⟨b9,b5⟩:=a3 bb;have a1:=RK a4 b9;rw[b5]at a1;refine zn4 ?_;refine wl (Y3 (l:=2) U9 rfl rfl (by unfold vY at bb;omega)) (wl (gk (v:= .string (sdr (p+2) s)) (by exact congrArg Value.string (Zw _ _ s))) (zn3 ?_));refine xK (mo-1) oG agA ?_;replace hB:=hB.tr0 (an.t s14)
   first
     | exact⟨p+1,by omega,by omega,rfl,hv.trans a2,hB⟩
     | exact⟨p+9,by omega,by omega,rfl,hv.trans (a2.trans a8),hB⟩
     | exact⟨p2,by omega,by omega,rfl,hv.trans a9,hB⟩
     | exact⟨p+2,by omega,by omega,rfl,hv.trans a1,hB⟩
     | exact⟨p+3,by omega,by omega,rfl,hv.trans a1,hB⟩
     | exact⟨p+4,by omega,by omega,rfl,hv.trans a1,hB⟩
  refine zn6 ?_;refine zV rfl (fun c97=>?_) (fun c97=>?_)
  ·obtain⟨a5,a3⟩:=ok_n (n:=3) a4 (.inr (.inl rfl)) oG;refine xy (xy ?_);refine y7 (rg [] 99 27) (fun g w'=>(g 125= .bool (decide (vY s p 3)))/\Same [] ad w') ?_ (fun g21 w18 hI=>?_)
   ·have hZ:SameQ [] ad ad:=Same.refl _ _;refine Qx kR kR (fun w19 s15=>?_);replace hZ:=SameQ.trans hZ s15 (by simp);refine zn4 ?_;refine u7 102 rfl (fun bo=>?_) (fun bo=>?_)
    ·refine zn23 ?_;refine uW ?_;refine e_R ⟨agA,?_⟩;refine⟨?_,hZ⟩
     first|exact ac (ah (by unfold vY;omega)).symm|exact ac (ao (by unfold vY;omega)).symm|exact ac (ai.2 (by unfold vY;omega))
    refine j8 102 rfl rfl (xz (v:= .string _) rfl) (j8 102 rfl rfl (kZ (i:=1) U9 rfl rfl oG) (j8 102 rfl rfl (uK P5 Vw dE rfl rfl rfl) (j8 102 rfl rfl (qW (v:= .int _ _) U5 rfl rfl (b4.u.cell rfl)) (j8 102 rfl rfl (YY rfl rfl) (zn2 ?_)))));refine u7 109 rfl (fun bn=>?_) (fun bn=>?_)
    ·refine M2 ?_;refine uW ?_;refine e_R ⟨agA,?_⟩;refine⟨?_,hZ⟩
     first|exact ac (ah (by unfold vY;omega)).symm|exact ac (ao (by unfold vY;omega)).symm|exact ac (ai.2 (by unfold vY;omega))
    refine j8 109 rfl rfl (uK P5 Vw dE rfl rfl rfl) (j8 109 rfl rfl (qW (v:= .int _ _) U5 rfl rfl (b4.u.cell rfl)) (j8 109 rfl rfl (xz (v:= .string _) rfl) (j8 109 rfl rfl (kZ (i:=1) U9 rfl rfl oG) (j8 109 rfl rfl (YY rfl rfl) (zn2 ?_)))));refine u7 116 rfl (fun bm=>?_) (fun bm=>?_)
    ·refine zn9 ?_;refine uW ?_;refine e_R ⟨agA,?_⟩;refine⟨?_,hZ⟩
     first|exact ac (ah (by unfold vY;omega)).symm|exact ac (ao (by unfold vY;omega)).symm|exact ac (ai.2 (by unfold vY;omega))
    refine j8 116 rfl rfl (xz (v:= .string _) rfl) (j8 116 rfl rfl (kZ (i:=2) U9 rfl rfl oG) (j8 116 rfl rfl (YY rfl rfl) (zn2 ?_)));refine u7 121 rfl (fun bk=>?_) (fun bk=>?_)
    ·refine zn4 ?_;refine uW ?_;refine e_R ⟨agA,?_⟩;refine⟨?_,hZ⟩
     first|exact ac (ah (by unfold vY;omega)).symm|exact ac (ao (by unfold vY;omega)).symm|exact ac (ai.2 (by unfold vY;omega))
    refine j8 121 rfl rfl (xz (v:= .string _) rfl) (j8 121 rfl rfl (kZ (i:=2) U9 rfl rfl oG) (j8 121 rfl rfl (YY rfl rfl) (zn1 ?_)));refine uW ?_;refine e_R ⟨agA,?_⟩;refine⟨?_,hZ⟩
    first|exact ac (ah (by unfold vY;omega)).symm|exact ac (ao (by unfold vY;omega)).symm|exact ac (ai.2 (by unfold vY;omega))
   obtain⟨bd,s16⟩:=hI;refine jK 125 _ bd nu (e_S ?_);refine zV rfl (fun a7=>?_) (fun a7=>?_)
   ·have b1:=RJ a4 (a5 a7);refine oJ ?_;replace hB:=hB.tr0 (an.t s16);exact⟨by rw[hv,b1];rfl,hB⟩
   have hnb:3<=s.size-p:=by unfold vY at a7;omega
   obtain⟨b9,b5⟩:=a3 a7;have a1:=RK a4 b9;rw[b5]at a1;refine zn4 ?_;refine wl (Y3 (l:=3) U9 rfl rfl (by unfold vY at a7;omega)) (wl (gk (v:= .string (sdr (p+3) s)) (by exact congrArg Value.string (Zw _ _ s))) (zn3 ?_));refine xK (mo-1) oG agA ?_;replace hB:=hB.tr0 (an.t s16)
   first
     | exact⟨p+1,by omega,by omega,rfl,hv.trans a2,hB⟩
     | exact⟨p+9,by omega,by omega,rfl,hv.trans (a2.trans a8),hB⟩
     | exact⟨p2,by omega,by omega,rfl,hv.trans a9,hB⟩
     | exact⟨p+2,by omega,by omega,rfl,hv.trans a1,hB⟩
     | exact⟨p+3,by omega,by omega,rfl,hv.trans a1,hB⟩
     | exact⟨p+4,by omega,by omega,rfl,hv.trans a1,hB⟩
  refine zn6 ?_;refine zV rfl (fun bq=>?_) (fun bq=>?_)
  ·obtain⟨a5,a3⟩:=ok_n (n:=4) a4 (.inr (.inr rfl)) oG;refine xy (xy ?_);refine y7 (rg [] 130 37) (fun g w'=>(g 166= .bool (decide (vY s p 4)))/\Same [] ad w') ?_ (fun g25 w20 hI=>?_)
   ·have hZ:SameQ [] ad ad:=Same.refl _ _;refine Qx kR kR (fun w21 s17=>?_);replace hZ:=SameQ.trans hZ s17 (by simp);refine zn4 ?_;refine u7 133 rfl (fun bj=>?_) (fun bj=>?_)
    ·refine zn30 ?_;refine zn3 ?_;refine uW ?_;refine e_R ⟨agA,?_⟩;refine⟨?_,hZ⟩
     first|exact ac (ah (by unfold vY;omega)).symm|exact ac (ao (by unfold vY;omega)).symm|exact ac (ai.2 (by unfold vY;omega))
    refine j8 133 rfl rfl (xz (v:= .string _) rfl) (j8 133 rfl rfl (kZ (i:=1) U9 rfl rfl oG) (j8 133 rfl rfl (uK P5 Vw dE rfl rfl rfl) (j8 133 rfl rfl (qW (v:= .int _ _) U5 rfl rfl (b4.u.cell rfl)) (j8 133 rfl rfl (YY rfl rfl) (zn2 ?_)))));refine u7 140 rfl (fun bi=>?_) (fun bi=>?_)
    ·refine zn26 ?_;refine uW ?_;refine e_R ⟨agA,?_⟩;refine⟨?_,hZ⟩
     first|exact ac (ah (by unfold vY;omega)).symm|exact ac (ao (by unfold vY;omega)).symm|exact ac (ai.2 (by unfold vY;omega))
    refine j8 140 rfl rfl (uK P5 Vw dE rfl rfl rfl) (j8 140 rfl rfl (qW (v:= .int _ _) U5 rfl rfl (b4.u.cell rfl)) (j8 140 rfl rfl (xz (v:= .string _) rfl) (j8 140 rfl rfl (kZ (i:=1) U9 rfl rfl oG) (j8 140 rfl rfl (YY rfl rfl) (zn2 ?_)))));refine u7 147 rfl (fun bh=>?_) (fun bh=>?_)
    ·refine zn19 ?_;refine uW ?_;refine e_R ⟨agA,?_⟩;refine⟨?_,hZ⟩
     first|exact ac (ah (by unfold vY;omega)).symm|exact ac (ao (by unfold vY;omega)).symm|exact ac (ai.2 (by unfold vY;omega))
    refine j8 147 rfl rfl (xz (v:= .string _) rfl) (j8 147 rfl rfl (kZ (i:=2) U9 rfl rfl oG) (j8 147 rfl rfl (YY rfl rfl) (zn2 ?_)));refine u7 152 rfl (fun bg=>?_) (fun bg=>?_)
    ·refine Jj ?_;refine uW ?_;refine e_R ⟨agA,?_⟩;refine⟨?_,hZ⟩
     first|exact ac (ah (by unfold vY;omega)).symm|exact ac (ao (by unfold vY;omega)).symm|exact ac (ai.2 (by unfold vY;omega))
    refine j8 152 rfl rfl (xz (v:= .string _) rfl) (j8 152 rfl rfl (kZ (i:=2) U9 rfl rfl oG) (j8 152 rfl rfl (YY rfl rfl) (zn2 ?_)));refine u7 157 rfl (fun bf=>?_) (fun bf=>?_)
    ·refine zn9 ?_;refine uW ?_;refine e_R ⟨agA,?_⟩;refine⟨?_,hZ⟩
     first|exact ac (ah (by unfold vY;omega)).symm|exact ac (ao (by unfold vY;omega)).symm|exact ac (ai.2 (by unfold vY;omega))
    refine j8 157 rfl rfl (xz (v:= .string _) rfl) (j8 157 rfl rfl (kZ (i:=3) U9 rfl rfl oG) (j8 157 rfl rfl (YY rfl rfl) (zn2 ?_)));refine u7 162 rfl (fun be=>?_) (fun be=>?_)
    ·refine zn4 ?_;refine uW ?_;refine e_R ⟨agA,?_⟩;refine⟨?_,hZ⟩
     first|exact ac (ah (by unfold vY;omega)).symm|exact ac (ao (by unfold vY;omega)).symm|exact ac (ai.2 (by unfold vY;omega))
    refine j8 162 rfl rfl (xz (v:= .string _) rfl) (j8 162 rfl rfl (kZ (i:=3) U9 rfl rfl oG) (j8 162 rfl rfl (YY rfl rfl) (zn1 ?_)));refine uW ?_;refine e_R ⟨agA,?_⟩;refine⟨?_,hZ⟩
    first|exact ac (ah (by unfold vY;omega)).symm|exact ac (ao (by unfold vY;omega)).symm|exact ac (ai.2 (by unfold vY;omega))
   obtain⟨bc,s18⟩:=hI;refine jK 166 _ bc nu (e_S ?_);refine zV rfl (fun a6=>?_) (fun a6=>?_)
   ·have b1:=RJ a4 (a5 a6);refine oJ ?_;replace hB:=hB.tr0 (an.t s18);exact⟨by rw[hv,b1];rfl,hB⟩
   have hnb:4<=s.size-p:=by unfold vY at a6;omega
   obtain⟨b9,b5⟩:=a3 a6;have a1:=RK a4 b9;rw[b5]at a1;refine zn4 ?_;refine wl (Y3 (l:=4) U9 rfl rfl (by unfold vY at a6;omega)) (wl (gk (v:= .string (sdr (p+4) s)) (by exact congrArg Value.string (Zw _ _ s))) (zn3 ?_));refine xK (mo-1) oG agA ?_;replace hB:=hB.tr0 (an.t s18)
   first
     | exact⟨p+1,by omega,by omega,rfl,hv.trans a2,hB⟩
     | exact⟨p+9,by omega,by omega,rfl,hv.trans (a2.trans a8),hB⟩
     | exact⟨p2,by omega,by omega,rfl,hv.trans a9,hB⟩
     | exact⟨p+2,by omega,by omega,rfl,hv.trans a1,hB⟩
     | exact⟨p+3,by omega,by omega,rfl,hv.trans a1,hB⟩
     | exact⟨p+4,by omega,by omega,rfl,hv.trans a1,hB⟩
  have b1:=RJ a4 (ok_bad ba oG oG oG);refine jz ?_;replace hB:=hB.tr0 an;exact⟨by rw[hv,b1];rfl,hB⟩
 have hsp:=yq p s;refine jz ?_;exact⟨by rw[hv,vq_end oG];rfl,hB⟩
theorem wrap8{a:Nat}(h:a<256):IntKind.u8.wrap (a:Int)=a:=by
 have:∀ a:Nat,a<256->IntKind.u8.wrap (a:Int)=a:=by decide +kernel
 exact this a h
theorem ixl_any(s:ByteArray)(c:Int)(w:World):Calls prog 133 #[.string s,.int .u8 c] w fun e w'=>e= .returned (.int .i64 (Lib.indexByte (bl s) c.toNat.toUInt8))/\w=w':=by
 refine enter func133 ntmps133 rfl (ay rfl) (zn9 ?_);refine wl (r_ext (args:=[.string s,.int .u8 c]) (run_ixb (P:=prog) func134 kR kR kR kR) rfl) (zn5 ?_);exact⟨rfl,rfl⟩
theorem WW(s:ByteArray)(c:Int)(w:World):Calls prog 129 #[.string s,.int .u8 c] w fun e w'=>e= .returned (.int .i64 (Lib.indexByte (bl s) c.toNat.toUInt8))/\w=w':=by
 refine enter func129 ntmps129 rfl (ay rfl) (zn9 ?_);refine zW kR (ixl_any s c _) rfl (fun e' w1 hr=>?_);obtain⟨rfl,rfl⟩:=hr;refine⟨_,rfl,?_⟩;refine zn5 ?_;exact⟨rfl,rfl⟩
theorem vrune_any(r:Int)(w:World):Calls prog 130 #[.int .i32 r] w fun e w'=>(∃ b,e= .returned (.bool b))/\w=w':=by
 refine enter func130 ntmps130 rfl (ay rfl) (zn8 ?_);refine xk [3,4,5,6,7,8,9] 3 (.bool (decide (0<=r/\r<55296))) nu ?_ (fun gq=>?_)
 ·refine zn4 ?_;refine zw 6 rfl (fun g6=>?_) (fun g6=>?_)
  ·refine zn6 ?_;refine zQ (e_R ⟨rfl,agA,?_⟩);exact clA
  refine zn4 ?_;refine zQ (e_R ⟨rfl,agA,?_⟩);exact clA
 refine e_S ?_;refine zV rfl (fun c3=>?_) (fun c3=>?_)
 ·refine zn9 ?_;exact⟨⟨true,rfl⟩,rfl⟩
 refine xy ?_;refine xk [10,11,12,13,14,15,16] 10 (.bool (decide (57343<r/\r<=1114111))) nu ?_ (fun gq=>?_)
 ·refine zn4 ?_;refine zw 13 rfl (fun g13=>?_) (fun g13=>?_)
  ·refine zn6 ?_;refine zQ (e_R ⟨rfl,agA,?_⟩);exact clA
  refine zn4 ?_;refine zQ (e_R ⟨rfl,agA,?_⟩);exact clA
 refine e_S ?_;refine zV rfl (fun c10=>?_) (fun c10=>?_)
 ·refine zn9 ?_;exact⟨⟨true,rfl⟩,rfl⟩
 refine vy ?_;exact⟨⟨false,rfl⟩,rfl⟩
theorem sua_any(n:Nat)(w:World):Calls prog 125 #[.int .i64 ((n:Nat):Int)] w fun e w'=>e= .returned (.bool (decide (8<n)))/\w=w':=by
 refine enter func125 ntmps125 rfl (ay rfl) (Jj ?_);exact⟨congrArg (fun z=>Ending.returned (.bool z)) (ai.2 (by constructor<;>(intro h;omega))),rfl⟩
set_option maxRecDepth 100000 in
set_option maxHeartbeats 4000000 in
theorem ixr_any(r:Nat)(w:World):Calls prog 124 #[.string CH,.int .i32 ((r:Nat):Int)] w fun e w'=>(∃ z:Int,e= .returned (.int .i64 z)/\(0<=z↔spc r=true))/\Bel w w':=by
 have hcs:CH.size=9:=rfl;refine enT func124 ntmps124 rfl rfl fun hB=>?_;refine zn7 ?_;refine xk [160,161,162,163,164,165,166] 160 (.bool (decide (0<=(r:Int)/\(r:Int)<128))) nu ?_ (fun gq=>?_)
 ·refine zn4 ?_;refine zw 163 rfl (fun a9=>?_) (fun a9=>?_)
  ·refine zn6 ?_;refine zQ (e_R ⟨rfl,agA,?_⟩);exact clA
  refine zn4 ?_;refine zQ (e_R ⟨rfl,agA,?_⟩);exact clA
 refine e_S ?_;refine zV rfl (fun b1=>?_) (fun b1=>?_)
 ·refine zn4 ?_;refine wl (NZ underlying21 U5 rfl (wrap8 oG)) ?_;refine zW kR (WW CH _ _) rfl (fun e' w1 hr=>?_);obtain⟨rfl,rfl⟩:=hr;refine⟨_,rfl,?_⟩;refine zn6 ?_;have h:=ch_ix r oG;exact⟨⟨_,rfl,by rw[<- h,decide_eq_true_iff];rfl⟩,hB⟩
 have a6:spc r=false:=by cases h:spc r with|false=>rfl|true=>have:=T7 h;omega
 have a4:128<=r:=by omega
 refine zn7 ?_;refine zV rfl (fun an=>?_) (fun an=>?_)
 ·refine zn4 ?_;refine wl_rg U9 rfl (fun b2 w2 a1 s1 hr=>?_);have a3:=nLT (Bel.size hB) hr;refine zn3 ?_;refine qj (rg [4,5,6] 176 7) (fun m g w'=>∃ p:Nat,p<=9/\m=9-p/\Bel w w'/\ItIn w' b2 CH p) (9) ?_ (fun m g38 w3 hI=>?_)
  ·exact⟨0,by omega,rfl,hB.u,a1⟩
  obtain⟨p,hp,hm,hB,a1⟩:=hI;refine zn2 ?_;rcases Nat.lt_or_ge (p) (CH).size with hnlt|hnge
  ·refine wl_nx a1 rfl hnlt (fun w4 hq s2=>?_);replace a1:=hq;have hwl:=MX (ch_lt p oG);have hlt:=ch_lt p oG;refine wl (y8 (v:= .bool true) rfl rfl) (zn9 ?_);refine wl (y8 (v:= .int _ _) rfl rfl) (wl (y8 (v:= .int _ _) rfl rfl) (vy ?_));refine zV rfl (fun a5=>?_) (fun a5=>?_)
   ·exact absurd a5 (by rw[hwl.2];omega)
   refine J7 (e_B (xK (9-(p+1)) oG agA ?_));replace hB:=hB.tr1 s2 a3;exact⟨p+1,by omega,rfl,hB,by have h:=a1;rw[show (Utf8.decode CH p).2=1 from hwl.1]at h;exact h⟩
  refine wl (r_ne a1 rfl (Nat.not_lt.2 hnge)) (wl (y8 (v:= .bool false) rfl rfl) (Ry ?_));exact⟨⟨-1,rfl,⟨fun h=>by omega,fun h=>by rw[a6]at h;cases h⟩⟩,hB⟩
 refine zn3 ?_;refine zW kR (vrune_any _ _) rfl (fun e' w5 hr=>?_);obtain⟨⟨bv,rfl⟩,rfl⟩:=hr;refine⟨_,rfl,?_⟩;refine zn4 ?_;refine ky rfl (fun ad=>?_) (fun ad=>?_)
 ·refine zn8 ?_;exact⟨⟨-1,rfl,⟨fun h=>by omega,fun h=>by rw[a6]at h;cases h⟩⟩,hB⟩
 refine c_scope (zn3 ?_);refine wl (r_rstr underlying21 U9 rfl) (zn4 ?_);obtain⟨hE2,hE4,hEh⟩:=enc_hi a4;refine zn3 ?_;refine wl (jX (c:=(((Utf8.encode (r:Int)).size-1:Nat):Int)) rfl rfl oG oG) (M2 ?_);refine qj (rg [4,9,10,11,12] 23 76) (fun m g w'=>m=0/\g 9= .int .i64 (((Utf8.encode (r:Int)).size-1:Nat):Int)/\Bel w w') (0) ?_ (fun m g5 w6 hI=>?_)
 ·exact⟨rfl,rfl,hB⟩
 obtain⟨hm,h9,hB⟩:=hI;refine zK 9 _ h9 nu (zn9 ?_);refine zV rfl (fun c26=>?_) (fun c26=>?_)
 ·obtain⟨ii,a7⟩:∃ x,x=(Utf8.encode (r:Int)).size-1:=⟨_,rfl⟩
  have hi9:ii<9:=by omega
  have hclo:=ch_lt ii hi9;have a8:=hEh ((Utf8.encode (r:Int)).size-1) oG;have a2:Lib.indexByte (bl (sdr (ii+1) CH)) (((gb (Utf8.encode (r:Int)) ((Utf8.encode (r:Int)).size-1):Nat):Int)).toNat.toUInt8<0:=by
    refine ixb_none (fun hm=>?_);rw[I0]at hm;have h1:=List.mem_of_mem_drop hm;have h2:∀ x∈bl CH,x.toNat<128:=by decide
    have h3:=h2 _ h1;have h4:=uJ (Utf8.encode (r:Int)) ((Utf8.encode (r:Int)).size-1);rw[Int.toNat_natCast,show ((gb (Utf8.encode (r:Int)) ((Utf8.encode (r:Int)).size-1))).toUInt8.toNat=gb (Utf8.encode (r:Int)) ((Utf8.encode (r:Int)).size-1)from Nat.mod_eq_of_lt h4]at h3;omega
  rw[<- a7]at a2 a8;refine zn3 ?_;refine c_scope (xy (xy ?_));refine Qx kR kR (fun w7 s3=>?_);refine zn2 ?_;refine ws (kZ (i:=((Utf8.encode (r:Int)).size-1)) U9 rfl rfl oG) (zn2 ?_);refine ws (kZ (i:=((Utf8.encode (r:Int)).size-1)) U9 rfl rfl oG) (zn1 ?_);refine uW (e_S ?_);refine zV rfl (fun c33=>?_) (fun c33=>?_)
  ·refine xy ?_;refine Qx kR kR (fun w8 s4=>?_);refine zn2 ?_;refine ws (QZ (c:=((ii+1:Nat):Int)) rfl rfl (by rw[<- a7];rfl) oG) (ws (Y3 (l:=(ii+1)) U9 rfl rfl oG) (zn2 ?_));refine ws (kZ (i:=((Utf8.encode (r:Int)).size-1)) U9 rfl rfl oG) (ws_cl kR (WW (sdr (ii+1) CH) _ _) rfl (zn1 ?_));refine uW (zn8 ?_);refine zV rfl (fun c43=>?_) (fun c43=>?_)
   ·refine zn8 ?_;refine e_Nr (zn4 ?_);refine e_Nr (zn2 ?_);replace hB:=hB.tr0 (s3.t s4);exact⟨⟨-1,rfl,⟨fun h=>by omega,fun h=>by rw[a6]at h;cases h⟩⟩,hB⟩
   exact absurd (by rw[<- a7];exact a2) c43
  exact absurd (fun h=>by rw[<- a7]at h;omega) c33
 refine oJ ?_;refine e_Nr (zn2 ?_);exact⟨⟨-1,rfl,⟨fun h=>by omega,fun h=>by rw[a6]at h;cases h⟩⟩,hB⟩
abbrev aa:Array Value:=Array.replicate 256 (.bool false)
theorem sz194:(prog.info? 194).map (·.size)=some 256:=by kernel_rfl
theorem ze194:(prog.info? 194).map (·.zero)=some (some (.agg aa)):=by kernel_rfl
theorem mas_any(w:World):Calls prog 126 #[.string CH] w fun e w'=>e= .returned (.tuple #[.agg (row 256 (fun x=> .bool (spc x))),.bool true])/\Bel w w':=by
 have hcs:CH.size=9:=rfl;refine enT func126 ntmps126 rfl rfl fun hB=>?_;refine zn2 ?_;refine qk (cs:=aa) ze194 rfl (fun b2 w1 a1 s1 hr=>?_)
 have lo2:=nLT (Bel.size hB) hr;refine vy ?_;refine qj (rg [] 3 17) (fun m g w'=>∃ k:Nat,k<=9/\m=9-k/\g 4= .int .i64 k/\Bel w w'/\Blk w' b2 194 (row 256 (fun x=> .bool (chs k x)))) (9) ?_ (fun m g2 w2 hI=>?_)
 ·exact⟨0,ag _,rfl,rfl,hB.u,a1⟩
 obtain⟨k,hk,hm,h4,hB,a1⟩:=hI;refine zK 4 _ h4 nu (zn9 ?_);refine zV rfl (fun c9=>?_) (fun c9=>?_)
 ·have a2:k<9:=by omega
  have hlo:=ch_lt k a2;refine zn8 ?_;refine wl (kZ (i:=k) U9 rfl rfl oG) (vy ?_);refine zV rfl (fun c16=>?_) (fun c16=>?_)
  ·exact absurd c16 oG
  refine zn4 ?_;refine wl (Dx (i:=(gb CH k)) U194 jQ rfl rfl oG rfl) ?_;refine xZ (v:= .bool _) a1 rfl rfl jQ (by rw[row_size];omega) rfl uk (fun w3 hq s2=>?_);replace a1:=hq;rw[vx (g':=fun x=> .bool (chs (k+1) x)) (fun x _=>by rw[chs_step];by_cases e:x=gb CH k<;>simp[e])]at a1;refine zn8 ?_;refine xK (9-(k+1)) oG agA ?_;exact⟨k+1,by omega,rfl,rfl,hB.u,a1⟩
 have a2:k=9:=by omega
 subst a2;have a3:Blk w2 b2 194 (row 256 (fun x=> .bool (spc x))):=by rw[vx (g':=fun x=> .bool (chs 9 x)) (fun x hx=>by rw[chs_all x hx])];exact a1
 refine zn6 ?_;replace a1:=a3;refine zn2 ?_;refine zk a1 rfl rfl sz194 rfl zJ (fun w4 hq s3=>?_);replace a1:=hq;refine zn4 ?_;refine kY (.inl rfl) rfl (zZ U194 rfl rfl a1.range0 sz194) rfl ?_;exact⟨rfl,hB.u⟩
theorem cnt_any(b6 c:Nat)(w:World)(hb6:Blk w b6 194 (row 256 (fun x=> .bool (spc x))))(hc:c<256):Calls prog 127 #[.pointer (some ⟨b6,0,none⟩),.int .u8 ((c:Nat):Int)] w fun e w'=>e= .returned (.bool (spc c))/\w=w':=by
 refine enter func127 ntmps127 rfl (ay rfl) (zn7 ?_);refine wl (xz (v:= .pointer (some _)) rfl) (wmI rfl (wl (X1 rfl) (wl (Dx (i:=c) U194 jQ rfl rfl hc rfl) (wl (qW (v:= .bool _) U4 rfl rfl (hb6.cell (jJ hc))) (zn5 ?_)))));exact⟨rfl,rfl⟩
theorem ixa_any(s:ByteArray)(w:World)(hsz:s.size<9223372036854775807):Calls prog 112 #[.string s,.string CH] w fun e w'=>(∃ z:Int,e= .returned (.int .i64 z)/\(0<=z↔brd s 0=true))/\Bel w w':=by
 refine enT func112 ntmps112 rfl rfl fun hB=>?_;refine jz ?_;refine zV rfl (fun c12=>?_) (fun c12=>?_)
 ·exact absurd c12 dE
 refine vy ?_;refine zV rfl (fun c15=>?_) (fun c15=>?_)
 ·exact absurd c15 dE
 refine zn7 ?_;refine zW kR (sua_any s.size _) rfl (fun e' w1 hr=>?_);obtain⟨rfl,rfl⟩:=hr;refine⟨_,rfl,?_⟩;refine zQ (e_S ?_);refine ky rfl (fun c26=>?_) (fun c26=>?_)
 ·refine zn3 ?_;refine aY kR (mas_any _) rfl (fun w2 s1=>?_);refine wmT rfl (wl (y8 (v:= .agg _) rfl rfl) (wl (y8 (v:= .bool _) rfl rfl) ?_));refine yj (cs:=aa) ze194 rfl (fun _=>rfl) (fun _=>rfl) sz194 rfl zJ (fun b6 w4 a4 s2 hr=>?_)
  refine zn8 ?_;refine ky rfl (fun c32=>?_) (fun c32=>?_)
  ·refine zn7 ?_;refine qj (rg [4,8] 33 11) (fun m g w'=>∃ k:Nat,k<=s.size/\m=s.size-k/\g 8= .int .i64 k/\Bel w w'/\Blk w' b6 194 (row 256 (fun x=> .bool (spc x)))/\∀ j,j<k->spc (gb s j)=false) (s.size) ?_ (fun m g12 w5 hI=>?_)
   ·exact⟨0,ag _,rfl,rfl,hB.u,a4,fun j hj=>by omega⟩
   obtain⟨k,hk,hm,h8,hB,a4,a2⟩:=hI;refine zK 8 _ h8 nu (zn9 ?_);refine zV rfl (fun c36=>?_) (fun c36=>?_)
   ·refine zn8 ?_;refine wl (kZ (i:=k) U9 rfl rfl oG) ?_;refine zW kR (cnt_any b6 _ _ a4 (uJ s k)) rfl (fun e' w6 hr=>?_);obtain⟨rfl,rfl⟩:=hr;refine⟨_,rfl,?_⟩;refine zQ (e_S ?_);refine ky rfl (fun a7=>?_) (fun a7=>?_)
    ·refine Jj ?_;exact⟨⟨_,rfl,⟨fun _=>brd_byte (m:=s.size) oG (ag k) oG a7,fun _=>Int.natCast_nonneg k⟩⟩,hB⟩
    refine zn8 ?_;refine xK (s.size-(k+1)) oG agA ?_
    exact⟨k+1,by omega,rfl,rfl,hB,a4,fun j hj=>by
      by_cases e:j=k
      · subst e;simpa using a7
      · exact a2 j oG⟩
   refine oJ ?_;have hno:brd s 0=false:=by
     cases h:brd s 0 with
     | false=>rfl
     | true=>
       obtain⟨q,_,h2,h3⟩:=byte_brd (m:=s.size) oG h;rw[a2 q oG]at h3;cases h3
   exact⟨⟨-1,rfl,⟨fun h=>by omega,fun h=>by rw[hno]at h;cases h⟩⟩,hB⟩
  exact absurd c32 dE
 refine zn6 ?_;refine wl_rg U9 rfl (fun b45 w7 a1 s3 hr=>?_);have a5:=nLT (Bel.size hB) hr;refine zn3 ?_;refine qj (rg [4,9,10] 46 9) (fun m g w'=>∃ p:Nat,p<=s.size/\s.size-p<=m/\Bel w w'/\ItIn w' b45 s p/\brd s 0=brd s p) (s.size) ?_ (fun m g18 w8 hI=>?_)
 ·exact⟨0,ag _,ae _,hB.u,a1,rfl⟩
 obtain⟨p,hp,hm,hB,a1,a3⟩:=hI;refine zn2 ?_;rcases Nat.lt_or_ge (p) (s).size with hnlt|hnge
 ·refine wl_nx a1 rfl hnlt (fun w9 hq s4=>?_);replace a1:=hq;have hwp:=QW hnlt;have hwl:=SK hnlt;refine wl (y8 (v:= .bool true) rfl rfl) (zn9 ?_);refine wl (y8 (v:= .int _ _) rfl rfl) (wl (y8 (v:= .int _ _) rfl rfl) (zn8 ?_));refine zW kR (ixr_any _ _) rfl (fun e' w10 hr=>?_);obtain⟨⟨z,rfl,hz⟩,s5⟩:=hr;replace s5:=sB s5;refine⟨_,rfl,?_⟩;refine zn3 ?_;refine zV rfl (fun a6=>?_) (fun a6=>?_)
  ·have hbt:brd s 0=true:=by rw[a3,V9 hnlt,hz.1 a6];rfl
   refine jz ?_;exact⟨⟨_,rfl,⟨fun _=>hbt,fun _=>Int.natCast_nonneg p⟩⟩,hB.u⟩
  have hsn:spc (Utf8.decode s p).1=false:=by cases h:spc (Utf8.decode s p).1 with|false=>rfl|true=>exact absurd (hz.2 h) a6
  refine J7 (e_B (xK (m-1) oG agA ?_));replace hB:=(hB.tr1 s4 a5).tr0 s5;replace a1:=a1.tr0 s5;exact⟨p+wdt s p,hwl,by omega,hB,a1,by rw[a3,V9 hnlt,hsn,Bool.false_or]⟩
 refine wl (r_ne a1 rfl (Nat.not_lt.2 hnge)) ?_;rw[Pw (Nat.not_lt.2 hnge)]at a3;refine wl (y8 (v:= .bool false) rfl rfl) (M2 ?_);exact⟨⟨-1,rfl,⟨fun h=>by omega,fun h=>by rw[a3]at h;cases h⟩⟩,hB⟩
theorem cany_any(s:ByteArray)(w:World)(hsz:s.size<9223372036854775807):Calls prog 83 #[.string s,.string CH] w fun e w'=>e= .returned (.bool (brd s 0))/\Bel w w':=by
 refine enT func83 ntmps83 rfl rfl fun hB=>?_;refine zn9 ?_;refine zW kR (ixa_any s _ hsz) rfl (fun e' w1 hr=>?_);obtain⟨⟨z,rfl,hz⟩,s1⟩:=hr;replace s1:=sB s1;refine⟨_,rfl,?_⟩;refine zn6 ?_;replace hB:=hB.tr0 s1;exact⟨congrArg (fun b=>Ending.returned (.bool b)) (by cases h:brd s 0 with|true=>exact ah (hz.2 h)|false=>exact ao (fun h2=>by rw[hz.1 h2]at h;cases h)),hB⟩
set_option maxHeartbeats 1000000 in
theorem PJ(s:ByteArray)(w:World)(hU:U8In w)(hsz:s.size<9223372036854775807):Calls Tryz.prog 52 #[.string s] w fun e w'=>e= .returned (.bool (yX s))/\Bel w w':=by
 refine enT Tryz.func52 Tryz.ntmps52 rfl rfl fun hB=>?_;refine zn8 ?_;refine aY kR (rc_any s _ hsz) rfl (fun w1 s1=>?_);refine zn8 ?_;refine zw 8 rfl (fun g8=>?_) (fun g8=>?_)
 ·refine zn6 ?_;refine zw 12 rfl (fun g12=>?_) (fun g12=>?_)
  ·refine zn3 ?_;refine aY kR (valid_any s _ (hU.mono hB.u) hsz) rfl (fun w2 s2=>?_);refine zn2 ?_;refine Qk 16 rfl (fun a1=>?_) (fun a1=>?_)
   ·refine zn3 ?_;refine aY kR (cany_any s _ hsz) rfl (fun w3 s3=>?_);refine zn8 ?_;replace hB:=hB.tr0 (s1.t (s2.t s3));exact⟨congrArg (fun b=>Ending.returned (.bool b)) (by unfold yX;first|(rw[decide_eq_true (show 1<=(ch s 0).length by omega),decide_eq_true (show (ch s 0).length<=30 by omega),a1];rfl)|(rw[decide_eq_true (show 1<=(ch s 0).length by omega),decide_eq_true (show (ch s 0).length<=30 by omega),Bool.eq_false_iff.2 a1];rfl)|(rw[decide_eq_false (show ¬(ch s 0).length<=30 by omega)];simp)|(rw[decide_eq_false (show ¬1<=(ch s 0).length by omega)];rfl)),hB⟩
   refine zn9 ?_;replace hB:=hB.tr0 (s1.t s2);exact⟨congrArg (fun b=>Ending.returned (.bool b)) (by unfold yX;first|(rw[decide_eq_true (show 1<=(ch s 0).length by omega),decide_eq_true (show (ch s 0).length<=30 by omega),a1];rfl)|(rw[decide_eq_true (show 1<=(ch s 0).length by omega),decide_eq_true (show (ch s 0).length<=30 by omega),Bool.eq_false_iff.2 a1];rfl)|(rw[decide_eq_false (show ¬(ch s 0).length<=30 by omega)];simp)|(rw[decide_eq_false (show ¬1<=(ch s 0).length by omega)];rfl)),hB⟩
  refine oJ ?_;replace hB:=hB.tr0 s1;exact⟨congrArg (fun b=>Ending.returned (.bool b)) (by unfold yX;first|(rw[decide_eq_true (show 1<=(ch s 0).length by omega),decide_eq_true (show (ch s 0).length<=30 by omega),a1];rfl)|(rw[decide_eq_true (show 1<=(ch s 0).length by omega),decide_eq_true (show (ch s 0).length<=30 by omega),Bool.eq_false_iff.2 a1];rfl)|(rw[decide_eq_false (show ¬(ch s 0).length<=30 by omega)];simp)|(rw[decide_eq_false (show ¬1<=(ch s 0).length by omega)];rfl)),hB⟩
 refine Ry ?_;replace hB:=hB.tr0 s1;exact⟨congrArg (fun b=>Ending.returned (.bool b)) (by unfold yX;first|(rw[decide_eq_true (show 1<=(ch s 0).length by omega),decide_eq_true (show (ch s 0).length<=30 by omega),a1];rfl)|(rw[decide_eq_true (show 1<=(ch s 0).length by omega),decide_eq_true (show (ch s 0).length<=30 by omega),Bool.eq_false_iff.2 a1];rfl)|(rw[decide_eq_false (show ¬(ch s 0).length<=30 by omega)];simp)|(rw[decide_eq_false (show ¬1<=(ch s 0).length by omega)];rfl)),hB⟩
theorem sz149:(Tryz.prog.info? 149).map (·.size)=some 1:=by kernel_rfl
theorem ze149:(Tryz.prog.info? 149).map (·.zero)=some (some (.nilFunc)):=by kernel_rfl
set_option maxHeartbeats 1000000 in
theorem MK(A B:Option Addr)(c m:Nat)(t:Tm)(w:World)(hS:SimsIn w A t.type.args)(hT:TmsIn w B t.args):Calls Tryz.prog 54 #[.agg #[.int .i64 (t).kind,.string (t).name,.int .i64 (t).index,.string (t).type.base,.slice A (t).type.args.length c,.slice B (t).args.length m]] w fun e w'=>e= .returned (flV (tmF t))/\Bel w w':=by
 refine enT Tryz.func54 Tryz.ntmps54 rfl rfl fun hB=>?_;refine zn2 ?_;refine qY (v:= .agg #[_,_,_,_,_,_]) (cs:=#[_,_,_,_,_,_]) rfl rfl (fun b1 w1 a2 t1 hr=>?_);refine qk (cs:=#[.int .i64 0,.int .i64 0]) qK rfl (fun b2 w2 a1 t2 hr=>?_);have:=nLL a2.lt hr;have a8:=nLT (Bel.size hB.u) hr;refine zn4 ?_;refine qk (cs:=#[.int .i64 0]) Qj rfl (fun b3 w3 a5 t3 hr=>?_);have:=nLL a2.u.lt hr;have:=nLL a1.lt hr;have a7:=nLT (Bel.size hB.u) hr;refine xZ (v:= .int _ _) a5 rfl rfl xx (by first|decide|simp) rfl rfl (fun w4 hq t4=>?_);replace a5:=hq;refine zn4 ?_;refine qk (cs:=#[.nilFunc]) ze149 rfl (fun b4 w5 a4 t5 hr=>?_);have:=nLL a2.u.lt hr;have:=nLL a1.u.lt hr;have:=nLL a5.lt hr;have lo4:=nLT (Bel.size hB.u) hr;refine zn4 ?_;refine wl (r_mf rfl) ?_;refine xZ (v:= .func _ _ _) a4 rfl rfl sz149 (by first|decide|simp) rfl rfl (fun w6 hq t6=>?_);replace a4:=hq;refine zn7 ?_;refine y9 rfl kR (twk_any (w0:=w) (bN:=b3) (bV:=b4) a7 lo4 oG t A B c m 1 0 0 _ hS hT oG oG oG hB.u a5.u a4) rfl rfl (fun e' w7 hr=>?_);obtain⟨rfl,a6,a9⟩:=hr;replace hB:=(((hB.tr0 (t1.t (t2.t t3))).tr1 t4 a7).tr0 t5).tr1 t6 lo4;replace hB:=hB.chG a6 (fun g hg=>by rw[show g=b3 from hg];exact a7);replace a2:=(((a2.tr0 (t2.t t3)).tr1 t4 oG).tr0 t5).tr1 t6 oG;replace a2:=a2.chG a6 (fun hx=>by have hx:b1=b3:=hx;omega);replace a1:=(((a1.tr0 t3).tr1 t4 oG).tr0 t5).tr1 t6 oG;replace a1:=a1.chG a6 (fun hx=>by have hx:b2=b3:=hx;omega);replace a4:=a4.chG a6 (fun hx=>by have hx:b4=b3:=hx;omega);replace a5:=a9;refine⟨_,rfl,?_⟩;refine yj (cs:=#[.int .i64 0,.int .i64 0]) qK rfl (fun _=>rfl) (fun _=>rfl) zq rfl zJ (fun b5 w9 hb5 t7 hr=>?_);refine zn9 ?_;refine zV rfl (fun a3=>?_) (fun a3=>?_)
 ·have hF:=P7 a3;refine zn3 ?_;refine zk a1.u rfl rfl zq rfl zJ (fun w10 hq t8=>?_);replace a1:=hq;refine zn4 ?_;refine yx (.inl rfl) rfl (zZ U45 rfl rfl a1.range0 zq) ?_;replace hB:=(hB.tr0 t7).tr1 t8 a8;exact⟨by rw[hF];rfl,hB⟩
 have a3:(twk t 1 0 0).2.1=0:=am.1 a3;obtain⟨v,rfl,hok,_,hv2⟩:=Ex t 1 0 0 a3;have hF:=tmF_ok a3;refine zn6 ?_;replace hB:=hB.tr0 t7;refine zW kR (Bz _ v (aG _) [] A B none c m 0 _ (hS.mono hB) (hT.mono hB) (CtxIn.nil _) (ae _) (by simp only[List.length_nil];omega) hok) rfl (fun e' w11 hr=>?_);obtain⟨⟨s3,A3,n3,c3,rfl,_⟩,t9⟩:=hr;replace t9:=sB t9;refine⟨_,rfl,?_⟩;refine wmT rfl (wl (y8 (v:= .agg _) rfl rfl) (wl (y8 (v:= .bool _) rfl rfl) ?_));refine yj (cs:=#[.string ⟨#[]⟩,.slice none 0 0]) JQ rfl (fun _=>rfl) (fun _=>rfl) xY rfl zJ (fun b6 w13 hb6 t10 hr=>?_);refine zn9 ?_;refine ky rfl (fun ad=>?_) (fun ad=>?_)
 ·rw[if_neg (by simpa using ad)]at hF;refine zn2 ?_;refine wl (jk (v0:= .int _ _) (v1:= .int _ _) (fun v0 v1=>#[v0,v1]) rfl rfl kR) ?_;refine zk a1.u rfl rfl zq rfl zJ (fun w14 hq t11=>?_);replace a1:=hq;refine zn4 ?_;refine yx (.inl rfl) rfl (zZ U45 rfl rfl a1.range0 zq) ?_;replace hB:=(hB.tr0 (t9.t t10)).tr1 t11 a8;exact⟨by rw[hF];rfl,hB⟩
 rw[if_pos (by simpa using ad)]at hF;refine zn4 ?_;refine wl (kK (vs:=#[]) (cs:=#[.int .i64 0,.int .i64 0]) (by simp) kR) ?_;refine zk a1.u rfl rfl zq rfl zJ (fun w15 hq t12=>?_);replace a1:=hq;refine zn3 ?_;refine yx (.inl rfl) rfl (zZ U45 rfl rfl a1.range0 zq) ?_;replace hB:=(hB.tr0 (t9.t t10)).tr1 t12 a8;exact⟨by rw[hF];rfl,hB⟩
theorem YV{a b:Int}(h:b=a):Ending.returned (.int .i64 a)= .returned (.int .i64 b):=by rw[h]
theorem ret_b{a b:Bool}(h:b=a):Ending.returned (.bool a)= .returned (.bool b):=by rw[h]
theorem H9:zX prog 53=true:=by kernel_rfl
theorem G7(G:Option Addr)(cg nf:Nat)(gr:List Nd)(k:Int)(w:World)(hG:NodesIn w G gr)(h0:0<gr.length)(hl:yw nf gr.length (-1) (gr[0]'h0).ln=0)(hw:(gr[0]'h0).ln.length<=1000):Calls prog 61 #[.agg #[.slice G (gr).length cg],.int .i64 k] w fun e w'=>e= .returned (.bool (gj gr k))/\Bel w w':=by
 refine enT func61 ntmps61 rfl rfl fun hB=>?_;refine zn2 ?_;refine qY (v:= .agg #[_]) (cs:=#[_]) rfl rfl (fun b2 w1 a1 s1 hr=>?_);refine vy ?_;refine qj (rg [] 4 14) (fun m g w'=>∃ j:Nat,j<=4/\m=4-j/\g 6= .int .i64 j/\Bel w w'/\Blk w' b2 28 #[.slice G (gr).length cg]/\∀ f,f<j->plN gr k f=true) (4) ?_ (fun m g2 w2 hI=>?_)
 ·exact⟨0,by omega,rfl,rfl,hB.u,a1,fun f hf=>by omega⟩
 obtain⟨j,hj,hm,h6,hB,a1,a2⟩:=hI;refine zK 6 _ h6 nu (zn6 ?_);refine zV rfl (fun c7=>?_) (fun c7=>?_)
 ·refine Jj ?_;refine aY kR (Vj G cg nf gr 0 ((j:Nat):Int) _ (hG.mono hB) h0 hl hw) rfl (fun w3 s2=>?_);refine zn4 ?_;refine wl (r_neqB U4 rfl rfl) (zQ (e_S ?_));refine ky rfl (fun a4=>?_) (fun a4=>?_)
  ·have a3:plN gr k j=false:=by
     have h:=a4;rw[Bool.not_eq_true']at h;rw[plN_of h0];exact h
   refine jz ?_;exact⟨ret_b (pl_no oG a3),hB.u⟩
  have a3:plN gr k j=true:=by
    have h:=a4;rw[Bool.not_eq_false']at h;rw[plN_of h0];exact h
  refine zn7 ?_;refine xK (4-(j+1)) oG agA ?_;replace hB:=hB.tr0 s2;replace a1:=a1.tr0 s2
  exact⟨j+1,by omega,rfl,rfl,hB,a1,fun f hf=>by
    by_cases e:f=j
    · rw[e];exact a3
    · exact a2 f oG⟩
 refine jz ?_;exact⟨ret_b (pl_yes (fun f hf=>a2 f oG)),hB⟩
theorem entry_any(A B G SA BA:Option Addr)(c d cg cs mB bu bd:Nat)(l:List Ty)(fs:List Ft)(x:Lx)(w:World)(hU:U8In w)(hI:TableIn w l bu bd)(h60:l.length<=60)(hF:FeatsIn w B fs)(hfo:FOk l.length fs)(hG:NodesIn w G x.gr)(hS:SimsIn w SA x.mean.type.args)(hT:TmsIn w BA x.mean.args)(hsz:x.word.size<9223372036854775807):Calls prog 30 #[.agg #[.slice A l.length c,.slice B fs.length d],Lv l.length bu bd,.agg #[.string (x).word,.slice G (x).gr.length cg,.int .i64 (x).wt,.int .i64 ((x).mean).kind,.string ((x).mean).name,.int .i64 ((x).mean).index,.string ((x).mean).type.base,.slice SA ((x).mean).type.args.length cs,.slice BA ((x).mean).args.length mB]] w fun e w'=>e= .returned (.int .i64 (KK l fs x))/\Bel w w':=by
 refine enT func30 ntmps30 rfl rfl fun hB=>?_;refine zn2 ?_;refine qY (v:= .agg #[_,_]) (cs:=#[_,_]) rfl rfl (fun b3 w1 hb3 s1 hr=>?_);refine qY (v:= .agg #[_,_]) (cs:=#[_,_]) rfl rfl (fun b4 w2 hb4 s2 hr=>?_);refine qY (v:= .agg #[_,_,_,_,_,_,_,_,_]) (cs:=#[_,_,_,_,_,_,_,_,_]) rfl rfl (fun b5 w3 hb5 s3 hr=>?_);refine zn8 ?_;refine aY kR (PJ x.word _ (hU.mono hB.u) hsz) rfl (fun w4 s4=>?_);refine zn3 ?_;refine ky rfl (fun a4=>?_) (fun a4=>?_)
 ·have a1:yX x.word=false:=by simpa using a4
  refine zn8 ?_;exact⟨YV (TV a1),hB.u⟩
 have a1:yX x.word=true:=by simpa using a4
 refine zn4 ?_;replace hB:=hB.tr0 (s1.t (s2.t (s3.t s4)));refine xk (rg [] 12 8) 19 (.bool (decide (x.wt<0\/1000000<x.wt))) nu ?_ (fun gq=>?_)
 ·refine zn5 ?_;refine zw 15 rfl (fun g15=>?_) (fun g15=>?_)
  ·refine zn4 ?_;refine zQ (e_R ⟨rfl,agA,?_⟩);exact clA
  refine zn7 ?_;refine zQ (e_R ⟨rfl,agA,?_⟩);exact clA
 refine e_S ?_;refine zV rfl (fun a2=>?_) (fun a2=>?_)
 ·refine zn8 ?_;exact⟨YV (GZ a1 a2),hB⟩
 refine zn8 ?_;refine wl (qZ U28 rfl rfl (hb5.u.sub (n:=1) (xs:=[_]) rfl) M8) ?_;refine aY H9 (M4 A B G c d cg bu bd l fs x.gr _ (hI.mono hB) h60 (hF.mono hB) (hG.mono hB) hfo) rfl (fun w5 s5=>?_);refine yj (cs:=#[.int .i64 0,.int .i64 0]) qK rfl (fun _=>rfl) (fun _=>rfl) zq rfl zJ (fun b7 w7 hb7 s6 hr=>?_);refine zn9 ?_;refine zV rfl (fun a3=>?_) (fun a3=>?_)
 ·refine vy ?_;exact⟨YV (lx_gr a1 a2 a3),hB.u⟩
 have hin:=ak.1 a3;refine zn5 ?_;refine wl (qZ U34 rfl rfl (hb5.u.sub (n:=6) (xs:=[_,_,_,_,_,_]) rfl) Zj) ?_;refine aY kR (MK SA BA cs mB x.mean _ (hS.mono hB.u) (hT.mono hB.u)) rfl (fun w8 s7=>?_);refine wl (Dj (v:= .int _ _) U45 rfl U3 rfl rfl rfl) (zn5 ?_);exact⟨YV (Wy a1 a2 hin),hB.u⟩
end Go.Proofs.YtiofaflajkgiaaaGreatDoor
