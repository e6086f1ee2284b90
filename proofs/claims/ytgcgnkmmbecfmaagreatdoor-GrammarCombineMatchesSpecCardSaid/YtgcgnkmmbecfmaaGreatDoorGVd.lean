/- What these functions compute, at every world: unicode/utf8.ValidString, internal/stringslite.IndexByte, strings.IndexByte, unicode/utf8.ValidRune, strings.shouldUseASCIISet, strings.IndexRune, strings.makeASCIISet, (*strings.asciiSet).contains and 9 more; and plain laws. -/
import Derived.Test.YtgcgnkmmbecfmaaGreatDoorU
import Derived.Test.YtgcgnkmmbecfmaaGreatDoorZst
import Derived.Test.YtgcgnkmmbecfmaaGreatDoorHtx
import Derived.Test.YtgcgnkmmbecfmaaGreatDoorNTo
import Derived.Test.YtgcgnkmmbecfmaaGreatDoorEng3
import Derived.Test.YtgcgnkmmbecfmaaGreatDoorGro
import Derived.Test.YtgcgnkmmbecfmaaGreatDoorOrd
namespace Go.Proofs.YtgcgnkmmbecfmaaGreatDoor
open Go.RowKit Go.Proofs.Tryz
set_option maxRecDepth 100000
set_option maxHeartbeats 2000000
theorem sz151:(prog.info? 151).map (·.size)=some 2:=by kernel_rfl
theorem J7:(prog.info? 5).map (·.size)=some 1:=by kernel_rfl
theorem ze151:(prog.info? 151).map (·.zero)=some (some (.agg #[.int .u8 0,.int .u8 0])):=by kernel_rfl
set_option maxRecDepth 100000 in
set_option maxHeartbeats 8000000 in
theorem valid_any(s:ByteArray)(w:World)(hU:U8In w)(hsz:s.size<9223372036854775807):Calls prog 77 #[.string s] w fun e w'=>e= .returned (.bool (vq s 0))/\Bel w w':=by
 have hs0:sdr 0 s=s:=Wv (by rw[Iw,List.drop_zero]);refine enT func77 ntmps77 rfl rfl fun hB=>?_;refine zn7 ?_;refine qx (rg [0] 2 167) (fun m g w'=>∃ p:Nat,p<=s.size/\s.size-p<=m/\g 0= .string (sdr p s)/\vq s 0=vq s p/\Bel w w') (s.size) ?_ (fun m g1 w1 hI=>?_)
 ·exact⟨0,ag _,ah _,(by rw[hs0];rfl),rfl,hB⟩
 obtain⟨p,hp,hm,h0,hv,hB⟩:=hI;obtain⟨mo,rfl⟩:∃ x,x=m:=⟨_,rfl⟩
 refine zX 0 _ h0 nu (zn8 ?_);refine zQ rfl (fun c9=>?_) (fun c9=>?_)
 ·have hsp:=yX p s;have a4:p<s.size:=by omega
  have e0:=Vz p s 0;have e1:=Vz p s 1;have e2:=Vz p s 2;have e3:=Vz p s 3;rw[Nat.add_zero]at e0;have hb0:=ov s p;refine zn6 ?_;refine wl (u7 (i:=0) U9 rfl rfl oG) (wl (uK (v:= .int .u8 ((gb s p:Nat):Int)) (by exact congrArg (fun z:Nat=>Value.int .u8 ((z:Nat):Int)) e0)) (zn9 ?_));refine zQ rfl (fun c13=>?_) (fun c13=>?_)
  ·have a2:=vq_low a4 oG;refine zn3 ?_;refine wl (VJ (l:=1) U9 rfl rfl oG) (wl (uK (v:= .string (sdr (p+1) s)) (by exact congrArg Value.string (Q1 _ _ s))) (zn4 ?_));have hsp1:=yX (p+1) s;refine zn5 ?_;refine zw 19 rfl (fun g19=>?_) (fun g19=>?_)
   ·refine zn3 ?_;refine qq kR (XK (sdr (p+1) s) _ (by rw[yX];have:=yX (p+1) s;omega)) rfl (fun e' w2 hr=>?_);obtain⟨rfl,s1⟩:=hr;replace s1:=sB s1;refine⟨_,rfl,?_⟩;refine zn1 ?_;refine wl (MK (b:=9259542123273814144) rfl rfl (uQ _ dE) dE) (zn5 ?_);refine zQ rfl (fun c24=>?_) (fun c24=>?_)
    ·have ac:=D3 (s:=s) (p:=p+1) (k:=8) oG (asc8 (by have h:=c24;exact Int.ofNat.inj h));refine zn3 ?_;refine wl (VJ (l:=8) U9 rfl rfl oG) (wl (uK (v:= .string (sdr (p+9) s)) (by exact congrArg Value.string (Q1 _ _ s))) (zn3 ?_));replace hB:=hB.tr0 s1;by_cases q7:16<s.size-(p+9)
     ·refine uz [] [0,1,2,3,4,6,7,5,8,9,10,11,12] rfl (fun w3 s2=>?_);refine zn2 ?_;refine hle rfl (fun _=>Lz rfl rfl) (ae (ai (by rw[yX];omega))) (zn3 ?_);refine hg 30 rfl rfl rfl (fun _ _=>VJ (l:=8) U9 rfl rfl (by rw[yX];omega)) (h1 rfl (zn1 ?_));refine qq kR (XK (sdr (p+9) s) w3 (by rw[yX];omega)) rfl (fun e' w4 hr=>?_);obtain⟨rfl,s3⟩:=hr;replace s3:=sB s3;have b4:=s3;refine⟨_,rfl,?_⟩;refine zJ (K9 b4 (h1 rfl (zn1 ?_)));refine qq kR (XK (sdr 8 (sdr (p+9) s)) w4 (by rw[yX,yX];omega)) rfl (fun e' w5 hr=>?_);obtain⟨rfl,s4⟩:=hr;replace s4:=sB s4;have b3:=s4;refine⟨_,rfl,?_⟩;refine zJ (K9 b3 (hg 30 rfl rfl rfl (fun _ _=>VX rfl rfl (uQ _ dE) (uQ _ dE)) (hg 30 rfl rfl rfl (fun _ _=>MK (b:=9259542123273814144) rfl rfl (aX (n:=64) (uQ _ dE) (uQ _ dE)) dE) (zn4 ?_))));refine jQ rfl (fun c39=>?_) (fun c39=>?_)
      ·have hvB:=D3 (s:=s) (p:=p+9) (k:=16) oG (asc16 (Int.ofNat.inj (aS c39)));refine zn3 ?_;refine wl (VJ (l:=16) U9 rfl rfl (by rw[yX];omega)) (wl (uK (v:= .string (sdr (p+25) s)) (by exact congrArg Value.string (Q1 _ _ s))) (zn3 ?_));refine qx (rg [0] 42 23) (fun m g w'=>∃ p2:Nat,p+25<=p2/\p2<=s.size/\m=s.size-p2/\g 0= .string (sdr p2 s)/\vq s p=vq s p2/\Bel w w') (s.size-(p+25)) ?_ (fun m g9 w6 hI=>?_)
       ·exact⟨p+25,ah _,by omega,rfl,rfl,((a2.trans ac).trans hvB),hB.u⟩
       obtain⟨p2,hp2,hp2s,hm2,h0b,an,hB⟩:=hI;refine zX 0 _ h0b nu (xV (xV ?_));by_cases q9:32<s.size-p2
       ·refine uz [] [0,1,2,3,4,6,7,10,11,13,14,5,8,9,12,15,16,17,18,19,20] rfl (fun w7 s5=>?_);refine zn2 ?_;refine hle rfl (fun _=>Lz rfl rfl) (ae (ai (by rw[yX];omega))) (zn3 ?_);refine hg 45 rfl rfl rfl (fun _ _=>VJ (l:=8) U9 rfl rfl (by rw[yX];omega)) (zn1 ?_);refine hg 45 rfl rfl rfl (fun _ _=>VJ (l:=16) U9 rfl rfl (by rw[yX];omega)) (zn1 ?_);refine hg 45 rfl rfl rfl (fun _ _=>VJ (l:=24) U9 rfl rfl (by rw[yX];omega)) (h1 rfl (zn1 ?_));refine qq kR (XK (sdr p2 s) w7 (by rw[yX];omega)) rfl (fun e' w8 hr=>?_);obtain⟨rfl,s6⟩:=hr;replace s6:=sB s6;have b4:=s6;refine⟨_,rfl,?_⟩;refine zJ (K9 b4 (h1 rfl (zn1 ?_)));refine qq kR (XK (sdr 8 (sdr p2 s)) w8 (by rw[yX,yX];omega)) rfl (fun e' w9 hr=>?_);obtain⟨rfl,s7⟩:=hr;replace s7:=sB s7;have b3:=s7;refine⟨_,rfl,?_⟩;refine zJ (K9 b3 (hg 45 rfl rfl rfl (fun _ _=>VX rfl rfl (uQ _ dE) (uQ _ dE)) (h1 rfl (zn1 ?_))));refine qq kR (XK (sdr 16 (sdr p2 s)) w9 (by rw[yX,yX];omega)) rfl (fun e' w10 hr=>?_);obtain⟨rfl,s8⟩:=hr;replace s8:=sB s8;have b9:=s8;refine⟨_,rfl,?_⟩;refine zJ (K9 b9 (h1 rfl (zn1 ?_)));refine qq kR (XK (sdr 24 (sdr p2 s)) w10 (by rw[yX,yX];omega)) rfl (fun e' w11 hr=>?_);obtain⟨rfl,s9⟩:=hr;replace s9:=sB s9;have b8:=s9;refine⟨_,rfl,?_⟩;refine zJ (K9 b8 (hg 45 rfl rfl rfl (fun _ _=>VX rfl rfl (uQ _ dE) (uQ _ dE)) (hg 45 rfl rfl rfl (fun _ _=>VX rfl rfl (aX (n:=64) (uQ _ dE) (uQ _ dE)) (aX (n:=64) (uQ _ dE) (uQ _ dE))) (hg 45 rfl rfl rfl (fun _ _=>MK (b:=9259542123273814144) rfl rfl (aX (n:=64) (aX (n:=64) (uQ _ dE) (uQ _ dE)) (aX (n:=64) (uQ _ dE) (uQ _ dE))) dE) (zn4 ?_)))));refine jQ rfl (fun c62=>?_) (fun c62=>?_)
        ·have hvC:=D3 (s:=s) (p:=p2) (k:=32) oG (asc32 (Int.ofNat.inj (aS c62)));refine zn5 ?_;refine wl (VJ (l:=32) U9 rfl rfl (by rw[yX];omega)) (wl (uK (v:= .string (sdr (p2+32) s)) (by exact congrArg Value.string (Q1 _ _ s))) (zJ (e_B (x8 (s.size-(p2+32)) oG agA ?_))));exact⟨p2+32,by omega,by omega,rfl,rfl,an.trans hvC,hB.u⟩
        refine zn8 ?_;refine x8 (mo-1) oG agA ?_;replace hB:=hB.tr0 (s5.t (s6.t (s7.t (s8.t s9))))
        first
          | exact⟨p+1,by omega,by omega,rfl,hv.trans a2,hB⟩
          | exact⟨p+9,by omega,by omega,rfl,hv.trans (a2.trans ac),hB⟩
          | exact⟨p2,by omega,by omega,rfl,hv.trans an,hB⟩
          | exact⟨p+2,by omega,by omega,rfl,hv.trans a1,hB⟩
          | exact⟨p+3,by omega,by omega,rfl,hv.trans a1,hB⟩
          | exact⟨p+4,by omega,by omega,rfl,hv.trans a1,hB⟩
       refine uz [] [0,1,2,3,4,6,7,10,11,13,14,5,8,9,12,15,16,17,18,19,20] rfl (fun w12 s10=>?_);refine zn2 ?_;refine hle rfl (fun _=>Lz rfl rfl) (ae (ap (by rw[yX];omega))) (zn29 ?_);refine x8 (mo-1) oG agA ?_;replace hB:=hB.tr0 s10
       first
         | exact⟨p+1,by omega,by omega,rfl,hv.trans a2,hB⟩
         | exact⟨p+9,by omega,by omega,rfl,hv.trans (a2.trans ac),hB⟩
         | exact⟨p2,by omega,by omega,rfl,hv.trans an,hB⟩
         | exact⟨p+2,by omega,by omega,rfl,hv.trans a1,hB⟩
         | exact⟨p+3,by omega,by omega,rfl,hv.trans a1,hB⟩
         | exact⟨p+4,by omega,by omega,rfl,hv.trans a1,hB⟩
      refine zn5 ?_;refine x8 (mo-1) oG agA ?_;replace hB:=hB.tr0 (s2.t (s3.t s4))
      first
        | exact⟨p+1,by omega,by omega,rfl,hv.trans a2,hB⟩
        | exact⟨p+9,by omega,by omega,rfl,hv.trans (a2.trans ac),hB⟩
        | exact⟨p2,by omega,by omega,rfl,hv.trans an,hB⟩
        | exact⟨p+2,by omega,by omega,rfl,hv.trans a1,hB⟩
        | exact⟨p+3,by omega,by omega,rfl,hv.trans a1,hB⟩
        | exact⟨p+4,by omega,by omega,rfl,hv.trans a1,hB⟩
     refine uz [] [0,1,2,3,4,6,7,5,8,9,10,11,12] rfl (fun w13 s11=>?_);refine zn2 ?_;refine hle rfl (fun _=>Lz rfl rfl) (ae (ap (by rw[yX];omega))) (zn18 ?_);refine x8 (mo-1) oG agA ?_;replace hB:=hB.tr0 s11
     first
       | exact⟨p+1,by omega,by omega,rfl,hv.trans a2,hB⟩
       | exact⟨p+9,by omega,by omega,rfl,hv.trans (a2.trans ac),hB⟩
       | exact⟨p2,by omega,by omega,rfl,hv.trans an,hB⟩
       | exact⟨p+2,by omega,by omega,rfl,hv.trans a1,hB⟩
       | exact⟨p+3,by omega,by omega,rfl,hv.trans a1,hB⟩
       | exact⟨p+4,by omega,by omega,rfl,hv.trans a1,hB⟩
    refine zn5 ?_;refine x8 (mo-1) oG agA ?_;replace hB:=hB.tr0 s1
    first
      | exact⟨p+1,by omega,by omega,rfl,hv.trans a2,hB⟩
      | exact⟨p+9,by omega,by omega,rfl,hv.trans (a2.trans ac),hB⟩
      | exact⟨p2,by omega,by omega,rfl,hv.trans an,hB⟩
      | exact⟨p+2,by omega,by omega,rfl,hv.trans a1,hB⟩
      | exact⟨p+3,by omega,by omega,rfl,hv.trans a1,hB⟩
      | exact⟨p+4,by omega,by omega,rfl,hv.trans a1,hB⟩
   refine uw ?_;refine x8 (mo-1) oG agA ?_
   first
     | exact⟨p+1,by omega,by omega,rfl,hv.trans a2,hB⟩
     | exact⟨p+9,by omega,by omega,rfl,hv.trans (a2.trans ac),hB⟩
     | exact⟨p2,by omega,by omega,rfl,hv.trans an,hB⟩
     | exact⟨p+2,by omega,by omega,rfl,hv.trans a1,hB⟩
     | exact⟨p+3,by omega,by omega,rfl,hv.trans a1,hB⟩
     | exact⟨p+4,by omega,by omega,rfl,hv.trans a1,hB⟩
  have bc:128<=gb s p:=by omega
  refine zn3 ?_;have hU2:=hU.mono hB;have hft:=first_256 (gb s p);refine zn2 ?_;refine wl (CQ (i:=(gb s p)) underlying149 J7 rfl rfl hb0 rfl) (wl (qy (v:= .int _ _) U5 rfl rfl (hU2.1.2 _ hb0)) (zn6 ?_));refine wl (r_and7 rfl rfl hft) (wl (CJ U5 U3 rfl oG) (zn6 ?_));refine wl (r_shr8 (b:=4) (c:=(Lib.firstT (gb s p))/16) rfl rfl dE rfl) (wl (CQ (i:=((Lib.firstT (gb s p))/16)) underlying152 sz151 rfl rfl oG rfl) (wl (qw D2 rfl rfl (hU2.2.2 _ oG) sz151) ?_));refine yx (cs:=#[.int .u8 0,.int .u8 0]) ze151 rfl (fun _=>rfl) (fun _=>rfl) sz151 rfl qz (fun b6 ao b5 b1 hr=>?_);refine ZV ?_;refine zQ rfl (fun c76=>?_) (fun c76=>?_)
  ·obtain⟨a5,a3⟩:=ok_n (n:=2) a4 (.inl rfl) oG;refine xV (xV ?_);refine y9 (rg [] 78 17) (fun g w'=>(g 94= .bool (decide (jk s p 2)))/\Same [] ao w') ?_ (fun g17 w16 hI=>?_)
   ·have hZ:SameQ [] ao ao:=Same.refl _ _;refine oZ kR kR (fun w17 s13=>?_);replace hZ:=SameQ.trans hZ s13 (by simp);refine zn4 ?_;refine kK 81 rfl (fun g81=>?_) (fun g81=>?_)
    ·refine uw ?_;refine ux ?_;refine e_R ⟨agA,?_⟩;refine⟨?_,hZ⟩
     first|exact ae (ai (by unfold jk;omega)).symm|exact ae (ap (by unfold jk;omega)).symm|exact ae (aj.2 (by unfold jk;omega))
    refine yV 81 rfl rfl (xz (v:= .string _) rfl) (yV 81 rfl rfl (u7 (i:=1) U9 rfl rfl oG) (yV 81 rfl rfl (u6 D2 J7 dE rfl rfl rfl) (yV 81 rfl rfl (qy (v:= .int _ _) U5 rfl rfl (b5.u.cell rfl)) (yV 81 rfl rfl (YZ rfl rfl) (zn2 ?_)))));refine kK 88 rfl (fun g88=>?_) (fun g88=>?_)
    ·refine zn6 ?_;refine ux ?_;refine e_R ⟨agA,?_⟩;refine⟨?_,hZ⟩
     first|exact ae (ai (by unfold jk;omega)).symm|exact ae (ap (by unfold jk;omega)).symm|exact ae (aj.2 (by unfold jk;omega))
    refine yV 88 rfl rfl (u6 D2 J7 dE rfl rfl rfl) (yV 88 rfl rfl (qy (v:= .int _ _) U5 rfl rfl (b5.u.cell rfl)) (yV 88 rfl rfl (xz (v:= .string _) rfl) (yV 88 rfl rfl (u7 (i:=1) U9 rfl rfl oG) (yV 88 rfl rfl (YZ rfl rfl) (zn1 ?_)))));refine ux ?_;refine e_R ⟨agA,?_⟩;refine⟨?_,hZ⟩
    first|exact ae (ai (by unfold jk;omega)).symm|exact ae (ap (by unfold jk;omega)).symm|exact ae (aj.2 (by unfold jk;omega))
   obtain⟨h94,s14⟩:=hI;refine jj 94 _ h94 nu (e_S ?_);refine zQ rfl (fun bd=>?_) (fun bd=>?_)
   ·have b2:=H4 a4 (a5 bd);refine uw ?_;replace hB:=hB.tr0 (b1.t s14);exact⟨by rw[hv,b2];rfl,hB⟩
   have hnb:2<=s.size-p:=by unfold jk at bd;omega
   obtain⟨bb,b7⟩:=a3 bd;have a1:=H5 a4 bb;rw[b7]at a1;refine zn4 ?_;refine wl (VJ (l:=2) U9 rfl rfl (by unfold jk at bd;omega)) (wl (uK (v:= .string (sdr (p+2) s)) (by exact congrArg Value.string (Q1 _ _ s))) (zn3 ?_));refine x8 (mo-1) oG agA ?_;replace hB:=hB.tr0 (b1.t s14)
   first
     | exact⟨p+1,by omega,by omega,rfl,hv.trans a2,hB⟩
     | exact⟨p+9,by omega,by omega,rfl,hv.trans (a2.trans ac),hB⟩
     | exact⟨p2,by omega,by omega,rfl,hv.trans an,hB⟩
     | exact⟨p+2,by omega,by omega,rfl,hv.trans a1,hB⟩
     | exact⟨p+3,by omega,by omega,rfl,hv.trans a1,hB⟩
     | exact⟨p+4,by omega,by omega,rfl,hv.trans a1,hB⟩
  refine zn6 ?_;refine zQ rfl (fun c97=>?_) (fun c97=>?_)
  ·obtain⟨a5,a3⟩:=ok_n (n:=3) a4 (.inr (.inl rfl)) oG;refine xV (xV ?_);refine y9 (rg [] 99 27) (fun g w'=>(g 125= .bool (decide (jk s p 3)))/\Same [] ao w') ?_ (fun g21 w18 hI=>?_)
   ·have hZ:SameQ [] ao ao:=Same.refl _ _;refine oZ kR kR (fun w19 s15=>?_);replace hZ:=SameQ.trans hZ s15 (by simp);refine zn4 ?_;refine kK 102 rfl (fun br=>?_) (fun br=>?_)
    ·refine zn23 ?_;refine ux ?_;refine e_R ⟨agA,?_⟩;refine⟨?_,hZ⟩
     first|exact ae (ai (by unfold jk;omega)).symm|exact ae (ap (by unfold jk;omega)).symm|exact ae (aj.2 (by unfold jk;omega))
    refine yV 102 rfl rfl (xz (v:= .string _) rfl) (yV 102 rfl rfl (u7 (i:=1) U9 rfl rfl oG) (yV 102 rfl rfl (u6 D2 J7 dE rfl rfl rfl) (yV 102 rfl rfl (qy (v:= .int _ _) U5 rfl rfl (b5.u.cell rfl)) (yV 102 rfl rfl (YZ rfl rfl) (zn2 ?_)))));refine kK 109 rfl (fun bq=>?_) (fun bq=>?_)
    ·refine Kz ?_;refine ux ?_;refine e_R ⟨agA,?_⟩;refine⟨?_,hZ⟩
     first|exact ae (ai (by unfold jk;omega)).symm|exact ae (ap (by unfold jk;omega)).symm|exact ae (aj.2 (by unfold jk;omega))
    refine yV 109 rfl rfl (u6 D2 J7 dE rfl rfl rfl) (yV 109 rfl rfl (qy (v:= .int _ _) U5 rfl rfl (b5.u.cell rfl)) (yV 109 rfl rfl (xz (v:= .string _) rfl) (yV 109 rfl rfl (u7 (i:=1) U9 rfl rfl oG) (yV 109 rfl rfl (YZ rfl rfl) (zn2 ?_)))));refine kK 116 rfl (fun bo=>?_) (fun bo=>?_)
    ·refine zn9 ?_;refine ux ?_;refine e_R ⟨agA,?_⟩;refine⟨?_,hZ⟩
     first|exact ae (ai (by unfold jk;omega)).symm|exact ae (ap (by unfold jk;omega)).symm|exact ae (aj.2 (by unfold jk;omega))
    refine yV 116 rfl rfl (xz (v:= .string _) rfl) (yV 116 rfl rfl (u7 (i:=2) U9 rfl rfl oG) (yV 116 rfl rfl (YZ rfl rfl) (zn2 ?_)));refine kK 121 rfl (fun bn=>?_) (fun bn=>?_)
    ·refine zn4 ?_;refine ux ?_;refine e_R ⟨agA,?_⟩;refine⟨?_,hZ⟩
     first|exact ae (ai (by unfold jk;omega)).symm|exact ae (ap (by unfold jk;omega)).symm|exact ae (aj.2 (by unfold jk;omega))
    refine yV 121 rfl rfl (xz (v:= .string _) rfl) (yV 121 rfl rfl (u7 (i:=2) U9 rfl rfl oG) (yV 121 rfl rfl (YZ rfl rfl) (zn1 ?_)));refine ux ?_;refine e_R ⟨agA,?_⟩;refine⟨?_,hZ⟩
    first|exact ae (ai (by unfold jk;omega)).symm|exact ae (ap (by unfold jk;omega)).symm|exact ae (aj.2 (by unfold jk;omega))
   obtain⟨bf,s16⟩:=hI;refine jj 125 _ bf nu (e_S ?_);refine zQ rfl (fun ab=>?_) (fun ab=>?_)
   ·have b2:=H4 a4 (a5 ab);refine uw ?_;replace hB:=hB.tr0 (b1.t s16);exact⟨by rw[hv,b2];rfl,hB⟩
   have hnb:3<=s.size-p:=by unfold jk at ab;omega
   obtain⟨bb,b7⟩:=a3 ab;have a1:=H5 a4 bb;rw[b7]at a1;refine zn4 ?_;refine wl (VJ (l:=3) U9 rfl rfl (by unfold jk at ab;omega)) (wl (uK (v:= .string (sdr (p+3) s)) (by exact congrArg Value.string (Q1 _ _ s))) (zn3 ?_));refine x8 (mo-1) oG agA ?_;replace hB:=hB.tr0 (b1.t s16)
   first
     | exact⟨p+1,by omega,by omega,rfl,hv.trans a2,hB⟩
     | exact⟨p+9,by omega,by omega,rfl,hv.trans (a2.trans ac),hB⟩
     | exact⟨p2,by omega,by omega,rfl,hv.trans an,hB⟩
     | exact⟨p+2,by omega,by omega,rfl,hv.trans a1,hB⟩
     | exact⟨p+3,by omega,by omega,rfl,hv.trans a1,hB⟩
     | exact⟨p+4,by omega,by omega,rfl,hv.trans a1,hB⟩
  refine zn6 ?_;refine zQ rfl (fun bt=>?_) (fun bt=>?_)
  ·obtain⟨a5,a3⟩:=ok_n (n:=4) a4 (.inr (.inr rfl)) oG;refine xV (xV ?_);refine y9 (rg [] 130 37) (fun g w'=>(g 166= .bool (decide (jk s p 4)))/\Same [] ao w') ?_ (fun g25 w20 hI=>?_)
   ·have hZ:SameQ [] ao ao:=Same.refl _ _;refine oZ kR kR (fun w21 s17=>?_);replace hZ:=SameQ.trans hZ s17 (by simp);refine zn4 ?_;refine kK 133 rfl (fun bm=>?_) (fun bm=>?_)
    ·refine zn30 ?_;refine zn3 ?_;refine ux ?_;refine e_R ⟨agA,?_⟩;refine⟨?_,hZ⟩
     first|exact ae (ai (by unfold jk;omega)).symm|exact ae (ap (by unfold jk;omega)).symm|exact ae (aj.2 (by unfold jk;omega))
    refine yV 133 rfl rfl (xz (v:= .string _) rfl) (yV 133 rfl rfl (u7 (i:=1) U9 rfl rfl oG) (yV 133 rfl rfl (u6 D2 J7 dE rfl rfl rfl) (yV 133 rfl rfl (qy (v:= .int _ _) U5 rfl rfl (b5.u.cell rfl)) (yV 133 rfl rfl (YZ rfl rfl) (zn2 ?_)))));refine kK 140 rfl (fun bk=>?_) (fun bk=>?_)
    ·refine zn26 ?_;refine ux ?_;refine e_R ⟨agA,?_⟩;refine⟨?_,hZ⟩
     first|exact ae (ai (by unfold jk;omega)).symm|exact ae (ap (by unfold jk;omega)).symm|exact ae (aj.2 (by unfold jk;omega))
    refine yV 140 rfl rfl (u6 D2 J7 dE rfl rfl rfl) (yV 140 rfl rfl (qy (v:= .int _ _) U5 rfl rfl (b5.u.cell rfl)) (yV 140 rfl rfl (xz (v:= .string _) rfl) (yV 140 rfl rfl (u7 (i:=1) U9 rfl rfl oG) (yV 140 rfl rfl (YZ rfl rfl) (zn2 ?_)))));refine kK 147 rfl (fun bj=>?_) (fun bj=>?_)
    ·refine zn19 ?_;refine ux ?_;refine e_R ⟨agA,?_⟩;refine⟨?_,hZ⟩
     first|exact ae (ai (by unfold jk;omega)).symm|exact ae (ap (by unfold jk;omega)).symm|exact ae (aj.2 (by unfold jk;omega))
    refine yV 147 rfl rfl (xz (v:= .string _) rfl) (yV 147 rfl rfl (u7 (i:=2) U9 rfl rfl oG) (yV 147 rfl rfl (YZ rfl rfl) (zn2 ?_)));refine kK 152 rfl (fun bi=>?_) (fun bi=>?_)
    ·refine ZV ?_;refine ux ?_;refine e_R ⟨agA,?_⟩;refine⟨?_,hZ⟩
     first|exact ae (ai (by unfold jk;omega)).symm|exact ae (ap (by unfold jk;omega)).symm|exact ae (aj.2 (by unfold jk;omega))
    refine yV 152 rfl rfl (xz (v:= .string _) rfl) (yV 152 rfl rfl (u7 (i:=2) U9 rfl rfl oG) (yV 152 rfl rfl (YZ rfl rfl) (zn2 ?_)));refine kK 157 rfl (fun bh=>?_) (fun bh=>?_)
    ·refine zn9 ?_;refine ux ?_;refine e_R ⟨agA,?_⟩;refine⟨?_,hZ⟩
     first|exact ae (ai (by unfold jk;omega)).symm|exact ae (ap (by unfold jk;omega)).symm|exact ae (aj.2 (by unfold jk;omega))
    refine yV 157 rfl rfl (xz (v:= .string _) rfl) (yV 157 rfl rfl (u7 (i:=3) U9 rfl rfl oG) (yV 157 rfl rfl (YZ rfl rfl) (zn2 ?_)));refine kK 162 rfl (fun bg=>?_) (fun bg=>?_)
    ·refine zn4 ?_;refine ux ?_;refine e_R ⟨agA,?_⟩;refine⟨?_,hZ⟩
     first|exact ae (ai (by unfold jk;omega)).symm|exact ae (ap (by unfold jk;omega)).symm|exact ae (aj.2 (by unfold jk;omega))
    refine yV 162 rfl rfl (xz (v:= .string _) rfl) (yV 162 rfl rfl (u7 (i:=3) U9 rfl rfl oG) (yV 162 rfl rfl (YZ rfl rfl) (zn1 ?_)));refine ux ?_;refine e_R ⟨agA,?_⟩;refine⟨?_,hZ⟩
    first|exact ae (ai (by unfold jk;omega)).symm|exact ae (ap (by unfold jk;omega)).symm|exact ae (aj.2 (by unfold jk;omega))
   obtain⟨be,s18⟩:=hI;refine jj 166 _ be nu (e_S ?_);refine zQ rfl (fun a9=>?_) (fun a9=>?_)
   ·have b2:=H4 a4 (a5 a9);refine uw ?_;replace hB:=hB.tr0 (b1.t s18);exact⟨by rw[hv,b2];rfl,hB⟩
   have hnb:4<=s.size-p:=by unfold jk at a9;omega
   obtain⟨bb,b7⟩:=a3 a9;have a1:=H5 a4 bb;rw[b7]at a1;refine zn4 ?_;refine wl (VJ (l:=4) U9 rfl rfl (by unfold jk at a9;omega)) (wl (uK (v:= .string (sdr (p+4) s)) (by exact congrArg Value.string (Q1 _ _ s))) (zn3 ?_));refine x8 (mo-1) oG agA ?_;replace hB:=hB.tr0 (b1.t s18)
   first
     | exact⟨p+1,by omega,by omega,rfl,hv.trans a2,hB⟩
     | exact⟨p+9,by omega,by omega,rfl,hv.trans (a2.trans ac),hB⟩
     | exact⟨p2,by omega,by omega,rfl,hv.trans an,hB⟩
     | exact⟨p+2,by omega,by omega,rfl,hv.trans a1,hB⟩
     | exact⟨p+3,by omega,by omega,rfl,hv.trans a1,hB⟩
     | exact⟨p+4,by omega,by omega,rfl,hv.trans a1,hB⟩
  have b2:=H4 a4 (ok_bad bc oG oG oG);refine vj ?_;replace hB:=hB.tr0 b1;exact⟨by rw[hv,b2];rfl,hB⟩
 have hsp:=yX p s;refine vj ?_;exact⟨by rw[hv,vq_end oG];rfl,hB⟩
theorem wrap8{a:Nat}(h:a<256):IntKind.u8.wrap (a:Int)=a:=by
 have:∀ a:Nat,a<256->IntKind.u8.wrap (a:Int)=a:=by decide +kernel
 exact this a h
theorem ixl_any(s:ByteArray)(c:Int)(w:World):Calls prog 115 #[.string s,.int .u8 c] w fun e w'=>e= .returned (.int .i64 (Lib.indexByte (bl s) c.toNat.toUInt8))/\w=w':=by
 refine enter func115 ntmps115 rfl (aD rfl) (zn9 ?_);refine wl (r_ext (args:=[.string s,.int .u8 c]) (run_ixb (P:=prog) func116 kR kR kR kR) rfl) (zn5 ?_);exact⟨rfl,rfl⟩
theorem Gz(s:ByteArray)(c:Int)(w:World):Calls prog 111 #[.string s,.int .u8 c] w fun e w'=>e= .returned (.int .i64 (Lib.indexByte (bl s) c.toNat.toUInt8))/\w=w':=by
 refine enter func111 ntmps111 rfl (aD rfl) (zn9 ?_);refine qq kR (ixl_any s c _) rfl (fun e' w1 hr=>?_);obtain⟨rfl,rfl⟩:=hr;refine⟨_,rfl,?_⟩;refine zn5 ?_;exact⟨rfl,rfl⟩
theorem vrune_any(r:Int)(w:World):Calls prog 112 #[.int .i32 r] w fun e w'=>(∃ b,e= .returned (.bool b))/\w=w':=by
 refine enter func112 ntmps112 rfl (aD rfl) (zn8 ?_);refine xw [3,4,5,6,7,8,9] 3 (.bool (decide (0<=r/\r<55296))) nu ?_ (fun gq=>?_)
 ·refine zn4 ?_;refine zw 6 rfl (fun g6=>?_) (fun g6=>?_)
  ·refine zn6 ?_;refine zJ (e_R ⟨rfl,agA,?_⟩);exact clA
  refine zn4 ?_;refine zJ (e_R ⟨rfl,agA,?_⟩);exact clA
 refine e_S ?_;refine zQ rfl (fun c3=>?_) (fun c3=>?_)
 ·refine zn9 ?_;exact⟨⟨true,rfl⟩,rfl⟩
 refine xV ?_;refine xw [10,11,12,13,14,15,16] 10 (.bool (decide (57343<r/\r<=1114111))) nu ?_ (fun gq=>?_)
 ·refine zn4 ?_;refine zw 13 rfl (fun g13=>?_) (fun g13=>?_)
  ·refine zn6 ?_;refine zJ (e_R ⟨rfl,agA,?_⟩);exact clA
  refine zn4 ?_;refine zJ (e_R ⟨rfl,agA,?_⟩);exact clA
 refine e_S ?_;refine zQ rfl (fun c10=>?_) (fun c10=>?_)
 ·refine zn9 ?_;exact⟨⟨true,rfl⟩,rfl⟩
 refine yW ?_;exact⟨⟨false,rfl⟩,rfl⟩
theorem sua_any(n:Nat)(w:World):Calls prog 105 #[.int .i64 ((n:Nat):Int)] w fun e w'=>e= .returned (.bool (decide (8<n)))/\w=w':=by
 refine enter func105 ntmps105 rfl (aD rfl) (ZV ?_);exact⟨congrArg (fun z=>Ending.returned (.bool z)) (aj.2 (by constructor<;>(intro h;omega))),rfl⟩
set_option maxRecDepth 100000 in
set_option maxHeartbeats 4000000 in
theorem ixr_any(r:Nat)(w:World):Calls prog 104 #[.string CH,.int .i32 ((r:Nat):Int)] w fun e w'=>(∃ z:Int,e= .returned (.int .i64 z)/\(0<=z↔spc r=true))/\Bel w w':=by
 have hcs:CH.size=9:=rfl;refine enT func104 ntmps104 rfl rfl fun hB=>?_;refine zn7 ?_;refine xw [160,161,162,163,164,165,166] 160 (.bool (decide (0<=(r:Int)/\(r:Int)<128))) nu ?_ (fun gq=>?_)
 ·refine zn4 ?_;refine zw 163 rfl (fun an=>?_) (fun an=>?_)
  ·refine zn6 ?_;refine zJ (e_R ⟨rfl,agA,?_⟩);exact clA
  refine zn4 ?_;refine zJ (e_R ⟨rfl,agA,?_⟩);exact clA
 refine e_S ?_;refine zQ rfl (fun b2=>?_) (fun b2=>?_)
 ·refine zn4 ?_;refine wl (E2 underlying21 U5 rfl (wrap8 oG)) ?_;refine qq kR (Gz CH _ _) rfl (fun e' w1 hr=>?_);obtain⟨rfl,rfl⟩:=hr;refine⟨_,rfl,?_⟩;refine zn6 ?_;have h:=ch_ix r oG;exact⟨⟨_,rfl,by rw[<- h,decide_eq_true_iff];rfl⟩,hB⟩
 have a9:spc r=false:=by cases h:spc r with|false=>rfl|true=>have:=RW h;omega
 have a4:128<=r:=by omega
 refine zn7 ?_;refine zQ rfl (fun b1=>?_) (fun b1=>?_)
 ·refine zn4 ?_;refine wl_rg U9 rfl (fun b3 w2 a1 s1 hr=>?_);have a3:=hB.ob hr;refine zn3 ?_;refine qx (rg [4,5,6] 176 7) (fun m g w'=>∃ p:Nat,p<=9/\m=9-p/\Bel w w'/\ItIn w' b3 CH p) (9) ?_ (fun m g38 w3 hI=>?_)
  ·exact⟨0,by omega,rfl,hB.u,a1⟩
  obtain⟨p,hp,hm,hB,a1⟩:=hI;refine zn2 ?_;rcases aQ (p) (CH).size with hnlt|hnge
  ·refine wl_nx a1 rfl hnlt (fun w4 hq s2=>?_);replace a1:=hq;have hwl:=N4 (ch_lt p oG);have hlt:=ch_lt p oG;refine wl (vY (v:= .bool true) rfl rfl) (zn9 ?_);refine wl (vY (v:= .int _ _) rfl rfl) (wl (vY (v:= .int _ _) rfl rfl) (yW ?_));refine zQ rfl (fun a5=>?_) (fun a5=>?_)
   ·exact absurd a5 (by rw[hwl.2];omega)
   refine Yj (e_B (x8 (9-(p+1)) oG agA ?_));replace hB:=hB.tr1 s2 a3;exact⟨p+1,by omega,rfl,hB,by have h:=a1;rw[show (Utf8.decode CH p).2=1 from hwl.1]at h;exact h⟩
  refine wl (r_ne a1 rfl (Nat.not_lt.2 hnge)) (wl (vY (v:= .bool false) rfl rfl) (PK ?_));exact⟨⟨-1,rfl,⟨fun h=>by omega,fun h=>by rw[a9]at h;cases h⟩⟩,hB⟩
 refine zn3 ?_;refine qq kR (vrune_any _ _) rfl (fun e' w5 hr=>?_);obtain⟨⟨bv,rfl⟩,rfl⟩:=hr;refine⟨_,rfl,?_⟩;refine zn4 ?_;refine jQ rfl (fun ao=>?_) (fun ao=>?_)
 ·refine zn8 ?_;exact⟨⟨-1,rfl,⟨fun h=>by omega,fun h=>by rw[a9]at h;cases h⟩⟩,hB⟩
 refine c_scope (zn3 ?_);refine wl (r_rstr underlying21 U9 rfl) (zn4 ?_);obtain⟨hE2,hE4,hEh⟩:=enc_hi a4;refine zn3 ?_;refine wl (kZ (c:=(((Utf8.encode (r:Int)).size-1:Nat):Int)) rfl rfl oG oG) (Kz ?_);refine qx (rg [4,9,10,11,12] 23 76) (fun m g w'=>m=0/\g 9= .int .i64 (((Utf8.encode (r:Int)).size-1:Nat):Int)/\Bel w w') (0) ?_ (fun m g5 w6 hI=>?_)
 ·exact⟨rfl,rfl,hB⟩
 obtain⟨hm,h9,hB⟩:=hI;refine zX 9 _ h9 nu (zn9 ?_);refine zQ rfl (fun c26=>?_) (fun c26=>?_)
 ·obtain⟨ii,ab⟩:∃ x,x=(Utf8.encode (r:Int)).size-1:=⟨_,rfl⟩
  have hi9:ii<9:=by omega
  have hclo:=ch_lt ii hi9;have ac:=hEh ((Utf8.encode (r:Int)).size-1) oG;have a2:Lib.indexByte (bl (sdr (ii+1) CH)) (((gb (Utf8.encode (r:Int)) ((Utf8.encode (r:Int)).size-1):Nat):Int)).toNat.toUInt8<0:=by
    refine ixb_none (fun hm=>?_);rw[Iw]at hm;have h1:=List.mem_of_mem_drop hm;have h2:∀ x∈bl CH,x.toNat<128:=by decide
    have h3:=h2 _ h1;have h4:=ov (Utf8.encode (r:Int)) ((Utf8.encode (r:Int)).size-1);rw[Int.toNat_natCast,show ((gb (Utf8.encode (r:Int)) ((Utf8.encode (r:Int)).size-1))).toUInt8.toNat=gb (Utf8.encode (r:Int)) ((Utf8.encode (r:Int)).size-1)from Nat.mod_eq_of_lt h4]at h3;omega
  rw[<- ab]at a2 ac;refine zn3 ?_;refine c_scope (xV (xV ?_));refine oZ kR kR (fun w7 s3=>?_);refine zn2 ?_;refine ws (u7 (i:=((Utf8.encode (r:Int)).size-1)) U9 rfl rfl oG) (zn2 ?_);refine ws (u7 (i:=((Utf8.encode (r:Int)).size-1)) U9 rfl rfl oG) (zn1 ?_);refine ux (e_S ?_);refine zQ rfl (fun c33=>?_) (fun c33=>?_)
  ·refine xV ?_;refine oZ kR kR (fun w8 s4=>?_);refine zn2 ?_;refine ws (Z4 (c:=((ii+1:Nat):Int)) rfl rfl (by rw[<- ab];rfl) oG) (ws (VJ (l:=(ii+1)) U9 rfl rfl oG) (zn2 ?_));refine ws (u7 (i:=((Utf8.encode (r:Int)).size-1)) U9 rfl rfl oG) (ws_cl kR (Gz (sdr (ii+1) CH) _ _) rfl (zn1 ?_));refine ux (zn8 ?_);refine zQ rfl (fun c43=>?_) (fun c43=>?_)
   ·refine zn8 ?_;refine e_Nr (zn4 ?_);refine e_Nr (zn2 ?_);replace hB:=hB.tr0 (s3.t s4);exact⟨⟨-1,rfl,⟨fun h=>by omega,fun h=>by rw[a9]at h;cases h⟩⟩,hB⟩
   exact absurd (by rw[<- ab];exact a2) c43
  exact absurd (fun h=>by rw[<- ab]at h;omega) c33
 refine uw ?_;refine e_Nr (zn2 ?_);exact⟨⟨-1,rfl,⟨fun h=>by omega,fun h=>by rw[a9]at h;cases h⟩⟩,hB⟩
abbrev aa:Array Value:=Array.replicate 256 (.bool false)
theorem sz169:(prog.info? 169).map (·.size)=some 256:=by kernel_rfl
theorem ze169:(prog.info? 169).map (·.zero)=some (some (.agg aa)):=by kernel_rfl
theorem mas_any(w:World):Calls prog 106 #[.string CH] w fun e w'=>e= .returned (.tuple #[.agg (row 256 (fun x=> .bool (spc x))),.bool true])/\Bel w w':=by
 have hcs:CH.size=9:=rfl;refine enT func106 ntmps106 rfl rfl fun hB=>?_;refine zn2 ?_;refine qW (cs:=aa) ze169 rfl (fun b2 w1 a1 s1 hr=>?_)
 have lo2:=hB.ob hr;refine yW ?_;refine qx (rg [] 3 17) (fun m g w'=>∃ k:Nat,k<=9/\m=9-k/\g 4= .int .i64 k/\Bel w w'/\Blk w' b2 169 (row 256 (fun x=> .bool (chs k x)))) (9) ?_ (fun m g2 w2 hI=>?_)
 ·exact⟨0,ag _,rfl,rfl,hB.u,a1⟩
 obtain⟨k,hk,hm,h4,hB,a1⟩:=hI;refine zX 4 _ h4 nu (zn9 ?_);refine zQ rfl (fun c9=>?_) (fun c9=>?_)
 ·have a2:k<9:=by omega
  have hlo:=ch_lt k a2;refine zn8 ?_;refine wl (u7 (i:=k) U9 rfl rfl oG) (yW ?_);refine zQ rfl (fun c16=>?_) (fun c16=>?_)
  ·exact absurd c16 oG
  refine zn4 ?_;refine wl (CQ (i:=(gb CH k)) U169 j8 rfl rfl oG rfl) ?_;refine xQ (v:= .bool _) a1 rfl rfl j8 (by rw[row_size];omega) rfl kv (fun w3 hq s2=>?_);replace a1:=hq;rw[xJ (g':=fun x=> .bool (chs (k+1) x)) (fun x _=>by rw[chs_step];by_cases e:x=gb CH k<;>simp[e])]at a1;refine zn8 ?_;refine x8 (9-(k+1)) oG agA ?_;exact⟨k+1,by omega,rfl,rfl,hB.u,a1⟩
 have a2:k=9:=by omega
 subst a2;have a3:Blk w2 b2 169 (row 256 (fun x=> .bool (spc x))):=by rw[xJ (g':=fun x=> .bool (chs 9 x)) (fun x hx=>by rw[chs_all x hx])];exact a1
 refine zn6 ?_;replace a1:=a3;refine zn2 ?_;refine zZ a1 rfl rfl sz169 rfl qz (fun w4 hq s3=>?_);replace a1:=hq;refine zn4 ?_;refine QK (.inl rfl) rfl (zW U169 rfl rfl a1.range0 sz169) rfl ?_;exact⟨rfl,hB.u⟩
theorem cnt_any(b6 c:Nat)(w:World)(hb6:Blk w b6 169 (row 256 (fun x=> .bool (spc x))))(hc:c<256):Calls prog 107 #[.pointer (some ⟨b6,0,none⟩),.int .u8 ((c:Nat):Int)] w fun e w'=>e= .returned (.bool (spc c))/\w=w':=by
 refine enter func107 ntmps107 rfl (aD rfl) (zn7 ?_);refine wl (xz (v:= .pointer (some _)) rfl) (wmI rfl (wl (X8 rfl) (wl (CQ (i:=c) U169 j8 rfl rfl hc rfl) (wl (qy (v:= .bool _) U4 rfl rfl (hb6.cell (vW hc))) (zn5 ?_)))));exact⟨rfl,rfl⟩
theorem ixa_any(s:ByteArray)(w:World)(hsz:s.size<9223372036854775807):Calls prog 95 #[.string s,.string CH] w fun e w'=>(∃ z:Int,e= .returned (.int .i64 z)/\(0<=z↔brd s 0=true))/\Bel w w':=by
 refine enT func95 ntmps95 rfl rfl fun hB=>?_;refine vj ?_;refine zQ rfl (fun c12=>?_) (fun c12=>?_)
 ·exact absurd c12 dE
 refine yW ?_;refine zQ rfl (fun c15=>?_) (fun c15=>?_)
 ·exact absurd c15 dE
 refine zn7 ?_;refine qq kR (sua_any s.size _) rfl (fun e' w1 hr=>?_);obtain⟨rfl,rfl⟩:=hr;refine⟨_,rfl,?_⟩;refine zJ (e_S ?_);refine jQ rfl (fun c26=>?_) (fun c26=>?_)
 ·refine zn3 ?_;refine ba kR (mas_any _) rfl (fun w2 s1=>?_);refine wmT rfl (wl (vY (v:= .agg _) rfl rfl) (wl (vY (v:= .bool _) rfl rfl) ?_));refine yx (cs:=aa) ze169 rfl (fun _=>rfl) (fun _=>rfl) sz169 rfl qz (fun b6 w4 a4 s2 hr=>?_)
  refine zn8 ?_;refine jQ rfl (fun c32=>?_) (fun c32=>?_)
  ·refine zn7 ?_;refine qx (rg [4,8] 33 11) (fun m g w'=>∃ k:Nat,k<=s.size/\m=s.size-k/\g 8= .int .i64 k/\Bel w w'/\Blk w' b6 169 (row 256 (fun x=> .bool (spc x)))/\∀ j,j<k->spc (gb s j)=false) (s.size) ?_ (fun m g12 w5 hI=>?_)
   ·exact⟨0,ag _,rfl,rfl,hB.u,a4,fun j hj=>by omega⟩
   obtain⟨k,hk,hm,h8,hB,a4,a2⟩:=hI;refine zX 8 _ h8 nu (zn9 ?_);refine zQ rfl (fun c36=>?_) (fun c36=>?_)
   ·refine zn8 ?_;refine wl (u7 (i:=k) U9 rfl rfl oG) ?_;refine qq kR (cnt_any b6 _ _ a4 (ov s k)) rfl (fun e' w6 hr=>?_);obtain⟨rfl,rfl⟩:=hr;refine⟨_,rfl,?_⟩;refine zJ (e_S ?_);refine jQ rfl (fun ab=>?_) (fun ab=>?_)
    ·refine ZV ?_;exact⟨⟨_,rfl,⟨fun _=>brd_byte (m:=s.size) oG (ag k) oG ab,fun _=>Int.natCast_nonneg k⟩⟩,hB⟩
    refine zn8 ?_;refine x8 (s.size-(k+1)) oG agA ?_
    exact⟨k+1,by omega,rfl,rfl,hB,a4,fun j hj=>by
      by_cases e:j=k
      · subst e;simpa using ab
      · exact a2 j oG⟩
   refine uw ?_;have hno:brd s 0=false:=by
     cases h:brd s 0 with
     | false=>rfl
     | true=>
       obtain⟨q,_,h2,h3⟩:=byte_brd (m:=s.size) oG h;rw[a2 q oG]at h3;cases h3
   exact⟨⟨-1,rfl,⟨fun h=>by omega,fun h=>by rw[hno]at h;cases h⟩⟩,hB⟩
  exact absurd c32 dE
 refine zn6 ?_;refine wl_rg U9 rfl (fun b45 w7 a1 s3 hr=>?_);have a5:=hB.ob hr;refine zn3 ?_;refine qx (rg [4,9,10] 46 9) (fun m g w'=>∃ p:Nat,p<=s.size/\s.size-p<=m/\Bel w w'/\ItIn w' b45 s p/\brd s 0=brd s p) (s.size) ?_ (fun m g18 w8 hI=>?_)
 ·exact⟨0,ag _,ah _,hB.u,a1,rfl⟩
 obtain⟨p,hp,hm,hB,a1,a3⟩:=hI;refine zn2 ?_;rcases aQ (p) (s).size with hnlt|hnge
 ·refine wl_nx a1 rfl hnlt (fun w9 hq s4=>?_);replace a1:=hq;have hwp:=Yw hnlt;have hwl:=Rz hnlt;refine wl (vY (v:= .bool true) rfl rfl) (zn9 ?_);refine wl (vY (v:= .int _ _) rfl rfl) (wl (vY (v:= .int _ _) rfl rfl) (zn8 ?_));refine qq kR (ixr_any _ _) rfl (fun e' w10 hr=>?_);obtain⟨⟨z,rfl,hz⟩,s5⟩:=hr;replace s5:=sB s5;refine⟨_,rfl,?_⟩;refine zn3 ?_;refine zQ rfl (fun a9=>?_) (fun a9=>?_)
  ·have hbt:brd s 0=true:=by rw[a3,J2 hnlt,hz.1 a9];rfl
   refine vj ?_;exact⟨⟨_,rfl,⟨fun _=>hbt,fun _=>Int.natCast_nonneg p⟩⟩,hB.u⟩
  have hsn:spc (Utf8.decode s p).1=false:=by cases h:spc (Utf8.decode s p).1 with|false=>rfl|true=>exact absurd (hz.2 h) a9
  refine Yj (e_B (x8 (m-1) oG agA ?_));replace hB:=(hB.tr1 s4 a5).tr0 s5;replace a1:=a1.tr0 s5;exact⟨p+wdt s p,hwl,by omega,hB,a1,by rw[a3,J2 hnlt,hsn,Bool.false_or]⟩
 refine wl (r_ne a1 rfl (Nat.not_lt.2 hnge)) ?_;rw[Dw (Nat.not_lt.2 hnge)]at a3;refine wl (vY (v:= .bool false) rfl rfl) (Kz ?_);exact⟨⟨-1,rfl,⟨fun h=>by omega,fun h=>by rw[a3]at h;cases h⟩⟩,hB⟩
theorem cany_any(s:ByteArray)(w:World)(hsz:s.size<9223372036854775807):Calls prog 78 #[.string s,.string CH] w fun e w'=>e= .returned (.bool (brd s 0))/\Bel w w':=by
 refine enT func78 ntmps78 rfl rfl fun hB=>?_;refine zn9 ?_;refine qq kR (ixa_any s _ hsz) rfl (fun e' w1 hr=>?_);obtain⟨⟨z,rfl,hz⟩,s1⟩:=hr;replace s1:=sB s1;refine⟨_,rfl,?_⟩;refine zn6 ?_;replace hB:=hB.tr0 s1;exact⟨congrArg (fun b=>Ending.returned (.bool b)) (by cases h:brd s 0 with|true=>exact ai (hz.2 h)|false=>exact ap (fun h2=>by rw[hz.1 h2]at h;cases h)),hB⟩
set_option maxHeartbeats 1000000 in
theorem word_p(s:ByteArray)(w:World)(hU:U8In w)(hsz:s.size<9223372036854775807):Calls Tryz.prog 59 #[.string s] w fun e w'=>e= .returned (.bool (kw s))/\Bel w w':=by
 refine enT Tryz.func59 Tryz.ntmps59 rfl rfl fun hB=>?_;refine zn8 ?_;refine ba kR (rc_any s _ hsz) rfl (fun w1 s1=>?_);refine zn8 ?_;refine zw 8 rfl (fun g8=>?_) (fun g8=>?_)
 ·refine zn6 ?_;refine zw 12 rfl (fun g12=>?_) (fun g12=>?_)
  ·refine zn3 ?_;refine ba kR (valid_any s _ (hU.mono hB.u) hsz) rfl (fun w2 s2=>?_);refine zn2 ?_;refine XW 16 rfl (fun a1=>?_) (fun a1=>?_)
   ·refine zn3 ?_;refine ba kR (cany_any s _ hsz) rfl (fun w3 s3=>?_);refine zn8 ?_;replace hB:=hB.tr0 (s1.t (s2.t s3));exact⟨congrArg (fun b=>Ending.returned (.bool b)) (by unfold kw;first|(rw[decide_eq_true (show 1<=(ch s 0).length by omega),decide_eq_true (show (ch s 0).length<=30 by omega),a1];rfl)|(rw[decide_eq_true (show 1<=(ch s 0).length by omega),decide_eq_true (show (ch s 0).length<=30 by omega),Bool.eq_false_iff.2 a1];rfl)|(rw[decide_eq_false (show ¬(ch s 0).length<=30 by omega)];simp)|(rw[decide_eq_false (show ¬1<=(ch s 0).length by omega)];rfl)),hB⟩
   refine zn9 ?_;replace hB:=hB.tr0 (s1.t s2);exact⟨congrArg (fun b=>Ending.returned (.bool b)) (by unfold kw;first|(rw[decide_eq_true (show 1<=(ch s 0).length by omega),decide_eq_true (show (ch s 0).length<=30 by omega),a1];rfl)|(rw[decide_eq_true (show 1<=(ch s 0).length by omega),decide_eq_true (show (ch s 0).length<=30 by omega),Bool.eq_false_iff.2 a1];rfl)|(rw[decide_eq_false (show ¬(ch s 0).length<=30 by omega)];simp)|(rw[decide_eq_false (show ¬1<=(ch s 0).length by omega)];rfl)),hB⟩
  refine uw ?_;replace hB:=hB.tr0 s1;exact⟨congrArg (fun b=>Ending.returned (.bool b)) (by unfold kw;first|(rw[decide_eq_true (show 1<=(ch s 0).length by omega),decide_eq_true (show (ch s 0).length<=30 by omega),a1];rfl)|(rw[decide_eq_true (show 1<=(ch s 0).length by omega),decide_eq_true (show (ch s 0).length<=30 by omega),Bool.eq_false_iff.2 a1];rfl)|(rw[decide_eq_false (show ¬(ch s 0).length<=30 by omega)];simp)|(rw[decide_eq_false (show ¬1<=(ch s 0).length by omega)];rfl)),hB⟩
 refine PK ?_;replace hB:=hB.tr0 s1;exact⟨congrArg (fun b=>Ending.returned (.bool b)) (by unfold kw;first|(rw[decide_eq_true (show 1<=(ch s 0).length by omega),decide_eq_true (show (ch s 0).length<=30 by omega),a1];rfl)|(rw[decide_eq_true (show 1<=(ch s 0).length by omega),decide_eq_true (show (ch s 0).length<=30 by omega),Bool.eq_false_iff.2 a1];rfl)|(rw[decide_eq_false (show ¬(ch s 0).length<=30 by omega)];simp)|(rw[decide_eq_false (show ¬1<=(ch s 0).length by omega)];rfl)),hB⟩
theorem sz122:(Tryz.prog.info? 122).map (·.size)=some 1:=by kernel_rfl
theorem ze122:(Tryz.prog.info? 122).map (·.zero)=some (some (.nilFunc)):=by kernel_rfl
set_option maxHeartbeats 1000000 in
theorem H8(A B:Option Addr)(c m:Nat)(t:Tm)(w:World)(hS:SimsIn w A t.type.args)(hT:TmsIn w B t.args):Calls Tryz.prog 58 #[.agg (cA (t) A c B m)] w fun e w'=>e= .returned (flV (tmF t))/\Bel w w':=by
 refine enT Tryz.func58 Tryz.ntmps58 rfl rfl fun hB=>?_;refine zn2 ?_;refine xy (v:= .agg #[_,_,_,_,_,_]) (cs:=#[_,_,_,_,_,_]) rfl rfl (fun b1 w1 a2 t1 hr=>?_);refine qW (cs:=#[.int .i64 0,.int .i64 0]) x6 rfl (fun b2 w2 a1 t2 hr=>?_);have:=a2.ob hr;have ac:=hB.u.ob hr;refine zn4 ?_;refine qW (cs:=#[.int .i64 0]) Z1 rfl (fun b3 w3 a5 t3 hr=>?_);have:=a2.u.ob hr;have:=a1.ob hr;have ab:=hB.u.ob hr;refine xQ (v:= .int _ _) a5 rfl rfl qk (by first|decide|simp) rfl rfl (fun w4 hq t4=>?_);replace a5:=hq;refine zn4 ?_;refine qW (cs:=#[.nilFunc]) ze122 rfl (fun b4 w5 a4 t5 hr=>?_);have:=a2.u.ob hr;have:=a1.u.ob hr;have:=a5.ob hr;have lo4:=hB.u.ob hr;refine zn4 ?_;refine wl (r_mf rfl) ?_;refine xQ (v:= .func _ _ _) a4 rfl rfl sz122 (by first|decide|simp) rfl rfl (fun w6 hq t6=>?_);replace a4:=hq;refine zn7 ?_;refine yy rfl kR (twk_any (w0:=w) (bN:=b3) (bV:=b4) ab lo4 oG t A B c m 1 0 0 _ hS hT oG oG oG hB.u a5.u a4) rfl rfl (fun e' w7 hr=>?_);obtain⟨rfl,a9,an⟩:=hr;replace hB:=(((hB.tr0 (t1.t (t2.t t3))).tr1 t4 ab).tr0 t5).tr1 t6 lo4;replace hB:=hB.chG a9 (fun g hg=>by rw[show g=b3 from hg];exact ab);replace a2:=(((a2.tr0 (t2.t t3)).tr1 t4 oG).tr0 t5).tr1 t6 oG;replace a2:=a2.chG a9 (fun hx=>by have hx:b1=b3:=hx;omega);replace a1:=(((a1.tr0 t3).tr1 t4 oG).tr0 t5).tr1 t6 oG;replace a1:=a1.chG a9 (fun hx=>by have hx:b2=b3:=hx;omega);replace a4:=a4.chG a9 (fun hx=>by have hx:b4=b3:=hx;omega);replace a5:=an;refine⟨_,rfl,?_⟩;refine yx (cs:=#[.int .i64 0,.int .i64 0]) x6 rfl (fun _=>rfl) (fun _=>rfl) zj rfl qz (fun b5 w9 hb5 t7 hr=>?_);refine zn9 ?_;refine zQ rfl (fun a3=>?_) (fun a3=>?_)
 ·have hF:=tmF_bad a3;refine zn3 ?_;refine zZ a1.u rfl rfl zj rfl qz (fun w10 hq t8=>?_);replace a1:=hq;refine zn4 ?_;refine xK (.inl rfl) rfl (zW U36 rfl rfl a1.range0 zj) ?_;replace hB:=(hB.tr0 t7).tr1 t8 ac;exact⟨by rw[hF];rfl,hB⟩
 have a3:(twk t 1 0 0).2.1=0:=ak.1 a3;obtain⟨v,rfl,hok,_,hv2⟩:=RZ t 1 0 0 a3;have hF:=tmF_ok a3;refine zn6 ?_;replace hB:=hB.tr0 t7;refine qq kR (typed_any _ v (aI _) [] A B none c m 0 _ (hS.mono hB) (hT.mono hB) (CtxIn.nil _) (ah _) (by simp only[List.length_nil];omega) hok) rfl (fun e' w11 hr=>?_);obtain⟨⟨s3,A3,n3,c3,rfl,_⟩,t9⟩:=hr;replace t9:=sB t9;refine⟨_,rfl,?_⟩;refine wmT rfl (wl (vY (v:= .agg _) rfl rfl) (wl (vY (v:= .bool _) rfl rfl) ?_));refine yx (cs:=#[.string ⟨#[]⟩,.slice none 0 0]) N2 rfl (fun _=>rfl) (fun _=>rfl) yv rfl qz (fun b6 w13 hb6 t10 hr=>?_);refine zn9 ?_;refine jQ rfl (fun ao=>?_) (fun ao=>?_)
 ·rw[if_neg (by simpa using ao)]at hF;refine zn2 ?_;refine wl (vw (v0:= .int _ _) (v1:= .int _ _) (fun v0 v1=>#[v0,v1]) rfl rfl kR) ?_;refine zZ a1.u rfl rfl zj rfl qz (fun w14 hq t11=>?_);replace a1:=hq;refine zn4 ?_;refine xK (.inl rfl) rfl (zW U36 rfl rfl a1.range0 zj) ?_;replace hB:=(hB.tr0 (t9.t t10)).tr1 t11 ac;exact⟨by rw[hF];rfl,hB⟩
 rw[if_pos (by simpa using ao)]at hF;refine zn4 ?_;refine wl (gQ (vs:=#[]) (cs:=#[.int .i64 0,.int .i64 0]) (by simp) kR) ?_;refine zZ a1.u rfl rfl zj rfl qz (fun w15 hq t12=>?_);replace a1:=hq;refine zn3 ?_;refine xK (.inl rfl) rfl (zW U36 rfl rfl a1.range0 zj) ?_;replace hB:=(hB.tr0 (t9.t t10)).tr1 t12 ac;exact⟨by rw[hF];rfl,hB⟩
theorem X4{a b:Int}(h:b=a):Ending.returned (.int .i64 a)= .returned (.int .i64 b):=by rw[h]
theorem ret_b{a b:Bool}(h:b=a):Ending.returned (.bool a)= .returned (.bool b):=by rw[h]
theorem places_any(G:Option Addr)(cg nf:Nat)(gr:List Nd)(k:Int)(w:World)(hG:NodesIn w G gr)(h0:0<gr.length)(hl:yY nf gr.length (-1) (gr[0]'h0).ln=0)(hw:(gr[0]'h0).ln.length<=1000):Calls prog 57 #[.agg #[.slice G (gr).length cg],.int .i64 k] w fun e w'=>e= .returned (.bool (gX gr k))/\Bel w w':=by
 refine enT func57 ntmps57 rfl rfl fun hB=>?_;refine zn2 ?_;refine xy (v:= .agg #[_]) (cs:=#[_]) rfl rfl (fun b2 w1 a1 s1 hr=>?_);refine yW ?_;refine qx (rg [] 4 14) (fun m g w'=>∃ j:Nat,j<=4/\m=4-j/\g 6= .int .i64 j/\Bel w w'/\Blk w' b2 30 #[.slice G (gr).length cg]/\∀ f,f<j->plN gr k f=true) (4) ?_ (fun m g2 w2 hI=>?_)
 ·exact⟨0,by omega,rfl,rfl,hB.u,a1,fun f hf=>by omega⟩
 obtain⟨j,hj,hm,h6,hB,a1,a2⟩:=hI;refine zX 6 _ h6 nu (zn6 ?_);refine zQ rfl (fun c7=>?_) (fun c7=>?_)
 ·refine ZV ?_;refine ba kR (Mw G cg nf gr 0 ((j:Nat):Int) _ (hG.mono hB) h0 hl hw) rfl (fun w3 s2=>?_);refine zn4 ?_;refine wl (Fj U4 rfl rfl) (zJ (e_S ?_));refine jQ rfl (fun a4=>?_) (fun a4=>?_)
  ·have a3:plN gr k j=false:=by
     have h:=a4;rw[Bool.not_eq_true']at h;rw[Fw h0];exact h
   refine vj ?_;exact⟨ret_b (pl_no oG a3),hB.u⟩
  have a3:plN gr k j=true:=by
    have h:=a4;rw[Bool.not_eq_false']at h;rw[Fw h0];exact h
  refine zn7 ?_;refine x8 (4-(j+1)) oG agA ?_;replace hB:=hB.tr0 s2;replace a1:=a1.tr0 s2
  exact⟨j+1,by omega,rfl,rfl,hB,a1,fun f hf=>by
    by_cases e:f=j
    · rw[e];exact a3
    · exact a2 f oG⟩
 refine vj ?_;exact⟨ret_b (pl_yes (fun f hf=>a2 f oG)),hB⟩
theorem entry_any(A B G SA BA:Option Addr)(c d cg cs mB bu bd:Nat)(l:List Ty)(fs:List Ft)(x:Lx)(w:World)(hU:U8In w)(hI:TableIn w l bu bd)(h60:l.length<=60)(hF:FeatsIn w B fs)(hfo:FOk l.length fs)(hG:NodesIn w G x.gr)(hS:SimsIn w SA x.mean.type.args)(hT:TmsIn w BA x.mean.args)(hsz:x.word.size<9223372036854775807):Calls prog 40 #[.agg #[.slice A l.length c,.slice B fs.length d],tabV l.length bu bd,.agg #[.string (x).word,.slice G (x).gr.length cg,.int .i64 (x).wt,.int .i64 ((x).mean).kind,.string ((x).mean).name,.int .i64 ((x).mean).index,.string ((x).mean).type.base,.slice SA ((x).mean).type.args.length cs,.slice BA ((x).mean).args.length mB]] w fun e w'=>e= .returned (.int .i64 (PY l fs x))/\Bel w w':=by
 refine enT func40 ntmps40 rfl rfl fun hB=>?_;refine zn2 ?_;refine xy (v:= .agg #[_,_]) (cs:=#[_,_]) rfl rfl (fun b3 w1 hb3 s1 hr=>?_);refine xy (v:= .agg #[_,_]) (cs:=#[_,_]) rfl rfl (fun b4 w2 hb4 s2 hr=>?_);refine xy (v:= .agg #[_,_,_,_,_,_,_,_,_]) (cs:=#[_,_,_,_,_,_,_,_,_]) rfl rfl (fun b5 w3 hb5 s3 hr=>?_);refine zn8 ?_;refine ba kR (word_p x.word _ (hU.mono hB.u) hsz) rfl (fun w4 s4=>?_);refine zn3 ?_;refine jQ rfl (fun a4=>?_) (fun a4=>?_)
 ·have a1:kw x.word=false:=by simpa using a4
  refine zn8 ?_;exact⟨X4 (Dx a1),hB.u⟩
 have a1:kw x.word=true:=by simpa using a4
 refine zn4 ?_;replace hB:=hB.tr0 (s1.t (s2.t (s3.t s4)));refine xw (rg [] 12 8) 19 (.bool (decide (x.wt<0\/1000000<x.wt))) nu ?_ (fun gq=>?_)
 ·refine zn5 ?_;refine zw 15 rfl (fun g15=>?_) (fun g15=>?_)
  ·refine zn4 ?_;refine zJ (e_R ⟨rfl,agA,?_⟩);exact clA
  refine zn7 ?_;refine zJ (e_R ⟨rfl,agA,?_⟩);exact clA
 refine e_S ?_;refine zQ rfl (fun a2=>?_) (fun a2=>?_)
 ·refine zn8 ?_;exact⟨X4 (FK a1 a2),hB⟩
 refine zn8 ?_;refine wl (qw U30 rfl rfl (hb5.u.sub (n:=1) (xs:=[_]) rfl) QQ) ?_;refine ba kR (J5 A B G c d cg bu bd l fs x.gr _ (hI.mono hB) h60 (hF.mono hB) (hG.mono hB) hfo) rfl (fun w5 s5=>?_);refine yx (cs:=#[.int .i64 0,.int .i64 0]) x6 rfl (fun _=>rfl) (fun _=>rfl) zj rfl qz (fun b7 w7 hb7 s6 hr=>?_);refine zn9 ?_;refine zQ rfl (fun a3=>?_) (fun a3=>?_)
 ·refine yW ?_;exact⟨X4 (lx_gr a1 a2 a3),hB.u⟩
 have hin:=az.1 a3;refine zn5 ?_;refine wl (qw U44 rfl rfl (hb5.u.sub (n:=6) (xs:=[_,_,_,_,_,_]) rfl) Kv) ?_;refine ba kR (H8 SA BA cs mB x.mean _ (hS.mono hB.u) (hT.mono hB.u)) rfl (fun w8 s7=>?_);refine wl (CX (v:= .int _ _) U36 rfl U3 rfl rfl rfl) (zn5 ?_);exact⟨X4 (lx_ok a1 a2 hin),hB.u⟩
theorem rule_any(A B G SA BA:Option Addr)(c d cg cs mB bu bd:Nat)(l:List Ty)(fs:List Ft)(r:Rl)(w:World)(hI:TableIn w l bu bd)(h60:l.length<=60)(hF:FeatsIn w B fs)(hfo:FOk l.length fs)(h40:fs.length<=40)(hG:NodesIn w G r.gr)(hS:SimsIn w SA r.mean.type.args)(hT:TmsIn w BA r.mean.args):Calls prog 39 #[.agg #[.slice A l.length c,.slice B fs.length d],tabV l.length bu bd,.agg #[.string (r).name,.slice G (r).gr.length cg,.int .i64 (r).kids,.int .i64 (r).wt,.int .i64 ((r).mean).kind,.string ((r).mean).name,.int .i64 ((r).mean).index,.string ((r).mean).type.base,.slice SA ((r).mean).type.args.length cs,.slice BA ((r).mean).args.length mB]] w fun e w'=>e= .returned (.int .i64 (K0 l fs r))/\Bel w w':=by
 refine enT func39 ntmps39 rfl rfl fun hB=>?_;refine zn2 ?_;refine xy (v:= .agg #[_,_]) (cs:=#[_,_]) rfl rfl (fun b3 w1 hb3 s1 hr=>?_);refine xy (v:= .agg #[_,_]) (cs:=#[_,_]) rfl rfl (fun b4 w2 hb4 s2 hr=>?_);refine xy (v:= .agg #[_,_,_,_,_,_,_,_,_,_]) (cs:=#[_,_,_,_,_,_,_,_,_,_]) rfl rfl (fun b5 w3 a5 s3 hr=>?_);refine zn5 ?_;replace hB:=hB.tr0 (s1.t (s2.t s3));refine xw (rg [] 8 18) 25 (.bool (decide (r.kids<1\/3<r.kids\/r.wt<0\/1000000<r.wt))) nu ?_ (fun gq=>?_)
 ·refine zn5 ?_;refine zw 11 rfl (fun g11=>?_) (fun g11=>?_)
  ·refine ZV ?_;refine zJ (e_R ⟨rfl,agA,?_⟩);exact clA
  refine zn8 ?_;refine zw 16 rfl (fun g16=>?_) (fun g16=>?_)
  ·refine zn9 ?_;refine zJ (e_R ⟨rfl,agA,?_⟩);exact clA
  refine zn8 ?_;refine zw 21 rfl (fun g21=>?_) (fun g21=>?_)
  ·refine zn4 ?_;refine zJ (e_R ⟨rfl,agA,?_⟩);exact clA
  refine zn7 ?_;refine zJ (e_R ⟨rfl,agA,?_⟩);exact clA
 refine e_S ?_;refine zQ rfl (fun a1=>?_) (fun a1=>?_)
 ·refine zn8 ?_;exact⟨X4 (F9 a1),hB⟩
 refine zn8 ?_;refine wl (qw U30 rfl rfl (a5.sub (n:=1) (xs:=[_]) rfl) QQ) ?_;refine ba kR (J5 A B G c d cg bu bd l fs r.gr _ (hI.mono hB) h60 (hF.mono hB) (hG.mono hB) hfo) rfl (fun w4 s4=>?_);refine yx (cs:=#[.int .i64 0,.int .i64 0]) x6 rfl (fun _=>rfl) (fun _=>rfl) zj rfl qz (fun b7 w6 hb7 s5 hr=>?_);refine zn9 ?_;refine zQ rfl (fun ab=>?_) (fun ab=>?_)
 ·refine yW ?_;exact⟨X4 (rl_gr a1 ab),hB.u⟩
 have a4:=az.1 ab;have hl0:=DK a4;have a2:=Bv hl0;have hw0:=a2.few 0 a2.pos;refine zn6 ?_;refine wl (qw U30 rfl rfl (a5.u.sub (n:=1) (xs:=[_]) rfl) QQ) (zn2 ?_);refine ba kR (places_any G cg fs.length r.gr r.kids _ (hG.mono hB.u) a2.pos (Ix hl0 0 a2.pos) oG) rfl (fun w7 s6=>?_);refine zn3 ?_;refine jQ rfl (fun a9=>?_) (fun a9=>?_)
 ·have a3:gX r.gr r.kids=false:=by simpa using a9
  refine zn8 ?_;exact⟨X4 (rl_pl a1 a4 a3),hB.u⟩
 have a3:gX r.gr r.kids=true:=by simpa using a9
 refine zn5 ?_;refine wl (qw U44 rfl rfl (a5.u.sub (n:=6) (xs:=[_,_,_,_,_,_]) rfl) Kv) ?_;refine ba kR (H8 SA BA cs mB r.mean _ (hS.mono hB.u) (hT.mono hB.u)) rfl (fun w8 s7=>?_);refine wl (CX (v:= .int _ _) U36 rfl U3 rfl rfl rfl) (zn5 ?_);exact⟨X4 (rl_ok a1 a4 a3),hB.u⟩
theorem kQ(a b:Int)(w:World):Calls prog 22 #[.int .i64 a,.int .i64 b] w fun e w'=>e= .returned (flV (a,b))/\Bel w w':=by
 refine enT func22 ntmps22 rfl rfl fun hB=>?_;refine zn2 ?_;refine qW (cs:=#[.int .i64 0,.int .i64 0]) x6 rfl (fun b4 w1 a1 s1 hr=>?_);have lo4:=hB.ob hr;refine zn6 ?_;refine wl (vw (v0:= .int _ _) (v1:= .int _ _) (fun v0 v1=>#[v0,v1]) rfl rfl kR) ?_;refine zZ a1 rfl rfl zj rfl qz (fun w2 hq s2=>?_);replace a1:=hq;refine zn3 ?_;refine xK (.inl rfl) rfl (zW U36 rfl rfl a1.range0 zj) ?_;exact⟨xq rfl,hB.u⟩
theorem Sw:zK prog 22=true:=by kernel_rfl
theorem sz46:(prog.info? 46).map (·.size)=some 9:=by kernel_rfl
theorem sz50:(prog.info? 50).map (·.size)=some 10:=by kernel_rfl
theorem ze25:(prog.info? 25).map (·.zero)=some (some (.agg #[.slice none 0 0,.slice none 0 0])):=by kernel_rfl
theorem ze46:(prog.info? 46).map (·.zero)=some (some (.agg cF)):=by kernel_rfl
theorem ze50:(prog.info? 50).map (·.zero)=some (some (.agg cE)):=by kernel_rfl
theorem WK:(prog.info? 74).map (·.zero)=some (some (.agg #[.slice none 0 0,.slice none 0 0])):=by kernel_rfl
set_option maxHeartbeats 2000000 in
theorem GW(AT AF AR AX AS:Option Addr)(ct cf cr cx bh:Nat)(l:List Ty)(fs:List Ft)(rs:List Rl)(xs:List Lx)(st:List Nd)(w:World)(c0:TabIn w)(hU:U8In w)(hTy:TypesIn w AT l)(hF:FeatsIn w AF fs)(hRu:RulesIn w AR rs)(hLx:LexesIn w AX xs)(hG:NodesIn w AS st):Calls prog 21 #[.agg #[.slice AT l.length ct,.slice AF fs.length cf,.slice AR rs.length cr,.slice AX xs.length cx,.slice AS st.length bh]] w fun e w'=>e= .returned (flV (yj l fs rs xs st))/\Bel w w':=by
 refine enT func21 ntmps21 rfl rfl fun hB=>?_;refine zn2 ?_;refine xy (v:= .agg #[_,_,_,_,_]) (cs:=#[_,_,_,_,_]) rfl rfl (fun b1 w1 a5 s1 hr=>?_);refine qW (cs:=#[.int .i64 0,.int .i64 0]) x6 rfl (fun b2 w2 a1 s2 hr=>?_);have lo2:=hB.u.ob hr;refine zn5 ?_;refine wl (qw U25 rfl rfl (a5.u.sub (n:=2) (xs:=[_,_]) rfl) RX) ?_;refine yx (cs:=#[.slice none 0 0,.slice none 0 0]) ze25 rfl (fun _=>rfl) (fun _=>rfl) RX rfl qz (fun b3 w4 ab s3 hr=>?_);refine zn6 ?_;refine ba kR (Rq AT AF ct cf l fs _ (c0.mono hB.u) (hTy.mono hB.u) (hF.mono hB.u)) rfl (fun w5 s4=>?_);refine yx (cs:=#[.int .i64 0,.int .i64 0]) x6 rfl (fun _=>rfl) (fun _=>rfl) zj rfl qz (fun b4 w7 hb4 s5 hr=>?_);refine zn9 ?_;refine zQ rfl (fun c8=>?_) (fun c8=>?_)
 ·refine zn3 ?_;refine zZ a1.u rfl rfl zj rfl qz (fun w8 hq s6=>?_);replace a1:=hq;refine zn4 ?_;refine xK (.inl rfl) rfl (zW U36 rfl rfl a1.range0 zj) ?_;exact⟨xq (M8 c8),hB.u⟩
 have h0:=az.1 c8;have hS:=Ky h0;have bx:=By h0;have h40:=TW h0;refine jq ?_;refine zQ rfl (fun c27=>?_) (fun c27=>?_)
 ·refine zn2 ?_;refine ba Sw (kQ _ _ _) rfl (fun w9 s7=>?_);refine zZ a1.u rfl rfl zj rfl qz (fun w10 hq s8=>?_);replace a1:=hq;refine zn4 ?_;refine xK (.inl rfl) rfl (zW U36 rfl rfl a1.range0 zj) ?_;exact⟨xq (Bx h0 oG),hB.u⟩
 have b6:¬fs.length<=3:=by omega
 refine zn4 ?_;replace hB:=hB.tr0 (s1.t (s2.t (s3.t (s4.t s5))));replace a1:=a1.tr0 (s3.t (s4.t s5));refine xw (rg [] 29 10) 38 (.bool (decide (40<rs.length\/100<xs.length))) nu ?_ (fun gq=>?_)
 ·refine zn6 ?_;refine zw 33 rfl (fun g33=>?_) (fun g33=>?_)
  ·refine zn5 ?_;refine zJ (e_R ⟨rfl,agA,?_⟩);exact clA
  refine zn9 ?_;refine zJ (e_R ⟨rfl,agA,?_⟩);exact clA
 refine e_S ?_;refine zQ rfl (fun ac=>?_) (fun ac=>?_)
 ·refine zn2 ?_;refine ba Sw (kQ _ _ _) rfl (fun w11 s9=>?_);refine zZ a1.u rfl rfl zj rfl qz (fun w12 hq s10=>?_);replace a1:=hq;refine zn4 ?_;refine xK (.inl rfl) rfl (zW U36 rfl rfl a1.range0 zj) ?_;exact⟨xq (Ej h0 b6 ac),hB.u⟩
 refine zn6 ?_;refine qq kR (My AT ct l _ (hTy.mono hB) hS.vt hS.le) rfl (fun e' w13 hr=>?_);obtain⟨bu,bd,rfl,bg,s11⟩:=hr;replace s11:=sB s11;obtain⟨wT,hwT⟩:∃ x,x=w13:=⟨_,rfl⟩
 have a4:Bel wT w13:=by rw[hwT];exact Below.refl _ _
 rw[<- hwT]at bg;refine⟨_,rfl,?_⟩;refine yx (cs:=#[.slice none 0 0,.slice none 0 0]) WK rfl (fun _=>rfl) (fun _=>rfl) sz74_GVal rfl qz (fun b5 w15 a9 s12 hr=>?_);refine zn4 ?_;refine wl_mm (fun b43 w16 a2 s13 hr=>?_);have:=nLL a5.u.lt hr;have:=nLL a1.u.lt hr;have:=nLL ab.u.lt hr;have:=nLL a9.lt hr;have lo43:=hB.u.ob hr;have an:=a4.u.ob hr;refine wl (uK (v:= .map _) rfl) (vj ?_);refine qx (rg (rg [] 7 5) 47 35) (fun m g w'=>∃(k:Nat) (mp:List (ByteArray×Value)),k<=rs.length/\m=rs.length-k/\g 47= .int .i64 k/\Bel w w'/\Bel wT w'/\Blk w' b1 32 #[.slice AT l.length ct,.slice AF fs.length cf,.slice AR rs.length cr,.slice AX xs.length cx,.slice AS st.length bh]/\Blk w' b2 36 #[.int .i64 0,.int .i64 0]/\Blk w' b3 25 #[.slice AT l.length ct,.slice AF fs.length cf]/\Blk w' b5 74 #[.slice (some ⟨bu,0,none⟩) l.length l.length,.slice (some ⟨bd,0,none⟩) l.length l.length]/\MapS w' b43 mp/\(∀ s,lkB mp s=seen ((rs.take k).map (·.name)) s)/\qQ (uj l fs rs) 0 rs.length=qQ (uj l fs rs) k (rs.length-k)) (rs.length) ?_ (fun m g12 w17 hI=>?_)
 ·exact⟨0,[],ag _,rfl,rfl,hB.u,a4.u,a5.u,a1.u,ab.u,a9.u,a2,fun s=>rfl,rfl⟩
 obtain⟨k,mp,hk,hm,h47,hB,a4,a5,a1,ab,a9,a2,bv,bf⟩:=hI;refine zX 47 _ h47 nu (zn6 ?_);refine zQ rfl (fun c48=>?_) (fun c48=>?_)
 ·have a3:k<rs.length:=by omega
  obtain⟨tb,to,Gk,c6,Sk,c5,Bk,mk,rfl,htb,htr,c4,c1,bz⟩:=hRu.at_ hB a3;refine zn8 ?_;refine wl (qw U50 rfl rfl htr sz50) ?_;refine qW (cs:=cE) ze50 rfl (fun b8 w18 hb8 bn hr=>?_);have:=nLL a5.lt hr;have:=nLL a1.lt hr;have:=nLL ab.lt hr;have:=nLL a9.lt hr;have:=nLL a2.lt hr;have lo8:=hB.ob hr;have b9:=a4.ob hr;refine waI rfl ?_;refine zZ hb8 rfl rfl sz50 rfl qz (fun w19 hq bm=>?_);replace hb8:=hq;refine zn7 ?_;refine qq kR (E7 _ _) rfl (fun e' w20 hr=>?_);obtain⟨rfl,rfl⟩:=hr;refine⟨_,rfl,?_⟩;refine zn3 ?_;refine jQ rfl (fun c7=>?_) (fun c7=>?_)
  ·have bb:=rn10 (l:=l) (fs:=fs) a3 (by simpa using c7);refine zn3 ?_;refine ba Sw (kQ _ _ _) rfl (fun w21 s16=>?_);refine zZ a1.u rfl rfl zj rfl qz (fun w22 hq s17=>?_);replace a1:=hq;refine zn9 ?_;refine xK (.inl rfl) rfl (zW U36 rfl rfl a1.range0 zj) ?_;replace hB:=(((hB.tr0 bn).tr1 bm lo8).tr0 s16).tr1 s17 lo2;exact⟨xq (Xj h0 b6 ac (bf.trans (x7 oG bb (show (10:Int)≠0 by decide))) (show (10:Int)≠0 by decide)),hB⟩
  have br:yJ (rs[k]'a3).name=true:=by simpa using c7
  refine zn5 ?_;refine wl (xz (v:= .map _) rfl) (zn2 ?_);replace a2:=(a2.tr0 bn).tr1 bm oG;refine wl (r_lkS a2 U95 U9 Z1 rfl rfl) (wmT rfl (wl (vY (v:=_) rfl rfl) (wl (vY (v:= .bool _) rfl rfl) (wl (uK (v:=_) rfl) (zn8 ?_)))));refine jQ rfl (fun bk=>?_) (fun bk=>?_)
  ·have bb:=rn7 (l:=l) (fs:=fs) a3 br ((bv _).symm.trans bk);refine zn3 ?_;refine ba Sw (kQ _ _ _) rfl (fun w23 s18=>?_);refine zZ a1.u rfl rfl zj rfl qz (fun w24 hq s19=>?_);replace a1:=hq;refine zn9 ?_;refine xK (.inl rfl) rfl (zW U36 rfl rfl a1.range0 zj) ?_;replace hB:=(((hB.tr0 bn).tr1 bm lo8).tr0 s18).tr1 s19 lo2;exact⟨xq (Xj h0 b6 ac (bf.trans (x7 oG bb (show (7:Int)≠0 by decide))) (show (7:Int)≠0 by decide)),hB⟩
  have hsn:seen ((rs.take k).map (·.name)) (rs[k]'a3).name=false:=by rw[<- bv];exact bk
  have bt:∀ s,lkB (O6 mp (rs[k]'a3).name (.int .i64 k)) s=seen ((rs.take (k+1)).map (·.name)) s:=fun s=>by
    rw[Z6 _ _ _ bk,ZZ rs a3,List.map_append,List.map_cons,List.map_nil,Xw,<- bv];simp[lkB]
  refine zn4 ?_;refine wl (xz (v:= .map _) rfl) (zn3 ?_);refine wl_muS (v:= .int _ _) a2 U95 U9 rfl rfl rfl (fun w25 hq s20=>?_);replace a2:=hq;refine zn7 ?_;refine ba kR (rule_any AT AF Gk Sk Bk ct cf c6 c5 mk bu bd l fs (rs[k]'a3) _ (bg.mono a4.u) hS.le (hF.mono hB.u) bx h40 (c4.mono hB.u) (c1.mono hB.u) (bz.mono hB.u)) rfl (fun w26 s21=>?_);refine zn9 ?_;refine zQ rfl (fun bj=>?_) (fun bj=>?_)
  ·have bb:=rnF (l:=l) (fs:=fs) a3 br hsn;refine zn4 ?_;refine ba Sw (kQ _ _ _) rfl (fun w27 s22=>?_);refine zZ a1.u rfl rfl zj rfl qz (fun w28 hq s23=>?_);replace a1:=hq;refine zn8 ?_;refine xK (.inl rfl) rfl (zW U36 rfl rfl a1.range0 zj) ?_;exact⟨xq (Xj h0 b6 ac (bf.trans (x7 oG bb bj)) bj),hB.u⟩
  have bo:=(rnF (l:=l) (fs:=fs) a3 br hsn).trans (az.1 bj);refine zn7 ?_;refine x8 (rs.length-(k+1)) oG agA ?_;replace a2:=a2.tr0 s21;exact⟨k+1,O6 mp (rs[k]'a3).name (.int .i64 k),by omega,rfl,rfl,hB.u,a4.u,a5.u,a1.u,ab.u,a9.u,a2,bt,bf.trans (vQ a3 bo)⟩
 have c2:qQ (uj l fs rs) 0 rs.length=(0,0):=bf.trans (jz oG);refine Yv ?_;refine qx (rg [12,13,14] 85 15) (fun m g w'=>∃ q:Nat,q<=xs.length/\m=xs.length-q/\g 85= .int .i64 q/\Bel w w'/\Bel wT w'/\Blk w' b1 32 #[.slice AT l.length ct,.slice AF fs.length cf,.slice AR rs.length cr,.slice AX xs.length cx,.slice AS st.length bh]/\Blk w' b2 36 #[.int .i64 0,.int .i64 0]/\Blk w' b3 25 #[.slice AT l.length ct,.slice AF fs.length cf]/\Blk w' b5 74 #[.slice (some ⟨bu,0,none⟩) l.length l.length,.slice (some ⟨bd,0,none⟩) l.length l.length]/\qQ (Jy l fs xs) 0 xs.length=qQ (Jy l fs xs) q (xs.length-q)) (xs.length) ?_ (fun m g25 w29 hI=>?_)
 ·exact⟨0,ag _,rfl,rfl,hB,a4,a5,a1,ab,a9,rfl⟩
 obtain⟨q,hq,hm,h85,hB,a4,a5,a1,ab,a9,c3⟩:=hI;refine zX 85 _ h85 nu (zn6 ?_);refine zQ rfl (fun c86=>?_) (fun c86=>?_)
 ·have bc:q<xs.length:=by omega
  obtain⟨ub,uo,Gk,c6,Sk,c5,Bk,mk,rfl,hub,bq,hur,c4,c1,bz⟩:=hLx.at_ hB bc;refine zn8 ?_;refine wl (qw U46 rfl rfl hur sz46) ?_;refine qW (cs:=cF) ze46 rfl (fun b13 w30 be s24 hr=>?_);have:=nLL a5.lt hr;have:=nLL a1.lt hr;have:=nLL ab.lt hr;have:=nLL a9.lt hr;have lo13:=hB.ob hr;have ao:=a4.ob hr;refine waI rfl ?_;refine zZ be rfl rfl sz46 rfl qz (fun w31 hq s25=>?_);replace be:=hq;refine zn7 ?_;refine ba kR (entry_any AT AF Gk Sk Bk ct cf c6 c5 mk bu bd l fs (xs[q]'bc) _ (hU.mono hB.u) (bg.mono a4.u) hS.le (hF.mono hB.u) bx (c4.mono hB.u) (c1.mono hB.u) (bz.mono hB.u) bq) rfl (fun w32 s26=>?_);refine zn9 ?_;refine zQ rfl (fun bi=>?_) (fun bi=>?_)
  ·have hly:=lnF (l:=l) (fs:=fs) bc;refine zn4 ?_;refine ba Sw (kQ _ _ _) rfl (fun w33 s27=>?_);refine zZ a1.u rfl rfl zj rfl qz (fun w34 hq s28=>?_);replace a1:=hq;refine zn8 ?_;refine xK (.inl rfl) rfl (zW U36 rfl rfl a1.range0 zj) ?_;exact⟨xq (Wq h0 b6 ac c2 (c3.trans (x7 oG hly bi)) bi),hB.u⟩
  have bw:=(lnF (l:=l) (fs:=fs) bc).trans (az.1 bi);refine zn7 ?_;refine x8 (xs.length-(q+1)) oG agA ?_;exact⟨q+1,by omega,rfl,rfl,hB.u,a4.u,a5.u,a1.u,ab.u,a9.u,c3.trans (vQ bc bw)⟩
 have hLz:qQ (Jy l fs xs) 0 xs.length=(0,0):=c3.trans (jz oG);refine jq ?_;refine wl (qw U30 rfl rfl (a5.sub (n:=1) (xs:=[_]) rfl) QQ) ?_;refine ba kR (J5 AT AF AS ct cf bh bu bd l fs st _ (bg.mono a4) hS.le (hF.mono hB) (hG.mono hB) bx) rfl (fun w35 s29=>?_);refine yx (cs:=#[.int .i64 0,.int .i64 0]) x6 rfl (fun _=>rfl) (fun _=>rfl) zj rfl qz (fun b15 w37 hb15 s30 hr=>?_);refine zn9 ?_;refine zQ rfl (fun b7=>?_) (fun b7=>?_)
 ·refine zn4 ?_;refine ba Sw (kQ _ _ _) rfl (fun w38 s31=>?_);refine zZ a1.u rfl rfl zj rfl qz (fun w39 hq s32=>?_);replace a1:=hq;refine zn4 ?_;refine xK (.inl rfl) rfl (zW U36 rfl rfl a1.range0 zj) ?_;exact⟨xq (gr_start h0 b6 ac c2 hLz b7),hB.u⟩
 refine zn4 ?_;refine wl (gQ (vs:=#[]) (cs:=#[.int .i64 0,.int .i64 0]) (by simp) kR) ?_;refine zZ a1.u rfl rfl zj rfl qz (fun w40 hq s33=>?_);replace a1:=hq;refine zn3 ?_;refine xK (.inl rfl) rfl (zW U36 rfl rfl a1.range0 zj) ?_;exact⟨xq (gr_ok h0 b6 ac c2 hLz (az.1 b7)),hB.u⟩
end Go.Proofs.YtgcgnkmmbecfmaaGreatDoor
