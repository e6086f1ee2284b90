/- What these functions compute, at every world: unicode/utf8.ValidString, internal/stringslite.IndexByte, strings.IndexByte, unicode/utf8.ValidRune, strings.shouldUseASCIISet, strings.IndexRune, strings.makeASCIISet, (*strings.asciiSet).contains and 10 more; and plain laws. -/
import Derived.Test.YtndbjnkilegebaaGreatDoorU
import Derived.Test.YtndbjnkilegebaaGreatDoorZst
import Derived.Test.YtndbjnkilegebaaGreatDoorWRc
import Derived.Test.YtndbjnkilegebaaGreatDoorNTo
import Derived.Test.YtndbjnkilegebaaGreatDoorGSearch
import Derived.Test.YtndbjnkilegebaaGreatDoorGro
import Derived.Test.YtndbjnkilegebaaGreatDoorOrd
import Derived.Test.YtndbjnkilegebaaGreatDoorEng
namespace Go.Proofs.YtndbjnkilegebaaGreatDoor
open Go.RowKit Go.Proofs.Tryz
set_option maxRecDepth 100000
set_option maxHeartbeats 2000000
theorem sz159:(prog.info? 159).map (·.size)=some 2:=by kernel_rfl
theorem Jw:(prog.info? 5).map (·.size)=some 1:=by kernel_rfl
theorem ze159:(prog.info? 159).map (·.zero)=some (some (.agg #[.int .u8 0,.int .u8 0])):=by kernel_rfl
set_option maxRecDepth 100000 in
set_option maxHeartbeats 8000000 in
theorem valid_any(s:ByteArray)(w:World)(hU:U8In w)(_hsz:s.size<9223372036854775807):Calls prog 69 #[.string s] w fun e w'=>e= .returned (.bool (vq s 0))/\Bel w w':=by
 have hs0:sdr 0 s=s:=SY (by rw[IJ,List.drop_zero]);refine enT func69 ntmps69 rfl rfl fun hB=>?_;refine zn7 ?_;refine qz (rg [0] 2 167) (fun m g w'=>∃ p:Nat,p<=s.size/\s.size-p<=m/\g 0= .string (sdr p s)/\vq s 0=vq s p/\Bel w w') (s.size) ?_ (fun m g1 w1 hI=>?_)
 ·exact⟨0,ah _,ai _,(by rw[hs0];rfl),rfl,hB⟩
 obtain⟨p,hp,hm,h0,hv,hB⟩:=hI;obtain⟨mo,rfl⟩:∃ x,x=m:=⟨_,rfl⟩
 refine zQ 0 _ h0 nu (zn8 ?_);refine zZ rfl (fun c9=>?_) (fun c9=>?_)
 ·have hsp:=yy p s;have a4:p<s.size:=by omega
  have e0:=Vy p s 0;have e1:=Vy p s 1;have e2:=Vy p s 2;have e3:=Vy p s 3;rw[Nat.add_zero]at e0;have hb0:=oX s p;refine zn6 ?_;refine wl (kY (i:=0) U9 rfl rfl oG) (wl (oz (v:= .int .u8 ((gb s p:Nat):Int)) (by exact congrArg (fun z:Nat=>Value.int .u8 ((z:Nat):Int)) e0)) (zn9 ?_));refine zZ rfl (fun c13=>?_) (fun c13=>?_)
  ·have a2:=vq_low a4 oG;refine zn3 ?_;refine wl (Yx (l:=1) U9 rfl rfl oG) (wl (oz (v:= .string (sdr (p+1) s)) (by exact congrArg Value.string (Q3 _ _ s))) (zn4 ?_));have hsp1:=yy (p+1) s;refine zn5 ?_;refine zk 19 rfl (fun g19=>?_) (fun g19=>?_)
   ·refine zn3 ?_;refine zW kR (Y4 (sdr (p+1) s) _ (by rw[yy];have:=yy (p+1) s;omega)) rfl (fun e' w2 hr=>?_);obtain⟨rfl,s1⟩:=hr;replace s1:=sB s1;refine⟨_,rfl,?_⟩;refine zn1 ?_;refine wl (N5 (b:=9259542123273814144) rfl rfl (uV _ dE) dE) (zn5 ?_);refine zZ rfl (fun c24=>?_) (fun c24=>?_)
    ·have ab:=DJ (s:=s) (p:=p+1) (k:=8) oG (asc8 (by have h:=c24;exact Int.ofNat.inj h));refine zn3 ?_;refine wl (Yx (l:=8) U9 rfl rfl oG) (wl (oz (v:= .string (sdr (p+9) s)) (by exact congrArg Value.string (Q3 _ _ s))) (zn3 ?_));replace hB:=hB.tr0 s1;by_cases q7:16<s.size-(p+9)
     ·refine jY [] [0,1,2,3,4,6,7,5,8,9,10,11,12] rfl (fun w3 s2=>?_);refine zn2 ?_;refine hle rfl (fun _=>r_gtr rfl rfl) (ag (aj (by rw[yy];omega))) (zn3 ?_);refine hg 30 rfl rfl rfl (fun _ _=>Yx (l:=8) U9 rfl rfl (by rw[yy];omega)) (h1 rfl (zn1 ?_));refine zW kR (Y4 (sdr (p+9) s) w3 (by rw[yy];omega)) rfl (fun e' w4 hr=>?_);obtain⟨rfl,s3⟩:=hr;replace s3:=sB s3;have b2:=s3;refine⟨_,rfl,?_⟩;refine qY (KQ b2 (h1 rfl (zn1 ?_)));refine zW kR (Y4 (sdr 8 (sdr (p+9) s)) w4 (by rw[yy,yy];omega)) rfl (fun e' w5 hr=>?_);obtain⟨rfl,s4⟩:=hr;replace s4:=sB s4;have b1:=s4;refine⟨_,rfl,?_⟩;refine qY (KQ b1 (hg 30 rfl rfl rfl (fun _ _=>J1 rfl rfl (uV _ dE) (uV _ dE)) (hg 30 rfl rfl rfl (fun _ _=>N5 (b:=9259542123273814144) rfl rfl (aW (n:=64) (uV _ dE) (uV _ dE)) dE) (zn4 ?_))));refine jv rfl (fun c39=>?_) (fun c39=>?_)
      ·have hvB:=DJ (s:=s) (p:=p+9) (k:=16) oG (asc16 (Int.ofNat.inj (aO c39)));refine zn3 ?_;refine wl (Yx (l:=16) U9 rfl rfl (by rw[yy];omega)) (wl (oz (v:= .string (sdr (p+25) s)) (by exact congrArg Value.string (Q3 _ _ s))) (zn3 ?_));refine qz (rg [0] 42 23) (fun m g w'=>∃ p2:Nat,p+25<=p2/\p2<=s.size/\m=s.size-p2/\g 0= .string (sdr p2 s)/\vq s p=vq s p2/\Bel w w') (s.size-(p+25)) ?_ (fun m g9 w6 hI=>?_)
       ·exact⟨p+25,ai _,by omega,rfl,rfl,((a2.trans ab).trans hvB),hB.u⟩
       obtain⟨p2,hp2,hp2s,hm2,h0b,ac,hB⟩:=hI;refine zQ 0 _ h0b nu (xQ (xQ ?_));by_cases q9:32<s.size-p2
       ·refine jY [] [0,1,2,3,4,6,7,10,11,13,14,5,8,9,12,15,16,17,18,19,20] rfl (fun w7 s5=>?_);refine zn2 ?_;refine hle rfl (fun _=>r_gtr rfl rfl) (ag (aj (by rw[yy];omega))) (zn3 ?_);refine hg 45 rfl rfl rfl (fun _ _=>Yx (l:=8) U9 rfl rfl (by rw[yy];omega)) (zn1 ?_);refine hg 45 rfl rfl rfl (fun _ _=>Yx (l:=16) U9 rfl rfl (by rw[yy];omega)) (zn1 ?_);refine hg 45 rfl rfl rfl (fun _ _=>Yx (l:=24) U9 rfl rfl (by rw[yy];omega)) (h1 rfl (zn1 ?_));refine zW kR (Y4 (sdr p2 s) w7 (by rw[yy];omega)) rfl (fun e' w8 hr=>?_);obtain⟨rfl,s6⟩:=hr;replace s6:=sB s6;have b2:=s6;refine⟨_,rfl,?_⟩;refine qY (KQ b2 (h1 rfl (zn1 ?_)));refine zW kR (Y4 (sdr 8 (sdr p2 s)) w8 (by rw[yy,yy];omega)) rfl (fun e' w9 hr=>?_);obtain⟨rfl,s7⟩:=hr;replace s7:=sB s7;have b1:=s7;refine⟨_,rfl,?_⟩;refine qY (KQ b1 (hg 45 rfl rfl rfl (fun _ _=>J1 rfl rfl (uV _ dE) (uV _ dE)) (h1 rfl (zn1 ?_))));refine zW kR (Y4 (sdr 16 (sdr p2 s)) w9 (by rw[yy,yy];omega)) rfl (fun e' w10 hr=>?_);obtain⟨rfl,s8⟩:=hr;replace s8:=sB s8;have b7:=s8;refine⟨_,rfl,?_⟩;refine qY (KQ b7 (h1 rfl (zn1 ?_)));refine zW kR (Y4 (sdr 24 (sdr p2 s)) w10 (by rw[yy,yy];omega)) rfl (fun e' w11 hr=>?_);obtain⟨rfl,s9⟩:=hr;replace s9:=sB s9;have b5:=s9;refine⟨_,rfl,?_⟩;refine qY (KQ b5 (hg 45 rfl rfl rfl (fun _ _=>J1 rfl rfl (uV _ dE) (uV _ dE)) (hg 45 rfl rfl rfl (fun _ _=>J1 rfl rfl (aW (n:=64) (uV _ dE) (uV _ dE)) (aW (n:=64) (uV _ dE) (uV _ dE))) (hg 45 rfl rfl rfl (fun _ _=>N5 (b:=9259542123273814144) rfl rfl (aW (n:=64) (aW (n:=64) (uV _ dE) (uV _ dE)) (aW (n:=64) (uV _ dE) (uV _ dE))) dE) (zn4 ?_)))));refine jv rfl (fun c62=>?_) (fun c62=>?_)
        ·have hvC:=DJ (s:=s) (p:=p2) (k:=32) oG (asc32 (Int.ofNat.inj (aO c62)));refine zn5 ?_;refine wl (Yx (l:=32) U9 rfl rfl (by rw[yy];omega)) (wl (oz (v:= .string (sdr (p2+32) s)) (by exact congrArg Value.string (Q3 _ _ s))) (qY (e_B (x9 (s.size-(p2+32)) oG agA ?_))));exact⟨p2+32,by omega,by omega,rfl,rfl,ac.trans hvC,hB.u⟩
        refine zn8 ?_;refine x9 (mo-1) oG agA ?_;replace hB:=hB.tr0 (s5.t (s6.t (s7.t (s8.t s9))))
        first
          | exact⟨p+1,by omega,by omega,rfl,hv.trans a2,hB⟩
          | exact⟨p+9,by omega,by omega,rfl,hv.trans (a2.trans ab),hB⟩
          | exact⟨p2,by omega,by omega,rfl,hv.trans ac,hB⟩
          | exact⟨p+2,by omega,by omega,rfl,hv.trans a1,hB⟩
          | exact⟨p+3,by omega,by omega,rfl,hv.trans a1,hB⟩
          | exact⟨p+4,by omega,by omega,rfl,hv.trans a1,hB⟩
       refine jY [] [0,1,2,3,4,6,7,10,11,13,14,5,8,9,12,15,16,17,18,19,20] rfl (fun w12 s10=>?_);refine zn2 ?_;refine hle rfl (fun _=>r_gtr rfl rfl) (ag (ap (by rw[yy];omega))) (zn29 ?_);refine x9 (mo-1) oG agA ?_;replace hB:=hB.tr0 s10
       first
         | exact⟨p+1,by omega,by omega,rfl,hv.trans a2,hB⟩
         | exact⟨p+9,by omega,by omega,rfl,hv.trans (a2.trans ab),hB⟩
         | exact⟨p2,by omega,by omega,rfl,hv.trans ac,hB⟩
         | exact⟨p+2,by omega,by omega,rfl,hv.trans a1,hB⟩
         | exact⟨p+3,by omega,by omega,rfl,hv.trans a1,hB⟩
         | exact⟨p+4,by omega,by omega,rfl,hv.trans a1,hB⟩
      refine zn5 ?_;refine x9 (mo-1) oG agA ?_;replace hB:=hB.tr0 (s2.t (s3.t s4))
      first
        | exact⟨p+1,by omega,by omega,rfl,hv.trans a2,hB⟩
        | exact⟨p+9,by omega,by omega,rfl,hv.trans (a2.trans ab),hB⟩
        | exact⟨p2,by omega,by omega,rfl,hv.trans ac,hB⟩
        | exact⟨p+2,by omega,by omega,rfl,hv.trans a1,hB⟩
        | exact⟨p+3,by omega,by omega,rfl,hv.trans a1,hB⟩
        | exact⟨p+4,by omega,by omega,rfl,hv.trans a1,hB⟩
     refine jY [] [0,1,2,3,4,6,7,5,8,9,10,11,12] rfl (fun w13 s11=>?_);refine zn2 ?_;refine hle rfl (fun _=>r_gtr rfl rfl) (ag (ap (by rw[yy];omega))) (zn18 ?_);refine x9 (mo-1) oG agA ?_;replace hB:=hB.tr0 s11
     first
       | exact⟨p+1,by omega,by omega,rfl,hv.trans a2,hB⟩
       | exact⟨p+9,by omega,by omega,rfl,hv.trans (a2.trans ab),hB⟩
       | exact⟨p2,by omega,by omega,rfl,hv.trans ac,hB⟩
       | exact⟨p+2,by omega,by omega,rfl,hv.trans a1,hB⟩
       | exact⟨p+3,by omega,by omega,rfl,hv.trans a1,hB⟩
       | exact⟨p+4,by omega,by omega,rfl,hv.trans a1,hB⟩
    refine zn5 ?_;refine x9 (mo-1) oG agA ?_;replace hB:=hB.tr0 s1
    first
      | exact⟨p+1,by omega,by omega,rfl,hv.trans a2,hB⟩
      | exact⟨p+9,by omega,by omega,rfl,hv.trans (a2.trans ab),hB⟩
      | exact⟨p2,by omega,by omega,rfl,hv.trans ac,hB⟩
      | exact⟨p+2,by omega,by omega,rfl,hv.trans a1,hB⟩
      | exact⟨p+3,by omega,by omega,rfl,hv.trans a1,hB⟩
      | exact⟨p+4,by omega,by omega,rfl,hv.trans a1,hB⟩
   refine uJ ?_;refine x9 (mo-1) oG agA ?_
   first
     | exact⟨p+1,by omega,by omega,rfl,hv.trans a2,hB⟩
     | exact⟨p+9,by omega,by omega,rfl,hv.trans (a2.trans ab),hB⟩
     | exact⟨p2,by omega,by omega,rfl,hv.trans ac,hB⟩
     | exact⟨p+2,by omega,by omega,rfl,hv.trans a1,hB⟩
     | exact⟨p+3,by omega,by omega,rfl,hv.trans a1,hB⟩
     | exact⟨p+4,by omega,by omega,rfl,hv.trans a1,hB⟩
  have b9:128<=gb s p:=by omega
  refine zn3 ?_;have hU2:=hU.mono hB;have hft:=first_256 (gb s p);refine zn2 ?_;refine wl (BW (i:=(gb s p)) underlying157 Jw rfl rfl hb0 rfl) (wl (qj (v:= .int _ _) U5 rfl rfl (hU2.1.2 _ hb0)) (zn6 ?_));refine wl (r_and7 rfl rfl hft) (wl (S5 U5 U3 rfl oG) (zn6 ?_));refine wl (r_shr8 (b:=4) (c:=(Lib.firstT (gb s p))/16) rfl rfl dE rfl) (wl (BW (i:=((Lib.firstT (gb s p))/16)) underlying160 sz159 rfl rfl oG rfl) (wl (qw DX rfl rfl (hU2.2.2 _ oG) sz159) ?_));refine y8 (cs:=#[.int .u8 0,.int .u8 0]) ze159 rfl (fun _=>rfl) (fun _=>rfl) sz159 rfl xW (fun b6 ad b3 an hr=>?_);refine QY ?_;refine zZ rfl (fun c76=>?_) (fun c76=>?_)
  ·obtain⟨a5,a3⟩:=ok_n (n:=2) a4 (.inl rfl) oG;refine xQ (xQ ?_);refine xv (rg [] 78 17) (fun g w'=>(g 94= .bool (decide (jj s p 2)))/\Same [] ad w') ?_ (fun g17 w16 hI=>?_)
   ·have hZ:SameQ [] ad ad:=Same.refl _ _;refine oJ kR kR (fun w17 s13=>?_);replace hZ:=SameQ.trans hZ s13 (by simp);refine zn4 ?_;refine kX 81 rfl (fun g81=>?_) (fun g81=>?_)
    ·refine uJ ?_;refine uz ?_;refine e_R ⟨agA,?_⟩;refine⟨?_,hZ⟩
     first|exact ag (aj (by unfold jj;omega)).symm|exact ag (ap (by unfold jj;omega)).symm|exact ag (am.2 (by unfold jj;omega))
    refine yQ 81 rfl rfl (x6 (v:= .string _) rfl) (yQ 81 rfl rfl (kY (i:=1) U9 rfl rfl oG) (yQ 81 rfl rfl (jX DX Jw dE rfl rfl rfl) (yQ 81 rfl rfl (qj (v:= .int _ _) U5 rfl rfl (b3.u.cell rfl)) (yQ 81 rfl rfl (V4 rfl rfl) (zn2 ?_)))));refine kX 88 rfl (fun g88=>?_) (fun g88=>?_)
    ·refine zn6 ?_;refine uz ?_;refine e_R ⟨agA,?_⟩;refine⟨?_,hZ⟩
     first|exact ag (aj (by unfold jj;omega)).symm|exact ag (ap (by unfold jj;omega)).symm|exact ag (am.2 (by unfold jj;omega))
    refine yQ 88 rfl rfl (jX DX Jw dE rfl rfl rfl) (yQ 88 rfl rfl (qj (v:= .int _ _) U5 rfl rfl (b3.u.cell rfl)) (yQ 88 rfl rfl (x6 (v:= .string _) rfl) (yQ 88 rfl rfl (kY (i:=1) U9 rfl rfl oG) (yQ 88 rfl rfl (V4 rfl rfl) (zn1 ?_)))));refine uz ?_;refine e_R ⟨agA,?_⟩;refine⟨?_,hZ⟩
    first|exact ag (aj (by unfold jj;omega)).symm|exact ag (ap (by unfold jj;omega)).symm|exact ag (am.2 (by unfold jj;omega))
   obtain⟨h94,s14⟩:=hI;refine vZ 94 _ h94 nu (e_S ?_);refine zZ rfl (fun ba=>?_) (fun ba=>?_)
   ·have ao:=Ly a4 (a5 ba);refine uJ ?_;replace hB:=hB.tr0 (an.t s14);exact⟨by rw[hv,ao];rfl,hB⟩
   have hnb:2<=s.size-p:=by unfold jj at ba;omega
   obtain⟨b8,b4⟩:=a3 ba;have a1:=LZ a4 b8;rw[b4]at a1;refine zn4 ?_;refine wl (Yx (l:=2) U9 rfl rfl (by unfold jj at ba;omega)) (wl (oz (v:= .string (sdr (p+2) s)) (by exact congrArg Value.string (Q3 _ _ s))) (zn3 ?_));refine x9 (mo-1) oG agA ?_;replace hB:=hB.tr0 (an.t s14)
   first
     | exact⟨p+1,by omega,by omega,rfl,hv.trans a2,hB⟩
     | exact⟨p+9,by omega,by omega,rfl,hv.trans (a2.trans ab),hB⟩
     | exact⟨p2,by omega,by omega,rfl,hv.trans ac,hB⟩
     | exact⟨p+2,by omega,by omega,rfl,hv.trans a1,hB⟩
     | exact⟨p+3,by omega,by omega,rfl,hv.trans a1,hB⟩
     | exact⟨p+4,by omega,by omega,rfl,hv.trans a1,hB⟩
  refine zn6 ?_;refine zZ rfl (fun c97=>?_) (fun c97=>?_)
  ·obtain⟨a5,a3⟩:=ok_n (n:=3) a4 (.inr (.inl rfl)) oG;refine xQ (xQ ?_);refine xv (rg [] 99 27) (fun g w'=>(g 125= .bool (decide (jj s p 3)))/\Same [] ad w') ?_ (fun g21 w18 hI=>?_)
   ·have hZ:SameQ [] ad ad:=Same.refl _ _;refine oJ kR kR (fun w19 s15=>?_);replace hZ:=SameQ.trans hZ s15 (by simp);refine zn4 ?_;refine kX 102 rfl (fun bn=>?_) (fun bn=>?_)
    ·refine zn23 ?_;refine uz ?_;refine e_R ⟨agA,?_⟩;refine⟨?_,hZ⟩
     first|exact ag (aj (by unfold jj;omega)).symm|exact ag (ap (by unfold jj;omega)).symm|exact ag (am.2 (by unfold jj;omega))
    refine yQ 102 rfl rfl (x6 (v:= .string _) rfl) (yQ 102 rfl rfl (kY (i:=1) U9 rfl rfl oG) (yQ 102 rfl rfl (jX DX Jw dE rfl rfl rfl) (yQ 102 rfl rfl (qj (v:= .int _ _) U5 rfl rfl (b3.u.cell rfl)) (yQ 102 rfl rfl (V4 rfl rfl) (zn2 ?_)))));refine kX 109 rfl (fun bm=>?_) (fun bm=>?_)
    ·refine Jq ?_;refine uz ?_;refine e_R ⟨agA,?_⟩;refine⟨?_,hZ⟩
     first|exact ag (aj (by unfold jj;omega)).symm|exact ag (ap (by unfold jj;omega)).symm|exact ag (am.2 (by unfold jj;omega))
    refine yQ 109 rfl rfl (jX DX Jw dE rfl rfl rfl) (yQ 109 rfl rfl (qj (v:= .int _ _) U5 rfl rfl (b3.u.cell rfl)) (yQ 109 rfl rfl (x6 (v:= .string _) rfl) (yQ 109 rfl rfl (kY (i:=1) U9 rfl rfl oG) (yQ 109 rfl rfl (V4 rfl rfl) (zn2 ?_)))));refine kX 116 rfl (fun bk=>?_) (fun bk=>?_)
    ·refine zn9 ?_;refine uz ?_;refine e_R ⟨agA,?_⟩;refine⟨?_,hZ⟩
     first|exact ag (aj (by unfold jj;omega)).symm|exact ag (ap (by unfold jj;omega)).symm|exact ag (am.2 (by unfold jj;omega))
    refine yQ 116 rfl rfl (x6 (v:= .string _) rfl) (yQ 116 rfl rfl (kY (i:=2) U9 rfl rfl oG) (yQ 116 rfl rfl (V4 rfl rfl) (zn2 ?_)));refine kX 121 rfl (fun bj=>?_) (fun bj=>?_)
    ·refine zn4 ?_;refine uz ?_;refine e_R ⟨agA,?_⟩;refine⟨?_,hZ⟩
     first|exact ag (aj (by unfold jj;omega)).symm|exact ag (ap (by unfold jj;omega)).symm|exact ag (am.2 (by unfold jj;omega))
    refine yQ 121 rfl rfl (x6 (v:= .string _) rfl) (yQ 121 rfl rfl (kY (i:=2) U9 rfl rfl oG) (yQ 121 rfl rfl (V4 rfl rfl) (zn1 ?_)));refine uz ?_;refine e_R ⟨agA,?_⟩;refine⟨?_,hZ⟩
    first|exact ag (aj (by unfold jj;omega)).symm|exact ag (ap (by unfold jj;omega)).symm|exact ag (am.2 (by unfold jj;omega))
   obtain⟨bc,s16⟩:=hI;refine vZ 125 _ bc nu (e_S ?_);refine zZ rfl (fun a9=>?_) (fun a9=>?_)
   ·have ao:=Ly a4 (a5 a9);refine uJ ?_;replace hB:=hB.tr0 (an.t s16);exact⟨by rw[hv,ao];rfl,hB⟩
   have hnb:3<=s.size-p:=by unfold jj at a9;omega
   obtain⟨b8,b4⟩:=a3 a9;have a1:=LZ a4 b8;rw[b4]at a1;refine zn4 ?_;refine wl (Yx (l:=3) U9 rfl rfl (by unfold jj at a9;omega)) (wl (oz (v:= .string (sdr (p+3) s)) (by exact congrArg Value.string (Q3 _ _ s))) (zn3 ?_));refine x9 (mo-1) oG agA ?_;replace hB:=hB.tr0 (an.t s16)
   first
     | exact⟨p+1,by omega,by omega,rfl,hv.trans a2,hB⟩
     | exact⟨p+9,by omega,by omega,rfl,hv.trans (a2.trans ab),hB⟩
     | exact⟨p2,by omega,by omega,rfl,hv.trans ac,hB⟩
     | exact⟨p+2,by omega,by omega,rfl,hv.trans a1,hB⟩
     | exact⟨p+3,by omega,by omega,rfl,hv.trans a1,hB⟩
     | exact⟨p+4,by omega,by omega,rfl,hv.trans a1,hB⟩
  refine zn6 ?_;refine zZ rfl (fun bo=>?_) (fun bo=>?_)
  ·obtain⟨a5,a3⟩:=ok_n (n:=4) a4 (.inr (.inr rfl)) oG;refine xQ (xQ ?_);refine xv (rg [] 130 37) (fun g w'=>(g 166= .bool (decide (jj s p 4)))/\Same [] ad w') ?_ (fun g25 w20 hI=>?_)
   ·have hZ:SameQ [] ad ad:=Same.refl _ _;refine oJ kR kR (fun w21 s17=>?_);replace hZ:=SameQ.trans hZ s17 (by simp);refine zn4 ?_;refine kX 133 rfl (fun bi=>?_) (fun bi=>?_)
    ·refine zn30 ?_;refine zn3 ?_;refine uz ?_;refine e_R ⟨agA,?_⟩;refine⟨?_,hZ⟩
     first|exact ag (aj (by unfold jj;omega)).symm|exact ag (ap (by unfold jj;omega)).symm|exact ag (am.2 (by unfold jj;omega))
    refine yQ 133 rfl rfl (x6 (v:= .string _) rfl) (yQ 133 rfl rfl (kY (i:=1) U9 rfl rfl oG) (yQ 133 rfl rfl (jX DX Jw dE rfl rfl rfl) (yQ 133 rfl rfl (qj (v:= .int _ _) U5 rfl rfl (b3.u.cell rfl)) (yQ 133 rfl rfl (V4 rfl rfl) (zn2 ?_)))));refine kX 140 rfl (fun bh=>?_) (fun bh=>?_)
    ·refine zn26 ?_;refine uz ?_;refine e_R ⟨agA,?_⟩;refine⟨?_,hZ⟩
     first|exact ag (aj (by unfold jj;omega)).symm|exact ag (ap (by unfold jj;omega)).symm|exact ag (am.2 (by unfold jj;omega))
    refine yQ 140 rfl rfl (jX DX Jw dE rfl rfl rfl) (yQ 140 rfl rfl (qj (v:= .int _ _) U5 rfl rfl (b3.u.cell rfl)) (yQ 140 rfl rfl (x6 (v:= .string _) rfl) (yQ 140 rfl rfl (kY (i:=1) U9 rfl rfl oG) (yQ 140 rfl rfl (V4 rfl rfl) (zn2 ?_)))));refine kX 147 rfl (fun bg=>?_) (fun bg=>?_)
    ·refine zn19 ?_;refine uz ?_;refine e_R ⟨agA,?_⟩;refine⟨?_,hZ⟩
     first|exact ag (aj (by unfold jj;omega)).symm|exact ag (ap (by unfold jj;omega)).symm|exact ag (am.2 (by unfold jj;omega))
    refine yQ 147 rfl rfl (x6 (v:= .string _) rfl) (yQ 147 rfl rfl (kY (i:=2) U9 rfl rfl oG) (yQ 147 rfl rfl (V4 rfl rfl) (zn2 ?_)));refine kX 152 rfl (fun bf=>?_) (fun bf=>?_)
    ·refine QY ?_;refine uz ?_;refine e_R ⟨agA,?_⟩;refine⟨?_,hZ⟩
     first|exact ag (aj (by unfold jj;omega)).symm|exact ag (ap (by unfold jj;omega)).symm|exact ag (am.2 (by unfold jj;omega))
    refine yQ 152 rfl rfl (x6 (v:= .string _) rfl) (yQ 152 rfl rfl (kY (i:=2) U9 rfl rfl oG) (yQ 152 rfl rfl (V4 rfl rfl) (zn2 ?_)));refine kX 157 rfl (fun be=>?_) (fun be=>?_)
    ·refine zn9 ?_;refine uz ?_;refine e_R ⟨agA,?_⟩;refine⟨?_,hZ⟩
     first|exact ag (aj (by unfold jj;omega)).symm|exact ag (ap (by unfold jj;omega)).symm|exact ag (am.2 (by unfold jj;omega))
    refine yQ 157 rfl rfl (x6 (v:= .string _) rfl) (yQ 157 rfl rfl (kY (i:=3) U9 rfl rfl oG) (yQ 157 rfl rfl (V4 rfl rfl) (zn2 ?_)));refine kX 162 rfl (fun bd=>?_) (fun bd=>?_)
    ·refine zn4 ?_;refine uz ?_;refine e_R ⟨agA,?_⟩;refine⟨?_,hZ⟩
     first|exact ag (aj (by unfold jj;omega)).symm|exact ag (ap (by unfold jj;omega)).symm|exact ag (am.2 (by unfold jj;omega))
    refine yQ 162 rfl rfl (x6 (v:= .string _) rfl) (yQ 162 rfl rfl (kY (i:=3) U9 rfl rfl oG) (yQ 162 rfl rfl (V4 rfl rfl) (zn1 ?_)));refine uz ?_;refine e_R ⟨agA,?_⟩;refine⟨?_,hZ⟩
    first|exact ag (aj (by unfold jj;omega)).symm|exact ag (ap (by unfold jj;omega)).symm|exact ag (am.2 (by unfold jj;omega))
   obtain⟨bb,s18⟩:=hI;refine vZ 166 _ bb nu (e_S ?_);refine zZ rfl (fun a8=>?_) (fun a8=>?_)
   ·have ao:=Ly a4 (a5 a8);refine uJ ?_;replace hB:=hB.tr0 (an.t s18);exact⟨by rw[hv,ao];rfl,hB⟩
   have hnb:4<=s.size-p:=by unfold jj at a8;omega
   obtain⟨b8,b4⟩:=a3 a8;have a1:=LZ a4 b8;rw[b4]at a1;refine zn4 ?_;refine wl (Yx (l:=4) U9 rfl rfl (by unfold jj at a8;omega)) (wl (oz (v:= .string (sdr (p+4) s)) (by exact congrArg Value.string (Q3 _ _ s))) (zn3 ?_));refine x9 (mo-1) oG agA ?_;replace hB:=hB.tr0 (an.t s18)
   first
     | exact⟨p+1,by omega,by omega,rfl,hv.trans a2,hB⟩
     | exact⟨p+9,by omega,by omega,rfl,hv.trans (a2.trans ab),hB⟩
     | exact⟨p2,by omega,by omega,rfl,hv.trans ac,hB⟩
     | exact⟨p+2,by omega,by omega,rfl,hv.trans a1,hB⟩
     | exact⟨p+3,by omega,by omega,rfl,hv.trans a1,hB⟩
     | exact⟨p+4,by omega,by omega,rfl,hv.trans a1,hB⟩
  have ao:=Ly a4 (ok_bad b9 oG oG oG);refine yZ ?_;replace hB:=hB.tr0 an;exact⟨by rw[hv,ao];rfl,hB⟩
 have hsp:=yy p s;refine yZ ?_;exact⟨by rw[hv,vq_end oG];rfl,hB⟩
theorem wrap8{a:Nat}(h:a<256):IntKind.u8.wrap (a:Int)=a:=by
 have:∀ a:Nat,a<256->IntKind.u8.wrap (a:Int)=a:=by decide +kernel
 exact this a h
theorem ixl_any(s:ByteArray)(c:Int)(w:World):Calls prog 127 #[.string s,.int .u8 c] w fun e w'=>e= .returned (.int .i64 (Lib.indexByte (bl s) c.toNat.toUInt8))/\w=w':=by
 refine enter func127 ntmps127 rfl (aA rfl) (zn9 ?_);refine wl (r_ext (args:=[.string s,.int .u8 c]) (run_ixb (P:=prog) func128 kR kR kR kR) rfl) (zn5 ?_);exact⟨rfl,rfl⟩
theorem ixb2_any(s:ByteArray)(c:Int)(w:World):Calls prog 122 #[.string s,.int .u8 c] w fun e w'=>e= .returned (.int .i64 (Lib.indexByte (bl s) c.toNat.toUInt8))/\w=w':=by
 refine enter func122 ntmps122 rfl (aA rfl) (zn9 ?_);refine zW kR (ixl_any s c _) rfl (fun e' w1 hr=>?_);obtain⟨rfl,rfl⟩:=hr;refine⟨_,rfl,?_⟩;refine zn5 ?_;exact⟨rfl,rfl⟩
theorem vrune_any(r:Int)(w:World):Calls prog 123 #[.int .i32 r] w fun e w'=>(∃ b,e= .returned (.bool b))/\w=w':=by
 refine enter func123 ntmps123 rfl (aA rfl) (zn8 ?_);refine xj [3,4,5,6,7,8,9] 3 (.bool (decide (0<=r/\r<55296))) nu ?_ (fun gq=>?_)
 ·refine zn4 ?_;refine zk 6 rfl (fun g6=>?_) (fun g6=>?_)
  ·refine zn6 ?_;exact xq
  refine zn4 ?_;exact xq
 refine e_S ?_;refine zZ rfl (fun c3=>?_) (fun c3=>?_)
 ·refine zn9 ?_;exact⟨⟨true,rfl⟩,rfl⟩
 refine xQ ?_;refine xj [10,11,12,13,14,15,16] 10 (.bool (decide (57343<r/\r<=1114111))) nu ?_ (fun gq=>?_)
 ·refine zn4 ?_;refine zk 13 rfl (fun g13=>?_) (fun g13=>?_)
  ·refine zn6 ?_;exact xq
  refine zn4 ?_;exact xq
 refine e_S ?_;refine zZ rfl (fun c10=>?_) (fun c10=>?_)
 ·refine zn9 ?_;exact⟨⟨true,rfl⟩,rfl⟩
 refine yj ?_;exact⟨⟨false,rfl⟩,rfl⟩
theorem sua_any(n:Nat)(w:World):Calls prog 115 #[.int .i64 ((n:Nat):Int)] w fun e w'=>e= .returned (.bool (decide (8<n)))/\w=w':=by
 refine enter func115 ntmps115 rfl (aA rfl) (QY ?_);exact⟨congrArg (fun z=>Ending.returned (.bool z)) (am.2 (by constructor<;>(intro h;omega))),rfl⟩
set_option maxRecDepth 100000 in
set_option maxHeartbeats 4000000 in
theorem ixr_any(r:Nat)(w:World):Calls prog 114 #[.string CH,.int .i32 ((r:Nat):Int)] w fun e w'=>(∃ z:Int,e= .returned (.int .i64 z)/\(0<=z↔spc r=true))/\Bel w w':=by
 have hcs:CH.size=9:=rfl;refine enT func114 ntmps114 rfl rfl fun hB=>?_;refine zn7 ?_;refine xj [160,161,162,163,164,165,166] 160 (.bool (decide (0<=(r:Int)/\(r:Int)<128))) nu ?_ (fun gq=>?_)
 ·refine zn4 ?_;refine zk 163 rfl (fun ac=>?_) (fun ac=>?_)
  ·refine zn6 ?_;exact xq
  refine zn4 ?_;exact xq
 refine e_S ?_;refine zZ rfl (fun ao=>?_) (fun ao=>?_)
 ·refine zn4 ?_;refine wl (EJ underlying21 U5 rfl (wrap8 oG)) ?_;refine zW kR (ixb2_any CH _ _) rfl (fun e' w1 hr=>?_);obtain⟨rfl,rfl⟩:=hr;refine⟨_,rfl,?_⟩;refine zn6 ?_;have h:=ch_ix r oG;exact⟨⟨_,rfl,by rw[<- h,decide_eq_true_iff];rfl⟩,hB⟩
 have a8:spc r=false:=by cases h:spc r with|false=>rfl|true=>have:=Wq h;omega
 have a4:128<=r:=by omega
 refine zn7 ?_;refine zZ rfl (fun an=>?_) (fun an=>?_)
 ·refine zn4 ?_;refine wl_rg U9 rfl (fun b1 w2 a1 s1 hr=>?_);have a3:=hB.ob hr;refine zn3 ?_;refine qz (rg [4,5,6] 176 7) (fun m g w'=>∃ p:Nat,p<=9/\m=9-p/\Bel w w'/\ItIn w' b1 CH p) (9) ?_ (fun m g38 w3 hI=>?_)
  ·exact⟨0,by omega,rfl,hB.u,a1⟩
  obtain⟨p,hp,hm,hB,a1⟩:=hI;refine zn2 ?_;rcases Nat.lt_or_ge (p) (CH).size with hnlt|hnge
  ·refine wl_nx a1 rfl hnlt (fun w4 hq s2=>?_);replace a1:=hq;have hwl:=NZ (ch_lt p oG);have hlt:=ch_lt p oG;refine wl (yW (v:= .bool true) rfl rfl) (zn9 ?_);refine wl (yW (v:= .int _ _) rfl rfl) (wl (yW (v:= .int _ _) rfl rfl) (yj ?_));refine zZ rfl (fun a5=>?_) (fun a5=>?_)
   ·exact absurd a5 (by rw[hwl.2];omega)
   refine QK (e_B (x9 (9-(p+1)) oG agA ?_));replace hB:=hB.tr1 s2 a3;exact⟨p+1,by omega,rfl,hB,by have h:=a1;rw[show (Utf8.decode CH p).2=1 from hwl.1]at h;exact h⟩
  refine wl (r_ne a1 rfl (Nat.not_lt.2 hnge)) (wl (yW (v:= .bool false) rfl rfl) (Nk ?_));exact⟨⟨-1,rfl,⟨fun h=>by omega,fun h=>by rw[a8]at h;cases h⟩⟩,hB⟩
 refine zn3 ?_;refine zW kR (vrune_any _ _) rfl (fun e' w5 hr=>?_);obtain⟨⟨bv,rfl⟩,rfl⟩:=hr;refine⟨_,rfl,?_⟩;refine zn4 ?_;refine jv rfl (fun ad=>?_) (fun ad=>?_)
 ·refine zn8 ?_;exact⟨⟨-1,rfl,⟨fun h=>by omega,fun h=>by rw[a8]at h;cases h⟩⟩,hB⟩
 refine c_scope (zn3 ?_);refine wl (r_rstr underlying21 U9 rfl) (zn4 ?_);obtain⟨hE2,hE4,hEh⟩:=enc_hi a4;refine zn3 ?_;refine wl (jJ (c:=(((Utf8.encode (r:Int)).size-1:Nat):Int)) rfl rfl oG oG) (Jq ?_);refine qz (rg [4,9,10,11,12] 23 76) (fun m g w'=>m=0/\g 9= .int .i64 (((Utf8.encode (r:Int)).size-1:Nat):Int)/\Bel w w') (0) ?_ (fun m g5 w6 hI=>?_)
 ·exact⟨rfl,rfl,hB⟩
 obtain⟨hm,h9,hB⟩:=hI;refine zQ 9 _ h9 nu (zn9 ?_);refine zZ rfl (fun c26=>?_) (fun c26=>?_)
 ·obtain⟨ii,a9⟩:∃ x,x=(Utf8.encode (r:Int)).size-1:=⟨_,rfl⟩
  have hi9:ii<9:=by omega
  have hclo:=ch_lt ii hi9;have ab:=hEh ((Utf8.encode (r:Int)).size-1) oG;have a2:Lib.indexByte (bl (sdr (ii+1) CH)) (((gb (Utf8.encode (r:Int)) ((Utf8.encode (r:Int)).size-1):Nat):Int)).toNat.toUInt8<0:=by
    refine ixb_none (fun hm=>?_);rw[IJ]at hm;have h1:=List.mem_of_mem_drop hm;have h2:∀ x∈bl CH,x.toNat<128:=by decide
    have h3:=h2 _ h1;have h4:=oX (Utf8.encode (r:Int)) ((Utf8.encode (r:Int)).size-1);rw[Int.toNat_natCast,show ((gb (Utf8.encode (r:Int)) ((Utf8.encode (r:Int)).size-1))).toUInt8.toNat=gb (Utf8.encode (r:Int)) ((Utf8.encode (r:Int)).size-1)from Nat.mod_eq_of_lt h4]at h3;omega
  rw[<- a9]at a2 ab;refine zn3 ?_;refine c_scope (xQ (xQ ?_));refine oJ kR kR (fun w7 s3=>?_);refine zn2 ?_;refine ws (kY (i:=((Utf8.encode (r:Int)).size-1)) U9 rfl rfl oG) (zn2 ?_);refine ws (kY (i:=((Utf8.encode (r:Int)).size-1)) U9 rfl rfl oG) (zn1 ?_);refine uz (e_S ?_);refine zZ rfl (fun c33=>?_) (fun c33=>?_)
  ·refine xQ ?_;refine oJ kR kR (fun w8 s4=>?_);refine zn2 ?_;refine ws (uW (c:=((ii+1:Nat):Int)) rfl rfl (by rw[<- a9];rfl) oG) (ws (Yx (l:=(ii+1)) U9 rfl rfl oG) (zn2 ?_));refine ws (kY (i:=((Utf8.encode (r:Int)).size-1)) U9 rfl rfl oG) (ws_cl kR (ixb2_any (sdr (ii+1) CH) _ _) rfl (zn1 ?_));refine uz (zn8 ?_);refine zZ rfl (fun c43=>?_) (fun c43=>?_)
   ·refine zn8 ?_;refine e_Nr (zn4 ?_);refine e_Nr (zn2 ?_);replace hB:=hB.tr0 (s3.t s4);exact⟨⟨-1,rfl,⟨fun h=>by omega,fun h=>by rw[a8]at h;cases h⟩⟩,hB⟩
   exact absurd (by rw[<- a9];exact a2) c43
  exact absurd (fun h=>by rw[<- a9]at h;omega) c33
 refine uJ ?_;refine e_Nr (zn2 ?_);exact⟨⟨-1,rfl,⟨fun h=>by omega,fun h=>by rw[a8]at h;cases h⟩⟩,hB⟩
abbrev aa:Array Value:=Array.replicate 256 (.bool false)
theorem sz181:(prog.info? 181).map (·.size)=some 256:=by kernel_rfl
theorem ze181:(prog.info? 181).map (·.zero)=some (some (.agg aa)):=by kernel_rfl
theorem mas_any(w:World):Calls prog 116 #[.string CH] w fun e w'=>e= .returned (.tuple #[.agg (row 256 (fun x=> .bool (spc x))),.bool true])/\Bel w w':=by
 have hcs:CH.size=9:=rfl;refine enT func116 ntmps116 rfl rfl fun hB=>?_;refine zn2 ?_;refine qQ (cs:=aa) ze181 rfl (fun b2 w1 a1 s1 hr=>?_)
 have lo2:=hB.ob hr;refine yj ?_;refine qz (rg [] 3 17) (fun m g w'=>∃ k:Nat,k<=9/\m=9-k/\g 4= .int .i64 k/\Bel w w'/\Blk w' b2 181 (row 256 (fun x=> .bool (chs k x)))) (9) ?_ (fun m g2 w2 hI=>?_)
 ·exact⟨0,ah _,rfl,rfl,hB.u,a1⟩
 obtain⟨k,hk,hm,h4,hB,a1⟩:=hI;refine zQ 4 _ h4 nu (zn9 ?_);refine zZ rfl (fun c9=>?_) (fun c9=>?_)
 ·have a2:k<9:=by omega
  have hlo:=ch_lt k a2;refine zn8 ?_;refine wl (kY (i:=k) U9 rfl rfl oG) (yj ?_);refine zZ rfl (fun c16=>?_) (fun c16=>?_)
  ·exact absurd c16 oG
  refine zn4 ?_;refine wl (BW (i:=(gb CH k)) U181 j8 rfl rfl oG rfl) ?_;refine xx (v:= .bool _) a1 rfl rfl j8 (by rw[row_size];omega) rfl kv (fun w3 hq s2=>?_);replace a1:=hq;rw[xy (g':=fun x=> .bool (chs (k+1) x)) (fun x _=>by rw[chs_step];by_cases e:x=gb CH k<;>simp[e])]at a1;refine zn8 ?_;refine x9 (9-(k+1)) oG agA ?_;exact⟨k+1,by omega,rfl,rfl,hB.u,a1⟩
 have a2:k=9:=by omega
 subst a2;have a3:Blk w2 b2 181 (row 256 (fun x=> .bool (spc x))):=by rw[xy (g':=fun x=> .bool (chs 9 x)) (fun x hx=>by rw[chs_all x hx])];exact a1
 refine zn6 ?_;replace a1:=a3;refine zn2 ?_;refine zV a1 (fun w4 hq s3=>?_);replace a1:=hq;refine zn4 ?_;refine uK (.inl rfl) rfl (zX U181 rfl rfl a1.range0 sz181) rfl ?_;exact⟨rfl,hB.u⟩
theorem cnt_any(b6 c:Nat)(w:World)(hb6:Blk w b6 181 (row 256 (fun x=> .bool (spc x))))(hc:c<256):Calls prog 117 #[.pointer (some ⟨b6,0,none⟩),.int .u8 ((c:Nat):Int)] w fun e w'=>e= .returned (.bool (spc c))/\w=w':=by
 refine enter func117 ntmps117 rfl (aA rfl) (zn7 ?_);refine wl (x6 (v:= .pointer (some _)) rfl) (wmI rfl (wl (Xk rfl) (wl (BW (i:=c) U181 j8 rfl rfl hc rfl) (wl (qj (v:= .bool _) U4 rfl rfl (hb6.cell (j5 hc))) (zn5 ?_)))));exact⟨rfl,rfl⟩
theorem ixa_any(s:ByteArray)(w:World)(hsz:s.size<9223372036854775807):Calls prog 98 #[.string s,.string CH] w fun e w'=>(∃ z:Int,e= .returned (.int .i64 z)/\(0<=z↔brd s 0=true))/\Bel w w':=by
 refine enT func98 ntmps98 rfl rfl fun hB=>?_;refine yZ ?_;refine zZ rfl (fun c12=>?_) (fun c12=>?_)
 ·exact absurd c12 dE
 refine yj ?_;refine zZ rfl (fun c15=>?_) (fun c15=>?_)
 ·exact absurd c15 dE
 refine zn7 ?_;refine zW kR (sua_any s.size _) rfl (fun e' w1 hr=>?_);obtain⟨rfl,rfl⟩:=hr;refine⟨_,rfl,?_⟩;refine qY (e_S ?_);refine jv rfl (fun c26=>?_) (fun c26=>?_)
 ·refine zn3 ?_;refine a7 kR (mas_any _) rfl (fun w2 s1=>?_);refine wmT rfl (wl (yW (v:= .agg _) rfl rfl) (wl (yW (v:= .bool _) rfl rfl) ?_));refine y8 (cs:=aa) ze181 rfl (fun _=>rfl) (fun _=>rfl) sz181 rfl xW (fun b6 w4 a4 s2 hr=>?_)
  refine zn8 ?_;refine jv rfl (fun c32=>?_) (fun c32=>?_)
  ·refine zn7 ?_;refine qz (rg [4,8] 33 11) (fun m g w'=>∃ k:Nat,k<=s.size/\m=s.size-k/\g 8= .int .i64 k/\Bel w w'/\Blk w' b6 181 (row 256 (fun x=> .bool (spc x)))/\∀ j,j<k->spc (gb s j)=false) (s.size) ?_ (fun m g12 w5 hI=>?_)
   ·exact⟨0,ah _,rfl,rfl,hB.u,a4,fun j hj=>by omega⟩
   obtain⟨k,hk,hm,h8,hB,a4,a2⟩:=hI;refine zQ 8 _ h8 nu (zn9 ?_);refine zZ rfl (fun c36=>?_) (fun c36=>?_)
   ·refine zn8 ?_;refine wl (kY (i:=k) U9 rfl rfl oG) ?_;refine zW kR (cnt_any b6 _ _ a4 (oX s k)) rfl (fun e' w6 hr=>?_);obtain⟨rfl,rfl⟩:=hr;refine⟨_,rfl,?_⟩;refine qY (e_S ?_);refine jv rfl (fun a9=>?_) (fun a9=>?_)
    ·refine QY ?_;exact⟨⟨_,rfl,⟨fun _=>brd_byte (m:=s.size) oG (ah k) oG a9,fun _=>Int.natCast_nonneg k⟩⟩,hB⟩
    refine zn8 ?_;refine x9 (s.size-(k+1)) oG agA ?_
    exact⟨k+1,by omega,rfl,rfl,hB,a4,fun j hj=>by
      by_cases e:j=k
      · subst e;simpa using a9
      · exact a2 j oG⟩
   refine uJ ?_;have hno:brd s 0=false:=by
     cases h:brd s 0 with
     | false=>rfl
     | true=>
       obtain⟨q,_,h2,h3⟩:=byte_brd (m:=s.size) oG h;rw[a2 q oG]at h3;cases h3
   exact⟨⟨-1,rfl,⟨fun h=>by omega,fun h=>by rw[hno]at h;cases h⟩⟩,hB⟩
  exact absurd c32 dE
 refine zn6 ?_;refine wl_rg U9 rfl (fun b45 w7 a1 s3 hr=>?_);have a5:=hB.ob hr;refine zn3 ?_;refine qz (rg [4,9,10] 46 9) (fun m g w'=>∃ p:Nat,p<=s.size/\s.size-p<=m/\Bel w w'/\ItIn w' b45 s p/\brd s 0=brd s p) (s.size) ?_ (fun m g18 w8 hI=>?_)
 ·exact⟨0,ah _,ai _,hB.u,a1,rfl⟩
 obtain⟨p,hp,hm,hB,a1,a3⟩:=hI;refine zn2 ?_;rcases Nat.lt_or_ge (p) (s).size with hnlt|hnge
 ·refine wl_nx a1 rfl hnlt (fun w9 hq s4=>?_);replace a1:=hq;have hwp:=Xq hnlt;have hwl:=FJ hnlt;refine wl (yW (v:= .bool true) rfl rfl) (zn9 ?_);refine wl (yW (v:= .int _ _) rfl rfl) (wl (yW (v:= .int _ _) rfl rfl) (zn8 ?_));refine zW kR (ixr_any _ _) rfl (fun e' w10 hr=>?_);obtain⟨⟨z,rfl,hz⟩,s5⟩:=hr;replace s5:=sB s5;refine⟨_,rfl,?_⟩;refine zn3 ?_;refine zZ rfl (fun a8=>?_) (fun a8=>?_)
  ·have hbt:brd s 0=true:=by rw[a3,Jz hnlt,hz.1 a8];rfl
   refine yZ ?_;exact⟨⟨_,rfl,⟨fun _=>hbt,fun _=>Int.natCast_nonneg p⟩⟩,hB.u⟩
  have hsn:spc (Utf8.decode s p).1=false:=by cases h:spc (Utf8.decode s p).1 with|false=>rfl|true=>exact absurd (hz.2 h) a8
  refine QK (e_B (x9 (m-1) oG agA ?_));replace hB:=(hB.tr1 s4 a5).tr0 s5;replace a1:=a1.tr0 s5;exact⟨p+wdt s p,hwl,by omega,hB,a1,by rw[a3,Jz hnlt,hsn,Bool.false_or]⟩
 refine wl (r_ne a1 rfl (Nat.not_lt.2 hnge)) ?_;rw[Cz (Nat.not_lt.2 hnge)]at a3;refine wl (yW (v:= .bool false) rfl rfl) (Jq ?_);exact⟨⟨-1,rfl,⟨fun h=>by omega,fun h=>by rw[a3]at h;cases h⟩⟩,hB⟩
theorem cany_any(s:ByteArray)(w:World)(hsz:s.size<9223372036854775807):Calls prog 70 #[.string s,.string CH] w fun e w'=>e= .returned (.bool (brd s 0))/\Bel w w':=by
 refine enT func70 ntmps70 rfl rfl fun hB=>?_;refine zn9 ?_;refine zW kR (ixa_any s _ hsz) rfl (fun e' w1 hr=>?_);obtain⟨⟨z,rfl,hz⟩,s1⟩:=hr;replace s1:=sB s1;refine⟨_,rfl,?_⟩;refine zn6 ?_;replace hB:=hB.tr0 s1;exact⟨congrArg (fun b=>Ending.returned (.bool b)) (by cases h:brd s 0 with|true=>exact aj (hz.2 h)|false=>exact ap (fun h2=>by rw[hz.1 h2]at h;cases h)),hB⟩
set_option maxHeartbeats 1000000 in
theorem Ck(s:ByteArray)(w:World)(hU:U8In w)(hsz:s.size<9223372036854775807):Calls Tryz.prog 42 #[.string s] w fun e w'=>e= .returned (.bool (yV s))/\Bel w w':=by
 refine enT Tryz.func42 Tryz.ntmps42 rfl rfl fun hB=>?_;refine zn8 ?_;refine a7 kR (rc_any s _ hsz) rfl (fun w1 s1=>?_);refine zn8 ?_;refine zk 8 rfl (fun g8=>?_) (fun g8=>?_)
 ·refine zn6 ?_;refine zk 12 rfl (fun g12=>?_) (fun g12=>?_)
  ·refine zn3 ?_;refine a7 kR (valid_any s _ (hU.mono hB.u) hsz) rfl (fun w2 s2=>?_);refine zn2 ?_;refine uv 16 rfl (fun a1=>?_) (fun a1=>?_)
   ·refine zn3 ?_;refine a7 kR (cany_any s _ hsz) rfl (fun w3 s3=>?_);refine zn8 ?_;replace hB:=hB.tr0 (s1.t (s2.t s3));exact⟨congrArg (fun b=>Ending.returned (.bool b)) (by unfold yV;first|(rw[decide_eq_true (show 1<=(ch s 0).length by omega),decide_eq_true (show (ch s 0).length<=30 by omega),a1];rfl)|(rw[decide_eq_true (show 1<=(ch s 0).length by omega),decide_eq_true (show (ch s 0).length<=30 by omega),Bool.eq_false_iff.2 a1];rfl)|(rw[decide_eq_false (show ¬(ch s 0).length<=30 by omega)];simp)|(rw[decide_eq_false (show ¬1<=(ch s 0).length by omega)];rfl)),hB⟩
   refine zn9 ?_;replace hB:=hB.tr0 (s1.t s2);exact⟨congrArg (fun b=>Ending.returned (.bool b)) (by unfold yV;first|(rw[decide_eq_true (show 1<=(ch s 0).length by omega),decide_eq_true (show (ch s 0).length<=30 by omega),a1];rfl)|(rw[decide_eq_true (show 1<=(ch s 0).length by omega),decide_eq_true (show (ch s 0).length<=30 by omega),Bool.eq_false_iff.2 a1];rfl)|(rw[decide_eq_false (show ¬(ch s 0).length<=30 by omega)];simp)|(rw[decide_eq_false (show ¬1<=(ch s 0).length by omega)];rfl)),hB⟩
  refine uJ ?_;replace hB:=hB.tr0 s1;exact⟨congrArg (fun b=>Ending.returned (.bool b)) (by unfold yV;first|(rw[decide_eq_true (show 1<=(ch s 0).length by omega),decide_eq_true (show (ch s 0).length<=30 by omega),a1];rfl)|(rw[decide_eq_true (show 1<=(ch s 0).length by omega),decide_eq_true (show (ch s 0).length<=30 by omega),Bool.eq_false_iff.2 a1];rfl)|(rw[decide_eq_false (show ¬(ch s 0).length<=30 by omega)];simp)|(rw[decide_eq_false (show ¬1<=(ch s 0).length by omega)];rfl)),hB⟩
 refine Nk ?_;replace hB:=hB.tr0 s1;exact⟨congrArg (fun b=>Ending.returned (.bool b)) (by unfold yV;first|(rw[decide_eq_true (show 1<=(ch s 0).length by omega),decide_eq_true (show (ch s 0).length<=30 by omega),a1];rfl)|(rw[decide_eq_true (show 1<=(ch s 0).length by omega),decide_eq_true (show (ch s 0).length<=30 by omega),Bool.eq_false_iff.2 a1];rfl)|(rw[decide_eq_false (show ¬(ch s 0).length<=30 by omega)];simp)|(rw[decide_eq_false (show ¬1<=(ch s 0).length by omega)];rfl)),hB⟩
theorem sz135:(Tryz.prog.info? 135).map (·.size)=some 1:=by kernel_rfl
theorem ze135:(Tryz.prog.info? 135).map (·.zero)=some (some (.nilFunc)):=by kernel_rfl
set_option maxHeartbeats 1000000 in
theorem NK(A B:Option Addr)(c m:Nat)(t:Tm)(w:World)(hS:SimsIn w A t.type.args)(hT:TmsIn w B t.args):Calls Tryz.prog 44 #[.agg (cD (t) A c B m)] w fun e w'=>e= .returned (flV (tmF t))/\Bel w w':=by
 refine enT Tryz.func44 Tryz.ntmps44 rfl rfl fun hB=>?_;refine zn2 ?_;refine qv (cs:=#[_,_,_,_,_,_]) rfl (fun b1 w1 a2 t1 hr=>?_);refine qQ (cs:=#[.int .i64 0,.int .i64 0]) qV rfl (fun b2 w2 a1 t2 hr=>?_);have:=a2.ob hr;have ab:=hB.u.ob hr;refine zn4 ?_;refine qQ (cs:=#[.int .i64 0]) ZV rfl (fun b3 w3 a5 t3 hr=>?_);have:=a2.u.ob hr;have:=a1.ob hr;have a9:=hB.u.ob hr;refine xx (v:= .int _ _) a5 rfl rfl qq (by first|decide|simp) rfl rfl (fun w4 hq t4=>?_);replace a5:=hq;refine zn4 ?_;refine qQ (cs:=#[.nilFunc]) ze135 rfl (fun b4 w5 a4 t5 hr=>?_);have:=a2.u.ob hr;have:=a1.u.ob hr;have:=a5.ob hr;have lo4:=hB.u.ob hr;refine zn4 ?_;refine wl (r_mf rfl) ?_;refine xx (v:= .func _ _ _) a4 rfl rfl sz135 (by first|decide|simp) rfl rfl (fun w6 hq t6=>?_);replace a4:=hq;refine zn7 ?_;refine yk rfl kR (twk_any (w0:=w) (bN:=b3) (bV:=b4) a9 lo4 oG t A B c m 1 0 0 _ hS hT oG oG oG hB.u a5.u a4) rfl rfl (fun e' w7 hr=>?_);obtain⟨rfl,a8,ac⟩:=hr;replace hB:=(((hB.tr0 (t1.t (t2.t t3))).tr1 t4 a9).tr0 t5).tr1 t6 lo4;replace hB:=hB.chG a8 (fun g hg=>by rw[show g=b3 from hg];exact a9);replace a2:=(((a2.tr0 (t2.t t3)).tr1 t4 oG).tr0 t5).tr1 t6 oG;replace a2:=a2.chG a8 (fun hx=>by have hx:b1=b3:=hx;omega);replace a1:=(((a1.tr0 t3).tr1 t4 oG).tr0 t5).tr1 t6 oG;replace a1:=a1.chG a8 (fun hx=>by have hx:b2=b3:=hx;omega);replace a4:=a4.chG a8 (fun hx=>by have hx:b4=b3:=hx;omega);replace a5:=ac;refine⟨_,rfl,?_⟩;refine y8 (cs:=#[.int .i64 0,.int .i64 0]) qV rfl (fun _=>rfl) (fun _=>rfl) zK rfl xW (fun b5 w9 hb5 t7 hr=>?_);refine zn9 ?_;refine zZ rfl (fun a3=>?_) (fun a3=>?_)
 ·have hF:=NV a3;refine zn3 ?_;refine zV a1.u (fun w10 hq t8=>?_);replace a1:=hq;refine zn4 ?_;refine xK (.inl rfl) rfl (zX U45 rfl rfl a1.range0 zK) ?_;replace hB:=(hB.tr0 t7).tr1 t8 ab;exact⟨by rw[hF];rfl,hB⟩
 have a3:(twk t 1 0 0).2.1=0:=au.1 a3;obtain⟨v,rfl,hok,_,hv2⟩:=OV t 1 0 0 a3;have hF:=tmF_ok a3;refine zn6 ?_;replace hB:=hB.tr0 t7;refine zW kR (R7 _ v (aH _) [] A B none c m 0 _ (hS.mono hB) (hT.mono hB) (CtxIn.nil _) (ai _) (by simp only[List.length_nil];omega) hok) rfl (fun e' w11 hr=>?_);obtain⟨⟨s3,A3,n3,c3,rfl,_⟩,t9⟩:=hr;replace t9:=sB t9;refine⟨_,rfl,?_⟩;refine wmT rfl (wl (yW (v:= .agg _) rfl rfl) (wl (yW (v:= .bool _) rfl rfl) ?_));refine y8 (cs:=#[.string ⟨#[]⟩,.slice none 0 0]) KJ rfl (fun _=>rfl) (fun _=>rfl) vj rfl xW (fun b6 w13 hb6 t10 hr=>?_);refine zn9 ?_;refine jv rfl (fun ad=>?_) (fun ad=>?_)
 ·rw[if_neg (by simpa using ad)]at hF;refine zn2 ?_;refine vy ?_;refine zV a1.u (fun w14 hq t11=>?_);replace a1:=hq;refine zn4 ?_;refine xK (.inl rfl) rfl (zX U45 rfl rfl a1.range0 zK) ?_;replace hB:=(hB.tr0 (t9.t t10)).tr1 t11 ab;exact⟨by rw[hF];rfl,hB⟩
 rw[if_pos (by simpa using ad)]at hF;refine zn4 ?_;refine jW (cs:=#[.int .i64 0,.int .i64 0]) ?_;refine zV a1.u (fun w15 hq t12=>?_);replace a1:=hq;refine zn3 ?_;refine xK (.inl rfl) rfl (zX U45 rfl rfl a1.range0 zK) ?_;replace hB:=(hB.tr0 (t9.t t10)).tr1 t12 ab;exact⟨by rw[hF];rfl,hB⟩
theorem Qj{a b:Int}(h:b=a):Ending.returned (.int .i64 a)= .returned (.int .i64 b):=by rw[h]
theorem ret_b{a b:Bool}(h:b=a):Ending.returned (.bool a)= .returned (.bool b):=by rw[h]
theorem places_any(G:Option Addr)(cg nf:Nat)(gr:List Nd)(k:Int)(w:World)(hG:NodesIn w G gr)(h0:0<gr.length)(hl:yJ nf gr.length (-1) (gr[0]'h0).ln=0)(hw:(gr[0]'h0).ln.length<=1000):Calls prog 51 #[.agg #[.slice G (gr).length cg],.int .i64 k] w fun e w'=>e= .returned (.bool (gK gr k))/\Bel w w':=by
 refine enT func51 ntmps51 rfl rfl fun hB=>?_;refine zn2 ?_;refine qv (cs:=#[_]) rfl (fun b2 w1 a1 s1 hr=>?_);refine yj ?_;refine qz (rg [] 4 14) (fun m g w'=>∃ j:Nat,j<=4/\m=4-j/\g 6= .int .i64 j/\Bel w w'/\Blk w' b2 28 #[.slice G (gr).length cg]/\∀ f,f<j->plN gr k f=true) (4) ?_ (fun m g2 w2 hI=>?_)
 ·exact⟨0,by omega,rfl,rfl,hB.u,a1,fun f hf=>by omega⟩
 obtain⟨j,hj,hm,h6,hB,a1,a2⟩:=hI;refine zQ 6 _ h6 nu (zn6 ?_);refine zZ rfl (fun c7=>?_) (fun c7=>?_)
 ·refine QY ?_;refine a7 kR (MY G cg nf gr 0 ((j:Nat):Int) _ (hG.mono hB) h0 hl hw) rfl (fun w3 s2=>?_);refine zn4 ?_;refine wl (WY U4 rfl rfl) (qY (e_S ?_));refine jv rfl (fun a4=>?_) (fun a4=>?_)
  ·have a3:plN gr k j=false:=by
     have h:=a4;rw[Bool.not_eq_true']at h;rw[H1 h0];exact h
   refine yZ ?_;exact⟨ret_b (pl_no oG a3),hB.u⟩
  have a3:plN gr k j=true:=by
    have h:=a4;rw[Bool.not_eq_false']at h;rw[H1 h0];exact h
  refine zn7 ?_;refine x9 (4-(j+1)) oG agA ?_;replace hB:=hB.tr0 s2;replace a1:=a1.tr0 s2
  exact⟨j+1,by omega,rfl,rfl,hB,a1,fun f hf=>by
    by_cases e:f=j
    · rw[e];exact a3
    · exact a2 f oG⟩
 refine yZ ?_;exact⟨ret_b (pl_yes (fun f hf=>a2 f oG)),hB⟩
theorem entry_any(A B G SA BA:Option Addr)(c d cg cs mB bu bd:Nat)(l:List Ty)(fs:List Ft)(x:Lx)(w:World)(hU:U8In w)(hI:TableIn w l bu bd)(h60:l.length<=60)(hF:FeatsIn w B fs)(hfo:FOk l.length fs)(hG:NodesIn w G x.gr)(hS:SimsIn w SA x.mean.type.args)(hT:TmsIn w BA x.mean.args)(hsz:x.word.size<9223372036854775807):Calls prog 26 #[.agg #[.slice A l.length c,.slice B fs.length d],tabV l.length bu bd,.agg (cA (x) G cg ((x).mean) SA cs BA mB)] w fun e w'=>e= .returned (.int .i64 (Yy l fs x))/\Bel w w':=by
 refine enT func26 ntmps26 rfl rfl fun hB=>?_;refine zn2 ?_;refine qv (cs:=#[_,_]) rfl (fun b3 w1 hb3 s1 hr=>?_);refine qv (cs:=#[_,_]) rfl (fun b4 w2 hb4 s2 hr=>?_);refine qv (cs:=#[_,_,_,_,_,_,_,_,_]) rfl (fun b5 w3 hb5 s3 hr=>?_);refine zn8 ?_;refine a7 kR (Ck x.word _ (hU.mono hB.u) hsz) rfl (fun w4 s4=>?_);refine zn3 ?_;refine jv rfl (fun a4=>?_) (fun a4=>?_)
 ·have a1:yV x.word=false:=by simpa using a4
  refine zn8 ?_;exact⟨Qj (C6 a1),hB.u⟩
 have a1:yV x.word=true:=by simpa using a4
 refine zn4 ?_;replace hB:=hB.tr0 (s1.t (s2.t (s3.t s4)));refine xj (rg [] 12 8) 19 (.bool (decide (x.wt<0\/1000000<x.wt))) nu ?_ (fun gq=>?_)
 ·refine zn5 ?_;refine zk 15 rfl (fun g15=>?_) (fun g15=>?_)
  ·refine zn4 ?_;exact xq
  refine zn7 ?_;exact xq
 refine e_S ?_;refine zZ rfl (fun a2=>?_) (fun a2=>?_)
 ·refine zn8 ?_;exact⟨Qj (H8 a1 a2),hB⟩
 refine zn8 ?_;refine wl (qw U28 rfl rfl (hb5.u.sub (n:=1) (xs:=[_]) rfl) Y6) ?_;refine a7 kR (Cw A B G c d cg bu bd l fs x.gr _ (hI.mono hB) h60 (hF.mono hB) (hG.mono hB) hfo) rfl (fun w5 s5=>?_);refine y8 (cs:=#[.int .i64 0,.int .i64 0]) qV rfl (fun _=>rfl) (fun _=>rfl) zK rfl xW (fun b7 w7 hb7 s6 hr=>?_);refine zn9 ?_;refine zZ rfl (fun a3=>?_) (fun a3=>?_)
 ·refine yj ?_;exact⟨Qj (lx_gr a1 a2 a3),hB.u⟩
 have hin:=ak.1 a3;refine zn5 ?_;refine wl (qw U34 rfl rfl (hb5.u.sub (n:=6) (xs:=[_,_,_,_,_,_]) rfl) X7) ?_;refine a7 kR (NK SA BA cs mB x.mean _ (hS.mono hB.u) (hT.mono hB.u)) rfl (fun w8 s7=>?_);refine wl (BY (v:= .int _ _) U45 rfl U3 rfl rfl rfl) (zn5 ?_);exact⟨Qj (lx_ok a1 a2 hin),hB.u⟩
abbrev cF(a:Lr)(b:Option Addr)(c:Nat)(d:Tm)(e:Option Addr)(f:Nat)(g:Option Addr)(h:Nat):Array Value:=#[.string a.name,.string a.cut,.string a.add,.slice b a.gr.length c,.int .i64 a.wt,.int .i64 d.kind,.string d.name,.int .i64 d.index,.string d.type.base,.slice e d.type.args.length f,.slice g d.args.length h]
theorem TableIn.stl{w w':World}{l:List Ty}{bu bd b t:Nat}{cs:Array Value}(h:TableIn w l bu bd)(hb:Blk w b t cs)(hs:Same [b] w w')(ht:t≠103):TableIn w' l bu bd:=by
 have hne:∀ {a:Nat} {ds:Array Value},Blk w a 103 ds->a≠b:=fun g e=>by
  subst e;have h2:=g.symm.trans hb
  injection h2 with h2
  injection h2 with _ h3
  exact ht h3.symm
 exact⟨h.1.tr1 hs (hne h.1),h.2.tr1 hs (hne h.2)⟩
theorem sz36:(prog.info? 36).map (·.size)=some 11:=by kernel_rfl
theorem Cx:(prog.info? 78).map (·.zero)=some (some (.agg #[.slice none 0 0,.slice none 0 0])):=by kernel_rfl
theorem N9(c i:Int)(w:World):Calls prog 27 #[.int .i64 c,.int .i64 i] w fun e w'=>e= .returned (.agg #[.int .i64 c,.int .i64 i])/\Bel w w':=by
 refine enT func27 ntmps27 rfl rfl fun hB=>?_;refine zn2 ?_;refine qQ (cs:=#[.int .i64 0,.int .i64 0]) qV rfl (fun b4 w1 a1 s1 hr=>?_);have lo4:=hB.ob hr;refine zn6 ?_;refine vy ?_;refine zV a1 (fun w2 hq s2=>?_);replace a1:=hq;refine zn3 ?_;refine xK (.inl rfl) rfl (zX U45 rfl rfl a1.range0 zK) ?_;exact⟨rfl,hB.u⟩
theorem lready_any(AT AF:Option Addr)(ct cf:Nat)(l:List Ty)(fs:List Ft)(w:World)(an:TabIn w)(hTy:TypesIn w AT l)(hF:FeatsIn w AF fs):Calls prog 30 #[.agg #[.slice AT l.length ct,.slice AF fs.length cf]] w fun e w'=>(∃(X Y:Option Addr) (n1 k1 n2 k2:Nat),e= .returned (.tuple #[.agg #[.slice X n1 k1,.slice Y n2 k2],.agg #[.int .i64 (ZK l fs).1,.int .i64 (ZK l fs).2]])/\((ZK l fs).1=0->∃ bu bd,X=some ⟨bu,0,none⟩/\Y=some ⟨bd,0,none⟩/\n1=l.length/\k1=l.length/\n2=l.length/\k2=l.length/\TableIn w' l bu bd))/\Bel w w':=by
 refine enT func30 ntmps30 rfl rfl fun hB=>?_;refine zn2 ?_;refine qv (cs:=#[_,_]) rfl (fun b1 w1 hb1 s1 hr=>?_);refine qQ (cs:=#[.slice none 0 0,.slice none 0 0]) Cx rfl (fun b2 w2 a1 s2 hr=>?_);have:=hb1.ob hr;have ab:=hB.u.ob hr;refine qQ (cs:=#[.int .i64 0,.int .i64 0]) qV rfl (fun b3 w3 a2 s3 hr=>?_);have:=hb1.u.ob hr;have:=a1.ob hr;have a9:=hB.u.ob hr;refine zn6 ?_;refine a7 kR (FK AT AF ct cf l fs _ (an.mono hB.u) (hTy.mono hB.u) (hF.mono hB.u)) rfl (fun w4 s4=>?_);refine y8 (cs:=#[.int .i64 0,.int .i64 0]) qV rfl (fun _=>rfl) (fun _=>rfl) zK rfl xW (fun b4 w6 hb4 s5 hr=>?_);have:=a1.u.ob hr;have:=a2.u.ob hr;refine zn9 ?_;refine zZ rfl (fun c9=>?_) (fun c9=>?_)
 ·refine xQ ?_;refine jY [b2,b3] [0,1,2,3] rfl (fun w7 s6=>?_);refine hl rfl (fun _=>Tx (vs:=#[]) (cs:=#[.slice none 0 0,.slice none 0 0]) (by simp) kR) (zn1 ?_);refine h1 rfl ?_;refine zV a1.u (fun w8 hq s7=>?_);have ad:=s7;replace a1:=hq;refine qY (e_H (X':=[b3]) (Same.weak ad (by simp)) (by simp) (h1 rfl ?_));refine zV a2.u (fun w9 hq s8=>?_);have ac:=s8;replace a2:=hq;refine qY (e_H (X':=[]) (Same.weak ac (by simp)) (by simp) (zn4 ?_));refine uK (.inl rfl) rfl (zX U78 rfl rfl a1.u.range0 OW) (zX U45 rfl rfl a2.range0 zK) ?_;replace hB:=((hB.tr0 (s1.t (s2.t (s3.t (s4.t (s5.t s6)))))).tr1 s7 ab).tr1 s8 a9;exact⟨⟨none,none,0,0,0,0,by rw[O1 c9],fun h=>by rw[O1 c9]at h;exact absurd h c9⟩,hB⟩
 have h0:=ak.1 c9;refine vJ ?_;refine zZ rfl (fun c15=>?_) (fun c15=>?_)
 ·refine zn2 ?_;refine jW (cs:=#[.slice none 0 0,.slice none 0 0]) ?_;refine a7 kR (N9 9 (-1) _) rfl (fun w10 s9=>?_);refine zV a1.u (fun w11 hq s10=>?_);replace a1:=hq;refine zV a2.u (fun w12 hq s11=>?_);replace a2:=hq;refine zn4 ?_;refine uK (.inl rfl) rfl (zX U78 rfl rfl a1.u.range0 OW) (zX U45 rfl rfl a2.range0 zK) ?_;have a5:=Hq (l:=l) h0 (by omega:fs.length<=3);replace hB:=((hB.tr0 (s1.t (s2.t (s3.t (s4.t (s5.t s9)))))).tr1 s10 ab).tr1 s11 a9;exact⟨⟨none,none,0,0,0,0,by rw[a5],fun h=>by rw[a5]at h;cases h⟩,hB⟩
 refine zn6 ?_;refine zW kR (N0 AT ct l _ (hTy.mono hB.u) (Q0 h0).vt (Q0 h0).le) rfl (fun e' w13 hr=>?_);obtain⟨bu,bd,rfl,a4,a3⟩:=hr;replace a3:=sB a3;refine⟨_,rfl,?_⟩;refine jW (cs:=#[.int .i64 0,.int .i64 0]) ?_;refine zV a1.u (fun w14 hq a8=>?_);replace a1:=a1.tr0 (s3.t (s4.t (s5.t a3)));replace a4:=a4.stl a1 a8 dE;replace a1:=hq;refine zV a2.u (fun w15 hq s14=>?_);replace a2:=(a2.tr0 (s4.t (s5.t a3))).tr1 a8 oG;replace a4:=a4.stl a2 s14 dE;replace a2:=hq;refine zn3 ?_;refine uK (.inl rfl) rfl (zX U78 rfl rfl a1.u.range0 OW) (zX U45 rfl rfl a2.range0 zK) ?_;have a5:=N8 (l:=l) h0 (by omega:¬fs.length<=3);replace hB:=((hB.tr0 (s1.t (s2.t (s3.t (s4.t (s5.t a3)))))).tr1 a8 ab).tr1 s14 a9;exact⟨⟨some ⟨bu,0,none⟩,some ⟨bd,0,none⟩,_,_,_,_,by rw[a5],fun _=>⟨bu,bd,rfl,rfl,rfl,rfl,rfl,rfl,a4⟩⟩,hB⟩
set_option maxRecDepth 100000 in
theorem lcheck_any(AT AF:Option Addr)(ct cf:Nat)(l:List Ty)(fs:List Ft)(r:Lr)(G SA BA:Option Addr)(cg cs cb bu bd:Nat)(w:World)(hU:U8In w)(hTI:TableIn w l bu bd)(h60:l.length<=60)(hF:FeatsIn w AF fs)(hfo:FOk l.length fs)(h40:fs.length<=40)(hP:LrP w r G SA BA):Calls prog 31 #[.agg #[.slice AT l.length ct,.slice AF fs.length cf],tabV l.length bu bd,.agg (cF r G cg (r.mean) SA cs BA cb)] w fun e w'=>e= .returned (.int .i64 (lrF l fs r))/\Bel w w':=by
 refine enT func31 ntmps31 rfl rfl fun hB=>?_;refine zn2 ?_;refine qv (cs:=#[_,_]) rfl (fun b3 w1 a4 s1 hr=>?_);refine qv (cs:=#[_,_]) rfl (fun b4 w2 a3 s2 hr=>?_);refine qv (cs:=#[_,_,_,_,_,_,_,_,_,_,_]) rfl (fun b5 w3 a9 s3 hr=>?_);refine zn5 ?_;refine xv (rg [] 8 26) (fun g w'=>g 33= .bool (decide (Iv r))/\Bel w w'/\Blk w' b3 25 #[.slice AT l.length ct,.slice AF fs.length cf]/\Blk w' b4 78 #[.slice (some ⟨bu,0,none⟩) l.length l.length,.slice (some ⟨bd,0,none⟩) l.length l.length]/\Blk w' b5 36 (cF r G cg (r.mean) SA cs BA cb)) ?_ (fun g1 w4 hI=>?_)
 ·refine zn3 ?_;refine zW kR (EY _ _) rfl (fun e' w5 hr=>?_);obtain⟨rfl,rfl⟩:=hr;refine⟨_,rfl,?_⟩;refine zn2 ?_;refine uv 12 rfl (fun a1=>?_) (fun a1=>?_)
  ·refine zn22 ?_;refine e_R ⟨agA,?_⟩;replace hB:=hB.tr0 (s1.t (s2.t s3));replace a4:=a4.tr0 (s2.t s3);replace a3:=a3.tr0 s3
   exact⟨by
     first
     | exact ag (DZ a1)
     | exact ag (Dy a8 a5)
     | exact ag (XQ a1 (.inr a5) a2)
     | exact ag (XZ a1 (.inr a5) (ak.1 a2))
     | exact ag (XQ a1 (.inl (ak.1 a8)) a2)
     | exact ag (XZ a1 (.inl (ak.1 a8)) (ak.1 a2)),hB,a4,a3,a9⟩
  refine zn8 ?_;refine zk 16 rfl (fun a8=>?_) (fun a8=>?_)
  ·refine zn5 ?_;refine a7 kR (Ck r.cut _ (hU.mono hB.u) hP.c) rfl (fun w6 s4=>?_);refine zn6 ?_;refine uv 23 rfl (fun a5=>?_) (fun a5=>?_)
   ·refine vJ ?_;refine e_R ⟨agA,?_⟩;replace hB:=hB.tr0 (s1.t (s2.t (s3.t s4)));replace a4:=a4.tr0 (s2.t (s3.t s4));replace a3:=a3.tr0 (s3.t s4);replace a9:=a9.tr0 s4
    exact⟨by
      first
      | exact ag (DZ a1)
      | exact ag (Dy a8 a5)
      | exact ag (XQ a1 (.inr a5) a2)
      | exact ag (XZ a1 (.inr a5) (ak.1 a2))
      | exact ag (XQ a1 (.inl (ak.1 a8)) a2)
      | exact ag (XZ a1 (.inl (ak.1 a8)) (ak.1 a2)),hB,a4,a3,a9⟩
   refine zn8 ?_;refine zk 27 rfl (fun a2=>?_) (fun a2=>?_)
   ·refine zn5 ?_;refine a7 kR (Ck r.add _ (hU.mono hB.u) hP.a) rfl (fun w7 s5=>?_);refine zn6 ?_;refine e_R ⟨agA,?_⟩;replace hB:=hB.tr0 (s1.t (s2.t (s3.t (s4.t s5))));replace a4:=a4.tr0 (s2.t (s3.t (s4.t s5)));replace a3:=a3.tr0 (s3.t (s4.t s5));replace a9:=a9.tr0 (s4.t s5)
    exact⟨by
      first
      | exact ag (DZ a1)
      | exact ag (Dy a8 a5)
      | exact ag (XQ a1 (.inr a5) a2)
      | exact ag (XZ a1 (.inr a5) (ak.1 a2))
      | exact ag (XQ a1 (.inl (ak.1 a8)) a2)
      | exact ag (XZ a1 (.inl (ak.1 a8)) (ak.1 a2)),hB,a4,a3,a9⟩
   refine zn8 ?_;refine e_R ⟨agA,?_⟩;replace hB:=hB.tr0 (s1.t (s2.t (s3.t s4)));replace a4:=a4.tr0 (s2.t (s3.t s4));replace a3:=a3.tr0 (s3.t s4);replace a9:=a9.tr0 s4
   exact⟨by
     first
     | exact ag (DZ a1)
     | exact ag (Dy a8 a5)
     | exact ag (XQ a1 (.inr a5) a2)
     | exact ag (XZ a1 (.inr a5) (ak.1 a2))
     | exact ag (XQ a1 (.inl (ak.1 a8)) a2)
     | exact ag (XZ a1 (.inl (ak.1 a8)) (ak.1 a2)),hB,a4,a3,a9⟩
  refine Jq ?_;refine zk 27 rfl (fun a2=>?_) (fun a2=>?_)
  ·refine zn5 ?_;refine a7 kR (Ck r.add _ (hU.mono hB.u) hP.a) rfl (fun w8 s6=>?_);refine zn6 ?_;refine e_R ⟨agA,?_⟩;replace hB:=hB.tr0 (s1.t (s2.t (s3.t s6)));replace a4:=a4.tr0 (s2.t (s3.t s6));replace a3:=a3.tr0 (s3.t s6);replace a9:=a9.tr0 s6
   exact⟨by
     first
     | exact ag (DZ a1)
     | exact ag (Dy a8 a5)
     | exact ag (XQ a1 (.inr a5) a2)
     | exact ag (XZ a1 (.inr a5) (ak.1 a2))
     | exact ag (XQ a1 (.inl (ak.1 a8)) a2)
     | exact ag (XZ a1 (.inl (ak.1 a8)) (ak.1 a2)),hB,a4,a3,a9⟩
  refine zn8 ?_;refine e_R ⟨agA,?_⟩;replace hB:=hB.tr0 (s1.t (s2.t s3));replace a4:=a4.tr0 (s2.t s3);replace a3:=a3.tr0 s3
  exact⟨by
    first
    | exact ag (DZ a1)
    | exact ag (Dy a8 a5)
    | exact ag (XQ a1 (.inr a5) a2)
    | exact ag (XZ a1 (.inr a5) (ak.1 a2))
    | exact ag (XQ a1 (.inl (ak.1 a8)) a2)
    | exact ag (XZ a1 (.inl (ak.1 a8)) (ak.1 a2)),hB,a4,a3,a9⟩
 obtain⟨h33,hB,a4,a3,a9⟩:=hI;refine vZ 33 _ h33 nu (e_S ?_);refine zZ rfl (fun ab=>?_) (fun ab=>?_)
 ·refine zn8 ?_;exact⟨Qj (lr_nm ab),hB⟩
 refine zn4 ?_;refine xj (rg [] 34 8) 41 (.bool (decide (r.wt<0\/1000000<r.wt))) nu ?_ (fun gq=>?_)
 ·refine zn5 ?_;refine zk 37 rfl (fun g37=>?_) (fun g37=>?_)
  ·refine zn4 ?_;exact xq
  refine zn7 ?_;exact xq
 refine e_S ?_;refine zZ rfl (fun b6=>?_) (fun b6=>?_)
 ·have ac:Yv r:=b6;refine zn8 ?_;exact⟨Qj (lr_bad ab ac),hB⟩
 have ac:¬Yv r:=b6;refine zn8 ?_;refine wl (qw U28 rfl rfl (a9.sub (n:=1) (xs:=[_]) rfl) Y6) ?_;refine a7 kR (Cw AT AF G ct cf cg bu bd l fs r.gr _ (hTI.mono hB) h60 (hF.mono hB) (hP.g.mono hB) hfo) rfl (fun w9 s7=>?_);refine y8 (cs:=#[.int .i64 0,.int .i64 0]) qV rfl (fun _=>rfl) (fun _=>rfl) zK rfl xW (fun b7 w11 hb7 s8 hr=>?_);refine zn9 ?_;refine zZ rfl (fun b2=>?_) (fun b2=>?_)
 ·refine yj ?_;exact⟨Qj (lr_gr ab ac b2),hB.u⟩
 have ao:=ak.1 b2;have hl0:=Cv ao;have ad:=SX hl0;have hw0:=ad.few 0 ad.pos;refine zn6 ?_;refine wl (qw U28 rfl rfl (a9.u.sub (n:=1) (xs:=[_]) rfl) Y6) ?_;refine a7 kR (places_any G cg fs.length r.gr 1 _ (hP.g.mono hB.u) ad.pos (Iw hl0 0 ad.pos) oG) rfl (fun w12 s9=>?_);refine zn3 ?_;refine jv rfl (fun b1=>?_) (fun b1=>?_)
 ·have an:gK r.gr 1=false:=by simpa using b1
  refine zn8 ?_;exact⟨Qj (lr_pl ab ac ao an),hB.u⟩
 have an:gK r.gr 1=true:=by simpa using b1
 refine zn5 ?_;refine wl (qw U34 rfl rfl (a9.u.sub (n:=6) (xs:=[_,_,_,_,_,_]) rfl) X7) ?_;refine a7 kR (NK SA BA cs cb r.mean _ (hP.s.mono hB.u) (hP.t.mono hB.u)) rfl (fun w13 s10=>?_);refine wl (BY (v:= .int _ _) U45 rfl U3 rfl rfl rfl) (zn5 ?_);exact⟨Qj (lr_ok ab ac ao an),hB.u⟩
theorem Sj(AT AF:Option Addr)(ct cf:Nat)(l:List Ty)(fs:List Ft)(r:Lr)(G SA BA:Option Addr)(cg cs cb:Nat)(w:World)(an:TabIn w)(hU:U8In w)(hTy:TypesIn w AT l)(hF:FeatsIn w AF fs)(hP:LrP w r G SA BA):Calls prog 8 #[.agg #[.slice AT l.length ct,.slice AF fs.length cf],.agg (cF r G cg (r.mean) SA cs BA cb)] w fun e w'=>e= .returned (flV (lrV l fs r))/\Bel w w':=by
 refine enT func8 ntmps8 rfl rfl fun hB=>?_;refine zn2 ?_;refine qv (cs:=#[_,_]) rfl (fun b2 w1 hb2 s1 hr=>?_);refine qv (cs:=#[_,_,_,_,_,_,_,_,_,_,_]) rfl (fun b3 w2 hb3 s2 hr=>?_);refine qQ (cs:=#[.int .i64 0,.int .i64 0]) qV rfl (fun b4 w3 a1 s3 hr=>?_);have ab:=hB.u.ob hr;refine zn5 ?_;refine zW kR (lready_any AT AF ct cf l fs _ (an.mono hB.u) (hTy.mono hB.u) (hF.mono hB.u)) rfl (fun e' w4 hr=>?_);obtain⟨⟨X,Y,n1,k1,n2,k2,rfl,hrd⟩,s4⟩:=hr;replace s4:=sB s4;obtain⟨wR,ac⟩:∃ x,x=w4:=⟨_,rfl⟩
 have ao:Bel wR w4:=by rw[ac];exact Below.refl _ _
 rw[<- ac]at hrd;clear ac;refine⟨_,rfl,?_⟩;refine wmT rfl (wl (yW (v:= .agg _) rfl rfl) (wl (yW (v:= .agg _) rfl rfl) ?_));refine qQ (cs:=#[.slice none 0 0,.slice none 0 0]) Cx rfl (fun b5 w5 ad s5 hr=>?_);have:=hb2.u.ob hr;have:=hb3.u.ob hr;have:=a1.u.ob hr;have lo5:=hB.u.ob hr;have a3:=ao.ob hr;refine qQ (cs:=#[.int .i64 0,.int .i64 0]) qV rfl (fun b6 w6 a9 s6 hr=>?_);have:=hb2.u.ob hr;have:=hb3.u.ob hr;have:=a1.u.ob hr;have:=ad.ob hr;have a8:=hB.u.ob hr;have a2:=ao.u.ob hr;refine zV ad.u (fun w7 hq s7=>?_);replace ad:=hq;refine zV a9.u (fun w8 hq s8=>?_);replace a9:=hq;refine yj ?_;refine zZ rfl (fun a5=>?_) (fun a5=>?_)
 ·obtain⟨bu,bd,rfl,rfl,rfl,rfl,rfl,rfl,hTI⟩:=hrd a5;obtain⟨a4,hf3⟩:=J6 a5;have hS:=Q0 a4;refine zn5 ?_;refine a7 kR (lcheck_any AT AF ct cf l fs r G SA BA cg cs cb bu bd _ (hU.mono hB.u) (hTI.mono ao.u) hS.le (hF.mono hB.u) (SK a4) (feats_few a4) (hP.mono hB.u)) rfl (fun w9 s9=>?_);refine zn9 ?_;refine zZ rfl (fun b1=>?_) (fun b1=>?_)
  ·have hE:=Hz a5 b1;refine zn2 ?_;refine a7 kR (N9 (lrF l fs r) (-2) _) rfl (fun w10 s10=>?_);refine zV a9.u (fun w11 hq s11=>?_);replace a9:=hq;refine zn5 ?_;refine zV a1.u (fun w12 hq s12=>?_);replace a1:=hq;refine zn3 ?_;refine xK (.inl rfl) rfl (zX U45 rfl rfl a1.range0 zK) ?_;rw[hE];replace hB:=(((((hB.tr0 (s1.t (s2.t (s3.t (s4.t (s5.t s6)))))).tr1 s7 lo5).tr1 s8 a8).tr0 (s9.t s10)).tr1 s11 a8).tr1 s12 ab
   first
    | exact⟨rfl,hB⟩
    | (have hz:ZK l fs=(0,0):=N8 a4 oG;refine⟨?_,hB⟩;show Ending.returned (.agg #[.int .i64 (ZK l fs).1,.int .i64 (ZK l fs).2])=_;rw[hz];rfl)
  have hE:=H9 a5 (ak.1 b1);refine zn5 ?_;refine zV a1.u (fun w13 hq s13=>?_);replace a1:=hq;refine zn3 ?_;refine xK (.inl rfl) rfl (zX U45 rfl rfl a1.range0 zK) ?_;rw[hE];replace hB:=((((hB.tr0 (s1.t (s2.t (s3.t (s4.t (s5.t s6)))))).tr1 s7 lo5).tr1 s8 a8).tr0 s9).tr1 s13 ab
  first
   | exact⟨rfl,hB⟩
   | (have hz:ZK l fs=(0,0):=N8 a4 oG;refine⟨?_,hB⟩;show Ending.returned (.agg #[.int .i64 (ZK l fs).1,.int .i64 (ZK l fs).2])=_;rw[hz];rfl)
 have hE:=lrv_rd (r:=r) a5;refine zn5 ?_;refine zV a1.u (fun w14 hq s14=>?_);replace a1:=hq;refine zn3 ?_;refine xK (.inl rfl) rfl (zX U45 rfl rfl a1.range0 zK) ?_;rw[hE];replace hB:=(((hB.tr0 (s1.t (s2.t (s3.t (s4.t (s5.t s6)))))).tr1 s7 lo5).tr1 s8 a8).tr1 s14 ab
 first
  | exact⟨rfl,hB⟩
  | (have hz:ZK l fs=(0,0):=N8 a4 oG;refine⟨?_,hB⟩;show Ending.returned (.agg #[.int .i64 (ZK l fs).1,.int .i64 (ZK l fs).2])=_;rw[hz];rfl)
end Go.Proofs.YtndbjnkilegebaaGreatDoor
