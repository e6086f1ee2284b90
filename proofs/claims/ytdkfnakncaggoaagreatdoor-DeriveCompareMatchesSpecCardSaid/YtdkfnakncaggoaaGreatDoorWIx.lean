/- What these functions of the program compute, at every world: unicode/utf8.ValidString. What these functions of the program compute, at every world: internal/stringslite.IndexByte, strings.IndexByte, unicode/utf8.ValidRune, strings.shouldUseASCIISet, strings.IndexRune. -/
import Derived.Test.YtdkfnakncaggoaaGreatDoorU
import Derived.Test.YtdkfnakncaggoaaGreatDoorName
import Derived.Test.YtdkfnakncaggoaaGreatDoorWRc
import Derived.Test.YtdkfnakncaggoaaGreatDoorNTo
namespace Go.Proofs.YtdkfnakncaggoaaGreatDoor
open Go.RowKit
theorem N2:zQ Tryz.prog 119=true:=by kernel_rfl
theorem sz179:(Tryz.prog.info? 179).map (·.size)=some 2:=by kernel_rfl
theorem Q3:(Tryz.prog.info? 5).map (·.size)=some 1:=by kernel_rfl
theorem ze179:(Tryz.prog.info? 179).map (·.zero)=some (some (.agg #[.int .u8 0,.int .u8 0])):=by kernel_rfl
set_option maxRecDepth 100000 in
set_option maxHeartbeats 8000000 in
theorem L9 (s:ByteArray) (w:World) (hU:U8In w) (hsz:s.size < 9223372036854775807):Calls Tryz.prog 103 #[.string s] w fun e w'=>e= .returned (.bool (vq s 0))∧Bel w w':=by
 have hs0:sdr 0 s=s:=C6 (by rw [Y3,List.drop_zero]);refine enter Tryz.func103 Tryz.ntmps103 rfl (Nat.le_of_ble_eq_true rfl) ?_;have hB:Bel w w:=Below.refl _ _;refine zn7 ?_;refine q8 [0,2,3,4,5,6,7,8,9,10,11,12,13,14,15,16,17,18,19,20,21,22,23,24,25,26,27,28,29,30,31,32,33,34,35,36,37,38,39,40,41,42,43,44,45,46,47,48,49,50,51,52,53,54,55,56,57,58,59,60,61,62,63,64,65,66,67,68,69,70,71,72,73,74,75,76,77,78,79,80,81,82,83,84,85,86,87,88,89,90,91,92,93,94,95,96,97,98,99,100,101,102,103,104,105,106,107,108,109,110,111,112,113,114,115,116,117,118,119,120,121,122,123,124,125,126,127,128,129,130,131,132,133,134,135,136,137,138,139,140,141,142,143,144,145,146,147,148,149,150,151,152,153,154,155,156,157,158,159,160,161,162,163,164,165,166,167,168] (fun m g w'=>∃ p:Nat,p≤s.size∧s.size - p≤m∧g 0= .string (sdr p s)∧vq s 0=vq s p∧Bel w w') (s.size) ?_ (fun m g1 w1 hI=>?_)
 ·exact⟨0,Nat.zero_le _,Nat.le_refl _,(by rw [hs0];rfl),rfl,hB⟩
 obtain⟨p,hp,hm,h0,hv,hB⟩:=hI;obtain⟨mo,rfl⟩:∃ x,x=m:=⟨_,rfl⟩
 refine zJ 0 (.string (sdr p s)) h0 nu (zn8 ?_);refine zw rfl (fun c9=>?_) (fun c9=>?_)
 ·have hsp:=y5 p s;have hpl:p < s.size:=by omega
  have e0:=Zq p s 0;have e1:=Zq p s 1;have e2:=Zq p s 2;have e3:=Zq p s 3;rw [Nat.add_zero] at e0;have hb0:=kz s p;refine zn6 ?_;refine wl (j8 (i:=0) U9 rfl rfl om) (wl (u7 (v:= .int .u8 ((gb s p:Nat):Int)) (by exact congrArg (fun z:Nat=>Value.int .u8 ((z:Nat):Int)) e0)) (zn9 ?_));refine zw rfl (fun c13=>?_) (fun c13=>?_)
  ·have hv1:=vq_low hpl om;refine zn3 ?_;refine wl (ZK (l:=1) U9 rfl rfl om) (wl (u7 (v:= .string (sdr (p + 1) s)) (by exact congrArg Value.string (uZ _ _ s))) (zn4 ?_));have hsp1:=y5 (p + 1) s;refine zn5 ?_;refine zj 19 rfl (fun g19=>?_) (fun g19=>?_)
   ·refine zn3 ?_;refine zV N2 (gQ (sdr (p + 1) s) _ (by rw [y5];have:=y5 (p + 1) s;omega)) rfl (fun e' w2 hr=>?_);obtain⟨rfl,hs⟩:=hr;replace hs:=sB hs;replace hB:=hB.tr0 hs;refine⟨_,rfl,?_⟩;refine zn1 ?_;refine wl (V8 (b:=9259542123273814144) rfl rfl (jX _ dE) dE) (zn5 ?_);refine zw rfl (fun c24=>?_) (fun c24=>?_)
    ·have hvA:=IZ (s:=s) (p:=p + 1) (k:=8) om (asc8 (by have h:=c24;exact Int.ofNat.inj h));refine zn3 ?_;refine wl (ZK (l:=8) U9 rfl rfl om) (wl (u7 (v:= .string (sdr (p + 9) s)) (by exact congrArg Value.string (uZ _ _ s))) (zn3 ?_));by_cases q7:16 < s.size - (p + 9)
     ·refine jW 13 [27,28,29,30,31,32,33,34,35,36,37,38,39] (fun _=>false) (fun ix v wv=>match ix with | 0=>v= .string (sdr (p + 9) s) | 1=>v= .int .i64 (((sdr (p + 9) s).size:Nat):Int) | 2=>v= .bool true | 3=>v= .bool true | 4=>v= .string (sdr (p + 9) s) | 5=>v= .int .u64 ((wo 7 (sdr (p + 9) s):Nat):Int) | 6=>v= .string (sdr (p + 9) s) | 7=>v= .string (sdr 8 (sdr (p + 9) s)) | 8=>v= .int .u64 ((wo 7 (sdr 8 (sdr (p + 9) s)):Nat):Int) | 9=>v= .int .u64 ((wo 7 (sdr (p + 9) s) ||| wo 7 (sdr 8 (sdr (p + 9) s)):Nat):Int) | 10=>v= .int .u64 (((wo 7 (sdr (p + 9) s) ||| wo 7 (sdr 8 (sdr (p + 9) s))) &&& 9259542123273814144:Nat):Int) | 11=>v= .bool (decide ((((wo 7 (sdr (p + 9) s) ||| wo 7 (sdr 8 (sdr (p + 9) s))) &&& 9259542123273814144:Nat):Int)=0)) | 12=>v= .bool (decide ((((wo 7 (sdr (p + 9) s) ||| wo 7 (sdr 8 (sdr (p + 9) s))) &&& 9259542123273814144:Nat):Int)=0)) | _=>True) kR kR ?_ ?_ ?_
      ·intro ix v wv wv2 h hs
       match ix,h with
       | 0,h=>exact h
       | 1,h=>exact h
       | 2,h=>exact h
       | 3,h=>exact h
       | 4,h=>exact h
       | 5,h=>exact h
       | 6,h=>exact h
       | 7,h=>exact h
       | 8,h=>exact h
       | 9,h=>exact h
       | 10,h=>exact h
       | 11,h=>exact h
       | 12,h=>exact h
       | _ + 13,h=>exact trivial
      ·intro ix o hix hoq gg wx hs hd hdis
       match ix,hix,hoq with
       | 0,_,hoq=>
        cases sI hoq;refine⟨fun _=>?_,fun hw=>Bool.noConfusion (show true=false from hw)⟩;exact oV (x9 (v:= .string _) rfl) rfl
       | 1,_,hoq=>
        cases sI hoq;refine⟨fun _=>?_,fun hw=>Bool.noConfusion (show true=false from hw)⟩;refine z4 27 (.string (sdr (p + 9) s)) (hd 0 (zz kR)) nu ?_;exact oV (MX U9 rfl) rfl
       | 2,_,hoq=>
        cases sI hoq;refine⟨fun _=>?_,fun hw=>Bool.noConfusion (show true=false from hw)⟩;refine z4 28 (.int .i64 (((sdr (p + 9) s).size:Nat):Int)) (hd 1 (zz kR)) nu ?_;exact oV (S4 rfl rfl) (congrArg Value.bool (decide_eq_true (by rw [y5];omega)))
       | 3,_,hoq=>
        cases sI hoq;refine⟨fun _=>?_,fun hw=>Bool.noConfusion (show true=false from hw)⟩;refine z4 29 (.bool true) (hd 2 (zz kR)) nu ?_;exact oV (x9 (v:= .bool _) rfl) rfl
       | 4,_,hoq=>
        cases sI hoq;have e30:gg 30= .bool true:=hd 3 (zz kR);refine zx 30 true rfl e30 (fun _=>?_) (fun h=>absurd h dE);refine z4 30 (.bool true) e30 nu ?_;exact oV (x9 (v:= .string _) rfl) rfl
       | 5,_,hoq=>
        cases sI hoq;have e30:gg 30= .bool true:=hd 3 (zz kR);refine zx 30 true rfl e30 (fun _=>?_) (fun h=>absurd h dE);refine z4 30 (.bool true) e30 nu (z4 31 (.string (sdr (p + 9) s)) (hd 4 (zz kR)) nu ?_);refine qx N2 (gQ (sdr (p + 9) s) wx (by rw [y5];omega)) rfl (fun e' w2 hr=>?_);obtain⟨rfl,hs⟩:=hr;exact⟨_,rfl,sB hs,rfl,zX⟩
       | 6,_,hoq=>
        cases sI hoq;have e30:gg 30= .bool true:=hd 3 (zz kR);refine zx 30 true rfl e30 (fun _=>?_) (fun h=>absurd h dE);refine z4 30 (.bool true) e30 nu ?_;exact oV (x9 (v:= .string _) rfl) rfl
       | 7,_,hoq=>
        cases sI hoq;have e30:gg 30= .bool true:=hd 3 (zz kR);refine zx 30 true rfl e30 (fun _=>?_) (fun h=>absurd h dE);refine z4 30 (.bool true) e30 nu (z4 33 (.string (sdr (p + 9) s)) (hd 6 (zz kR)) nu ?_);exact oV (ZK (l:=8) U9 rfl rfl (by rw [y5];omega)) rfl
       | 8,_,hoq=>
        cases sI hoq;have e30:gg 30= .bool true:=hd 3 (zz kR);refine zx 30 true rfl e30 (fun _=>?_) (fun h=>absurd h dE);refine z4 30 (.bool true) e30 nu (z4 34 (.string (sdr 8 (sdr (p + 9) s))) (hd 7 (zz kR)) nu ?_);refine qx N2 (gQ (sdr 8 (sdr (p + 9) s)) wx (by rw [y5,y5];omega)) rfl (fun e' w2 hr=>?_);obtain⟨rfl,hs⟩:=hr;exact⟨_,rfl,sB hs,rfl,zX⟩
       | 9,_,hoq=>
        cases sI hoq;have e30:gg 30= .bool true:=hd 3 (zz kR);refine zx 30 true rfl e30 (fun _=>?_) (fun h=>absurd h dE);refine z4 30 (.bool true) e30 nu (z4 32 (.int .u64 ((wo 7 (sdr (p + 9) s):Nat):Int)) (hd 5 (zz kR)) nu (z4 35 (.int .u64 ((wo 7 (sdr 8 (sdr (p + 9) s)):Nat):Int)) (hd 8 (zz kR)) nu ?_));exact oV (ZX rfl rfl (jX _ dE) (jX _ dE)) rfl
       | 10,_,hoq=>
        cases sI hoq;have e30:gg 30= .bool true:=hd 3 (zz kR);refine zx 30 true rfl e30 (fun _=>?_) (fun h=>absurd h dE);refine z4 30 (.bool true) e30 nu (z4 36 (.int .u64 ((wo 7 (sdr (p + 9) s) ||| wo 7 (sdr 8 (sdr (p + 9) s)):Nat):Int)) (hd 9 (zz kR)) nu ?_);exact oV (V8 (b:=9259542123273814144) rfl rfl (Nat.or_lt_two_pow (n:=64) (jX _ dE) (jX _ dE)) dE) rfl
       | 11,_,hoq=>
        cases sI hoq;have e30:gg 30= .bool true:=hd 3 (zz kR);refine zx 30 true rfl e30 (fun _=>?_) (fun h=>absurd h dE);refine z4 30 (.bool true) e30 nu (z4 37 (.int .u64 (((wo 7 (sdr (p + 9) s) ||| wo 7 (sdr 8 (sdr (p + 9) s))) &&& 9259542123273814144:Nat):Int)) (hd 10 (zz kR)) nu ?_);exact oV (r_eql rfl rfl) rfl
       | 12,_,hoq=>
        cases sI hoq;refine⟨fun _=>?_,fun hw=>Bool.noConfusion (show true=false from hw)⟩;refine z4 30 (.bool true) (hd 3 (zz kR)) nu (z4 38 (.bool (decide ((((wo 7 (sdr (p + 9) s) ||| wo 7 (sdr 8 (sdr (p + 9) s))) &&& 9259542123273814144:Nat):Int)=0))) (hd 11 (zz kR)) nu ?_);exact oV (Q9 (v:= .bool _) rfl rfl) rfl
       | _ + 13,hix,_=>exact absurd hix om
      intro gg w3 hs hR hdis;have hs0:=hs;replace hB:=hB.tr0 hs;have d12:gg 39= .bool (decide ((((wo 7 (sdr (p + 9) s) ||| wo 7 (sdr 8 (sdr (p + 9) s))) &&& 9259542123273814144:Nat):Int)=0)):=hR 12 dE;have e39:=d12;refine qK 39 (.bool (decide ((((wo 7 (sdr (p + 9) s) ||| wo 7 (sdr 8 (sdr (p + 9) s))) &&& 9259542123273814144:Nat):Int)=0))) e39 nu (zZ (e_S ?_));refine j7 rfl (fun c39=>?_) (fun c39=>?_)
      ·have hvB:=IZ (s:=s) (p:=p + 9) (k:=16) om (asc16 (Int.ofNat.inj (of_decide_eq_true c39)));refine zn3 ?_;refine wl (ZK (l:=16) U9 rfl rfl (by rw [y5];omega)) (wl (u7 (v:= .string (sdr (p + 25) s)) (by exact congrArg Value.string (uZ _ _ s))) (zn3 ?_));refine q8 [0,42,43,44,45,46,47,48,49,50,51,52,53,54,55,56,57,58,59,60,61,62,63,64] (fun m g w'=>∃ p2:Nat,p + 25≤p2∧p2≤s.size∧m=s.size - p2∧g 0= .string (sdr p2 s)∧vq s p=vq s p2∧Bel w w') (s.size - (p + 25)) ?_ (fun m g9 w4 hI=>?_)
       ·exact⟨p + 25,Nat.le_refl _,by omega,rfl,rfl,((hv1.trans hvA).trans hvB),hB⟩
       obtain⟨p2,hp2,hp2s,hm2,h0b,hv2,hB⟩:=hI;refine zJ 0 (.string (sdr p2 s)) h0b nu (xX (xX ?_));by_cases q9:32 < s.size - p2
       ·refine jW 21 [42,43,44,45,46,47,48,49,50,51,52,53,54,55,56,57,58,59,60,61,62] (fun _=>false) (fun ix v wv=>match ix with | 0=>v= .string (sdr p2 s) | 1=>v= .int .i64 (((sdr p2 s).size:Nat):Int) | 2=>v= .bool true | 3=>v= .bool true | 4=>v= .string (sdr p2 s) | 5=>v= .int .u64 ((wo 7 (sdr p2 s):Nat):Int) | 6=>v= .string (sdr p2 s) | 7=>v= .string (sdr 8 (sdr p2 s)) | 8=>v= .int .u64 ((wo 7 (sdr 8 (sdr p2 s)):Nat):Int) | 9=>v= .int .u64 ((wo 7 (sdr p2 s) ||| wo 7 (sdr 8 (sdr p2 s)):Nat):Int) | 10=>v= .string (sdr p2 s) | 11=>v= .string (sdr 16 (sdr p2 s)) | 12=>v= .int .u64 ((wo 7 (sdr 16 (sdr p2 s)):Nat):Int) | 13=>v= .string (sdr p2 s) | 14=>v= .string (sdr 24 (sdr p2 s)) | 15=>v= .int .u64 ((wo 7 (sdr 24 (sdr p2 s)):Nat):Int) | 16=>v= .int .u64 ((wo 7 (sdr 16 (sdr p2 s)) ||| wo 7 (sdr 24 (sdr p2 s)):Nat):Int) | 17=>v= .int .u64 (((wo 7 (sdr p2 s) ||| wo 7 (sdr 8 (sdr p2 s))) ||| (wo 7 (sdr 16 (sdr p2 s)) ||| wo 7 (sdr 24 (sdr p2 s))):Nat):Int) | 18=>v= .int .u64 ((((wo 7 (sdr p2 s) ||| wo 7 (sdr 8 (sdr p2 s))) ||| (wo 7 (sdr 16 (sdr p2 s)) ||| wo 7 (sdr 24 (sdr p2 s)))) &&& 9259542123273814144:Nat):Int) | 19=>v= .bool (decide (((((wo 7 (sdr p2 s) ||| wo 7 (sdr 8 (sdr p2 s))) ||| (wo 7 (sdr 16 (sdr p2 s)) ||| wo 7 (sdr 24 (sdr p2 s)))) &&& 9259542123273814144:Nat):Int)=0)) | 20=>v= .bool (decide (((((wo 7 (sdr p2 s) ||| wo 7 (sdr 8 (sdr p2 s))) ||| (wo 7 (sdr 16 (sdr p2 s)) ||| wo 7 (sdr 24 (sdr p2 s)))) &&& 9259542123273814144:Nat):Int)=0)) | _=>True) kR kR ?_ ?_ ?_
        ·intro ix v wv wv2 h hs
         match ix,h with
         | 0,h=>exact h
         | 1,h=>exact h
         | 2,h=>exact h
         | 3,h=>exact h
         | 4,h=>exact h
         | 5,h=>exact h
         | 6,h=>exact h
         | 7,h=>exact h
         | 8,h=>exact h
         | 9,h=>exact h
         | 10,h=>exact h
         | 11,h=>exact h
         | 12,h=>exact h
         | 13,h=>exact h
         | 14,h=>exact h
         | 15,h=>exact h
         | 16,h=>exact h
         | 17,h=>exact h
         | 18,h=>exact h
         | 19,h=>exact h
         | 20,h=>exact h
         | _ + 21,h=>exact trivial
        ·intro ix o hix hoq gg wx hs hd hdis
         match ix,hix,hoq with
         | 0,_,hoq=>
          cases sI hoq;refine⟨fun _=>?_,fun hw=>Bool.noConfusion (show true=false from hw)⟩;exact oV (x9 (v:= .string _) rfl) rfl
         | 1,_,hoq=>
          cases sI hoq;refine⟨fun _=>?_,fun hw=>Bool.noConfusion (show true=false from hw)⟩;refine z4 42 (.string (sdr p2 s)) (hd 0 (zz kR)) nu ?_;exact oV (MX U9 rfl) rfl
         | 2,_,hoq=>
          cases sI hoq;refine⟨fun _=>?_,fun hw=>Bool.noConfusion (show true=false from hw)⟩;refine z4 43 (.int .i64 (((sdr p2 s).size:Nat):Int)) (hd 1 (zz kR)) nu ?_;exact oV (S4 rfl rfl) (congrArg Value.bool (decide_eq_true (by rw [y5];omega)))
         | 3,_,hoq=>
          cases sI hoq;refine⟨fun _=>?_,fun hw=>Bool.noConfusion (show true=false from hw)⟩;refine z4 44 (.bool true) (hd 2 (zz kR)) nu ?_;exact oV (x9 (v:= .bool _) rfl) rfl
         | 4,_,hoq=>
          cases sI hoq;have e45:gg 45= .bool true:=hd 3 (zz kR);refine zx 45 true rfl e45 (fun _=>?_) (fun h=>absurd h dE);refine z4 45 (.bool true) e45 nu ?_;exact oV (x9 (v:= .string _) rfl) rfl
         | 5,_,hoq=>
          cases sI hoq;have e45:gg 45= .bool true:=hd 3 (zz kR);refine zx 45 true rfl e45 (fun _=>?_) (fun h=>absurd h dE);refine z4 45 (.bool true) e45 nu (z4 46 (.string (sdr p2 s)) (hd 4 (zz kR)) nu ?_);refine qx N2 (gQ (sdr p2 s) wx (by rw [y5];omega)) rfl (fun e' w2 hr=>?_);obtain⟨rfl,hs⟩:=hr;exact⟨_,rfl,sB hs,rfl,zX⟩
         | 6,_,hoq=>
          cases sI hoq;have e45:gg 45= .bool true:=hd 3 (zz kR);refine zx 45 true rfl e45 (fun _=>?_) (fun h=>absurd h dE);refine z4 45 (.bool true) e45 nu ?_;exact oV (x9 (v:= .string _) rfl) rfl
         | 7,_,hoq=>
          cases sI hoq;have e45:gg 45= .bool true:=hd 3 (zz kR);refine zx 45 true rfl e45 (fun _=>?_) (fun h=>absurd h dE);refine z4 45 (.bool true) e45 nu (z4 48 (.string (sdr p2 s)) (hd 6 (zz kR)) nu ?_);exact oV (ZK (l:=8) U9 rfl rfl (by rw [y5];omega)) rfl
         | 8,_,hoq=>
          cases sI hoq;have e45:gg 45= .bool true:=hd 3 (zz kR);refine zx 45 true rfl e45 (fun _=>?_) (fun h=>absurd h dE);refine z4 45 (.bool true) e45 nu (z4 49 (.string (sdr 8 (sdr p2 s))) (hd 7 (zz kR)) nu ?_);refine qx N2 (gQ (sdr 8 (sdr p2 s)) wx (by rw [y5,y5];omega)) rfl (fun e' w2 hr=>?_);obtain⟨rfl,hs⟩:=hr;exact⟨_,rfl,sB hs,rfl,zX⟩
         | 9,_,hoq=>
          cases sI hoq;have e45:gg 45= .bool true:=hd 3 (zz kR);refine zx 45 true rfl e45 (fun _=>?_) (fun h=>absurd h dE);refine z4 45 (.bool true) e45 nu (z4 47 (.int .u64 ((wo 7 (sdr p2 s):Nat):Int)) (hd 5 (zz kR)) nu (z4 50 (.int .u64 ((wo 7 (sdr 8 (sdr p2 s)):Nat):Int)) (hd 8 (zz kR)) nu ?_));exact oV (ZX rfl rfl (jX _ dE) (jX _ dE)) rfl
         | 10,_,hoq=>
          cases sI hoq;have e45:gg 45= .bool true:=hd 3 (zz kR);refine zx 45 true rfl e45 (fun _=>?_) (fun h=>absurd h dE);refine z4 45 (.bool true) e45 nu ?_;exact oV (x9 (v:= .string _) rfl) rfl
         | 11,_,hoq=>
          cases sI hoq;have e45:gg 45= .bool true:=hd 3 (zz kR);refine zx 45 true rfl e45 (fun _=>?_) (fun h=>absurd h dE);refine z4 45 (.bool true) e45 nu (z4 52 (.string (sdr p2 s)) (hd 10 (zz kR)) nu ?_);exact oV (ZK (l:=16) U9 rfl rfl (by rw [y5];omega)) rfl
         | 12,_,hoq=>
          cases sI hoq;have e45:gg 45= .bool true:=hd 3 (zz kR);refine zx 45 true rfl e45 (fun _=>?_) (fun h=>absurd h dE);refine z4 45 (.bool true) e45 nu (z4 53 (.string (sdr 16 (sdr p2 s))) (hd 11 (zz kR)) nu ?_);refine qx N2 (gQ (sdr 16 (sdr p2 s)) wx (by rw [y5,y5];omega)) rfl (fun e' w2 hr=>?_);obtain⟨rfl,hs⟩:=hr;exact⟨_,rfl,sB hs,rfl,zX⟩
         | 13,_,hoq=>
          cases sI hoq;have e45:gg 45= .bool true:=hd 3 (zz kR);refine zx 45 true rfl e45 (fun _=>?_) (fun h=>absurd h dE);refine z4 45 (.bool true) e45 nu ?_;exact oV (x9 (v:= .string _) rfl) rfl
         | 14,_,hoq=>
          cases sI hoq;have e45:gg 45= .bool true:=hd 3 (zz kR);refine zx 45 true rfl e45 (fun _=>?_) (fun h=>absurd h dE);refine z4 45 (.bool true) e45 nu (z4 55 (.string (sdr p2 s)) (hd 13 (zz kR)) nu ?_);exact oV (ZK (l:=24) U9 rfl rfl (by rw [y5];omega)) rfl
         | 15,_,hoq=>
          cases sI hoq;have e45:gg 45= .bool true:=hd 3 (zz kR);refine zx 45 true rfl e45 (fun _=>?_) (fun h=>absurd h dE);refine z4 45 (.bool true) e45 nu (z4 56 (.string (sdr 24 (sdr p2 s))) (hd 14 (zz kR)) nu ?_);refine qx N2 (gQ (sdr 24 (sdr p2 s)) wx (by rw [y5,y5];omega)) rfl (fun e' w2 hr=>?_);obtain⟨rfl,hs⟩:=hr;exact⟨_,rfl,sB hs,rfl,zX⟩
         | 16,_,hoq=>
          cases sI hoq;have e45:gg 45= .bool true:=hd 3 (zz kR);refine zx 45 true rfl e45 (fun _=>?_) (fun h=>absurd h dE);refine z4 45 (.bool true) e45 nu (z4 54 (.int .u64 ((wo 7 (sdr 16 (sdr p2 s)):Nat):Int)) (hd 12 (zz kR)) nu (z4 57 (.int .u64 ((wo 7 (sdr 24 (sdr p2 s)):Nat):Int)) (hd 15 (zz kR)) nu ?_));exact oV (ZX rfl rfl (jX _ dE) (jX _ dE)) rfl
         | 17,_,hoq=>
          cases sI hoq;have e45:gg 45= .bool true:=hd 3 (zz kR);refine zx 45 true rfl e45 (fun _=>?_) (fun h=>absurd h dE);refine z4 45 (.bool true) e45 nu (z4 51 (.int .u64 ((wo 7 (sdr p2 s) ||| wo 7 (sdr 8 (sdr p2 s)):Nat):Int)) (hd 9 (zz kR)) nu (z4 58 (.int .u64 ((wo 7 (sdr 16 (sdr p2 s)) ||| wo 7 (sdr 24 (sdr p2 s)):Nat):Int)) (hd 16 (zz kR)) nu ?_));exact oV (ZX rfl rfl (Nat.or_lt_two_pow (n:=64) (jX _ dE) (jX _ dE)) (Nat.or_lt_two_pow (n:=64) (jX _ dE) (jX _ dE))) rfl
         | 18,_,hoq=>
          cases sI hoq;have e45:gg 45= .bool true:=hd 3 (zz kR);refine zx 45 true rfl e45 (fun _=>?_) (fun h=>absurd h dE);refine z4 45 (.bool true) e45 nu (z4 59 (.int .u64 (((wo 7 (sdr p2 s) ||| wo 7 (sdr 8 (sdr p2 s))) ||| (wo 7 (sdr 16 (sdr p2 s)) ||| wo 7 (sdr 24 (sdr p2 s))):Nat):Int)) (hd 17 (zz kR)) nu ?_);exact oV (V8 (b:=9259542123273814144) rfl rfl (Nat.or_lt_two_pow (n:=64) (Nat.or_lt_two_pow (n:=64) (jX _ dE) (jX _ dE)) (Nat.or_lt_two_pow (n:=64) (jX _ dE) (jX _ dE))) dE) rfl
         | 19,_,hoq=>
          cases sI hoq;have e45:gg 45= .bool true:=hd 3 (zz kR);refine zx 45 true rfl e45 (fun _=>?_) (fun h=>absurd h dE);refine z4 45 (.bool true) e45 nu (z4 60 (.int .u64 ((((wo 7 (sdr p2 s) ||| wo 7 (sdr 8 (sdr p2 s))) ||| (wo 7 (sdr 16 (sdr p2 s)) ||| wo 7 (sdr 24 (sdr p2 s)))) &&& 9259542123273814144:Nat):Int)) (hd 18 (zz kR)) nu ?_);exact oV (r_eql rfl rfl) rfl
         | 20,_,hoq=>
          cases sI hoq;refine⟨fun _=>?_,fun hw=>Bool.noConfusion (show true=false from hw)⟩;refine z4 45 (.bool true) (hd 3 (zz kR)) nu (z4 61 (.bool (decide (((((wo 7 (sdr p2 s) ||| wo 7 (sdr 8 (sdr p2 s))) ||| (wo 7 (sdr 16 (sdr p2 s)) ||| wo 7 (sdr 24 (sdr p2 s)))) &&& 9259542123273814144:Nat):Int)=0))) (hd 19 (zz kR)) nu ?_);exact oV (Q9 (v:= .bool _) rfl rfl) rfl
         | _ + 21,hix,_=>exact absurd hix om
        intro gg w5 hs hR hdis;replace hB:=hB.tr0 hs;refine qK 62 (.bool (decide (((((wo 7 (sdr p2 s) ||| wo 7 (sdr 8 (sdr p2 s))) ||| (wo 7 (sdr 16 (sdr p2 s)) ||| wo 7 (sdr 24 (sdr p2 s)))) &&& 9259542123273814144:Nat):Int)=0))) (hR 20 dE) nu (zZ (e_S ?_));refine j7 rfl (fun c62=>?_) (fun c62=>?_)
        ·have hvC:=IZ (s:=s) (p:=p2) (k:=32) om (asc32 (Int.ofNat.inj (of_decide_eq_true c62)));refine zn5 ?_;refine wl (ZK (l:=32) U9 rfl rfl (by rw [y5];omega)) (wl (u7 (v:= .string (sdr (p2 + 32) s)) (by exact congrArg Value.string (uZ _ _ s))) (zZ (e_B (xv (s.size - (p2 + 32)) om agA ?_))));exact⟨p2 + 32,by omega,by omega,rfl,rfl,hv2.trans hvC,hB⟩
        refine zn8 ?_;refine xv (mo - 1) om agA ?_
        first
          | exact⟨p + 1,by omega,by omega,rfl,hv.trans hv1,hB⟩
          | exact⟨p + 9,by omega,by omega,rfl,hv.trans (hv1.trans hvA),hB⟩
          | exact⟨p2,by omega,by omega,rfl,hv.trans hv2,hB⟩
          | exact⟨p + 2,by omega,by omega,rfl,hv.trans hvg,hB⟩
          | exact⟨p + 3,by omega,by omega,rfl,hv.trans hvg,hB⟩
          | exact⟨p + 4,by omega,by omega,rfl,hv.trans hvg,hB⟩
       refine jW 21 [42,43,44,45,46,47,48,49,50,51,52,53,54,55,56,57,58,59,60,61,62] (fun _=>false) (fun ix v wv=>match ix with | 0=>v= .string (sdr p2 s) | 1=>v= .int .i64 (((sdr p2 s).size:Nat):Int) | 2=>v= .bool false | 3=>v= .bool false | 4=>v=undef | 5=>v=undef | 6=>v=undef | 7=>v=undef | 8=>v=undef | 9=>v=undef | 10=>v=undef | 11=>v=undef | 12=>v=undef | 13=>v=undef | 14=>v=undef | 15=>v=undef | 16=>v=undef | 17=>v=undef | 18=>v=undef | 19=>v=undef | 20=>v= .bool false | _=>True) kR kR ?_ ?_ ?_
       ·intro ix v wv wv2 h hs
        match ix,h with
        | 0,h=>exact h
        | 1,h=>exact h
        | 2,h=>exact h
        | 3,h=>exact h
        | 4,h=>exact h
        | 5,h=>exact h
        | 6,h=>exact h
        | 7,h=>exact h
        | 8,h=>exact h
        | 9,h=>exact h
        | 10,h=>exact h
        | 11,h=>exact h
        | 12,h=>exact h
        | 13,h=>exact h
        | 14,h=>exact h
        | 15,h=>exact h
        | 16,h=>exact h
        | 17,h=>exact h
        | 18,h=>exact h
        | 19,h=>exact h
        | 20,h=>exact h
        | _ + 21,h=>exact trivial
       ·intro ix o hix hoq gg wx hs hd hdis
        match ix,hix,hoq with
        | 0,_,hoq=>
         cases sI hoq;refine⟨fun _=>?_,fun hw=>Bool.noConfusion (show true=false from hw)⟩;exact oV (x9 (v:= .string _) rfl) rfl
        | 1,_,hoq=>
         cases sI hoq;refine⟨fun _=>?_,fun hw=>Bool.noConfusion (show true=false from hw)⟩;refine z4 42 (.string (sdr p2 s)) (hd 0 (zz kR)) nu ?_;exact oV (MX U9 rfl) rfl
        | 2,_,hoq=>
         cases sI hoq;refine⟨fun _=>?_,fun hw=>Bool.noConfusion (show true=false from hw)⟩;refine z4 43 (.int .i64 (((sdr p2 s).size:Nat):Int)) (hd 1 (zz kR)) nu ?_;exact oV (S4 rfl rfl) (congrArg Value.bool (decide_eq_false (by rw [y5];omega)))
        | 3,_,hoq=>
         cases sI hoq;refine⟨fun _=>?_,fun hw=>Bool.noConfusion (show true=false from hw)⟩;refine z4 44 (.bool false) (hd 2 (zz kR)) nu ?_;exact oV (x9 (v:= .bool _) rfl) rfl
        | 4,_,hoq=>
         cases sI hoq;have e45:gg 45= .bool false:=hd 3 (zz kR);exact zx 45 false rfl e45 (fun h=>absurd h dE) (fun _=>rfl)
        | 5,_,hoq=>
         cases sI hoq;have e45:gg 45= .bool false:=hd 3 (zz kR);have e46:gg 46=undef:=hd 4 (zz kR);exact zx 45 false rfl e45 (fun h=>absurd h dE) (fun _=>rfl)
        | 6,_,hoq=>
         cases sI hoq;have e45:gg 45= .bool false:=hd 3 (zz kR);exact zx 45 false rfl e45 (fun h=>absurd h dE) (fun _=>rfl)
        | 7,_,hoq=>
         cases sI hoq;have e45:gg 45= .bool false:=hd 3 (zz kR);have e48:gg 48=undef:=hd 6 (zz kR);exact zx 45 false rfl e45 (fun h=>absurd h dE) (fun _=>rfl)
        | 8,_,hoq=>
         cases sI hoq;have e45:gg 45= .bool false:=hd 3 (zz kR);have e49:gg 49=undef:=hd 7 (zz kR);exact zx 45 false rfl e45 (fun h=>absurd h dE) (fun _=>rfl)
        | 9,_,hoq=>
         cases sI hoq;have e45:gg 45= .bool false:=hd 3 (zz kR);have e47:gg 47=undef:=hd 5 (zz kR);have e50:gg 50=undef:=hd 8 (zz kR);exact zx 45 false rfl e45 (fun h=>absurd h dE) (fun _=>rfl)
        | 10,_,hoq=>
         cases sI hoq;have e45:gg 45= .bool false:=hd 3 (zz kR);exact zx 45 false rfl e45 (fun h=>absurd h dE) (fun _=>rfl)
        | 11,_,hoq=>
         cases sI hoq;have e45:gg 45= .bool false:=hd 3 (zz kR);have e52:gg 52=undef:=hd 10 (zz kR);exact zx 45 false rfl e45 (fun h=>absurd h dE) (fun _=>rfl)
        | 12,_,hoq=>
         cases sI hoq;have e45:gg 45= .bool false:=hd 3 (zz kR);have e53:gg 53=undef:=hd 11 (zz kR);exact zx 45 false rfl e45 (fun h=>absurd h dE) (fun _=>rfl)
        | 13,_,hoq=>
         cases sI hoq;have e45:gg 45= .bool false:=hd 3 (zz kR);exact zx 45 false rfl e45 (fun h=>absurd h dE) (fun _=>rfl)
        | 14,_,hoq=>
         cases sI hoq;have e45:gg 45= .bool false:=hd 3 (zz kR);have e55:gg 55=undef:=hd 13 (zz kR);exact zx 45 false rfl e45 (fun h=>absurd h dE) (fun _=>rfl)
        | 15,_,hoq=>
         cases sI hoq;have e45:gg 45= .bool false:=hd 3 (zz kR);have e56:gg 56=undef:=hd 14 (zz kR);exact zx 45 false rfl e45 (fun h=>absurd h dE) (fun _=>rfl)
        | 16,_,hoq=>
         cases sI hoq;have e45:gg 45= .bool false:=hd 3 (zz kR);have e54:gg 54=undef:=hd 12 (zz kR);have e57:gg 57=undef:=hd 15 (zz kR);exact zx 45 false rfl e45 (fun h=>absurd h dE) (fun _=>rfl)
        | 17,_,hoq=>
         cases sI hoq;have e45:gg 45= .bool false:=hd 3 (zz kR);have e51:gg 51=undef:=hd 9 (zz kR);have e58:gg 58=undef:=hd 16 (zz kR);exact zx 45 false rfl e45 (fun h=>absurd h dE) (fun _=>rfl)
        | 18,_,hoq=>
         cases sI hoq;have e45:gg 45= .bool false:=hd 3 (zz kR);have e59:gg 59=undef:=hd 17 (zz kR);exact zx 45 false rfl e45 (fun h=>absurd h dE) (fun _=>rfl)
        | 19,_,hoq=>
         cases sI hoq;have e45:gg 45= .bool false:=hd 3 (zz kR);have e60:gg 60=undef:=hd 18 (zz kR);exact zx 45 false rfl e45 (fun h=>absurd h dE) (fun _=>rfl)
        | 20,_,hoq=>
         cases sI hoq;have e61:gg 61=undef:=hd 19 (zz kR);refine⟨fun _=>?_,fun hw=>Bool.noConfusion (show true=false from hw)⟩;refine z4 45 (.bool false) (hd 3 (zz kR)) nu ?_;exact oV (Qz (v:= .bool _) rfl rfl) rfl
        | _ + 21,hix,_=>exact absurd hix om
       intro gg w6 hs hR hdis;replace hB:=hB.tr0 hs;refine qK 62 (.bool false) (hR 20 dE) nu (vx ?_);refine xv (mo - 1) om agA ?_
       first
         | exact⟨p + 1,by omega,by omega,rfl,hv.trans hv1,hB⟩
         | exact⟨p + 9,by omega,by omega,rfl,hv.trans (hv1.trans hvA),hB⟩
         | exact⟨p2,by omega,by omega,rfl,hv.trans hv2,hB⟩
         | exact⟨p + 2,by omega,by omega,rfl,hv.trans hvg,hB⟩
         | exact⟨p + 3,by omega,by omega,rfl,hv.trans hvg,hB⟩
         | exact⟨p + 4,by omega,by omega,rfl,hv.trans hvg,hB⟩
      refine zn5 ?_;refine xv (mo - 1) om agA ?_
      first
        | exact⟨p + 1,by omega,by omega,rfl,hv.trans hv1,hB⟩
        | exact⟨p + 9,by omega,by omega,rfl,hv.trans (hv1.trans hvA),hB⟩
        | exact⟨p2,by omega,by omega,rfl,hv.trans hv2,hB⟩
        | exact⟨p + 2,by omega,by omega,rfl,hv.trans hvg,hB⟩
        | exact⟨p + 3,by omega,by omega,rfl,hv.trans hvg,hB⟩
        | exact⟨p + 4,by omega,by omega,rfl,hv.trans hvg,hB⟩
     refine jW 13 [27,28,29,30,31,32,33,34,35,36,37,38,39] (fun _=>false) (fun ix v wv=>match ix with | 0=>v= .string (sdr (p + 9) s) | 1=>v= .int .i64 (((sdr (p + 9) s).size:Nat):Int) | 2=>v= .bool false | 3=>v= .bool false | 4=>v=undef | 5=>v=undef | 6=>v=undef | 7=>v=undef | 8=>v=undef | 9=>v=undef | 10=>v=undef | 11=>v=undef | 12=>v= .bool false | _=>True) kR kR ?_ ?_ ?_
     ·intro ix v wv wv2 h hs
      match ix,h with
      | 0,h=>exact h
      | 1,h=>exact h
      | 2,h=>exact h
      | 3,h=>exact h
      | 4,h=>exact h
      | 5,h=>exact h
      | 6,h=>exact h
      | 7,h=>exact h
      | 8,h=>exact h
      | 9,h=>exact h
      | 10,h=>exact h
      | 11,h=>exact h
      | 12,h=>exact h
      | _ + 13,h=>exact trivial
     ·intro ix o hix hoq gg wx hs hd hdis
      match ix,hix,hoq with
      | 0,_,hoq=>
       cases sI hoq;refine⟨fun _=>?_,fun hw=>Bool.noConfusion (show true=false from hw)⟩;exact oV (x9 (v:= .string _) rfl) rfl
      | 1,_,hoq=>
       cases sI hoq;refine⟨fun _=>?_,fun hw=>Bool.noConfusion (show true=false from hw)⟩;refine z4 27 (.string (sdr (p + 9) s)) (hd 0 (zz kR)) nu ?_;exact oV (MX U9 rfl) rfl
      | 2,_,hoq=>
       cases sI hoq;refine⟨fun _=>?_,fun hw=>Bool.noConfusion (show true=false from hw)⟩;refine z4 28 (.int .i64 (((sdr (p + 9) s).size:Nat):Int)) (hd 1 (zz kR)) nu ?_;exact oV (S4 rfl rfl) (congrArg Value.bool (decide_eq_false (by rw [y5];omega)))
      | 3,_,hoq=>
       cases sI hoq;refine⟨fun _=>?_,fun hw=>Bool.noConfusion (show true=false from hw)⟩;refine z4 29 (.bool false) (hd 2 (zz kR)) nu ?_;exact oV (x9 (v:= .bool _) rfl) rfl
      | 4,_,hoq=>
       cases sI hoq;have e30:gg 30= .bool false:=hd 3 (zz kR);exact zx 30 false rfl e30 (fun h=>absurd h dE) (fun _=>rfl)
      | 5,_,hoq=>
       cases sI hoq;have e30:gg 30= .bool false:=hd 3 (zz kR);have e31:gg 31=undef:=hd 4 (zz kR);exact zx 30 false rfl e30 (fun h=>absurd h dE) (fun _=>rfl)
      | 6,_,hoq=>
       cases sI hoq;have e30:gg 30= .bool false:=hd 3 (zz kR);exact zx 30 false rfl e30 (fun h=>absurd h dE) (fun _=>rfl)
      | 7,_,hoq=>
       cases sI hoq;have e30:gg 30= .bool false:=hd 3 (zz kR);have e33:gg 33=undef:=hd 6 (zz kR);exact zx 30 false rfl e30 (fun h=>absurd h dE) (fun _=>rfl)
      | 8,_,hoq=>
       cases sI hoq;have e30:gg 30= .bool false:=hd 3 (zz kR);have e34:gg 34=undef:=hd 7 (zz kR);exact zx 30 false rfl e30 (fun h=>absurd h dE) (fun _=>rfl)
      | 9,_,hoq=>
       cases sI hoq;have e30:gg 30= .bool false:=hd 3 (zz kR);have e32:gg 32=undef:=hd 5 (zz kR);have e35:gg 35=undef:=hd 8 (zz kR);exact zx 30 false rfl e30 (fun h=>absurd h dE) (fun _=>rfl)
      | 10,_,hoq=>
       cases sI hoq;have e30:gg 30= .bool false:=hd 3 (zz kR);have e36:gg 36=undef:=hd 9 (zz kR);exact zx 30 false rfl e30 (fun h=>absurd h dE) (fun _=>rfl)
      | 11,_,hoq=>
       cases sI hoq;have e30:gg 30= .bool false:=hd 3 (zz kR);have e37:gg 37=undef:=hd 10 (zz kR);exact zx 30 false rfl e30 (fun h=>absurd h dE) (fun _=>rfl)
      | 12,_,hoq=>
       cases sI hoq;have e38:gg 38=undef:=hd 11 (zz kR);refine⟨fun _=>?_,fun hw=>Bool.noConfusion (show true=false from hw)⟩;refine z4 30 (.bool false) (hd 3 (zz kR)) nu ?_;exact oV (Qz (v:= .bool _) rfl rfl) rfl
      | _ + 13,hix,_=>exact absurd hix om
     intro gg w7 hs hR hdis;replace hB:=hB.tr0 hs;refine qK 39 (.bool false) (hR 12 dE) nu (zn8 ?_);refine xv (mo - 1) om agA ?_
     first
       | exact⟨p + 1,by omega,by omega,rfl,hv.trans hv1,hB⟩
       | exact⟨p + 9,by omega,by omega,rfl,hv.trans (hv1.trans hvA),hB⟩
       | exact⟨p2,by omega,by omega,rfl,hv.trans hv2,hB⟩
       | exact⟨p + 2,by omega,by omega,rfl,hv.trans hvg,hB⟩
       | exact⟨p + 3,by omega,by omega,rfl,hv.trans hvg,hB⟩
       | exact⟨p + 4,by omega,by omega,rfl,hv.trans hvg,hB⟩
    refine zn5 ?_;refine xv (mo - 1) om agA ?_
    first
      | exact⟨p + 1,by omega,by omega,rfl,hv.trans hv1,hB⟩
      | exact⟨p + 9,by omega,by omega,rfl,hv.trans (hv1.trans hvA),hB⟩
      | exact⟨p2,by omega,by omega,rfl,hv.trans hv2,hB⟩
      | exact⟨p + 2,by omega,by omega,rfl,hv.trans hvg,hB⟩
      | exact⟨p + 3,by omega,by omega,rfl,hv.trans hvg,hB⟩
      | exact⟨p + 4,by omega,by omega,rfl,hv.trans hvg,hB⟩
   refine jq ?_;refine xv (mo - 1) om agA ?_
   first
     | exact⟨p + 1,by omega,by omega,rfl,hv.trans hv1,hB⟩
     | exact⟨p + 9,by omega,by omega,rfl,hv.trans (hv1.trans hvA),hB⟩
     | exact⟨p2,by omega,by omega,rfl,hv.trans hv2,hB⟩
     | exact⟨p + 2,by omega,by omega,rfl,hv.trans hvg,hB⟩
     | exact⟨p + 3,by omega,by omega,rfl,hv.trans hvg,hB⟩
     | exact⟨p + 4,by omega,by omega,rfl,hv.trans hvg,hB⟩
  have hb128:128≤gb s p:=by omega
  refine zn3 ?_;have hU2:=hU.mono hB;have hft:=first_256 (gb s p);refine zn2 ?_;refine wl (S3 (i:=(gb s p)) Tryz.underlying177 Q3 rfl rfl hb0 rfl) (wl (qk (v:= .int _ _) U5 rfl rfl (hU2.1.2 _ hb0)) (zn6 ?_));refine wl (r_and7 rfl rfl hft) (wl (MJ U5 U3 rfl om) (zn6 ?_));refine wl (r_shr8 (b:=4) (c:=(Lib.firstT (gb s p)) / 16) rfl rfl dE rfl) (wl (S3 (i:=((Lib.firstT (gb s p)) / 16)) Tryz.underlying180 sz179 rfl rfl om rfl) (wl (zW Iw rfl rfl (hU2.2.2 _ om) sz179) ?_));refine xV (cs:=#[.int .u8 0,.int .u8 0]) ze179 rfl (fun _=>rfl) (fun _=>rfl) sz179 rfl zK (fun b6 w9 hb6 hs hr=>?_);replace hB:=hB.tr0 hs;refine oY ?_;refine zw rfl (fun c76=>?_) (fun c76=>?_)
  ·obtain⟨hbad,hgood⟩:=ok_n (n:=2) hpl (.inl rfl) om;refine xX (xX ?_);refine xK [78,79,80,81,82,83,84,85,86,87,88,89,90,91,92,93,94] (fun g w'=>(g 94= .bool (decide (yw s p 2)))∧Same [] w9 w') ?_ (fun g17 w10 hI=>?_)
   ·have hZ:SameQ [] w9 w9:=Same.refl _ _;refine Z7 kR kR (fun w11 hs=>?_);replace hb6:=hb6.tr0 hs;replace hZ:=SameQ.trans hZ hs (by simp);refine zn4 ?_;refine jy 81 rfl (fun g81=>?_) (fun g81=>?_)
    ·refine jq ?_;refine kJ ?_;refine e_R ⟨agA,?_⟩;refine⟨?_,hZ⟩
     first | exact congrArg Value.bool (decide_eq_true (by unfold yw;omega)).symm | exact congrArg Value.bool (decide_eq_false (by unfold yw;omega)).symm | exact congrArg Value.bool (decide_eq_decide.2 (by unfold yw;omega))
    refine vj 81 rfl rfl (x9 (v:= .string _) rfl) (vj 81 rfl rfl (j8 (i:=1) U9 rfl rfl om) (vj 81 rfl rfl (vX Iw Q3 dE rfl rfl rfl) (vj 81 rfl rfl (qk (v:= .int _ _) U5 rfl rfl (hb6.cell rfl)) (vj 81 rfl rfl (ZJ rfl rfl) (zn2 ?_)))));refine jy 88 rfl (fun g88=>?_) (fun g88=>?_)
    ·refine zn6 ?_;refine kJ ?_;refine e_R ⟨agA,?_⟩;refine⟨?_,hZ⟩
     first | exact congrArg Value.bool (decide_eq_true (by unfold yw;omega)).symm | exact congrArg Value.bool (decide_eq_false (by unfold yw;omega)).symm | exact congrArg Value.bool (decide_eq_decide.2 (by unfold yw;omega))
    refine vj 88 rfl rfl (vX Iw Q3 dE rfl rfl rfl) (vj 88 rfl rfl (qk (v:= .int _ _) U5 rfl rfl (hb6.cell rfl)) (vj 88 rfl rfl (x9 (v:= .string _) rfl) (vj 88 rfl rfl (j8 (i:=1) U9 rfl rfl om) (vj 88 rfl rfl (ZJ rfl rfl) (zn1 ?_)))));refine kJ ?_;refine e_R ⟨agA,?_⟩;refine⟨?_,hZ⟩
    first | exact congrArg Value.bool (decide_eq_true (by unfold yw;omega)).symm | exact congrArg Value.bool (decide_eq_false (by unfold yw;omega)).symm | exact congrArg Value.bool (decide_eq_decide.2 (by unfold yw;omega))
   obtain⟨h94,hs⟩:=hI;replace hB:=hB.tr0 hs;refine jJ 94 (.bool (decide (yw s p 2))) h94 nu (e_S ?_);refine zw rfl (fun c94=>?_) (fun c94=>?_)
   ·have hvn:=CQ hpl (hbad c94);refine jq ?_;exact⟨by rw [hv,hvn];rfl,hB⟩
   have hnb:2≤s.size - p:=by unfold yw at c94;omega
   obtain⟨hok,hwd⟩:=hgood c94;have hvg:=CX hpl hok;rw [hwd] at hvg;refine zn4 ?_;refine wl (ZK (l:=2) U9 rfl rfl (by unfold yw at c94;omega)) (wl (u7 (v:= .string (sdr (p + 2) s)) (by exact congrArg Value.string (uZ _ _ s))) (zn3 ?_));refine xv (mo - 1) om agA ?_
   first
     | exact⟨p + 1,by omega,by omega,rfl,hv.trans hv1,hB⟩
     | exact⟨p + 9,by omega,by omega,rfl,hv.trans (hv1.trans hvA),hB⟩
     | exact⟨p2,by omega,by omega,rfl,hv.trans hv2,hB⟩
     | exact⟨p + 2,by omega,by omega,rfl,hv.trans hvg,hB⟩
     | exact⟨p + 3,by omega,by omega,rfl,hv.trans hvg,hB⟩
     | exact⟨p + 4,by omega,by omega,rfl,hv.trans hvg,hB⟩
  refine zn6 ?_;refine zw rfl (fun c97=>?_) (fun c97=>?_)
  ·obtain⟨hbad,hgood⟩:=ok_n (n:=3) hpl (.inr (.inl rfl)) om;refine xX (xX ?_);refine xK [99,100,101,102,103,104,105,106,107,108,109,110,111,112,113,114,115,116,117,118,119,120,121,122,123,124,125] (fun g w'=>(g 125= .bool (decide (yw s p 3)))∧Same [] w9 w') ?_ (fun g21 w12 hI=>?_)
   ·have hZ:SameQ [] w9 w9:=Same.refl _ _;refine Z7 kR kR (fun w13 hs=>?_);replace hb6:=hb6.tr0 hs;replace hZ:=SameQ.trans hZ hs (by simp);refine zn4 ?_;refine jy 102 rfl (fun g102=>?_) (fun g102=>?_)
    ·refine zn23 ?_;refine kJ ?_;refine e_R ⟨agA,?_⟩;refine⟨?_,hZ⟩
     first | exact congrArg Value.bool (decide_eq_true (by unfold yw;omega)).symm | exact congrArg Value.bool (decide_eq_false (by unfold yw;omega)).symm | exact congrArg Value.bool (decide_eq_decide.2 (by unfold yw;omega))
    refine vj 102 rfl rfl (x9 (v:= .string _) rfl) (vj 102 rfl rfl (j8 (i:=1) U9 rfl rfl om) (vj 102 rfl rfl (vX Iw Q3 dE rfl rfl rfl) (vj 102 rfl rfl (qk (v:= .int _ _) U5 rfl rfl (hb6.cell rfl)) (vj 102 rfl rfl (ZJ rfl rfl) (zn2 ?_)))));refine jy 109 rfl (fun g109=>?_) (fun g109=>?_)
    ·refine M1 ?_;refine kJ ?_;refine e_R ⟨agA,?_⟩;refine⟨?_,hZ⟩
     first | exact congrArg Value.bool (decide_eq_true (by unfold yw;omega)).symm | exact congrArg Value.bool (decide_eq_false (by unfold yw;omega)).symm | exact congrArg Value.bool (decide_eq_decide.2 (by unfold yw;omega))
    refine vj 109 rfl rfl (vX Iw Q3 dE rfl rfl rfl) (vj 109 rfl rfl (qk (v:= .int _ _) U5 rfl rfl (hb6.cell rfl)) (vj 109 rfl rfl (x9 (v:= .string _) rfl) (vj 109 rfl rfl (j8 (i:=1) U9 rfl rfl om) (vj 109 rfl rfl (ZJ rfl rfl) (zn2 ?_)))));refine jy 116 rfl (fun g116=>?_) (fun g116=>?_)
    ·refine zn9 ?_;refine kJ ?_;refine e_R ⟨agA,?_⟩;refine⟨?_,hZ⟩
     first | exact congrArg Value.bool (decide_eq_true (by unfold yw;omega)).symm | exact congrArg Value.bool (decide_eq_false (by unfold yw;omega)).symm | exact congrArg Value.bool (decide_eq_decide.2 (by unfold yw;omega))
    refine vj 116 rfl rfl (x9 (v:= .string _) rfl) (vj 116 rfl rfl (j8 (i:=2) U9 rfl rfl om) (vj 116 rfl rfl (ZJ rfl rfl) (zn2 ?_)));refine jy 121 rfl (fun g121=>?_) (fun g121=>?_)
    ·refine zn4 ?_;refine kJ ?_;refine e_R ⟨agA,?_⟩;refine⟨?_,hZ⟩
     first | exact congrArg Value.bool (decide_eq_true (by unfold yw;omega)).symm | exact congrArg Value.bool (decide_eq_false (by unfold yw;omega)).symm | exact congrArg Value.bool (decide_eq_decide.2 (by unfold yw;omega))
    refine vj 121 rfl rfl (x9 (v:= .string _) rfl) (vj 121 rfl rfl (j8 (i:=2) U9 rfl rfl om) (vj 121 rfl rfl (ZJ rfl rfl) (zn1 ?_)));refine kJ ?_;refine e_R ⟨agA,?_⟩;refine⟨?_,hZ⟩
    first | exact congrArg Value.bool (decide_eq_true (by unfold yw;omega)).symm | exact congrArg Value.bool (decide_eq_false (by unfold yw;omega)).symm | exact congrArg Value.bool (decide_eq_decide.2 (by unfold yw;omega))
   obtain⟨h125,hs⟩:=hI;replace hB:=hB.tr0 hs;refine jJ 125 (.bool (decide (yw s p 3))) h125 nu (e_S ?_);refine zw rfl (fun c125=>?_) (fun c125=>?_)
   ·have hvn:=CQ hpl (hbad c125);refine jq ?_;exact⟨by rw [hv,hvn];rfl,hB⟩
   have hnb:3≤s.size - p:=by unfold yw at c125;omega
   obtain⟨hok,hwd⟩:=hgood c125;have hvg:=CX hpl hok;rw [hwd] at hvg;refine zn4 ?_;refine wl (ZK (l:=3) U9 rfl rfl (by unfold yw at c125;omega)) (wl (u7 (v:= .string (sdr (p + 3) s)) (by exact congrArg Value.string (uZ _ _ s))) (zn3 ?_));refine xv (mo - 1) om agA ?_
   first
     | exact⟨p + 1,by omega,by omega,rfl,hv.trans hv1,hB⟩
     | exact⟨p + 9,by omega,by omega,rfl,hv.trans (hv1.trans hvA),hB⟩
     | exact⟨p2,by omega,by omega,rfl,hv.trans hv2,hB⟩
     | exact⟨p + 2,by omega,by omega,rfl,hv.trans hvg,hB⟩
     | exact⟨p + 3,by omega,by omega,rfl,hv.trans hvg,hB⟩
     | exact⟨p + 4,by omega,by omega,rfl,hv.trans hvg,hB⟩
  refine zn6 ?_;refine zw rfl (fun c128=>?_) (fun c128=>?_)
  ·obtain⟨hbad,hgood⟩:=ok_n (n:=4) hpl (.inr (.inr rfl)) om;refine xX (xX ?_);refine xK [130,131,132,133,134,135,136,137,138,139,140,141,142,143,144,145,146,147,148,149,150,151,152,153,154,155,156,157,158,159,160,161,162,163,164,165,166] (fun g w'=>(g 166= .bool (decide (yw s p 4)))∧Same [] w9 w') ?_ (fun g25 w14 hI=>?_)
   ·have hZ:SameQ [] w9 w9:=Same.refl _ _;refine Z7 kR kR (fun w15 hs=>?_);replace hb6:=hb6.tr0 hs;replace hZ:=SameQ.trans hZ hs (by simp);refine zn4 ?_;refine jy 133 rfl (fun g133=>?_) (fun g133=>?_)
    ·refine zn30 ?_;refine zn3 ?_;refine kJ ?_;refine e_R ⟨agA,?_⟩;refine⟨?_,hZ⟩
     first | exact congrArg Value.bool (decide_eq_true (by unfold yw;omega)).symm | exact congrArg Value.bool (decide_eq_false (by unfold yw;omega)).symm | exact congrArg Value.bool (decide_eq_decide.2 (by unfold yw;omega))
    refine vj 133 rfl rfl (x9 (v:= .string _) rfl) (vj 133 rfl rfl (j8 (i:=1) U9 rfl rfl om) (vj 133 rfl rfl (vX Iw Q3 dE rfl rfl rfl) (vj 133 rfl rfl (qk (v:= .int _ _) U5 rfl rfl (hb6.cell rfl)) (vj 133 rfl rfl (ZJ rfl rfl) (zn2 ?_)))));refine jy 140 rfl (fun g140=>?_) (fun g140=>?_)
    ·refine zn26 ?_;refine kJ ?_;refine e_R ⟨agA,?_⟩;refine⟨?_,hZ⟩
     first | exact congrArg Value.bool (decide_eq_true (by unfold yw;omega)).symm | exact congrArg Value.bool (decide_eq_false (by unfold yw;omega)).symm | exact congrArg Value.bool (decide_eq_decide.2 (by unfold yw;omega))
    refine vj 140 rfl rfl (vX Iw Q3 dE rfl rfl rfl) (vj 140 rfl rfl (qk (v:= .int _ _) U5 rfl rfl (hb6.cell rfl)) (vj 140 rfl rfl (x9 (v:= .string _) rfl) (vj 140 rfl rfl (j8 (i:=1) U9 rfl rfl om) (vj 140 rfl rfl (ZJ rfl rfl) (zn2 ?_)))));refine jy 147 rfl (fun g147=>?_) (fun g147=>?_)
    ·refine zn19 ?_;refine kJ ?_;refine e_R ⟨agA,?_⟩;refine⟨?_,hZ⟩
     first | exact congrArg Value.bool (decide_eq_true (by unfold yw;omega)).symm | exact congrArg Value.bool (decide_eq_false (by unfold yw;omega)).symm | exact congrArg Value.bool (decide_eq_decide.2 (by unfold yw;omega))
    refine vj 147 rfl rfl (x9 (v:= .string _) rfl) (vj 147 rfl rfl (j8 (i:=2) U9 rfl rfl om) (vj 147 rfl rfl (ZJ rfl rfl) (zn2 ?_)));refine jy 152 rfl (fun g152=>?_) (fun g152=>?_)
    ·refine oY ?_;refine kJ ?_;refine e_R ⟨agA,?_⟩;refine⟨?_,hZ⟩
     first | exact congrArg Value.bool (decide_eq_true (by unfold yw;omega)).symm | exact congrArg Value.bool (decide_eq_false (by unfold yw;omega)).symm | exact congrArg Value.bool (decide_eq_decide.2 (by unfold yw;omega))
    refine vj 152 rfl rfl (x9 (v:= .string _) rfl) (vj 152 rfl rfl (j8 (i:=2) U9 rfl rfl om) (vj 152 rfl rfl (ZJ rfl rfl) (zn2 ?_)));refine jy 157 rfl (fun g157=>?_) (fun g157=>?_)
    ·refine zn9 ?_;refine kJ ?_;refine e_R ⟨agA,?_⟩;refine⟨?_,hZ⟩
     first | exact congrArg Value.bool (decide_eq_true (by unfold yw;omega)).symm | exact congrArg Value.bool (decide_eq_false (by unfold yw;omega)).symm | exact congrArg Value.bool (decide_eq_decide.2 (by unfold yw;omega))
    refine vj 157 rfl rfl (x9 (v:= .string _) rfl) (vj 157 rfl rfl (j8 (i:=3) U9 rfl rfl om) (vj 157 rfl rfl (ZJ rfl rfl) (zn2 ?_)));refine jy 162 rfl (fun g162=>?_) (fun g162=>?_)
    ·refine zn4 ?_;refine kJ ?_;refine e_R ⟨agA,?_⟩;refine⟨?_,hZ⟩
     first | exact congrArg Value.bool (decide_eq_true (by unfold yw;omega)).symm | exact congrArg Value.bool (decide_eq_false (by unfold yw;omega)).symm | exact congrArg Value.bool (decide_eq_decide.2 (by unfold yw;omega))
    refine vj 162 rfl rfl (x9 (v:= .string _) rfl) (vj 162 rfl rfl (j8 (i:=3) U9 rfl rfl om) (vj 162 rfl rfl (ZJ rfl rfl) (zn1 ?_)));refine kJ ?_;refine e_R ⟨agA,?_⟩;refine⟨?_,hZ⟩
    first | exact congrArg Value.bool (decide_eq_true (by unfold yw;omega)).symm | exact congrArg Value.bool (decide_eq_false (by unfold yw;omega)).symm | exact congrArg Value.bool (decide_eq_decide.2 (by unfold yw;omega))
   obtain⟨h166,hs⟩:=hI;replace hB:=hB.tr0 hs;refine jJ 166 (.bool (decide (yw s p 4))) h166 nu (e_S ?_);refine zw rfl (fun c166=>?_) (fun c166=>?_)
   ·have hvn:=CQ hpl (hbad c166);refine jq ?_;exact⟨by rw [hv,hvn];rfl,hB⟩
   have hnb:4≤s.size - p:=by unfold yw at c166;omega
   obtain⟨hok,hwd⟩:=hgood c166;have hvg:=CX hpl hok;rw [hwd] at hvg;refine zn4 ?_;refine wl (ZK (l:=4) U9 rfl rfl (by unfold yw at c166;omega)) (wl (u7 (v:= .string (sdr (p + 4) s)) (by exact congrArg Value.string (uZ _ _ s))) (zn3 ?_));refine xv (mo - 1) om agA ?_
   first
     | exact⟨p + 1,by omega,by omega,rfl,hv.trans hv1,hB⟩
     | exact⟨p + 9,by omega,by omega,rfl,hv.trans (hv1.trans hvA),hB⟩
     | exact⟨p2,by omega,by omega,rfl,hv.trans hv2,hB⟩
     | exact⟨p + 2,by omega,by omega,rfl,hv.trans hvg,hB⟩
     | exact⟨p + 3,by omega,by omega,rfl,hv.trans hvg,hB⟩
     | exact⟨p + 4,by omega,by omega,rfl,hv.trans hvg,hB⟩
  have hvn:=CQ hpl (ok_bad hb128 om om om);refine yj ?_;exact⟨by rw [hv,hvn];rfl,hB⟩
 have hsp:=y5 p s;refine yj ?_;exact⟨by rw [hv,vq_end om];rfl,hB⟩
end Go.Proofs.YtdkfnakncaggoaaGreatDoor
namespace Go.Proofs.YtdkfnakncaggoaaGreatDoor
open Go.RowKit
theorem wrap8 {a:Nat} (h:a < 256):IntKind.u8.wrap (a:Int)=a:=by
  have:∀ a:Nat,a < 256→IntKind.u8.wrap (a:Int)=a:=by decide +kernel
  exact this a h
theorem fn131:zQ Tryz.prog 131=true:=by kernel_rfl
theorem fn132:zQ Tryz.prog 132=true:=by kernel_rfl
theorem fn135:zQ Tryz.prog 135=true:=by kernel_rfl
theorem ixl_any (s:ByteArray) (c:Int) (w:World):Calls Tryz.prog 135 #[.string s,.int .u8 c] w fun e w'=>e= .returned (.int .i64 (Lib.indexByte (bl s) c.toNat.toUInt8))∧w=w':=by
 refine enter Tryz.func135 Tryz.ntmps135 rfl (Nat.le_of_ble_eq_true rfl) (zn9 ?_);refine wl (r_ext (args:=[.string s,.int .u8 c]) (run_ixb (P:=Tryz.prog) Tryz.func136 kR kR kR kR) rfl) (zn5 ?_);exact⟨rfl,rfl⟩
theorem SZ (s:ByteArray) (c:Int) (w:World):Calls Tryz.prog 131 #[.string s,.int .u8 c] w fun e w'=>e= .returned (.int .i64 (Lib.indexByte (bl s) c.toNat.toUInt8))∧w=w':=by
 refine enter Tryz.func131 Tryz.ntmps131 rfl (Nat.le_of_ble_eq_true rfl) (zn9 ?_);refine zV fn135 (ixl_any s c _) rfl (fun e' w1 hr=>?_);obtain⟨rfl,rfl⟩:=hr;refine⟨_,rfl,?_⟩;refine zn5 ?_;exact⟨rfl,rfl⟩
theorem L8 (r:Int) (w:World):Calls Tryz.prog 132 #[.int .i32 r] w fun e w'=>(∃ b,e= .returned (.bool b))∧w=w':=by
 refine enter Tryz.func132 Tryz.ntmps132 rfl (Nat.le_of_ble_eq_true rfl) (zn8 ?_);refine x7 [3,4,5,6,7,8,9] 3 (.bool (decide (0≤r∧r < 55296))) nu ?_ (fun gq=>?_)
 ·refine zn4 ?_;refine zj 6 rfl (fun g6=>?_) (fun g6=>?_)
  ·refine zn6 ?_;refine zZ (e_R ⟨rfl,agA,?_⟩);exact clA
  refine zn4 ?_;refine zZ (e_R ⟨rfl,agA,?_⟩);exact clA
 refine e_S ?_;refine zw rfl (fun c3=>?_) (fun c3=>?_)
 ·refine zn9 ?_;exact⟨⟨true,rfl⟩,rfl⟩
 refine xX ?_;refine x7 [10,11,12,13,14,15,16] 10 (.bool (decide (57343 < r∧r≤1114111))) nu ?_ (fun gq=>?_)
 ·refine zn4 ?_;refine zj 13 rfl (fun g13=>?_) (fun g13=>?_)
  ·refine zn6 ?_;refine zZ (e_R ⟨rfl,agA,?_⟩);exact clA
  refine zn4 ?_;refine zZ (e_R ⟨rfl,agA,?_⟩);exact clA
 refine e_S ?_;refine zw rfl (fun c10=>?_) (fun c10=>?_)
 ·refine zn9 ?_;exact⟨⟨true,rfl⟩,rfl⟩
 refine yq ?_;exact⟨⟨false,rfl⟩,rfl⟩
theorem sua_any (n:Nat) (w:World):Calls Tryz.prog 126 #[.int .i64 ((n:Nat):Int)] w fun e w'=>e= .returned (.bool (decide (8 < n)))∧w=w':=by
 refine enter Tryz.func126 Tryz.ntmps126 rfl (Nat.le_of_ble_eq_true rfl) (oY ?_);exact⟨congrArg (fun z=>Ending.returned (.bool z)) (decide_eq_decide.2 (by constructor <;> (intro h;omega))),rfl⟩
set_option maxRecDepth 100000 in
set_option maxHeartbeats 4000000 in
theorem ixr_any (r:Nat) (w:World):Calls Tryz.prog 125 #[.string CH,.int .i32 ((r:Nat):Int)] w fun e w'=>(∃ z:Int,e= .returned (.int .i64 z)∧(0≤z ↔ spc r=true))∧Bel w w':=by
 have hcs:CH.size=9:=rfl;refine enter Tryz.func125 Tryz.ntmps125 rfl (Nat.le_of_ble_eq_true rfl) ?_;have hB:Bel w w:=Below.refl _ _;refine zn7 ?_;refine x7 [160,161,162,163,164,165,166] 160 (.bool (decide (0≤(r:Int)∧(r:Int) < 128))) nu ?_ (fun gq=>?_)
 ·refine zn4 ?_;refine zj 163 rfl (fun g163=>?_) (fun g163=>?_)
  ·refine zn6 ?_;refine zZ (e_R ⟨rfl,agA,?_⟩);exact clA
  refine zn4 ?_;refine zZ (e_R ⟨rfl,agA,?_⟩);exact clA
 refine e_S ?_;refine zw rfl (fun c160=>?_) (fun c160=>?_)
 ·refine zn4 ?_;refine wl (Jv Tryz.underlying21 U5 rfl (wrap8 om)) ?_;refine zV fn131 (SZ CH _ _) rfl (fun e' w1 hr=>?_);obtain⟨rfl,rfl⟩:=hr;refine⟨_,rfl,?_⟩;refine zn6 ?_;have h:=ch_ix r om;exact⟨⟨_,rfl,by rw [← h,decide_eq_true_iff];rfl⟩,hB⟩
 have hs0:spc r=false:=by cases h:spc r with | false=>rfl | true=>have:=O2 h;omega
 have hr128:128≤r:=by omega
 refine zn7 ?_;refine zw rfl (fun c171=>?_) (fun c171=>?_)
 ·refine zn4 ?_;refine W4 U9 rfl (fun b175 w2 hb175 hs hr=>?_);have lo175:=nLT (Bel.size hB) hr;replace hB:=hB.tr0 hs;refine zn3 ?_;refine q8 [4,5,6,176,177,178,179,180,181,182] (fun m g w'=>∃ p:Nat,p≤9∧m=9 - p∧Bel w w'∧ItIn w' b175 CH p) (9) ?_ (fun m g38 w3 hI=>?_)
  ·exact⟨0,by omega,rfl,hB,hb175⟩
  obtain⟨p,hp,hm,hB,hb175⟩:=hI;refine zn2 ?_;rcases Nat.lt_or_ge (p) (CH).size with hnlt | hnge
  ·refine W5 hb175 rfl hnlt (fun w4 hq hs=>?_);replace hB:=hB.tr1 hs lo175;replace hb175:=hq;have hwl:=Vk (HY p om);have hlt:=HY p om;refine wl (jv (v:= .bool true) rfl rfl) (zn9 ?_);refine wl (jv (v:= .int _ _) rfl rfl) (wl (jv (v:= .int _ _) rfl rfl) (yq ?_));refine zw rfl (fun c181=>?_) (fun c181=>?_)
   ·exact absurd c181 (by rw [hwl.2];omega)
   refine uY (e_B (xv (9 - (p + 1)) om agA ?_));exact⟨p + 1,by omega,rfl,hB,by have h:=hb175;rw [show (Utf8.decode CH p).2=1 from hwl.1] at h;exact h⟩
  refine wl (r_ne hb175 rfl (Nat.not_lt.2 hnge)) (wl (jv (v:= .bool false) rfl rfl) (M0 ?_));exact⟨⟨-1,rfl,⟨fun h=>by omega,fun h=>by rw [hs0] at h;cases h⟩⟩,hB⟩
 refine zn3 ?_;refine zV fn132 (L8 _ _) rfl (fun e' w5 hr=>?_);obtain⟨⟨bv,rfl⟩,rfl⟩:=hr;refine⟨_,rfl,?_⟩;refine zn4 ?_;refine j7 rfl (fun c183=>?_) (fun c183=>?_)
 ·refine zn8 ?_;exact⟨⟨-1,rfl,⟨fun h=>by omega,fun h=>by rw [hs0] at h;cases h⟩⟩,hB⟩
 refine L1 (zn3 ?_);refine wl (r_rstr Tryz.underlying21 U9 rfl) (zn4 ?_);obtain⟨hE2,hE4,hEh⟩:=enc_hi hr128;refine zn3 ?_;refine wl (jV (c:=(((Utf8.encode (r:Int)).size - 1:Nat):Int)) rfl rfl om om) (M1 ?_);refine q8 [4,9,10,11,12,23,24,25,26,27,28,29,30,31,32,33,34,35,36,37,38,39,40,41,42,43,44,45,46,47,48,49,50,51,52,53,54,55,56,57,58,59,60,61,62,63,64,65,66,67,68,69,70,71,72,73,74,75,76,77,78,79,80,81,82,83,84,85,86,87,88,89,90,91,92,93,94,95,96,97,98] (fun m g w'=>m=0∧g 9= .int .i64 (((Utf8.encode (r:Int)).size - 1:Nat):Int)∧Bel w w') (0) ?_ (fun m g5 w6 hI=>?_)
 ·exact⟨rfl,rfl,hB⟩
 obtain⟨hm,h9,hB⟩:=hI;refine zJ 9 (.int .i64 (((Utf8.encode (r:Int)).size - 1:Nat):Int)) h9 nu (zn9 ?_);refine zw rfl (fun c26=>?_) (fun c26=>?_)
 ·obtain⟨ii,hii⟩:∃ x,x=(Utf8.encode (r:Int)).size - 1:=⟨_,rfl⟩
  have hi9:ii < 9:=by omega
  have hclo:=HY ii hi9;have hchi:=hEh ((Utf8.encode (r:Int)).size - 1) om;have hnone:Lib.indexByte (bl (sdr (ii + 1) CH)) (((gb (Utf8.encode (r:Int)) ((Utf8.encode (r:Int)).size - 1):Nat):Int)).toNat.toUInt8 < 0:=by
    refine ixb_none (fun hm=>?_);rw [Y3] at hm;have h1:=List.mem_of_mem_drop hm;have h2:∀ x ∈ bl CH,x.toNat < 128:=by decide
    have h3:=h2 _ h1;have h4:=kz (Utf8.encode (r:Int)) ((Utf8.encode (r:Int)).size - 1);rw [Int.toNat_natCast,show ((gb (Utf8.encode (r:Int)) ((Utf8.encode (r:Int)).size - 1))).toUInt8.toNat=gb (Utf8.encode (r:Int)) ((Utf8.encode (r:Int)).size - 1) from Nat.mod_eq_of_lt h4] at h3;omega
  rw [← hii] at hnone hchi;refine zn3 ?_;refine L1 (xX (xX ?_));refine Z7 kR kR (fun w7 hs=>?_);replace hB:=hB.tr0 hs;refine zn2 ?_;refine ws (j8 (i:=((Utf8.encode (r:Int)).size - 1)) U9 rfl rfl om) (zn2 ?_);refine ws (j8 (i:=((Utf8.encode (r:Int)).size - 1)) U9 rfl rfl om) (zn1 ?_);refine kJ (e_S ?_);refine zw rfl (fun c33=>?_) (fun c33=>?_)
  ·refine xX ?_;refine Z7 kR kR (fun w8 hs=>?_);replace hB:=hB.tr0 hs;refine zn2 ?_;refine ws (kK (c:=((ii + 1:Nat):Int)) rfl rfl (by rw [← hii];rfl) om) (ws (ZK (l:=(ii + 1)) U9 rfl rfl om) (zn2 ?_));refine ws (j8 (i:=((Utf8.encode (r:Int)).size - 1)) U9 rfl rfl om) (ws_cl fn131 (SZ (sdr (ii + 1) CH) _ _) rfl (zn1 ?_));refine kJ (zn8 ?_);refine zw rfl (fun c43=>?_) (fun c43=>?_)
   ·refine zn8 ?_;refine e_Nr (zn4 ?_);refine e_Nr (zn2 ?_);exact⟨⟨-1,rfl,⟨fun h=>by omega,fun h=>by rw [hs0] at h;cases h⟩⟩,hB⟩
   exact absurd (by rw [← hii];exact hnone) c43
  exact absurd (fun h=>by rw [← hii] at h;omega) c33
 refine jq ?_;refine e_Nr (zn2 ?_);exact⟨⟨-1,rfl,⟨fun h=>by omega,fun h=>by rw [hs0] at h;cases h⟩⟩,hB⟩
end Go.Proofs.YtdkfnakncaggoaaGreatDoor
