/- What these functions of the program compute, at every world: unicode/utf8.ValidString. What these functions of the program compute, at every world: internal/stringslite.IndexByte, strings.IndexByte, unicode/utf8.ValidRune, strings.shouldUseASCIISet, strings.IndexRune. -/
import Derived.Test.YtfkbjncidemcbaaDoorU
import Derived.Test.YtfkbjncidemcbaaDoorWRc
import Derived.Test.YtfkbjncidemcbaaDoorNTo
namespace Go.Proofs.YtfkbjncidemcbaaDoor
open Go.RowKit
theorem NX:qj Tryd.prog 105=true:=by kernel_rfl
theorem sz167:(Tryd.prog.info? 167).map (·.size)=some 2:=by kernel_rfl
theorem Xq:(Tryd.prog.info? 5).map (·.size)=some 1:=by kernel_rfl
theorem ze167:(Tryd.prog.info? 167).map (·.zero)=some (some (.agg #[.int .u8 0,.int .u8 0])):=by kernel_rfl
set_option maxRecDepth 100000 in
set_option maxHeartbeats 8000000 in
theorem Hk (s:ByteArray) (w:World) (hU:U8In w) (hsz:s.size < 9223372036854775807):Calls Tryd.prog 93 #[.string s] w fun e w'=>e= .returned (.bool (vq s 0))∧Bel w w':=by
 have hs0:sdr 0 s=s:=C9 (by rw [YY,List.drop_zero]);refine enter Tryd.func93 Tryd.ntmps93 rfl (Nat.le_of_ble_eq_true rfl) ?_;have hB:Bel w w:=Below.refl _ _;refine zz (z4 (waB rfl (zq (e_S (zz (zY ?_))))));refine x8 [0,2,3,4,5,6,7,8,9,10,11,12,13,14,15,16,17,18,19,20,21,22,23,24,25,26,27,28,29,30,31,32,33,34,35,36,37,38,39,40,41,42,43,44,45,46,47,48,49,50,51,52,53,54,55,56,57,58,59,60,61,62,63,64,65,66,67,68,69,70,71,72,73,74,75,76,77,78,79,80,81,82,83,84,85,86,87,88,89,90,91,92,93,94,95,96,97,98,99,100,101,102,103,104,105,106,107,108,109,110,111,112,113,114,115,116,117,118,119,120,121,122,123,124,125,126,127,128,129,130,131,132,133,134,135,136,137,138,139,140,141,142,143,144,145,146,147,148,149,150,151,152,153,154,155,156,157,158,159,160,161,162,163,164,165,166,167,168] (fun m g w'=>∃ p:Nat,p≤s.size∧s.size - p≤m∧g 0= .string (sdr p s)∧vq s 0=vq s p∧Bel w w') (s.size) ?_ (fun m g1 w1 hI=>?_)
 ·exact⟨0,Nat.zero_le _,Nat.le_refl _,(by rw [hs0];rfl),rfl,hB⟩
 obtain⟨p,hp,hm,h0,hv,hB⟩:=hI;obtain⟨mo,rfl⟩:∃ x,x=m:=⟨_,rfl⟩
 refine qv 0 (.string (sdr p s)) h0 nu (zz (zz (z4 (wl (qy (v:= .string _) rfl) (wl (jX U9 rfl) (wl (yX rfl rfl) (zq (e_S ?_))))))));refine qx rfl (fun c9=>?_) (fun c9=>?_)
 ·have hsp:=yJ p s;have hpl:p < s.size:=by omega
  have e0:=QZ p s 0;have e1:=QZ p s 1;have e2:=QZ p s 2;have e3:=QZ p s 3;rw [Nat.add_zero] at e0;have hb0:=uj s p;refine zK (e_S (zY (zz (z4 (wl (qy (v:= .string _) rfl) (wl (kw (i:=0) U9 rfl rfl om) (wl (oy (v:= .int .u8 ((gb s p:Nat):Int)) (by exact congrArg (fun z:Nat=>Value.int .u8 ((z:Nat):Int)) e0)) (zq (e_S (zz (zz (z4 (wmI rfl (wl (x9 rfl rfl) (zq (e_S ?_))))))))))))))));refine qx rfl (fun c13=>?_) (fun c13=>?_)
  ·have hv1:=vq_low hpl om;refine zz (z4 (wl (qy (v:= .string _) rfl) (wl (X5 (l:=1) U9 rfl rfl om) (wl (oy (v:= .string (sdr (p + 1) s)) (by exact congrArg Value.string (gw _ _ s))) (zq (e_S (zz (zz ?_))))))));have hsp1:=yJ (p + 1) s;refine z4 (wl (qy (v:= .string _) rfl) (wl (jX U9 rfl) (wl (yX rfl rfl) (wmB rfl ?_))));refine zJ 19 rfl (fun g19=>?_) (fun g19=>?_)
   ·refine zw 19 rfl rfl (wl (qy (v:= .string _) rfl) (zw 19 rfl rfl ?_));refine qJ NX (ZW (sdr (p + 1) s) _ (by rw [yJ];have:=yJ (p + 1) s;omega)) rfl (fun e' w2 hr=>?_);obtain⟨rfl,hs⟩:=hr;replace hs:=sB hs;replace hB:=hB.tr0 hs;refine⟨_,rfl,?_⟩;refine zw 19 rfl rfl (wl (J0 (b:=9259542123273814144) rfl rfl (u4 _ dE) dE) (zw 19 rfl rfl (wl (xv rfl rfl) (wl (qw (v:= .bool _) rfl rfl) (zq (e_S ?_))))));refine qx rfl (fun c24=>?_) (fun c24=>?_)
    ·have hvA:=M6 (s:=s) (p:=p + 1) (k:=8) om (asc8 (by have h:=c24;exact Int.ofNat.inj h));refine zz (z4 (wl (qy (v:= .string _) rfl) (wl (X5 (l:=8) U9 rfl rfl om) (wl (oy (v:= .string (sdr (p + 9) s)) (by exact congrArg Value.string (gw _ _ s))) (zq (e_S (zz ?_)))))));by_cases q7:16 < s.size - (p + 9)
     ·refine uq 13 [27,28,29,30,31,32,33,34,35,36,37,38,39] (fun _=>false) (fun ix v wv=>match ix with | 0=>v= .string (sdr (p + 9) s) | 1=>v= .int .i64 (((sdr (p + 9) s).size:Nat):Int) | 2=>v= .bool true | 3=>v= .bool true | 4=>v= .string (sdr (p + 9) s) | 5=>v= .int .u64 ((wo 7 (sdr (p + 9) s):Nat):Int) | 6=>v= .string (sdr (p + 9) s) | 7=>v= .string (sdr 8 (sdr (p + 9) s)) | 8=>v= .int .u64 ((wo 7 (sdr 8 (sdr (p + 9) s)):Nat):Int) | 9=>v= .int .u64 ((wo 7 (sdr (p + 9) s) ||| wo 7 (sdr 8 (sdr (p + 9) s)):Nat):Int) | 10=>v= .int .u64 (((wo 7 (sdr (p + 9) s) ||| wo 7 (sdr 8 (sdr (p + 9) s))) &&& 9259542123273814144:Nat):Int) | 11=>v= .bool (decide ((((wo 7 (sdr (p + 9) s) ||| wo 7 (sdr 8 (sdr (p + 9) s))) &&& 9259542123273814144:Nat):Int)=0)) | 12=>v= .bool (decide ((((wo 7 (sdr (p + 9) s) ||| wo 7 (sdr 8 (sdr (p + 9) s))) &&& 9259542123273814144:Nat):Int)=0)) | _=>True) kR kR ?_ ?_ ?_
      ·intro ix v wv wv2 h hs
       match ix,h with
       | 0,h=>exact h
       | 1,h=>exact h
       | 2,h=>exact h
       | 3,h=>exact h
       | 4,h=>exact h
       | 5,h=>exact h
       | 6,h=>exact h
       | 7,h=>exact h
       | 8,h=>exact h
       | 9,h=>exact h
       | 10,h=>exact h
       | 11,h=>exact h
       | 12,h=>exact h
       | _ + 13,h=>exact trivial
      ·intro ix o hix hoq gg wx hs hd hdis
       match ix,hix,hoq with
       | 0,_,hoq=>
        cases sI hoq;refine⟨fun _=>?_,fun hw=>Bool.noConfusion (show true=false from hw)⟩;exact oV (qy (v:= .string _) rfl) rfl
       | 1,_,hoq=>
        cases sI hoq;refine⟨fun _=>?_,fun hw=>Bool.noConfusion (show true=false from hw)⟩;refine zx 27 (.string (sdr (p + 9) s)) (hd 0 (zj kR)) nu ?_;exact oV (jX U9 rfl) rfl
       | 2,_,hoq=>
        cases sI hoq;refine⟨fun _=>?_,fun hw=>Bool.noConfusion (show true=false from hw)⟩;refine zx 28 (.int .i64 (((sdr (p + 9) s).size:Nat):Int)) (hd 1 (zj kR)) nu ?_;exact oV (yX rfl rfl) (congrArg Value.bool (decide_eq_true (by rw [yJ];omega)))
       | 3,_,hoq=>
        cases sI hoq;refine⟨fun _=>?_,fun hw=>Bool.noConfusion (show true=false from hw)⟩;refine zx 29 (.bool true) (hd 2 (zj kR)) nu ?_;exact oV (qy (v:= .bool _) rfl) rfl
       | 4,_,hoq=>
        cases sI hoq;have e30:gg 30= .bool true:=hd 3 (zj kR);refine zX 30 true rfl e30 (fun _=>?_) (fun h=>absurd h dE);refine zx 30 (.bool true) e30 nu ?_;exact oV (qy (v:= .string _) rfl) rfl
       | 5,_,hoq=>
        cases sI hoq;have e30:gg 30= .bool true:=hd 3 (zj kR);refine zX 30 true rfl e30 (fun _=>?_) (fun h=>absurd h dE);refine zx 30 (.bool true) e30 nu (zx 31 (.string (sdr (p + 9) s)) (hd 4 (zj kR)) nu ?_);refine xq NX (ZW (sdr (p + 9) s) wx (by rw [yJ];omega)) rfl (fun e' w2 hr=>?_);obtain⟨rfl,hs⟩:=hr;exact⟨_,rfl,sB hs,rfl,qZ⟩
       | 6,_,hoq=>
        cases sI hoq;have e30:gg 30= .bool true:=hd 3 (zj kR);refine zX 30 true rfl e30 (fun _=>?_) (fun h=>absurd h dE);refine zx 30 (.bool true) e30 nu ?_;exact oV (qy (v:= .string _) rfl) rfl
       | 7,_,hoq=>
        cases sI hoq;have e30:gg 30= .bool true:=hd 3 (zj kR);refine zX 30 true rfl e30 (fun _=>?_) (fun h=>absurd h dE);refine zx 30 (.bool true) e30 nu (zx 33 (.string (sdr (p + 9) s)) (hd 6 (zj kR)) nu ?_);exact oV (X5 (l:=8) U9 rfl rfl (by rw [yJ];omega)) rfl
       | 8,_,hoq=>
        cases sI hoq;have e30:gg 30= .bool true:=hd 3 (zj kR);refine zX 30 true rfl e30 (fun _=>?_) (fun h=>absurd h dE);refine zx 30 (.bool true) e30 nu (zx 34 (.string (sdr 8 (sdr (p + 9) s))) (hd 7 (zj kR)) nu ?_);refine xq NX (ZW (sdr 8 (sdr (p + 9) s)) wx (by rw [yJ,yJ];omega)) rfl (fun e' w2 hr=>?_);obtain⟨rfl,hs⟩:=hr;exact⟨_,rfl,sB hs,rfl,qZ⟩
       | 9,_,hoq=>
        cases sI hoq;have e30:gg 30= .bool true:=hd 3 (zj kR);refine zX 30 true rfl e30 (fun _=>?_) (fun h=>absurd h dE);refine zx 30 (.bool true) e30 nu (zx 32 (.int .u64 ((wo 7 (sdr (p + 9) s):Nat):Int)) (hd 5 (zj kR)) nu (zx 35 (.int .u64 ((wo 7 (sdr 8 (sdr (p + 9) s)):Nat):Int)) (hd 8 (zj kR)) nu ?_));exact oV (X4 rfl rfl (u4 _ dE) (u4 _ dE)) rfl
       | 10,_,hoq=>
        cases sI hoq;have e30:gg 30= .bool true:=hd 3 (zj kR);refine zX 30 true rfl e30 (fun _=>?_) (fun h=>absurd h dE);refine zx 30 (.bool true) e30 nu (zx 36 (.int .u64 ((wo 7 (sdr (p + 9) s) ||| wo 7 (sdr 8 (sdr (p + 9) s)):Nat):Int)) (hd 9 (zj kR)) nu ?_);exact oV (J0 (b:=9259542123273814144) rfl rfl (Nat.or_lt_two_pow (n:=64) (u4 _ dE) (u4 _ dE)) dE) rfl
       | 11,_,hoq=>
        cases sI hoq;have e30:gg 30= .bool true:=hd 3 (zj kR);refine zX 30 true rfl e30 (fun _=>?_) (fun h=>absurd h dE);refine zx 30 (.bool true) e30 nu (zx 37 (.int .u64 (((wo 7 (sdr (p + 9) s) ||| wo 7 (sdr 8 (sdr (p + 9) s))) &&& 9259542123273814144:Nat):Int)) (hd 10 (zj kR)) nu ?_);exact oV (xv rfl rfl) rfl
       | 12,_,hoq=>
        cases sI hoq;refine⟨fun _=>?_,fun hw=>Bool.noConfusion (show true=false from hw)⟩;refine zx 30 (.bool true) (hd 3 (zj kR)) nu (zx 38 (.bool (decide ((((wo 7 (sdr (p + 9) s) ||| wo 7 (sdr 8 (sdr (p + 9) s))) &&& 9259542123273814144:Nat):Int)=0))) (hd 11 (zj kR)) nu ?_);exact oV (qw (v:= .bool _) rfl rfl) rfl
       | _ + 13,hix,_=>exact absurd hix om
      intro gg w3 hs hR hdis;have hs0:=hs;replace hB:=hB.tr0 hs;have d12:gg 39= .bool (decide ((((wo 7 (sdr (p + 9) s) ||| wo 7 (sdr 8 (sdr (p + 9) s))) &&& 9259542123273814144:Nat):Int)=0)):=hR 12 dE;have e39:=d12;refine y5 39 (.bool (decide ((((wo 7 (sdr (p + 9) s) ||| wo 7 (sdr 8 (sdr (p + 9) s))) &&& 9259542123273814144:Nat):Int)=0))) e39 nu (zq (e_S ?_));refine kZ rfl (fun c39=>?_) (fun c39=>?_)
      ·have hvB:=M6 (s:=s) (p:=p + 9) (k:=16) om (asc16 (Int.ofNat.inj (of_decide_eq_true c39)));refine zz (z4 (wl (qy (v:= .string _) rfl) (wl (X5 (l:=16) U9 rfl rfl (by rw [yJ];omega)) (wl (oy (v:= .string (sdr (p + 25) s)) (by exact congrArg Value.string (gw _ _ s))) (zq (e_S (zY ?_)))))));refine x8 [0,42,43,44,45,46,47,48,49,50,51,52,53,54,55,56,57,58,59,60,61,62,63,64] (fun m g w'=>∃ p2:Nat,p + 25≤p2∧p2≤s.size∧m=s.size - p2∧g 0= .string (sdr p2 s)∧vq s p=vq s p2∧Bel w w') (s.size - (p + 25)) ?_ (fun m g9 w4 hI=>?_)
       ·exact⟨p + 25,Nat.le_refl _,by omega,rfl,rfl,((hv1.trans hvA).trans hvB),hB⟩
       obtain⟨p2,hp2,hp2s,hm2,h0b,hv2,hB⟩:=hI;refine qv 0 (.string (sdr p2 s)) h0b nu (zz (zz ?_));by_cases q9:32 < s.size - p2
       ·refine uq 21 [42,43,44,45,46,47,48,49,50,51,52,53,54,55,56,57,58,59,60,61,62] (fun _=>false) (fun ix v wv=>match ix with | 0=>v= .string (sdr p2 s) | 1=>v= .int .i64 (((sdr p2 s).size:Nat):Int) | 2=>v= .bool true | 3=>v= .bool true | 4=>v= .string (sdr p2 s) | 5=>v= .int .u64 ((wo 7 (sdr p2 s):Nat):Int) | 6=>v= .string (sdr p2 s) | 7=>v= .string (sdr 8 (sdr p2 s)) | 8=>v= .int .u64 ((wo 7 (sdr 8 (sdr p2 s)):Nat):Int) | 9=>v= .int .u64 ((wo 7 (sdr p2 s) ||| wo 7 (sdr 8 (sdr p2 s)):Nat):Int) | 10=>v= .string (sdr p2 s) | 11=>v= .string (sdr 16 (sdr p2 s)) | 12=>v= .int .u64 ((wo 7 (sdr 16 (sdr p2 s)):Nat):Int) | 13=>v= .string (sdr p2 s) | 14=>v= .string (sdr 24 (sdr p2 s)) | 15=>v= .int .u64 ((wo 7 (sdr 24 (sdr p2 s)):Nat):Int) | 16=>v= .int .u64 ((wo 7 (sdr 16 (sdr p2 s)) ||| wo 7 (sdr 24 (sdr p2 s)):Nat):Int) | 17=>v= .int .u64 (((wo 7 (sdr p2 s) ||| wo 7 (sdr 8 (sdr p2 s))) ||| (wo 7 (sdr 16 (sdr p2 s)) ||| wo 7 (sdr 24 (sdr p2 s))):Nat):Int) | 18=>v= .int .u64 ((((wo 7 (sdr p2 s) ||| wo 7 (sdr 8 (sdr p2 s))) ||| (wo 7 (sdr 16 (sdr p2 s)) ||| wo 7 (sdr 24 (sdr p2 s)))) &&& 9259542123273814144:Nat):Int) | 19=>v= .bool (decide (((((wo 7 (sdr p2 s) ||| wo 7 (sdr 8 (sdr p2 s))) ||| (wo 7 (sdr 16 (sdr p2 s)) ||| wo 7 (sdr 24 (sdr p2 s)))) &&& 9259542123273814144:Nat):Int)=0)) | 20=>v= .bool (decide (((((wo 7 (sdr p2 s) ||| wo 7 (sdr 8 (sdr p2 s))) ||| (wo 7 (sdr 16 (sdr p2 s)) ||| wo 7 (sdr 24 (sdr p2 s)))) &&& 9259542123273814144:Nat):Int)=0)) | _=>True) kR kR ?_ ?_ ?_
        ·intro ix v wv wv2 h hs
         match ix,h with
         | 0,h=>exact h
         | 1,h=>exact h
         | 2,h=>exact h
         | 3,h=>exact h
         | 4,h=>exact h
         | 5,h=>exact h
         | 6,h=>exact h
         | 7,h=>exact h
         | 8,h=>exact h
         | 9,h=>exact h
         | 10,h=>exact h
         | 11,h=>exact h
         | 12,h=>exact h
         | 13,h=>exact h
         | 14,h=>exact h
         | 15,h=>exact h
         | 16,h=>exact h
         | 17,h=>exact h
         | 18,h=>exact h
         | 19,h=>exact h
         | 20,h=>exact h
         | _ + 21,h=>exact trivial
        ·intro ix o hix hoq gg wx hs hd hdis
         match ix,hix,hoq with
         | 0,_,hoq=>
          cases sI hoq;refine⟨fun _=>?_,fun hw=>Bool.noConfusion (show true=false from hw)⟩;exact oV (qy (v:= .string _) rfl) rfl
         | 1,_,hoq=>
          cases sI hoq;refine⟨fun _=>?_,fun hw=>Bool.noConfusion (show true=false from hw)⟩;refine zx 42 (.string (sdr p2 s)) (hd 0 (zj kR)) nu ?_;exact oV (jX U9 rfl) rfl
         | 2,_,hoq=>
          cases sI hoq;refine⟨fun _=>?_,fun hw=>Bool.noConfusion (show true=false from hw)⟩;refine zx 43 (.int .i64 (((sdr p2 s).size:Nat):Int)) (hd 1 (zj kR)) nu ?_;exact oV (yX rfl rfl) (congrArg Value.bool (decide_eq_true (by rw [yJ];omega)))
         | 3,_,hoq=>
          cases sI hoq;refine⟨fun _=>?_,fun hw=>Bool.noConfusion (show true=false from hw)⟩;refine zx 44 (.bool true) (hd 2 (zj kR)) nu ?_;exact oV (qy (v:= .bool _) rfl) rfl
         | 4,_,hoq=>
          cases sI hoq;have e45:gg 45= .bool true:=hd 3 (zj kR);refine zX 45 true rfl e45 (fun _=>?_) (fun h=>absurd h dE);refine zx 45 (.bool true) e45 nu ?_;exact oV (qy (v:= .string _) rfl) rfl
         | 5,_,hoq=>
          cases sI hoq;have e45:gg 45= .bool true:=hd 3 (zj kR);refine zX 45 true rfl e45 (fun _=>?_) (fun h=>absurd h dE);refine zx 45 (.bool true) e45 nu (zx 46 (.string (sdr p2 s)) (hd 4 (zj kR)) nu ?_);refine xq NX (ZW (sdr p2 s) wx (by rw [yJ];omega)) rfl (fun e' w2 hr=>?_);obtain⟨rfl,hs⟩:=hr;exact⟨_,rfl,sB hs,rfl,qZ⟩
         | 6,_,hoq=>
          cases sI hoq;have e45:gg 45= .bool true:=hd 3 (zj kR);refine zX 45 true rfl e45 (fun _=>?_) (fun h=>absurd h dE);refine zx 45 (.bool true) e45 nu ?_;exact oV (qy (v:= .string _) rfl) rfl
         | 7,_,hoq=>
          cases sI hoq;have e45:gg 45= .bool true:=hd 3 (zj kR);refine zX 45 true rfl e45 (fun _=>?_) (fun h=>absurd h dE);refine zx 45 (.bool true) e45 nu (zx 48 (.string (sdr p2 s)) (hd 6 (zj kR)) nu ?_);exact oV (X5 (l:=8) U9 rfl rfl (by rw [yJ];omega)) rfl
         | 8,_,hoq=>
          cases sI hoq;have e45:gg 45= .bool true:=hd 3 (zj kR);refine zX 45 true rfl e45 (fun _=>?_) (fun h=>absurd h dE);refine zx 45 (.bool true) e45 nu (zx 49 (.string (sdr 8 (sdr p2 s))) (hd 7 (zj kR)) nu ?_);refine xq NX (ZW (sdr 8 (sdr p2 s)) wx (by rw [yJ,yJ];omega)) rfl (fun e' w2 hr=>?_);obtain⟨rfl,hs⟩:=hr;exact⟨_,rfl,sB hs,rfl,qZ⟩
         | 9,_,hoq=>
          cases sI hoq;have e45:gg 45= .bool true:=hd 3 (zj kR);refine zX 45 true rfl e45 (fun _=>?_) (fun h=>absurd h dE);refine zx 45 (.bool true) e45 nu (zx 47 (.int .u64 ((wo 7 (sdr p2 s):Nat):Int)) (hd 5 (zj kR)) nu (zx 50 (.int .u64 ((wo 7 (sdr 8 (sdr p2 s)):Nat):Int)) (hd 8 (zj kR)) nu ?_));exact oV (X4 rfl rfl (u4 _ dE) (u4 _ dE)) rfl
         | 10,_,hoq=>
          cases sI hoq;have e45:gg 45= .bool true:=hd 3 (zj kR);refine zX 45 true rfl e45 (fun _=>?_) (fun h=>absurd h dE);refine zx 45 (.bool true) e45 nu ?_;exact oV (qy (v:= .string _) rfl) rfl
         | 11,_,hoq=>
          cases sI hoq;have e45:gg 45= .bool true:=hd 3 (zj kR);refine zX 45 true rfl e45 (fun _=>?_) (fun h=>absurd h dE);refine zx 45 (.bool true) e45 nu (zx 52 (.string (sdr p2 s)) (hd 10 (zj kR)) nu ?_);exact oV (X5 (l:=16) U9 rfl rfl (by rw [yJ];omega)) rfl
         | 12,_,hoq=>
          cases sI hoq;have e45:gg 45= .bool true:=hd 3 (zj kR);refine zX 45 true rfl e45 (fun _=>?_) (fun h=>absurd h dE);refine zx 45 (.bool true) e45 nu (zx 53 (.string (sdr 16 (sdr p2 s))) (hd 11 (zj kR)) nu ?_);refine xq NX (ZW (sdr 16 (sdr p2 s)) wx (by rw [yJ,yJ];omega)) rfl (fun e' w2 hr=>?_);obtain⟨rfl,hs⟩:=hr;exact⟨_,rfl,sB hs,rfl,qZ⟩
         | 13,_,hoq=>
          cases sI hoq;have e45:gg 45= .bool true:=hd 3 (zj kR);refine zX 45 true rfl e45 (fun _=>?_) (fun h=>absurd h dE);refine zx 45 (.bool true) e45 nu ?_;exact oV (qy (v:= .string _) rfl) rfl
         | 14,_,hoq=>
          cases sI hoq;have e45:gg 45= .bool true:=hd 3 (zj kR);refine zX 45 true rfl e45 (fun _=>?_) (fun h=>absurd h dE);refine zx 45 (.bool true) e45 nu (zx 55 (.string (sdr p2 s)) (hd 13 (zj kR)) nu ?_);exact oV (X5 (l:=24) U9 rfl rfl (by rw [yJ];omega)) rfl
         | 15,_,hoq=>
          cases sI hoq;have e45:gg 45= .bool true:=hd 3 (zj kR);refine zX 45 true rfl e45 (fun _=>?_) (fun h=>absurd h dE);refine zx 45 (.bool true) e45 nu (zx 56 (.string (sdr 24 (sdr p2 s))) (hd 14 (zj kR)) nu ?_);refine xq NX (ZW (sdr 24 (sdr p2 s)) wx (by rw [yJ,yJ];omega)) rfl (fun e' w2 hr=>?_);obtain⟨rfl,hs⟩:=hr;exact⟨_,rfl,sB hs,rfl,qZ⟩
         | 16,_,hoq=>
          cases sI hoq;have e45:gg 45= .bool true:=hd 3 (zj kR);refine zX 45 true rfl e45 (fun _=>?_) (fun h=>absurd h dE);refine zx 45 (.bool true) e45 nu (zx 54 (.int .u64 ((wo 7 (sdr 16 (sdr p2 s)):Nat):Int)) (hd 12 (zj kR)) nu (zx 57 (.int .u64 ((wo 7 (sdr 24 (sdr p2 s)):Nat):Int)) (hd 15 (zj kR)) nu ?_));exact oV (X4 rfl rfl (u4 _ dE) (u4 _ dE)) rfl
         | 17,_,hoq=>
          cases sI hoq;have e45:gg 45= .bool true:=hd 3 (zj kR);refine zX 45 true rfl e45 (fun _=>?_) (fun h=>absurd h dE);refine zx 45 (.bool true) e45 nu (zx 51 (.int .u64 ((wo 7 (sdr p2 s) ||| wo 7 (sdr 8 (sdr p2 s)):Nat):Int)) (hd 9 (zj kR)) nu (zx 58 (.int .u64 ((wo 7 (sdr 16 (sdr p2 s)) ||| wo 7 (sdr 24 (sdr p2 s)):Nat):Int)) (hd 16 (zj kR)) nu ?_));exact oV (X4 rfl rfl (Nat.or_lt_two_pow (n:=64) (u4 _ dE) (u4 _ dE)) (Nat.or_lt_two_pow (n:=64) (u4 _ dE) (u4 _ dE))) rfl
         | 18,_,hoq=>
          cases sI hoq;have e45:gg 45= .bool true:=hd 3 (zj kR);refine zX 45 true rfl e45 (fun _=>?_) (fun h=>absurd h dE);refine zx 45 (.bool true) e45 nu (zx 59 (.int .u64 (((wo 7 (sdr p2 s) ||| wo 7 (sdr 8 (sdr p2 s))) ||| (wo 7 (sdr 16 (sdr p2 s)) ||| wo 7 (sdr 24 (sdr p2 s))):Nat):Int)) (hd 17 (zj kR)) nu ?_);exact oV (J0 (b:=9259542123273814144) rfl rfl (Nat.or_lt_two_pow (n:=64) (Nat.or_lt_two_pow (n:=64) (u4 _ dE) (u4 _ dE)) (Nat.or_lt_two_pow (n:=64) (u4 _ dE) (u4 _ dE))) dE) rfl
         | 19,_,hoq=>
          cases sI hoq;have e45:gg 45= .bool true:=hd 3 (zj kR);refine zX 45 true rfl e45 (fun _=>?_) (fun h=>absurd h dE);refine zx 45 (.bool true) e45 nu (zx 60 (.int .u64 ((((wo 7 (sdr p2 s) ||| wo 7 (sdr 8 (sdr p2 s))) ||| (wo 7 (sdr 16 (sdr p2 s)) ||| wo 7 (sdr 24 (sdr p2 s)))) &&& 9259542123273814144:Nat):Int)) (hd 18 (zj kR)) nu ?_);exact oV (xv rfl rfl) rfl
         | 20,_,hoq=>
          cases sI hoq;refine⟨fun _=>?_,fun hw=>Bool.noConfusion (show true=false from hw)⟩;refine zx 45 (.bool true) (hd 3 (zj kR)) nu (zx 61 (.bool (decide (((((wo 7 (sdr p2 s) ||| wo 7 (sdr 8 (sdr p2 s))) ||| (wo 7 (sdr 16 (sdr p2 s)) ||| wo 7 (sdr 24 (sdr p2 s)))) &&& 9259542123273814144:Nat):Int)=0))) (hd 19 (zj kR)) nu ?_);exact oV (qw (v:= .bool _) rfl rfl) rfl
         | _ + 21,hix,_=>exact absurd hix om
        intro gg w5 hs hR hdis;replace hB:=hB.tr0 hs;refine y5 62 (.bool (decide (((((wo 7 (sdr p2 s) ||| wo 7 (sdr 8 (sdr p2 s))) ||| (wo 7 (sdr 16 (sdr p2 s)) ||| wo 7 (sdr 24 (sdr p2 s)))) &&& 9259542123273814144:Nat):Int)=0))) (hR 20 dE) nu (zq (e_S ?_));refine kZ rfl (fun c62=>?_) (fun c62=>?_)
        ·have hvC:=M6 (s:=s) (p:=p2) (k:=32) om (asc32 (Int.ofNat.inj (of_decide_eq_true c62)));refine zK (e_S (zY (z4 (wl (qy (v:= .string _) rfl) (wl (X5 (l:=32) U9 rfl rfl (by rw [yJ];omega)) (wl (oy (v:= .string (sdr (p2 + 32) s)) (by exact congrArg Value.string (gw _ _ s))) (zq (e_B (yw (s.size - (p2 + 32)) om agA ?_)))))))));exact⟨p2 + 32,by omega,by omega,rfl,rfl,hv2.trans hvC,hB⟩
        refine xx (vx (yq (vj (e_S (xx (vx (vj (yw (mo - 1) om agA ?_))))))))
        first
          | exact⟨p + 1,by omega,by omega,rfl,hv.trans hv1,hB⟩
          | exact⟨p + 9,by omega,by omega,rfl,hv.trans (hv1.trans hvA),hB⟩
          | exact⟨p2,by omega,by omega,rfl,hv.trans hv2,hB⟩
          | exact⟨p + 2,by omega,by omega,rfl,hv.trans hvg,hB⟩
          | exact⟨p + 3,by omega,by omega,rfl,hv.trans hvg,hB⟩
          | exact⟨p + 4,by omega,by omega,rfl,hv.trans hvg,hB⟩
       refine uq 21 [42,43,44,45,46,47,48,49,50,51,52,53,54,55,56,57,58,59,60,61,62] (fun _=>false) (fun ix v wv=>match ix with | 0=>v= .string (sdr p2 s) | 1=>v= .int .i64 (((sdr p2 s).size:Nat):Int) | 2=>v= .bool false | 3=>v= .bool false | 4=>v=undef | 5=>v=undef | 6=>v=undef | 7=>v=undef | 8=>v=undef | 9=>v=undef | 10=>v=undef | 11=>v=undef | 12=>v=undef | 13=>v=undef | 14=>v=undef | 15=>v=undef | 16=>v=undef | 17=>v=undef | 18=>v=undef | 19=>v=undef | 20=>v= .bool false | _=>True) kR kR ?_ ?_ ?_
       ·intro ix v wv wv2 h hs
        match ix,h with
        | 0,h=>exact h
        | 1,h=>exact h
        | 2,h=>exact h
        | 3,h=>exact h
        | 4,h=>exact h
        | 5,h=>exact h
        | 6,h=>exact h
        | 7,h=>exact h
        | 8,h=>exact h
        | 9,h=>exact h
        | 10,h=>exact h
        | 11,h=>exact h
        | 12,h=>exact h
        | 13,h=>exact h
        | 14,h=>exact h
        | 15,h=>exact h
        | 16,h=>exact h
        | 17,h=>exact h
        | 18,h=>exact h
        | 19,h=>exact h
        | 20,h=>exact h
        | _ + 21,h=>exact trivial
       ·intro ix o hix hoq gg wx hs hd hdis
        match ix,hix,hoq with
        | 0,_,hoq=>
         cases sI hoq;refine⟨fun _=>?_,fun hw=>Bool.noConfusion (show true=false from hw)⟩;exact oV (qy (v:= .string _) rfl) rfl
        | 1,_,hoq=>
         cases sI hoq;refine⟨fun _=>?_,fun hw=>Bool.noConfusion (show true=false from hw)⟩;refine zx 42 (.string (sdr p2 s)) (hd 0 (zj kR)) nu ?_;exact oV (jX U9 rfl) rfl
        | 2,_,hoq=>
         cases sI hoq;refine⟨fun _=>?_,fun hw=>Bool.noConfusion (show true=false from hw)⟩;refine zx 43 (.int .i64 (((sdr p2 s).size:Nat):Int)) (hd 1 (zj kR)) nu ?_;exact oV (yX rfl rfl) (congrArg Value.bool (decide_eq_false (by rw [yJ];omega)))
        | 3,_,hoq=>
         cases sI hoq;refine⟨fun _=>?_,fun hw=>Bool.noConfusion (show true=false from hw)⟩;refine zx 44 (.bool false) (hd 2 (zj kR)) nu ?_;exact oV (qy (v:= .bool _) rfl) rfl
        | 4,_,hoq=>
         cases sI hoq;have e45:gg 45= .bool false:=hd 3 (zj kR);exact zX 45 false rfl e45 (fun h=>absurd h dE) (fun _=>rfl)
        | 5,_,hoq=>
         cases sI hoq;have e45:gg 45= .bool false:=hd 3 (zj kR);have e46:gg 46=undef:=hd 4 (zj kR);exact zX 45 false rfl e45 (fun h=>absurd h dE) (fun _=>rfl)
        | 6,_,hoq=>
         cases sI hoq;have e45:gg 45= .bool false:=hd 3 (zj kR);exact zX 45 false rfl e45 (fun h=>absurd h dE) (fun _=>rfl)
        | 7,_,hoq=>
         cases sI hoq;have e45:gg 45= .bool false:=hd 3 (zj kR);have e48:gg 48=undef:=hd 6 (zj kR);exact zX 45 false rfl e45 (fun h=>absurd h dE) (fun _=>rfl)
        | 8,_,hoq=>
         cases sI hoq;have e45:gg 45= .bool false:=hd 3 (zj kR);have e49:gg 49=undef:=hd 7 (zj kR);exact zX 45 false rfl e45 (fun h=>absurd h dE) (fun _=>rfl)
        | 9,_,hoq=>
         cases sI hoq;have e45:gg 45= .bool false:=hd 3 (zj kR);have e47:gg 47=undef:=hd 5 (zj kR);have e50:gg 50=undef:=hd 8 (zj kR);exact zX 45 false rfl e45 (fun h=>absurd h dE) (fun _=>rfl)
        | 10,_,hoq=>
         cases sI hoq;have e45:gg 45= .bool false:=hd 3 (zj kR);exact zX 45 false rfl e45 (fun h=>absurd h dE) (fun _=>rfl)
        | 11,_,hoq=>
         cases sI hoq;have e45:gg 45= .bool false:=hd 3 (zj kR);have e52:gg 52=undef:=hd 10 (zj kR);exact zX 45 false rfl e45 (fun h=>absurd h dE) (fun _=>rfl)
        | 12,_,hoq=>
         cases sI hoq;have e45:gg 45= .bool false:=hd 3 (zj kR);have e53:gg 53=undef:=hd 11 (zj kR);exact zX 45 false rfl e45 (fun h=>absurd h dE) (fun _=>rfl)
        | 13,_,hoq=>
         cases sI hoq;have e45:gg 45= .bool false:=hd 3 (zj kR);exact zX 45 false rfl e45 (fun h=>absurd h dE) (fun _=>rfl)
        | 14,_,hoq=>
         cases sI hoq;have e45:gg 45= .bool false:=hd 3 (zj kR);have e55:gg 55=undef:=hd 13 (zj kR);exact zX 45 false rfl e45 (fun h=>absurd h dE) (fun _=>rfl)
        | 15,_,hoq=>
         cases sI hoq;have e45:gg 45= .bool false:=hd 3 (zj kR);have e56:gg 56=undef:=hd 14 (zj kR);exact zX 45 false rfl e45 (fun h=>absurd h dE) (fun _=>rfl)
        | 16,_,hoq=>
         cases sI hoq;have e45:gg 45= .bool false:=hd 3 (zj kR);have e54:gg 54=undef:=hd 12 (zj kR);have e57:gg 57=undef:=hd 15 (zj kR);exact zX 45 false rfl e45 (fun h=>absurd h dE) (fun _=>rfl)
        | 17,_,hoq=>
         cases sI hoq;have e45:gg 45= .bool false:=hd 3 (zj kR);have e51:gg 51=undef:=hd 9 (zj kR);have e58:gg 58=undef:=hd 16 (zj kR);exact zX 45 false rfl e45 (fun h=>absurd h dE) (fun _=>rfl)
        | 18,_,hoq=>
         cases sI hoq;have e45:gg 45= .bool false:=hd 3 (zj kR);have e59:gg 59=undef:=hd 17 (zj kR);exact zX 45 false rfl e45 (fun h=>absurd h dE) (fun _=>rfl)
        | 19,_,hoq=>
         cases sI hoq;have e45:gg 45= .bool false:=hd 3 (zj kR);have e60:gg 60=undef:=hd 18 (zj kR);exact zX 45 false rfl e45 (fun h=>absurd h dE) (fun _=>rfl)
        | 20,_,hoq=>
         cases sI hoq;have e61:gg 61=undef:=hd 19 (zj kR);refine⟨fun _=>?_,fun hw=>Bool.noConfusion (show true=false from hw)⟩;refine zx 45 (.bool false) (hd 3 (zj kR)) nu ?_;exact oV (qV (v:= .bool _) rfl rfl) rfl
        | _ + 21,hix,_=>exact absurd hix om
       intro gg w6 hs hR hdis;replace hB:=hB.tr0 hs;refine y5 62 (.bool false) (hR 20 dE) nu (zq (e_S (C8 rfl (xx (vx (yq (vj (e_S (xx (vx (vj (yw (mo - 1) om agA ?_))))))))))))
       first
         | exact⟨p + 1,by omega,by omega,rfl,hv.trans hv1,hB⟩
         | exact⟨p + 9,by omega,by omega,rfl,hv.trans (hv1.trans hvA),hB⟩
         | exact⟨p2,by omega,by omega,rfl,hv.trans hv2,hB⟩
         | exact⟨p + 2,by omega,by omega,rfl,hv.trans hvg,hB⟩
         | exact⟨p + 3,by omega,by omega,rfl,hv.trans hvg,hB⟩
         | exact⟨p + 4,by omega,by omega,rfl,hv.trans hvg,hB⟩
      refine zK (e_S (xx (vx (vj (yw (mo - 1) om agA ?_)))))
      first
        | exact⟨p + 1,by omega,by omega,rfl,hv.trans hv1,hB⟩
        | exact⟨p + 9,by omega,by omega,rfl,hv.trans (hv1.trans hvA),hB⟩
        | exact⟨p2,by omega,by omega,rfl,hv.trans hv2,hB⟩
        | exact⟨p + 2,by omega,by omega,rfl,hv.trans hvg,hB⟩
        | exact⟨p + 3,by omega,by omega,rfl,hv.trans hvg,hB⟩
        | exact⟨p + 4,by omega,by omega,rfl,hv.trans hvg,hB⟩
     refine uq 13 [27,28,29,30,31,32,33,34,35,36,37,38,39] (fun _=>false) (fun ix v wv=>match ix with | 0=>v= .string (sdr (p + 9) s) | 1=>v= .int .i64 (((sdr (p + 9) s).size:Nat):Int) | 2=>v= .bool false | 3=>v= .bool false | 4=>v=undef | 5=>v=undef | 6=>v=undef | 7=>v=undef | 8=>v=undef | 9=>v=undef | 10=>v=undef | 11=>v=undef | 12=>v= .bool false | _=>True) kR kR ?_ ?_ ?_
     ·intro ix v wv wv2 h hs
      match ix,h with
      | 0,h=>exact h
      | 1,h=>exact h
      | 2,h=>exact h
      | 3,h=>exact h
      | 4,h=>exact h
      | 5,h=>exact h
      | 6,h=>exact h
      | 7,h=>exact h
      | 8,h=>exact h
      | 9,h=>exact h
      | 10,h=>exact h
      | 11,h=>exact h
      | 12,h=>exact h
      | _ + 13,h=>exact trivial
     ·intro ix o hix hoq gg wx hs hd hdis
      match ix,hix,hoq with
      | 0,_,hoq=>
       cases sI hoq;refine⟨fun _=>?_,fun hw=>Bool.noConfusion (show true=false from hw)⟩;exact oV (qy (v:= .string _) rfl) rfl
      | 1,_,hoq=>
       cases sI hoq;refine⟨fun _=>?_,fun hw=>Bool.noConfusion (show true=false from hw)⟩;refine zx 27 (.string (sdr (p + 9) s)) (hd 0 (zj kR)) nu ?_;exact oV (jX U9 rfl) rfl
      | 2,_,hoq=>
       cases sI hoq;refine⟨fun _=>?_,fun hw=>Bool.noConfusion (show true=false from hw)⟩;refine zx 28 (.int .i64 (((sdr (p + 9) s).size:Nat):Int)) (hd 1 (zj kR)) nu ?_;exact oV (yX rfl rfl) (congrArg Value.bool (decide_eq_false (by rw [yJ];omega)))
      | 3,_,hoq=>
       cases sI hoq;refine⟨fun _=>?_,fun hw=>Bool.noConfusion (show true=false from hw)⟩;refine zx 29 (.bool false) (hd 2 (zj kR)) nu ?_;exact oV (qy (v:= .bool _) rfl) rfl
      | 4,_,hoq=>
       cases sI hoq;have e30:gg 30= .bool false:=hd 3 (zj kR);exact zX 30 false rfl e30 (fun h=>absurd h dE) (fun _=>rfl)
      | 5,_,hoq=>
       cases sI hoq;have e30:gg 30= .bool false:=hd 3 (zj kR);have e31:gg 31=undef:=hd 4 (zj kR);exact zX 30 false rfl e30 (fun h=>absurd h dE) (fun _=>rfl)
      | 6,_,hoq=>
       cases sI hoq;have e30:gg 30= .bool false:=hd 3 (zj kR);exact zX 30 false rfl e30 (fun h=>absurd h dE) (fun _=>rfl)
      | 7,_,hoq=>
       cases sI hoq;have e30:gg 30= .bool false:=hd 3 (zj kR);have e33:gg 33=undef:=hd 6 (zj kR);exact zX 30 false rfl e30 (fun h=>absurd h dE) (fun _=>rfl)
      | 8,_,hoq=>
       cases sI hoq;have e30:gg 30= .bool false:=hd 3 (zj kR);have e34:gg 34=undef:=hd 7 (zj kR);exact zX 30 false rfl e30 (fun h=>absurd h dE) (fun _=>rfl)
      | 9,_,hoq=>
       cases sI hoq;have e30:gg 30= .bool false:=hd 3 (zj kR);have e32:gg 32=undef:=hd 5 (zj kR);have e35:gg 35=undef:=hd 8 (zj kR);exact zX 30 false rfl e30 (fun h=>absurd h dE) (fun _=>rfl)
      | 10,_,hoq=>
       cases sI hoq;have e30:gg 30= .bool false:=hd 3 (zj kR);have e36:gg 36=undef:=hd 9 (zj kR);exact zX 30 false rfl e30 (fun h=>absurd h dE) (fun _=>rfl)
      | 11,_,hoq=>
       cases sI hoq;have e30:gg 30= .bool false:=hd 3 (zj kR);have e37:gg 37=undef:=hd 10 (zj kR);exact zX 30 false rfl e30 (fun h=>absurd h dE) (fun _=>rfl)
      | 12,_,hoq=>
       cases sI hoq;have e38:gg 38=undef:=hd 11 (zj kR);refine⟨fun _=>?_,fun hw=>Bool.noConfusion (show true=false from hw)⟩;refine zx 30 (.bool false) (hd 3 (zj kR)) nu ?_;exact oV (qV (v:= .bool _) rfl rfl) rfl
      | _ + 13,hix,_=>exact absurd hix om
     intro gg w7 hs hR hdis;replace hB:=hB.tr0 hs;refine y5 39 (.bool false) (hR 12 dE) nu (zq (e_S (C8 rfl (zK (e_S (xx (vx (vj (yw (mo - 1) om agA ?_)))))))))
     first
       | exact⟨p + 1,by omega,by omega,rfl,hv.trans hv1,hB⟩
       | exact⟨p + 9,by omega,by omega,rfl,hv.trans (hv1.trans hvA),hB⟩
       | exact⟨p2,by omega,by omega,rfl,hv.trans hv2,hB⟩
       | exact⟨p + 2,by omega,by omega,rfl,hv.trans hvg,hB⟩
       | exact⟨p + 3,by omega,by omega,rfl,hv.trans hvg,hB⟩
       | exact⟨p + 4,by omega,by omega,rfl,hv.trans hvg,hB⟩
    refine zK (e_S (xx (vx (vj (yw (mo - 1) om agA ?_)))))
    first
      | exact⟨p + 1,by omega,by omega,rfl,hv.trans hv1,hB⟩
      | exact⟨p + 9,by omega,by omega,rfl,hv.trans (hv1.trans hvA),hB⟩
      | exact⟨p2,by omega,by omega,rfl,hv.trans hv2,hB⟩
      | exact⟨p + 2,by omega,by omega,rfl,hv.trans hvg,hB⟩
      | exact⟨p + 3,by omega,by omega,rfl,hv.trans hvg,hB⟩
      | exact⟨p + 4,by omega,by omega,rfl,hv.trans hvg,hB⟩
   refine zy 19 rfl rfl rfl (zy 19 rfl rfl rfl (zy 19 rfl rfl rfl (zy 19 rfl rfl rfl (wl (qV (v:= .bool _) rfl rfl) (zq (e_S (C8 rfl (zK (e_S (xx (vx (vj (yw (mo - 1) om agA ?_)))))))))))))
   first
     | exact⟨p + 1,by omega,by omega,rfl,hv.trans hv1,hB⟩
     | exact⟨p + 9,by omega,by omega,rfl,hv.trans (hv1.trans hvA),hB⟩
     | exact⟨p2,by omega,by omega,rfl,hv.trans hv2,hB⟩
     | exact⟨p + 2,by omega,by omega,rfl,hv.trans hvg,hB⟩
     | exact⟨p + 3,by omega,by omega,rfl,hv.trans hvg,hB⟩
     | exact⟨p + 4,by omega,by omega,rfl,hv.trans hvg,hB⟩
  have hb128:128≤gb s p:=by omega
  refine zK (e_S (zz ?_));have hU2:=hU.mono hB;have hft:=first_256 (gb s p);refine z4 (wmI rfl (wl (BX (i:=(gb s p)) Tryd.underlying165 Xq rfl rfl hb0 rfl) (wl (zQ (v:= .int _ _) U5 rfl rfl (hU2.1.2 _ hb0)) (waI rfl (zq (e_S (zz (z4 (wmI rfl (wl (r_and7 rfl rfl hft) (wl (Nz U5 U3 rfl om) (waI rfl (zq (e_S (zz (z4 (wmI rfl (wl (r_shr8 (b:=4) (c:=(Lib.firstT (gb s p)) / 16) rfl rfl dE rfl) (wl (BX (i:=((Lib.firstT (gb s p)) / 16)) Tryd.underlying168 sz167 rfl rfl om rfl) (wl (zW T5 rfl rfl (hU2.2.2 _ om) sz167) ?_))))))))))))))))))));refine yW (cs:=#[.int .u8 0,.int .u8 0]) ze167 rfl (fun _=>rfl) (fun _=>rfl) sz167 rfl qX (fun b6 w9 hb6 hs hr=>?_);replace hB:=hB.tr0 hs;refine zq (e_S (zz (z4 (wmI rfl (zq (e_S (zY (zz (z4 (wl (xv rfl rfl) (waB rfl (zq (e_S ?_)))))))))))));refine qx rfl (fun c76=>?_) (fun c76=>?_)
  ·obtain⟨hbad,hgood⟩:=ok_n (n:=2) hpl (.inl rfl) om;refine zz (zz ?_);refine yV [78,79,80,81,82,83,84,85,86,87,88,89,90,91,92,93,94] (fun g w'=>(g 94= .bool (decide (j5 s p 2)))∧Same [] w9 w') ?_ (fun g17 w10 hI=>?_)
   ·have hZ:SameQ [] w9 w9:=Same.refl _ _;refine Qj kR kR (fun w11 hs=>?_);replace hb6:=hb6.tr0 hs;replace hZ:=SameQ.trans hZ hs (by simp);refine ws (qy (v:= .string _) rfl) (ws (jX U9 rfl) (ws (x9 rfl rfl) (ws (qy (v:= .bool _) rfl) ?_)));refine kK 81 rfl (fun g81=>?_) (fun g81=>?_)
    ·refine xW 81 rfl rfl rfl (xW 81 rfl rfl rfl (xW 81 rfl rfl rfl (xW 81 rfl rfl rfl (xW 81 rfl rfl rfl (ws (qw (v:= .bool _) rfl rfl) (ws (qy (v:= .bool _) rfl) (xW 88 rfl rfl rfl (xW 88 rfl rfl rfl (xW 88 rfl rfl rfl (xW 88 rfl rfl rfl (xW 88 rfl rfl rfl (ws (qw (v:= .bool _) rfl rfl) (o6 ?_)))))))))))));refine e_R ⟨agA,?_⟩;refine⟨?_,hZ⟩
     first | exact congrArg Value.bool (decide_eq_true (by unfold j5;omega)).symm | exact congrArg Value.bool (decide_eq_false (by unfold j5;omega)).symm | exact congrArg Value.bool (decide_eq_decide.2 (by unfold j5;omega))
    refine jk 81 rfl rfl (qy (v:= .string _) rfl) (jk 81 rfl rfl (kw (i:=1) U9 rfl rfl om) (jk 81 rfl rfl (zV T5 Xq dE rfl rfl rfl) (jk 81 rfl rfl (zQ (v:= .int _ _) U5 rfl rfl (hb6.cell rfl)) (jk 81 rfl rfl (x9 rfl rfl) (ws (qV (v:= .bool _) rfl rfl) (ws (qy (v:= .bool _) rfl) ?_))))));refine kK 88 rfl (fun g88=>?_) (fun g88=>?_)
    ·refine xW 88 rfl rfl rfl (xW 88 rfl rfl rfl (xW 88 rfl rfl rfl (xW 88 rfl rfl rfl (xW 88 rfl rfl rfl (ws (qw (v:= .bool _) rfl rfl) (o6 ?_))))));refine e_R ⟨agA,?_⟩;refine⟨?_,hZ⟩
     first | exact congrArg Value.bool (decide_eq_true (by unfold j5;omega)).symm | exact congrArg Value.bool (decide_eq_false (by unfold j5;omega)).symm | exact congrArg Value.bool (decide_eq_decide.2 (by unfold j5;omega))
    refine jk 88 rfl rfl (zV T5 Xq dE rfl rfl rfl) (jk 88 rfl rfl (zQ (v:= .int _ _) U5 rfl rfl (hb6.cell rfl)) (jk 88 rfl rfl (qy (v:= .string _) rfl) (jk 88 rfl rfl (kw (i:=1) U9 rfl rfl om) (jk 88 rfl rfl (x9 rfl rfl) (ws (qV (v:= .bool _) rfl rfl) (o6 ?_))))));refine e_R ⟨agA,?_⟩;refine⟨?_,hZ⟩
    first | exact congrArg Value.bool (decide_eq_true (by unfold j5;omega)).symm | exact congrArg Value.bool (decide_eq_false (by unfold j5;omega)).symm | exact congrArg Value.bool (decide_eq_decide.2 (by unfold j5;omega))
   obtain⟨h94,hs⟩:=hI;replace hB:=hB.tr0 hs;refine u5 94 (.bool (decide (j5 s p 2))) h94 nu (e_S ?_);refine qx rfl (fun c94=>?_) (fun c94=>?_)
   ·have hvn:=Cy hpl (hbad c94);refine zz (z4 (waB rfl (zq (e_S (q8 (qQ (qW (qW (y8 (qW (qQ (qK (.inl rfl) rfl rfl ?_))))))))))));exact⟨by rw [hv,hvn];rfl,hB⟩
   have hnb:2≤s.size - p:=by unfold j5 at c94;omega
   obtain⟨hok,hwd⟩:=hgood c94;have hvg:=CZ hpl hok;rw [hwd] at hvg;refine zK (e_S (z4 (wl (qy (v:= .string _) rfl) (wl (X5 (l:=2) U9 rfl rfl (by unfold j5 at c94;omega)) (wl (oy (v:= .string (sdr (p + 2) s)) (by exact congrArg Value.string (gw _ _ s))) (zq (e_B (e_B (yw (mo - 1) om agA ?_)))))))))
   first
     | exact⟨p + 1,by omega,by omega,rfl,hv.trans hv1,hB⟩
     | exact⟨p + 9,by omega,by omega,rfl,hv.trans (hv1.trans hvA),hB⟩
     | exact⟨p2,by omega,by omega,rfl,hv.trans hv2,hB⟩
     | exact⟨p + 2,by omega,by omega,rfl,hv.trans hvg,hB⟩
     | exact⟨p + 3,by omega,by omega,rfl,hv.trans hvg,hB⟩
     | exact⟨p + 4,by omega,by omega,rfl,hv.trans hvg,hB⟩
  refine zz (z4 (wl (xv rfl rfl) (waB rfl (zq (e_S ?_)))));refine qx rfl (fun c97=>?_) (fun c97=>?_)
  ·obtain⟨hbad,hgood⟩:=ok_n (n:=3) hpl (.inr (.inl rfl)) om;refine zz (zz ?_);refine yV [99,100,101,102,103,104,105,106,107,108,109,110,111,112,113,114,115,116,117,118,119,120,121,122,123,124,125] (fun g w'=>(g 125= .bool (decide (j5 s p 3)))∧Same [] w9 w') ?_ (fun g21 w12 hI=>?_)
   ·have hZ:SameQ [] w9 w9:=Same.refl _ _;refine Qj kR kR (fun w13 hs=>?_);replace hb6:=hb6.tr0 hs;replace hZ:=SameQ.trans hZ hs (by simp);refine ws (qy (v:= .string _) rfl) (ws (jX U9 rfl) (ws (x9 rfl rfl) (ws (qy (v:= .bool _) rfl) ?_)));refine kK 102 rfl (fun g102=>?_) (fun g102=>?_)
    ·refine xW 102 rfl rfl rfl (xW 102 rfl rfl rfl (xW 102 rfl rfl rfl (xW 102 rfl rfl rfl (xW 102 rfl rfl rfl (ws (qw (v:= .bool _) rfl rfl) (ws (qy (v:= .bool _) rfl) (xW 109 rfl rfl rfl (xW 109 rfl rfl rfl (xW 109 rfl rfl rfl (xW 109 rfl rfl rfl (xW 109 rfl rfl rfl (ws (qw (v:= .bool _) rfl rfl) (ws (qy (v:= .bool _) rfl) (xW 116 rfl rfl rfl (xW 116 rfl rfl rfl (xW 116 rfl rfl rfl (ws (qw (v:= .bool _) rfl rfl) (ws (qy (v:= .bool _) rfl) (xW 121 rfl rfl rfl (xW 121 rfl rfl rfl (xW 121 rfl rfl rfl (ws (qw (v:= .bool _) rfl rfl) (o6 ?_)))))))))))))))))))))));refine e_R ⟨agA,?_⟩;refine⟨?_,hZ⟩
     first | exact congrArg Value.bool (decide_eq_true (by unfold j5;omega)).symm | exact congrArg Value.bool (decide_eq_false (by unfold j5;omega)).symm | exact congrArg Value.bool (decide_eq_decide.2 (by unfold j5;omega))
    refine jk 102 rfl rfl (qy (v:= .string _) rfl) (jk 102 rfl rfl (kw (i:=1) U9 rfl rfl om) (jk 102 rfl rfl (zV T5 Xq dE rfl rfl rfl) (jk 102 rfl rfl (zQ (v:= .int _ _) U5 rfl rfl (hb6.cell rfl)) (jk 102 rfl rfl (x9 rfl rfl) (ws (qV (v:= .bool _) rfl rfl) (ws (qy (v:= .bool _) rfl) ?_))))));refine kK 109 rfl (fun g109=>?_) (fun g109=>?_)
    ·refine xW 109 rfl rfl rfl (xW 109 rfl rfl rfl (xW 109 rfl rfl rfl (xW 109 rfl rfl rfl (xW 109 rfl rfl rfl (ws (qw (v:= .bool _) rfl rfl) (ws (qy (v:= .bool _) rfl) (xW 116 rfl rfl rfl (xW 116 rfl rfl rfl (xW 116 rfl rfl rfl (ws (qw (v:= .bool _) rfl rfl) (ws (qy (v:= .bool _) rfl) (xW 121 rfl rfl rfl (xW 121 rfl rfl rfl (xW 121 rfl rfl rfl (ws (qw (v:= .bool _) rfl rfl) (o6 ?_))))))))))))))));refine e_R ⟨agA,?_⟩;refine⟨?_,hZ⟩
     first | exact congrArg Value.bool (decide_eq_true (by unfold j5;omega)).symm | exact congrArg Value.bool (decide_eq_false (by unfold j5;omega)).symm | exact congrArg Value.bool (decide_eq_decide.2 (by unfold j5;omega))
    refine jk 109 rfl rfl (zV T5 Xq dE rfl rfl rfl) (jk 109 rfl rfl (zQ (v:= .int _ _) U5 rfl rfl (hb6.cell rfl)) (jk 109 rfl rfl (qy (v:= .string _) rfl) (jk 109 rfl rfl (kw (i:=1) U9 rfl rfl om) (jk 109 rfl rfl (x9 rfl rfl) (ws (qV (v:= .bool _) rfl rfl) (ws (qy (v:= .bool _) rfl) ?_))))));refine kK 116 rfl (fun g116=>?_) (fun g116=>?_)
    ·refine xW 116 rfl rfl rfl (xW 116 rfl rfl rfl (xW 116 rfl rfl rfl (ws (qw (v:= .bool _) rfl rfl) (ws (qy (v:= .bool _) rfl) (xW 121 rfl rfl rfl (xW 121 rfl rfl rfl (xW 121 rfl rfl rfl (ws (qw (v:= .bool _) rfl rfl) (o6 ?_)))))))));refine e_R ⟨agA,?_⟩;refine⟨?_,hZ⟩
     first | exact congrArg Value.bool (decide_eq_true (by unfold j5;omega)).symm | exact congrArg Value.bool (decide_eq_false (by unfold j5;omega)).symm | exact congrArg Value.bool (decide_eq_decide.2 (by unfold j5;omega))
    refine jk 116 rfl rfl (qy (v:= .string _) rfl) (jk 116 rfl rfl (kw (i:=2) U9 rfl rfl om) (jk 116 rfl rfl (x9 rfl rfl) (ws (qV (v:= .bool _) rfl rfl) (ws (qy (v:= .bool _) rfl) ?_))));refine kK 121 rfl (fun g121=>?_) (fun g121=>?_)
    ·refine xW 121 rfl rfl rfl (xW 121 rfl rfl rfl (xW 121 rfl rfl rfl (ws (qw (v:= .bool _) rfl rfl) (o6 ?_))));refine e_R ⟨agA,?_⟩;refine⟨?_,hZ⟩
     first | exact congrArg Value.bool (decide_eq_true (by unfold j5;omega)).symm | exact congrArg Value.bool (decide_eq_false (by unfold j5;omega)).symm | exact congrArg Value.bool (decide_eq_decide.2 (by unfold j5;omega))
    refine jk 121 rfl rfl (qy (v:= .string _) rfl) (jk 121 rfl rfl (kw (i:=2) U9 rfl rfl om) (jk 121 rfl rfl (x9 rfl rfl) (ws (qV (v:= .bool _) rfl rfl) (o6 ?_))));refine e_R ⟨agA,?_⟩;refine⟨?_,hZ⟩
    first | exact congrArg Value.bool (decide_eq_true (by unfold j5;omega)).symm | exact congrArg Value.bool (decide_eq_false (by unfold j5;omega)).symm | exact congrArg Value.bool (decide_eq_decide.2 (by unfold j5;omega))
   obtain⟨h125,hs⟩:=hI;replace hB:=hB.tr0 hs;refine u5 125 (.bool (decide (j5 s p 3))) h125 nu (e_S ?_);refine qx rfl (fun c125=>?_) (fun c125=>?_)
   ·have hvn:=Cy hpl (hbad c125);refine zz (z4 (waB rfl (zq (e_S (q8 (qQ (qW (qW (y8 (qW (qQ (qK (.inl rfl) rfl rfl ?_))))))))))));exact⟨by rw [hv,hvn];rfl,hB⟩
   have hnb:3≤s.size - p:=by unfold j5 at c125;omega
   obtain⟨hok,hwd⟩:=hgood c125;have hvg:=CZ hpl hok;rw [hwd] at hvg;refine zK (e_S (z4 (wl (qy (v:= .string _) rfl) (wl (X5 (l:=3) U9 rfl rfl (by unfold j5 at c125;omega)) (wl (oy (v:= .string (sdr (p + 3) s)) (by exact congrArg Value.string (gw _ _ s))) (zq (e_B (e_B (yw (mo - 1) om agA ?_)))))))))
   first
     | exact⟨p + 1,by omega,by omega,rfl,hv.trans hv1,hB⟩
     | exact⟨p + 9,by omega,by omega,rfl,hv.trans (hv1.trans hvA),hB⟩
     | exact⟨p2,by omega,by omega,rfl,hv.trans hv2,hB⟩
     | exact⟨p + 2,by omega,by omega,rfl,hv.trans hvg,hB⟩
     | exact⟨p + 3,by omega,by omega,rfl,hv.trans hvg,hB⟩
     | exact⟨p + 4,by omega,by omega,rfl,hv.trans hvg,hB⟩
  refine zz (z4 (wl (xv rfl rfl) (waB rfl (zq (e_S ?_)))));refine qx rfl (fun c128=>?_) (fun c128=>?_)
  ·obtain⟨hbad,hgood⟩:=ok_n (n:=4) hpl (.inr (.inr rfl)) om;refine zz (zz ?_);refine yV [130,131,132,133,134,135,136,137,138,139,140,141,142,143,144,145,146,147,148,149,150,151,152,153,154,155,156,157,158,159,160,161,162,163,164,165,166] (fun g w'=>(g 166= .bool (decide (j5 s p 4)))∧Same [] w9 w') ?_ (fun g25 w14 hI=>?_)
   ·have hZ:SameQ [] w9 w9:=Same.refl _ _;refine Qj kR kR (fun w15 hs=>?_);replace hb6:=hb6.tr0 hs;replace hZ:=SameQ.trans hZ hs (by simp);refine ws (qy (v:= .string _) rfl) (ws (jX U9 rfl) (ws (x9 rfl rfl) (ws (qy (v:= .bool _) rfl) ?_)));refine kK 133 rfl (fun g133=>?_) (fun g133=>?_)
    ·refine xW 133 rfl rfl rfl (xW 133 rfl rfl rfl (xW 133 rfl rfl rfl (xW 133 rfl rfl rfl (xW 133 rfl rfl rfl (ws (qw (v:= .bool _) rfl rfl) (ws (qy (v:= .bool _) rfl) (xW 140 rfl rfl rfl (xW 140 rfl rfl rfl (xW 140 rfl rfl rfl (xW 140 rfl rfl rfl (xW 140 rfl rfl rfl (ws (qw (v:= .bool _) rfl rfl) (ws (qy (v:= .bool _) rfl) (xW 147 rfl rfl rfl (xW 147 rfl rfl rfl (xW 147 rfl rfl rfl (ws (qw (v:= .bool _) rfl rfl) (ws (qy (v:= .bool _) rfl) (xW 152 rfl rfl rfl (xW 152 rfl rfl rfl (xW 152 rfl rfl rfl (ws (qw (v:= .bool _) rfl rfl) (ws (qy (v:= .bool _) rfl) (xW 157 rfl rfl rfl (xW 157 rfl rfl rfl (xW 157 rfl rfl rfl (ws (qw (v:= .bool _) rfl rfl) (ws (qy (v:= .bool _) rfl) (xW 162 rfl rfl rfl ?_)))))))))))))))))))))))))))));refine xW 162 rfl rfl rfl (xW 162 rfl rfl rfl (ws (qw (v:= .bool _) rfl rfl) (o6 ?_)));refine e_R ⟨agA,?_⟩;refine⟨?_,hZ⟩
     first | exact congrArg Value.bool (decide_eq_true (by unfold j5;omega)).symm | exact congrArg Value.bool (decide_eq_false (by unfold j5;omega)).symm | exact congrArg Value.bool (decide_eq_decide.2 (by unfold j5;omega))
    refine jk 133 rfl rfl (qy (v:= .string _) rfl) (jk 133 rfl rfl (kw (i:=1) U9 rfl rfl om) (jk 133 rfl rfl (zV T5 Xq dE rfl rfl rfl) (jk 133 rfl rfl (zQ (v:= .int _ _) U5 rfl rfl (hb6.cell rfl)) (jk 133 rfl rfl (x9 rfl rfl) (ws (qV (v:= .bool _) rfl rfl) (ws (qy (v:= .bool _) rfl) ?_))))));refine kK 140 rfl (fun g140=>?_) (fun g140=>?_)
    ·refine xW 140 rfl rfl rfl (xW 140 rfl rfl rfl (xW 140 rfl rfl rfl (xW 140 rfl rfl rfl (xW 140 rfl rfl rfl (ws (qw (v:= .bool _) rfl rfl) (ws (qy (v:= .bool _) rfl) (xW 147 rfl rfl rfl (xW 147 rfl rfl rfl (xW 147 rfl rfl rfl (ws (qw (v:= .bool _) rfl rfl) (ws (qy (v:= .bool _) rfl) (xW 152 rfl rfl rfl (xW 152 rfl rfl rfl (xW 152 rfl rfl rfl (ws (qw (v:= .bool _) rfl rfl) (ws (qy (v:= .bool _) rfl) (xW 157 rfl rfl rfl (xW 157 rfl rfl rfl (xW 157 rfl rfl rfl (ws (qw (v:= .bool _) rfl rfl) (ws (qy (v:= .bool _) rfl) (xW 162 rfl rfl rfl (xW 162 rfl rfl rfl (xW 162 rfl rfl rfl (ws (qw (v:= .bool _) rfl rfl) (o6 ?_))))))))))))))))))))))))));refine e_R ⟨agA,?_⟩;refine⟨?_,hZ⟩
     first | exact congrArg Value.bool (decide_eq_true (by unfold j5;omega)).symm | exact congrArg Value.bool (decide_eq_false (by unfold j5;omega)).symm | exact congrArg Value.bool (decide_eq_decide.2 (by unfold j5;omega))
    refine jk 140 rfl rfl (zV T5 Xq dE rfl rfl rfl) (jk 140 rfl rfl (zQ (v:= .int _ _) U5 rfl rfl (hb6.cell rfl)) (jk 140 rfl rfl (qy (v:= .string _) rfl) (jk 140 rfl rfl (kw (i:=1) U9 rfl rfl om) (jk 140 rfl rfl (x9 rfl rfl) (ws (qV (v:= .bool _) rfl rfl) (ws (qy (v:= .bool _) rfl) ?_))))));refine kK 147 rfl (fun g147=>?_) (fun g147=>?_)
    ·refine xW 147 rfl rfl rfl (xW 147 rfl rfl rfl (xW 147 rfl rfl rfl (ws (qw (v:= .bool _) rfl rfl) (ws (qy (v:= .bool _) rfl) (xW 152 rfl rfl rfl (xW 152 rfl rfl rfl (xW 152 rfl rfl rfl (ws (qw (v:= .bool _) rfl rfl) (ws (qy (v:= .bool _) rfl) (xW 157 rfl rfl rfl (xW 157 rfl rfl rfl (xW 157 rfl rfl rfl (ws (qw (v:= .bool _) rfl rfl) (ws (qy (v:= .bool _) rfl) (xW 162 rfl rfl rfl (xW 162 rfl rfl rfl (xW 162 rfl rfl rfl (ws (qw (v:= .bool _) rfl rfl) (o6 ?_)))))))))))))))))));refine e_R ⟨agA,?_⟩;refine⟨?_,hZ⟩
     first | exact congrArg Value.bool (decide_eq_true (by unfold j5;omega)).symm | exact congrArg Value.bool (decide_eq_false (by unfold j5;omega)).symm | exact congrArg Value.bool (decide_eq_decide.2 (by unfold j5;omega))
    refine jk 147 rfl rfl (qy (v:= .string _) rfl) (jk 147 rfl rfl (kw (i:=2) U9 rfl rfl om) (jk 147 rfl rfl (x9 rfl rfl) (ws (qV (v:= .bool _) rfl rfl) (ws (qy (v:= .bool _) rfl) ?_))));refine kK 152 rfl (fun g152=>?_) (fun g152=>?_)
    ·refine xW 152 rfl rfl rfl (xW 152 rfl rfl rfl (xW 152 rfl rfl rfl (ws (qw (v:= .bool _) rfl rfl) (ws (qy (v:= .bool _) rfl) (xW 157 rfl rfl rfl (xW 157 rfl rfl rfl (xW 157 rfl rfl rfl (ws (qw (v:= .bool _) rfl rfl) (ws (qy (v:= .bool _) rfl) (xW 162 rfl rfl rfl (xW 162 rfl rfl rfl (xW 162 rfl rfl rfl (ws (qw (v:= .bool _) rfl rfl) (o6 ?_))))))))))))));refine e_R ⟨agA,?_⟩;refine⟨?_,hZ⟩
     first | exact congrArg Value.bool (decide_eq_true (by unfold j5;omega)).symm | exact congrArg Value.bool (decide_eq_false (by unfold j5;omega)).symm | exact congrArg Value.bool (decide_eq_decide.2 (by unfold j5;omega))
    refine jk 152 rfl rfl (qy (v:= .string _) rfl) (jk 152 rfl rfl (kw (i:=2) U9 rfl rfl om) (jk 152 rfl rfl (x9 rfl rfl) (ws (qV (v:= .bool _) rfl rfl) (ws (qy (v:= .bool _) rfl) ?_))));refine kK 157 rfl (fun g157=>?_) (fun g157=>?_)
    ·refine xW 157 rfl rfl rfl (xW 157 rfl rfl rfl (xW 157 rfl rfl rfl (ws (qw (v:= .bool _) rfl rfl) (ws (qy (v:= .bool _) rfl) (xW 162 rfl rfl rfl (xW 162 rfl rfl rfl (xW 162 rfl rfl rfl (ws (qw (v:= .bool _) rfl rfl) (o6 ?_)))))))));refine e_R ⟨agA,?_⟩;refine⟨?_,hZ⟩
     first | exact congrArg Value.bool (decide_eq_true (by unfold j5;omega)).symm | exact congrArg Value.bool (decide_eq_false (by unfold j5;omega)).symm | exact congrArg Value.bool (decide_eq_decide.2 (by unfold j5;omega))
    refine jk 157 rfl rfl (qy (v:= .string _) rfl) (jk 157 rfl rfl (kw (i:=3) U9 rfl rfl om) (jk 157 rfl rfl (x9 rfl rfl) (ws (qV (v:= .bool _) rfl rfl) (ws (qy (v:= .bool _) rfl) ?_))));refine kK 162 rfl (fun g162=>?_) (fun g162=>?_)
    ·refine xW 162 rfl rfl rfl (xW 162 rfl rfl rfl (xW 162 rfl rfl rfl (ws (qw (v:= .bool _) rfl rfl) (o6 ?_))));refine e_R ⟨agA,?_⟩;refine⟨?_,hZ⟩
     first | exact congrArg Value.bool (decide_eq_true (by unfold j5;omega)).symm | exact congrArg Value.bool (decide_eq_false (by unfold j5;omega)).symm | exact congrArg Value.bool (decide_eq_decide.2 (by unfold j5;omega))
    refine jk 162 rfl rfl (qy (v:= .string _) rfl) (jk 162 rfl rfl (kw (i:=3) U9 rfl rfl om) (jk 162 rfl rfl (x9 rfl rfl) (ws (qV (v:= .bool _) rfl rfl) (o6 ?_))));refine e_R ⟨agA,?_⟩;refine⟨?_,hZ⟩
    first | exact congrArg Value.bool (decide_eq_true (by unfold j5;omega)).symm | exact congrArg Value.bool (decide_eq_false (by unfold j5;omega)).symm | exact congrArg Value.bool (decide_eq_decide.2 (by unfold j5;omega))
   obtain⟨h166,hs⟩:=hI;replace hB:=hB.tr0 hs;refine u5 166 (.bool (decide (j5 s p 4))) h166 nu (e_S ?_);refine qx rfl (fun c166=>?_) (fun c166=>?_)
   ·have hvn:=Cy hpl (hbad c166);refine zz (z4 (waB rfl (zq (e_S (q8 (qQ (qW (qW (y8 (qW (qQ (qK (.inl rfl) rfl rfl ?_))))))))))));exact⟨by rw [hv,hvn];rfl,hB⟩
   have hnb:4≤s.size - p:=by unfold j5 at c166;omega
   obtain⟨hok,hwd⟩:=hgood c166;have hvg:=CZ hpl hok;rw [hwd] at hvg;refine zK (e_S (z4 (wl (qy (v:= .string _) rfl) (wl (X5 (l:=4) U9 rfl rfl (by unfold j5 at c166;omega)) (wl (oy (v:= .string (sdr (p + 4) s)) (by exact congrArg Value.string (gw _ _ s))) (zq (e_B (e_B (yw (mo - 1) om agA ?_)))))))))
   first
     | exact⟨p + 1,by omega,by omega,rfl,hv.trans hv1,hB⟩
     | exact⟨p + 9,by omega,by omega,rfl,hv.trans (hv1.trans hvA),hB⟩
     | exact⟨p2,by omega,by omega,rfl,hv.trans hv2,hB⟩
     | exact⟨p + 2,by omega,by omega,rfl,hv.trans hvg,hB⟩
     | exact⟨p + 3,by omega,by omega,rfl,hv.trans hvg,hB⟩
     | exact⟨p + 4,by omega,by omega,rfl,hv.trans hvg,hB⟩
  have hvn:=Cy hpl (ok_bad hb128 om om om);refine zz (z4 (waB rfl (zq (e_S (q8 (qW (qW (y8 (qW (qQ (qK (.inl rfl) rfl rfl ?_)))))))))));exact⟨by rw [hv,hvn];rfl,hB⟩
 have hsp:=yJ p s;refine xx (vx (yq (vj (e_S (zz (z4 (waB rfl (zq (e_S (q8 (qK (.inl rfl) rfl rfl ?_)))))))))));exact⟨by rw [hv,vq_end om];rfl,hB⟩
end Go.Proofs.YtfkbjncidemcbaaDoor
namespace Go.Proofs.YtfkbjncidemcbaaDoor
open Go.RowKit
theorem wrap8 {a:Nat} (h:a < 256):IntKind.u8.wrap (a:Int)=a:=by
  have:∀ a:Nat,a < 256→IntKind.u8.wrap (a:Int)=a:=by decide +kernel
  exact this a h
theorem fn121:qj Tryd.prog 121=true:=by kernel_rfl
theorem fn122:qj Tryd.prog 122=true:=by kernel_rfl
theorem fn126:qj Tryd.prog 126=true:=by kernel_rfl
theorem ixl_any (s:ByteArray) (c:Int) (w:World):Calls Tryd.prog 126 #[.string s,.int .u8 c] w fun e w'=>e= .returned (.int .i64 (Lib.indexByte (bl s) c.toNat.toUInt8))∧w=w':=by
 refine enter Tryd.func126 Tryd.ntmps126 rfl (Nat.le_of_ble_eq_true rfl) (zz (z4 (waI rfl (zq (e_S (zz (z4 (wl (qy (v:= .string _) rfl) (wmI rfl (wl (r_ext (args:=[.string s,.int .u8 c]) (run_ixb (P:=Tryd.prog) Tryd.func127 kR kR kR kR) rfl) (waI rfl (zq (e_S (q8 (qK (.inl rfl) rfl rfl ?_)))))))))))))));exact⟨rfl,rfl⟩
theorem S9 (s:ByteArray) (c:Int) (w:World):Calls Tryd.prog 121 #[.string s,.int .u8 c] w fun e w'=>e= .returned (.int .i64 (Lib.indexByte (bl s) c.toNat.toUInt8))∧w=w':=by
 refine enter Tryd.func121 Tryd.ntmps121 rfl (Nat.le_of_ble_eq_true rfl) (zz (z4 (waI rfl (zq (e_S (zz (z4 (wl (qy (v:= .string _) rfl) (wmI rfl ?_)))))))));refine qJ fn126 (ixl_any s c _) rfl (fun e' w1 hr=>?_);obtain⟨rfl,rfl⟩:=hr;refine⟨_,rfl,?_⟩;refine waI rfl (zq (e_S (q8 (qK (.inl rfl) rfl rfl ?_))));exact⟨rfl,rfl⟩
theorem Hj (r:Int) (w:World):Calls Tryd.prog 122 #[.int .i32 r] w fun e w'=>(∃ b,e= .returned (.bool b))∧w=w':=by
 refine enter Tryd.func122 Tryd.ntmps122 rfl (Nat.le_of_ble_eq_true rfl) (zz (z4 (waB rfl (zq (e_S (zz (zY (zz ?_))))))));refine y7 [3,4,5,6,7,8,9] 3 (.bool (decide (0≤r∧r < 55296))) nu ?_ (fun gq=>?_)
 ·refine z4 (wmI rfl (wl (uz rfl rfl) (wmB rfl ?_)));refine zJ 6 rfl (fun g6=>?_) (fun g6=>?_)
  ·refine zw 6 rfl rfl (wmI rfl (zw 6 rfl rfl (wl (x9 rfl rfl) (wl (qw (v:= .bool _) rfl rfl) (waB rfl ?_)))));refine zq (e_R ⟨rfl,agA,?_⟩);exact clA
  refine zy 6 rfl rfl rfl (zy 6 rfl rfl rfl (wl (qV (v:= .bool _) rfl rfl) (waB rfl ?_)));refine zq (e_R ⟨rfl,agA,?_⟩);exact clA
 refine e_S ?_;refine qx rfl (fun c3=>?_) (fun c3=>?_)
 ·refine zz (z4 (waB rfl (zq (e_S (q8 (qW (qQ (qK (.inl rfl) rfl rfl ?_))))))));exact⟨⟨true,rfl⟩,rfl⟩
 refine zz ?_;refine y7 [10,11,12,13,14,15,16] 10 (.bool (decide (57343 < r∧r≤1114111))) nu ?_ (fun gq=>?_)
 ·refine z4 (wmI rfl (wl (x9 rfl rfl) (wmB rfl ?_)));refine zJ 13 rfl (fun g13=>?_) (fun g13=>?_)
  ·refine zw 13 rfl rfl (wmI rfl (zw 13 rfl rfl (wl (uz rfl rfl) (wl (qw (v:= .bool _) rfl rfl) (waB rfl ?_)))));refine zq (e_R ⟨rfl,agA,?_⟩);exact clA
  refine zy 13 rfl rfl rfl (zy 13 rfl rfl rfl (wl (qV (v:= .bool _) rfl rfl) (waB rfl ?_)));refine zq (e_R ⟨rfl,agA,?_⟩);exact clA
 refine e_S ?_;refine qx rfl (fun c10=>?_) (fun c10=>?_)
 ·refine zz (z4 (waB rfl (zq (e_S (q8 (qW (qQ (qK (.inl rfl) rfl rfl ?_))))))));exact⟨⟨true,rfl⟩,rfl⟩
 refine zK (e_B (e_S (zz (z4 (waB rfl (zq (e_S (q8 (qK (.inl rfl) rfl rfl ?_)))))))));exact⟨⟨false,rfl⟩,rfl⟩
theorem sua_any (n:Nat) (w:World):Calls Tryd.prog 114 #[.int .i64 ((n:Nat):Int)] w fun e w'=>e= .returned (.bool (decide (8 < n)))∧w=w':=by
 refine enter Tryd.func114 Tryd.ntmps114 rfl (Nat.le_of_ble_eq_true rfl) (zz (z4 (waB rfl (zq (e_S (zz (z4 (wmI rfl (wl (yX rfl rfl) (waB rfl (zq (e_S (q8 (qK (.inl rfl) rfl rfl ?_))))))))))))));exact⟨congrArg (fun z=>Ending.returned (.bool z)) (decide_eq_decide.2 (by constructor <;> (intro h;omega))),rfl⟩
set_option maxRecDepth 100000 in
set_option maxHeartbeats 4000000 in
theorem ixr_any (r:Nat) (w:World):Calls Tryd.prog 113 #[.string CH,.int .i32 ((r:Nat):Int)] w fun e w'=>(∃ z:Int,e= .returned (.int .i64 z)∧(0≤z ↔ spc r=true))∧Bel w w':=by
 have hcs:CH.size=9:=rfl;refine enter Tryd.func113 Tryd.ntmps113 rfl (Nat.le_of_ble_eq_true rfl) ?_;have hB:Bel w w:=Below.refl _ _;refine zz (z4 (waI rfl (zq (e_S (zY (zz ?_))))));refine y7 [160,161,162,163,164,165,166] 160 (.bool (decide (0≤(r:Int)∧(r:Int) < 128))) nu ?_ (fun gq=>?_)
 ·refine z4 (wmI rfl (wl (uz rfl rfl) (wmB rfl ?_)));refine zJ 163 rfl (fun g163=>?_) (fun g163=>?_)
  ·refine zw 163 rfl rfl (wmI rfl (zw 163 rfl rfl (wl (x9 rfl rfl) (wl (qw (v:= .bool _) rfl rfl) (waB rfl ?_)))));refine zq (e_R ⟨rfl,agA,?_⟩);exact clA
  refine zy 163 rfl rfl rfl (zy 163 rfl rfl rfl (wl (qV (v:= .bool _) rfl rfl) (waB rfl ?_)));refine zq (e_R ⟨rfl,agA,?_⟩);exact clA
 refine e_S ?_;refine qx rfl (fun c160=>?_) (fun c160=>?_)
 ·refine zz (z4 (wl (qy (v:= .string _) rfl) (wmI rfl (wl (K4 Tryd.underlying21 U5 rfl (wrap8 om)) ?_))));refine qJ fn121 (S9 CH _ _) rfl (fun e' w1 hr=>?_);obtain⟨rfl,rfl⟩:=hr;refine⟨_,rfl,?_⟩;refine waI rfl (zq (e_S (q8 (qW (qK (.inl rfl) rfl rfl ?_)))));have h:=ch_ix r om;exact⟨⟨_,rfl,by rw [← h,decide_eq_true_iff];rfl⟩,hB⟩
 have hs0:spc r=false:=by cases h:spc r with | false=>rfl | true=>have:=Ox h;omega
 have hr128:128≤r:=by omega
 refine zz (z4 (wmI rfl (wl (xv rfl rfl) (waB rfl (zq (e_S ?_))))));refine qx rfl (fun c171=>?_) (fun c171=>?_)
 ·refine zz (zz (z4 (wl (qy (v:= .string _) rfl) ?_)));refine F7 U9 rfl (fun b175 w2 hb175 hs hr=>?_);have lo175:=nLT (Bel.size hB) hr;replace hB:=hB.tr0 hs;refine zq (e_S (zY ?_));refine x8 [4,5,6,176,177,178,179,180,181,182] (fun m g w'=>∃ p:Nat,p≤9∧m=9 - p∧Bel w w'∧ItIn w' b175 CH p) (9) ?_ (fun m g38 w3 hI=>?_)
  ·exact⟨0,by omega,rfl,hB,hb175⟩
  obtain⟨p,hp,hm,hB,hb175⟩:=hI;refine zz (z4 ?_);rcases Nat.lt_or_ge (p) (CH).size with hnlt | hnge
  ·refine F8 hb175 rfl hnlt (fun w4 hq hs=>?_);replace hB:=hB.tr1 hs lo175;replace hb175:=hq;have hwl:=J6 (H5 p om);have hlt:=H5 p om;refine wl (uk (v:= .bool true) rfl rfl) (zq (e_S (zz (M0 rfl (zK (e_S (zY (zz (z4 (wl (uk (v:= .int _ _) rfl rfl) (wl (uk (v:= .int _ _) rfl rfl) (waI rfl (waI rfl (zq (e_S (zz (z4 (wmI rfl (wl (xv rfl rfl) (zq (e_S ?_)))))))))))))))))))));refine qx rfl (fun c181=>?_) (fun c181=>?_)
   ·exact absurd c181 (by rw [hwl.2];omega)
   refine zK (e_B (yw (9 - (p + 1)) om agA ?_));exact⟨p + 1,by omega,rfl,hB,by have h:=hb175;rw [show (Utf8.decode CH p).2=1 from hwl.1] at h;exact h⟩
  refine wl (r_ne hb175 rfl (Nat.not_lt.2 hnge)) (wl (uk (v:= .bool false) rfl rfl) (zq (e_S (zz (C8 rfl (xx (vx (yq (vj (e_S (zz (z4 (waI rfl (zq (e_S (q8 (qW (qK (.inl rfl) rfl rfl ?_))))))))))))))))));exact⟨⟨-1,rfl,⟨fun h=>by omega,fun h=>by rw [hs0] at h;cases h⟩⟩,hB⟩
 refine zz (z4 (wmI rfl ?_));refine qJ fn122 (Hj _ _) rfl (fun e' w5 hr=>?_);obtain⟨⟨bv,rfl⟩,rfl⟩:=hr;refine⟨_,rfl,?_⟩;refine wl (vY rfl) (waB rfl (zq (e_S ?_)));refine kZ rfl (fun c183=>?_) (fun c183=>?_)
 ·refine zz (z4 (waI rfl (zq (e_S (q8 (qW (qK (.inl rfl) rfl rfl ?_)))))));exact⟨⟨-1,rfl,⟨fun h=>by omega,fun h=>by rw [hs0] at h;cases h⟩⟩,hB⟩
 refine H6 (zz (z4 (wmI rfl (wl (r_rstr Tryd.underlying21 U9 rfl) (wl (oy (v:= .string _) rfl) (zq (e_S (zz ?_))))))));obtain⟨hE2,hE4,hEh⟩:=enc_hi hr128;refine z4 (wl (qy (v:= .string _) rfl) (wl (jX U9 rfl) (wl (u9 (c:=(((Utf8.encode (r:Int)).size - 1:Nat):Int)) rfl rfl om om) (waI rfl (zq (e_S (zz (z4 (wmI rfl (waI rfl (zq (e_S (zz (z4 (waI rfl (zq (e_S (zz (zY ?_)))))))))))))))))));refine x8 [4,9,10,11,12,23,24,25,26,27,28,29,30,31,32,33,34,35,36,37,38,39,40,41,42,43,44,45,46,47,48,49,50,51,52,53,54,55,56,57,58,59,60,61,62,63,64,65,66,67,68,69,70,71,72,73,74,75,76,77,78,79,80,81,82,83,84,85,86,87,88,89,90,91,92,93,94,95,96,97,98] (fun m g w'=>m=0∧g 9= .int .i64 (((Utf8.encode (r:Int)).size - 1:Nat):Int)∧Bel w w') (0) ?_ (fun m g5 w6 hI=>?_)
 ·exact⟨rfl,rfl,hB⟩
 obtain⟨hm,h9,hB⟩:=hI;refine qv 9 (.int .i64 (((Utf8.encode (r:Int)).size - 1:Nat):Int)) h9 nu (zz (zz (z4 (wmI rfl (wl (qy (v:= .string _) rfl) (wl (jX U9 rfl) (wl (x9 rfl rfl) (zq (e_S ?_)))))))));refine qx rfl (fun c26=>?_) (fun c26=>?_)
 ·obtain⟨ii,hii⟩:∃ x,x=(Utf8.encode (r:Int)).size - 1:=⟨_,rfl⟩
  have hi9:ii < 9:=by omega
  have hclo:=H5 ii hi9;have hchi:=hEh ((Utf8.encode (r:Int)).size - 1) om;have hnone:Lib.indexByte (bl (sdr (ii + 1) CH)) (((gb (Utf8.encode (r:Int)) ((Utf8.encode (r:Int)).size - 1):Nat):Int)).toNat.toUInt8 < 0:=by
    refine ixb_none (fun hm=>?_);rw [YY] at hm;have h1:=List.mem_of_mem_drop hm;have h2:∀ x ∈ bl CH,x.toNat < 128:=by decide
    have h3:=h2 _ h1;have h4:=uj (Utf8.encode (r:Int)) ((Utf8.encode (r:Int)).size - 1);rw [Int.toNat_natCast,show ((gb (Utf8.encode (r:Int)) ((Utf8.encode (r:Int)).size - 1))).toUInt8.toNat=gb (Utf8.encode (r:Int)) ((Utf8.encode (r:Int)).size - 1) from Nat.mod_eq_of_lt h4] at h3;omega
  rw [← hii] at hnone hchi;refine zK (e_S (zY (H6 (zz (zz ?_)))));refine Qj kR kR (fun w7 hs=>?_);replace hB:=hB.tr0 hs;refine ws (qy (v:= .string _) rfl) (ws (qy (v:= .int _ _) rfl) (ws (kw (i:=((Utf8.encode (r:Int)).size - 1)) U9 rfl rfl om) (ws (qy (v:= .string _) rfl) (ws (qy (v:= .int _ _) rfl) (ws (kw (i:=((Utf8.encode (r:Int)).size - 1)) U9 rfl rfl om) (ws (yY rfl rfl) (o6 (e_S ?_))))))));refine qx rfl (fun c33=>?_) (fun c33=>?_)
  ·refine zz ?_;refine Qj kR kR (fun w8 hs=>?_);replace hB:=hB.tr0 hs;refine ws (qy (v:= .string _) rfl) (ws (qy (v:= .int _ _) rfl) (ws (xw (c:=((ii + 1:Nat):Int)) rfl rfl (by rw [← hii];rfl) om) (ws (X5 (l:=(ii + 1)) U9 rfl rfl om) (ws (qy (v:= .string _) rfl) (ws (qy (v:= .int _ _) rfl) (ws (kw (i:=((Utf8.encode (r:Int)).size - 1)) U9 rfl rfl om) (ws_cl fn121 (S9 (sdr (ii + 1) CH) _ _) rfl (ws (oy (v:= .int _ _) rfl) (o6 (e_S (zz (zz (z4 (wmI rfl (wl (x9 rfl rfl) (zq (e_S ?_)))))))))))))))));refine qx rfl (fun c43=>?_) (fun c43=>?_)
   ·refine zz (z4 (waI rfl (zq (e_S (q8 (qQ (qQ (e_Nr (qW (y8 (qW (qQ (e_Nr (qW (qK (.inl rfl) rfl rfl ?_)))))))))))))));exact⟨⟨-1,rfl,⟨fun h=>by omega,fun h=>by rw [hs0] at h;cases h⟩⟩,hB⟩
   exact absurd (by rw [← hii];exact hnone) c43
  exact absurd (fun h=>by rw [← hii] at h;omega) c33
 refine xx (vx (yq (vj (e_S (zz (zz (z4 (waI rfl (zq (e_S (q8 (qQ (e_Nr (qW (qK (.inl rfl) rfl rfl ?_)))))))))))))));exact⟨⟨-1,rfl,⟨fun h=>by omega,fun h=>by rw [hs0] at h;cases h⟩⟩,hB⟩
end Go.Proofs.YtfkbjncidemcbaaDoor
