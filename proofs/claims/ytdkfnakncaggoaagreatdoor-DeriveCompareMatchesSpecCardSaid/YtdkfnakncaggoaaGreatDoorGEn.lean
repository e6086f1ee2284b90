/- What these functions of the program compute, at every world: strings.makeASCIISet, (*strings.asciiSet).contains, strings.IndexAny, strings.ContainsAny. What these functions of the program compute, at every world: glosswright/lexrule.Word. What these functions of the program compute, at every world: glosswright/term.Validate. What these functions of the program compute, at every world: cmp.isNaN[int], cmp.Compare[int], glosswright/graph.Target$1, slices.BinarySearchFunc[[]glosswright/api.Link,glosswright/api.Link,int]. What these functions of the program compute, at every world: glosswright/graph.Target, glosswright/glosswrightref3.Target. What these functions of the program compute, at every world: glosswright/lexrule.Places, glosswright/lexrule.Entry, glosswright/grammar.Rule, glosswright/grammar.fault. -/
import Derived.Test.YtdkfnakncaggoaaGreatDoorU
import Derived.Test.YtdkfnakncaggoaaGreatDoorName
import Derived.Test.YtdkfnakncaggoaaGreatDoorWIx
import Derived.Test.YtdkfnakncaggoaaGreatDoorNTy
import Derived.Test.YtdkfnakncaggoaaGreatDoorGrm
import Derived.Test.YtdkfnakncaggoaaGreatDoorGNodes
namespace Go.Proofs.YtdkfnakncaggoaaGreatDoor
open Go.RowKit
theorem fn120:zQ Tryz.prog 120=true:=by kernel_rfl
theorem fn125:zQ Tryz.prog 125=true:=by kernel_rfl
theorem fn126:zQ Tryz.prog 126=true:=by kernel_rfl
theorem fn127:zQ Tryz.prog 127=true:=by kernel_rfl
theorem fn128:zQ Tryz.prog 128=true:=by kernel_rfl
theorem sz189:(Tryz.prog.info? 189).map (·.size)=some 256:=by kernel_rfl
theorem ze189:(Tryz.prog.info? 189).map (·.zero)=some (some (.agg #[.bool false,.bool false,.bool false,.bool false,.bool false,.bool false,.bool false,.bool false,.bool false,.bool false,.bool false,.bool false,.bool false,.bool false,.bool false,.bool false,.bool false,.bool false,.bool false,.bool false,.bool false,.bool false,.bool false,.bool false,.bool false,.bool false,.bool false,.bool false,.bool false,.bool false,.bool false,.bool false,.bool false,.bool false,.bool false,.bool false,.bool false,.bool false,.bool false,.bool false,.bool false,.bool false,.bool false,.bool false,.bool false,.bool false,.bool false,.bool false,.bool false,.bool false,.bool false,.bool false,.bool false,.bool false,.bool false,.bool false,.bool false,.bool false,.bool false,.bool false,.bool false,.bool false,.bool false,.bool false,.bool false,.bool false,.bool false,.bool false,.bool false,.bool false,.bool false,.bool false,.bool false,.bool false,.bool false,.bool false,.bool false,.bool false,.bool false,.bool false,.bool false,.bool false,.bool false,.bool false,.bool false,.bool false,.bool false,.bool false,.bool false,.bool false,.bool false,.bool false,.bool false,.bool false,.bool false,.bool false,.bool false,.bool false,.bool false,.bool false,.bool false,.bool false,.bool false,.bool false,.bool false,.bool false,.bool false,.bool false,.bool false,.bool false,.bool false,.bool false,.bool false,.bool false,.bool false,.bool false,.bool false,.bool false,.bool false,.bool false,.bool false,.bool false,.bool false,.bool false,.bool false,.bool false,.bool false,.bool false,.bool false,.bool false,.bool false,.bool false,.bool false,.bool false,.bool false,.bool false,.bool false,.bool false,.bool false,.bool false,.bool false,.bool false,.bool false,.bool false,.bool false,.bool false,.bool false,.bool false,.bool false,.bool false,.bool false,.bool false,.bool false,.bool false,.bool false,.bool false,.bool false,.bool false,.bool false,.bool false,.bool false,.bool false,.bool false,.bool false,.bool false,.bool false,.bool false,.bool false,.bool false,.bool false,.bool false,.bool false,.bool false,.bool false,.bool false,.bool false,.bool false,.bool false,.bool false,.bool false,.bool false,.bool false,.bool false,.bool false,.bool false,.bool false,.bool false,.bool false,.bool false,.bool false,.bool false,.bool false,.bool false,.bool false,.bool false,.bool false,.bool false,.bool false,.bool false,.bool false,.bool false,.bool false,.bool false,.bool false,.bool false,.bool false,.bool false,.bool false,.bool false,.bool false,.bool false,.bool false,.bool false,.bool false,.bool false,.bool false,.bool false,.bool false,.bool false,.bool false,.bool false,.bool false,.bool false,.bool false,.bool false,.bool false,.bool false,.bool false,.bool false,.bool false,.bool false,.bool false,.bool false,.bool false,.bool false,.bool false,.bool false,.bool false,.bool false,.bool false,.bool false,.bool false,.bool false,.bool false,.bool false,.bool false,.bool false,.bool false,.bool false,.bool false,.bool false,.bool false,.bool false,.bool false,.bool false,.bool false])):=by kernel_rfl
set_option maxRecDepth 100000 in
set_option maxHeartbeats 2000000 in
theorem mas_any (w:World):Calls Tryz.prog 127 #[.string CH] w fun e w'=>e= .returned (.tuple #[.agg (row 256 (fun x=> .bool (spc x))),.bool true])∧Bel w w':=by
 have hcs:CH.size=9:=rfl;refine enter Tryz.func127 Tryz.ntmps127 rfl (Nat.le_of_ble_eq_true rfl) ?_;have hB:Bel w w:=Below.refl _ _;refine zn2 ?_;refine qZ (cs:=#[.bool false,.bool false,.bool false,.bool false,.bool false,.bool false,.bool false,.bool false,.bool false,.bool false,.bool false,.bool false,.bool false,.bool false,.bool false,.bool false,.bool false,.bool false,.bool false,.bool false,.bool false,.bool false,.bool false,.bool false,.bool false,.bool false,.bool false,.bool false,.bool false,.bool false,.bool false,.bool false,.bool false,.bool false,.bool false,.bool false,.bool false,.bool false,.bool false,.bool false,.bool false,.bool false,.bool false,.bool false,.bool false,.bool false,.bool false,.bool false,.bool false,.bool false,.bool false,.bool false,.bool false,.bool false,.bool false,.bool false,.bool false,.bool false,.bool false,.bool false,.bool false,.bool false,.bool false,.bool false,.bool false,.bool false,.bool false,.bool false,.bool false,.bool false,.bool false,.bool false,.bool false,.bool false,.bool false,.bool false,.bool false,.bool false,.bool false,.bool false,.bool false,.bool false,.bool false,.bool false,.bool false,.bool false,.bool false,.bool false,.bool false,.bool false,.bool false,.bool false,.bool false,.bool false,.bool false,.bool false,.bool false,.bool false,.bool false,.bool false,.bool false,.bool false,.bool false,.bool false,.bool false,.bool false,.bool false,.bool false,.bool false,.bool false,.bool false,.bool false,.bool false,.bool false,.bool false,.bool false,.bool false,.bool false,.bool false,.bool false,.bool false,.bool false,.bool false,.bool false,.bool false,.bool false,.bool false,.bool false,.bool false,.bool false,.bool false,.bool false,.bool false,.bool false,.bool false,.bool false,.bool false,.bool false,.bool false,.bool false,.bool false,.bool false,.bool false,.bool false,.bool false,.bool false,.bool false,.bool false,.bool false,.bool false,.bool false,.bool false,.bool false,.bool false,.bool false,.bool false,.bool false,.bool false,.bool false,.bool false,.bool false,.bool false,.bool false,.bool false,.bool false,.bool false,.bool false,.bool false,.bool false,.bool false,.bool false,.bool false,.bool false,.bool false,.bool false,.bool false,.bool false,.bool false,.bool false,.bool false,.bool false,.bool false,.bool false,.bool false,.bool false,.bool false,.bool false,.bool false,.bool false,.bool false,.bool false,.bool false,.bool false,.bool false,.bool false,.bool false,.bool false,.bool false,.bool false,.bool false,.bool false,.bool false,.bool false,.bool false,.bool false,.bool false,.bool false,.bool false,.bool false,.bool false,.bool false,.bool false,.bool false,.bool false,.bool false,.bool false,.bool false,.bool false,.bool false,.bool false,.bool false,.bool false,.bool false,.bool false,.bool false,.bool false,.bool false,.bool false,.bool false,.bool false,.bool false,.bool false,.bool false,.bool false,.bool false,.bool false,.bool false,.bool false,.bool false,.bool false,.bool false,.bool false,.bool false,.bool false,.bool false,.bool false,.bool false,.bool false,.bool false,.bool false,.bool false,.bool false,.bool false,.bool false,.bool false,.bool false]) ze189 rfl (fun b2 w1 hb2 hs hr=>?_)
 have lo2:=nLT (Bel.size hB) hr;replace hB:=hB.tr0 hs;refine yq ?_;refine q8 [3,4,5,6,7,8,9,10,11,12,13,14,15,16,17,18,19] (fun m g w'=>∃ k:Nat,k≤9∧m=9 - k∧g 4= .int .i64 k∧Bel w w'∧Blk w' b2 189 (row 256 (fun x=> .bool (chs k x)))) (9) ?_ (fun m g2 w2 hI=>?_)
 ·exact⟨0,Nat.zero_le _,rfl,rfl,hB,hb2⟩
 obtain⟨k,hk,hm,h4,hB,hb2⟩:=hI;refine zJ 4 (.int .i64 k) h4 nu (zn9 ?_);refine zw rfl (fun c9=>?_) (fun c9=>?_)
 ·have hk9:k < 9:=by omega
  have hlo:=HY k hk9;refine zn8 ?_;refine wl (j8 (i:=k) U9 rfl rfl om) (yq ?_);refine zw rfl (fun c16=>?_) (fun c16=>?_)
  ·exact absurd c16 om
  refine zn4 ?_;refine wl (S3 (i:=(gb CH k)) U189 vQ rfl rfl om rfl) ?_;refine xY (v:= .bool _) hb2 rfl rfl vQ (by rw [row_size];omega) rfl u3 (fun w3 hq hs=>?_);replace hB:=hB.tr1 hs lo2;replace hb2:=hq;rw [yy (g':=fun x=> .bool (chs (k + 1) x)) (fun x _=>by rw [chs_step];by_cases e:x=gb CH k <;> simp [e])] at hb2;refine zn8 ?_;refine xv (9 - (k + 1)) om agA ?_;exact⟨k + 1,by omega,rfl,rfl,hB,hb2⟩
 have hk9:k=9:=by omega
 subst hk9;have hb2':Blk w2 b2 189 (row 256 (fun x=> .bool (spc x))):=by rw [yy (g':=fun x=> .bool (chs 9 x)) (fun x hx=>by rw [chs_all x hx])];exact hb2
 refine zn6 ?_;replace hb2:=hb2';refine zn2 ?_;refine zk hb2 rfl rfl sz189 rfl zK (fun w4 hq hs=>?_);replace hB:=hB.tr1 hs lo2;replace hb2:=hq;refine zn4 ?_;refine X0 (.inl rfl) rfl (zy U189 rfl rfl hb2.range0 sz189) rfl ?_;exact⟨rfl,hB⟩
theorem cnt_any (b6 c:Nat) (w:World) (hb6:Blk w b6 189 (row 256 (fun x=> .bool (spc x)))) (hc:c < 256):Calls Tryz.prog 128 #[.pointer (some ⟨b6,0,none⟩),.int .u8 ((c:Nat):Int)] w fun e w'=>e= .returned (.bool (spc c))∧w=w':=by
 refine enter Tryz.func128 Tryz.ntmps128 rfl (Nat.le_of_ble_eq_true rfl) (zn7 ?_);refine wl (x9 (v:= .pointer (some _)) rfl) (wmI rfl (wl (r_nc rfl) (wl (S3 (i:=c) U189 vQ rfl rfl hc rfl) (wl (qk (v:= .bool _) U4 rfl rfl (hb6.cell (vK hc))) (zn5 ?_)))));exact⟨rfl,rfl⟩
set_option maxRecDepth 100000 in
set_option maxHeartbeats 2000000 in
theorem ixa_any (s:ByteArray) (w:World) (hsz:s.size < 9223372036854775807):Calls Tryz.prog 120 #[.string s,.string CH] w fun e w'=>(∃ z:Int,e= .returned (.int .i64 z)∧(0≤z ↔ brd s 0=true))∧Bel w w':=by
 refine enter Tryz.func120 Tryz.ntmps120 rfl (Nat.le_of_ble_eq_true rfl) ?_;have hB:Bel w w:=Below.refl _ _;refine yj ?_;refine zw rfl (fun c12=>?_) (fun c12=>?_)
 ·exact absurd c12 dE
 refine yq ?_;refine zw rfl (fun c15=>?_) (fun c15=>?_)
 ·exact absurd c15 dE
 refine zn7 ?_;refine zV fn126 (sua_any s.size _) rfl (fun e' w1 hr=>?_);obtain⟨rfl,rfl⟩:=hr;refine⟨_,rfl,?_⟩;refine zZ (e_S ?_);refine j7 rfl (fun c26=>?_) (fun c26=>?_)
 ·refine zn3 ?_;refine zV fn127 (mas_any _) rfl (fun e' w2 hr=>?_);obtain⟨rfl,hs⟩:=hr;replace hs:=sB hs;replace hB:=hB.tr0 hs;refine⟨_,rfl,?_⟩;refine wmT rfl (wl (jv (v:= .agg _) rfl rfl) (wl (jv (v:= .bool _) rfl rfl) ?_));refine xV (cs:=#[.bool false,.bool false,.bool false,.bool false,.bool false,.bool false,.bool false,.bool false,.bool false,.bool false,.bool false,.bool false,.bool false,.bool false,.bool false,.bool false,.bool false,.bool false,.bool false,.bool false,.bool false,.bool false,.bool false,.bool false,.bool false,.bool false,.bool false,.bool false,.bool false,.bool false,.bool false,.bool false,.bool false,.bool false,.bool false,.bool false,.bool false,.bool false,.bool false,.bool false,.bool false,.bool false,.bool false,.bool false,.bool false,.bool false,.bool false,.bool false,.bool false,.bool false,.bool false,.bool false,.bool false,.bool false,.bool false,.bool false,.bool false,.bool false,.bool false,.bool false,.bool false,.bool false,.bool false,.bool false,.bool false,.bool false,.bool false,.bool false,.bool false,.bool false,.bool false,.bool false,.bool false,.bool false,.bool false,.bool false,.bool false,.bool false,.bool false,.bool false,.bool false,.bool false,.bool false,.bool false,.bool false,.bool false,.bool false,.bool false,.bool false,.bool false,.bool false,.bool false,.bool false,.bool false,.bool false,.bool false,.bool false,.bool false,.bool false,.bool false,.bool false,.bool false,.bool false,.bool false,.bool false,.bool false,.bool false,.bool false,.bool false,.bool false,.bool false,.bool false,.bool false,.bool false,.bool false,.bool false,.bool false,.bool false,.bool false,.bool false,.bool false,.bool false,.bool false,.bool false,.bool false,.bool false,.bool false,.bool false,.bool false,.bool false,.bool false,.bool false,.bool false,.bool false,.bool false,.bool false,.bool false,.bool false,.bool false,.bool false,.bool false,.bool false,.bool false,.bool false,.bool false,.bool false,.bool false,.bool false,.bool false,.bool false,.bool false,.bool false,.bool false,.bool false,.bool false,.bool false,.bool false,.bool false,.bool false,.bool false,.bool false,.bool false,.bool false,.bool false,.bool false,.bool false,.bool false,.bool false,.bool false,.bool false,.bool false,.bool false,.bool false,.bool false,.bool false,.bool false,.bool false,.bool false,.bool false,.bool false,.bool false,.bool false,.bool false,.bool false,.bool false,.bool false,.bool false,.bool false,.bool false,.bool false,.bool false,.bool false,.bool false,.bool false,.bool false,.bool false,.bool false,.bool false,.bool false,.bool false,.bool false,.bool false,.bool false,.bool false,.bool false,.bool false,.bool false,.bool false,.bool false,.bool false,.bool false,.bool false,.bool false,.bool false,.bool false,.bool false,.bool false,.bool false,.bool false,.bool false,.bool false,.bool false,.bool false,.bool false,.bool false,.bool false,.bool false,.bool false,.bool false,.bool false,.bool false,.bool false,.bool false,.bool false,.bool false,.bool false,.bool false,.bool false,.bool false,.bool false,.bool false,.bool false,.bool false,.bool false,.bool false,.bool false,.bool false,.bool false,.bool false,.bool false,.bool false,.bool false,.bool false,.bool false,.bool false,.bool false]) ze189 rfl (fun _=>rfl) (fun _=>rfl) sz189 rfl zK (fun b6 w4 hb6 hs hr=>?_)
  replace hB:=hB.tr0 hs;refine zn8 ?_;refine j7 rfl (fun c32=>?_) (fun c32=>?_)
  ·refine zn7 ?_;refine q8 [4,8,33,34,35,36,37,38,39,40,41,42,43] (fun m g w'=>∃ k:Nat,k≤s.size∧m=s.size - k∧g 8= .int .i64 k∧Bel w w'∧Blk w' b6 189 (row 256 (fun x=> .bool (spc x)))∧∀ j,j < k→spc (gb s j)=false) (s.size) ?_ (fun m g12 w5 hI=>?_)
   ·exact⟨0,Nat.zero_le _,rfl,rfl,hB,hb6,fun j hj=>by omega⟩
   obtain⟨k,hk,hm,h8,hB,hb6,hall⟩:=hI;refine zJ 8 (.int .i64 k) h8 nu (zn9 ?_);refine zw rfl (fun c36=>?_) (fun c36=>?_)
   ·refine zn8 ?_;refine wl (j8 (i:=k) U9 rfl rfl om) ?_;refine zV fn128 (cnt_any b6 _ _ hb6 (kz s k)) rfl (fun e' w6 hr=>?_);obtain⟨rfl,rfl⟩:=hr;refine⟨_,rfl,?_⟩;refine zZ (e_S ?_);refine j7 rfl (fun c42=>?_) (fun c42=>?_)
    ·refine oY ?_;exact⟨⟨_,rfl,⟨fun _=>brd_byte (m:=s.size) om (Nat.zero_le k) om c42,fun _=>Int.natCast_nonneg k⟩⟩,hB⟩
    refine zn8 ?_;refine xv (s.size - (k + 1)) om agA ?_
    exact⟨k + 1,by omega,rfl,rfl,hB,hb6,fun j hj=>by
      by_cases e:j=k
      · subst e;simpa using c42
      · exact hall j om⟩
   refine jq ?_;have hno:brd s 0=false:=by
     cases h:brd s 0 with
     | false=>rfl
     | true=>
       obtain⟨q,_,h2,h3⟩:=byte_brd (m:=s.size) om h;rw [hall q om] at h3;cases h3
   exact⟨⟨-1,rfl,⟨fun h=>by omega,fun h=>by rw [hno] at h;cases h⟩⟩,hB⟩
  exact absurd c32 dE
 refine zn6 ?_;refine W4 U9 rfl (fun b45 w7 hb45 hs hr=>?_);have lo45:=nLT (Bel.size hB) hr;replace hB:=hB.tr0 hs;refine zn3 ?_;refine q8 [4,9,10,46,47,48,49,50,51,52,53,54] (fun m g w'=>∃ p:Nat,p≤s.size∧s.size - p≤m∧Bel w w'∧ItIn w' b45 s p∧brd s 0=brd s p) (s.size) ?_ (fun m g18 w8 hI=>?_)
 ·exact⟨0,Nat.zero_le _,Nat.le_refl _,hB,hb45,rfl⟩
 obtain⟨p,hp,hm,hB,hb45,hbr⟩:=hI;refine zn2 ?_;rcases Nat.lt_or_ge (p) (s).size with hnlt | hnge
 ·refine W5 hb45 rfl hnlt (fun w9 hq hs=>?_);replace hB:=hB.tr1 hs lo45;replace hb45:=hq;have hwp:=Z3 hnlt;have hwl:=Ew hnlt;refine wl (jv (v:= .bool true) rfl rfl) (zn9 ?_);refine wl (jv (v:= .int _ _) rfl rfl) (wl (jv (v:= .int _ _) rfl rfl) (zn8 ?_));refine zV fn125 (ixr_any _ _) rfl (fun e' w10 hr=>?_);obtain⟨⟨z,rfl,hz⟩,hs⟩:=hr;replace hs:=sB hs;replace hB:=hB.tr0 hs;replace hb45:=hb45.tr0 hs;refine⟨_,rfl,?_⟩;refine zn3 ?_;refine zw rfl (fun c53=>?_) (fun c53=>?_)
  ·have hbt:brd s 0=true:=by rw [hbr,Q0 hnlt,hz.1 c53];rfl
   refine yj ?_;exact⟨⟨_,rfl,⟨fun _=>hbt,fun _=>Int.natCast_nonneg p⟩⟩,hB⟩
  have hsn:spc (Utf8.decode s p).1=false:=by cases h:spc (Utf8.decode s p).1 with | false=>rfl | true=>exact absurd (hz.2 h) c53
  refine uY (e_B (xv (m - 1) om agA ?_));exact⟨p + wdt s p,hwl,by omega,hB,hb45,by rw [hbr,Q0 hnlt,hsn,Bool.false_or]⟩
 refine wl (r_ne hb45 rfl (Nat.not_lt.2 hnge)) ?_;rw [IW (Nat.not_lt.2 hnge)] at hbr;refine wl (jv (v:= .bool false) rfl rfl) (M1 ?_);exact⟨⟨-1,rfl,⟨fun h=>by omega,fun h=>by rw [hbr] at h;cases h⟩⟩,hB⟩
theorem cany_any (s:ByteArray) (w:World) (hsz:s.size < 9223372036854775807):Calls Tryz.prog 104 #[.string s,.string CH] w fun e w'=>e= .returned (.bool (brd s 0))∧Bel w w':=by
 refine enter Tryz.func104 Tryz.ntmps104 rfl (Nat.le_of_ble_eq_true rfl) ?_;have hB:Bel w w:=Below.refl _ _;refine zn9 ?_;refine zV fn120 (ixa_any s _ hsz) rfl (fun e' w1 hr=>?_);obtain⟨⟨z,rfl,hz⟩,hs⟩:=hr;replace hs:=sB hs;replace hB:=hB.tr0 hs;refine⟨_,rfl,?_⟩;refine zn6 ?_;exact⟨congrArg (fun b=>Ending.returned (.bool b)) (by cases h:brd s 0 with | true=>exact decide_eq_true (hz.2 h) | false=>exact decide_eq_false (fun h2=>by rw [hz.1 h2] at h;cases h)),hB⟩
end Go.Proofs.YtdkfnakncaggoaaGreatDoor
namespace Go.Proofs.YtdkfnakncaggoaaGreatDoor
open Go.RowKit
theorem fn102:zQ Tryz.prog 102=true:=by kernel_rfl
theorem fn103:zQ Tryz.prog 103=true:=by kernel_rfl
theorem fn104:zQ Tryz.prog 104=true:=by kernel_rfl
set_option maxHeartbeats 1000000 in
theorem word_p (s:ByteArray) (w:World) (hU:U8In w) (hsz:s.size < 9223372036854775807):Calls Tryz.prog 83 #[.string s] w fun e w'=>e= .returned (.bool (jz s))∧Bel w w':=by
 refine enter Tryz.func83 Tryz.ntmps83 rfl (Nat.le_of_ble_eq_true rfl) ?_;have hB:Bel w w:=Below.refl _ _;refine zn8 ?_;refine zV fn102 (rc_any s _ hsz) rfl (fun e' w1 hr=>?_);obtain⟨rfl,hs⟩:=hr;replace hs:=sB hs;replace hB:=hB.tr0 hs;refine⟨_,rfl,?_⟩;refine zn8 ?_;refine zj 8 rfl (fun g8=>?_) (fun g8=>?_)
 ·refine zn6 ?_;refine zj 12 rfl (fun g12=>?_) (fun g12=>?_)
  ·refine zn3 ?_;refine zV fn103 (L9 s _ (hU.mono hB) hsz) rfl (fun e' w2 hr=>?_);obtain⟨rfl,hs⟩:=hr;replace hs:=sB hs;replace hB:=hB.tr0 hs;refine⟨_,rfl,?_⟩;refine zn2 ?_;refine M2 16 rfl (fun g16=>?_) (fun g16=>?_)
   ·refine zn3 ?_;refine zV fn104 (cany_any s _ hsz) rfl (fun e' w3 hr=>?_);obtain⟨rfl,hs⟩:=hr;replace hs:=sB hs;replace hB:=hB.tr0 hs;refine⟨_,rfl,?_⟩;refine zn8 ?_;exact⟨congrArg (fun b=>Ending.returned (.bool b)) (by unfold jz;first | (rw [decide_eq_true (show 1≤(ch s 0).length by omega),decide_eq_true (show (ch s 0).length≤30 by omega),g16];rfl) | (rw [decide_eq_true (show 1≤(ch s 0).length by omega),decide_eq_true (show (ch s 0).length≤30 by omega),Bool.eq_false_iff.2 g16];rfl) | (rw [decide_eq_false (show ¬(ch s 0).length≤30 by omega)];simp) | (rw [decide_eq_false (show ¬1≤(ch s 0).length by omega)];rfl)),hB⟩
   refine zn9 ?_;exact⟨congrArg (fun b=>Ending.returned (.bool b)) (by unfold jz;first | (rw [decide_eq_true (show 1≤(ch s 0).length by omega),decide_eq_true (show (ch s 0).length≤30 by omega),g16];rfl) | (rw [decide_eq_true (show 1≤(ch s 0).length by omega),decide_eq_true (show (ch s 0).length≤30 by omega),Bool.eq_false_iff.2 g16];rfl) | (rw [decide_eq_false (show ¬(ch s 0).length≤30 by omega)];simp) | (rw [decide_eq_false (show ¬1≤(ch s 0).length by omega)];rfl)),hB⟩
  refine jq ?_;exact⟨congrArg (fun b=>Ending.returned (.bool b)) (by unfold jz;first | (rw [decide_eq_true (show 1≤(ch s 0).length by omega),decide_eq_true (show (ch s 0).length≤30 by omega),g16];rfl) | (rw [decide_eq_true (show 1≤(ch s 0).length by omega),decide_eq_true (show (ch s 0).length≤30 by omega),Bool.eq_false_iff.2 g16];rfl) | (rw [decide_eq_false (show ¬(ch s 0).length≤30 by omega)];simp) | (rw [decide_eq_false (show ¬1≤(ch s 0).length by omega)];rfl)),hB⟩
 refine M0 ?_;exact⟨congrArg (fun b=>Ending.returned (.bool b)) (by unfold jz;first | (rw [decide_eq_true (show 1≤(ch s 0).length by omega),decide_eq_true (show (ch s 0).length≤30 by omega),g16];rfl) | (rw [decide_eq_true (show 1≤(ch s 0).length by omega),decide_eq_true (show (ch s 0).length≤30 by omega),Bool.eq_false_iff.2 g16];rfl) | (rw [decide_eq_false (show ¬(ch s 0).length≤30 by omega)];simp) | (rw [decide_eq_false (show ¬1≤(ch s 0).length by omega)];rfl)),hB⟩
end Go.Proofs.YtdkfnakncaggoaaGreatDoor
namespace Go.Proofs.YtdkfnakncaggoaaGreatDoor
open Go.RowKit
theorem sz150:(Tryz.prog.info? 150).map (·.size)=some 1:=by kernel_rfl
theorem ze150:(Tryz.prog.info? 150).map (·.zero)=some (some (.nilFunc)):=by kernel_rfl
set_option maxHeartbeats 1000000 in
theorem CV (A B:Option Addr) (c m:Nat) (t:Tm) (w:World) (hS:SimsIn w A t.type.args) (hT:TmsIn w B t.args):Calls Tryz.prog 82 #[.agg #[.int .i64 (t).kind,.string (t).name,.int .i64 (t).index,.string (t).type.base,.slice A (t).type.args.length c,.slice B (t).args.length m]] w fun e w'=>e= .returned (flV (tmF t))∧Bel w w':=by
 refine enter Tryz.func82 Tryz.ntmps82 rfl (Nat.le_of_ble_eq_true rfl) ?_;have hB:Bel w w:=Below.refl _ _;refine zn2 ?_;refine qW (v:= .agg #[_,_,_,_,_,_]) (cs:=#[_,_,_,_,_,_]) rfl rfl (fun b1 w1 hb1 hs hr=>?_);replace hB:=hB.tr0 hs;refine qZ (cs:=#[.int .i64 0,.int .i64 0]) zY rfl (fun b2 w2 hb2 hs hr=>?_);have:=nLL hb1.lt hr;have lo2:=nLT (Bel.size hB) hr;replace hB:=hB.tr0 hs;replace hb1:=hb1.tr0 hs;refine zn4 ?_;refine qZ (cs:=#[.int .i64 0]) jw rfl (fun b3 w3 hb3 hs hr=>?_);have:=nLL hb1.lt hr;have:=nLL hb2.lt hr;have lo3:=nLT (Bel.size hB) hr;replace hB:=hB.tr0 hs;replace hb1:=hb1.tr0 hs;replace hb2:=hb2.tr0 hs;refine xY (v:= .int _ _) hb3 rfl rfl qw (by first | decide | simp) rfl rfl (fun w4 hq hs=>?_);replace hB:=hB.tr1 hs lo3;replace hb1:=hb1.tr1 hs om;replace hb2:=hb2.tr1 hs om;replace hb3:=hq;refine zn4 ?_;refine qZ (cs:=#[.nilFunc]) ze150 rfl (fun b4 w5 hb4 hs hr=>?_);have:=nLL hb1.lt hr;have:=nLL hb2.lt hr;have:=nLL hb3.lt hr;have lo4:=nLT (Bel.size hB) hr;replace hB:=hB.tr0 hs;replace hb1:=hb1.tr0 hs;replace hb2:=hb2.tr0 hs;replace hb3:=hb3.tr0 hs;refine zn4 ?_;refine wl (r_mf rfl) ?_;refine xY (v:= .func _ _ _) hb4 rfl rfl sz150 (by first | decide | simp) rfl rfl (fun w6 hq hs=>?_);replace hB:=hB.tr1 hs lo4;replace hb1:=hb1.tr1 hs om;replace hb2:=hb2.tr1 hs om;replace hb3:=hb3.tr1 hs om;replace hb4:=hq;refine zn7 ?_;refine xJ rfl fn97 (twk_any (w0:=w) (bN:=b3) (bV:=b4) lo3 lo4 om t A B c m 1 0 0 _ hS hT om om om hB hb3 hb4) rfl rfl (fun e' w7 hr=>?_);obtain⟨rfl,hC2,hb32⟩:=hr;replace hB:=hB.chG hC2 (fun g hg=>by rw [show g=b3 from hg];exact lo3);replace hb1:=hb1.chG hC2 (fun hx=>by have hx:b1=b3:=hx;omega);replace hb2:=hb2.chG hC2 (fun hx=>by have hx:b2=b3:=hx;omega);replace hb4:=hb4.chG hC2 (fun hx=>by have hx:b4=b3:=hx;omega);replace hb3:=hb32;refine⟨_,rfl,?_⟩;refine xV (cs:=#[.int .i64 0,.int .i64 0]) zY rfl (fun _=>rfl) (fun _=>rfl) zq rfl zK (fun b5 w9 hb5 hs hr=>?_);replace hB:=hB.tr0 hs;replace hb1:=hb1.tr0 hs;replace hb2:=hb2.tr0 hs;replace hb3:=hb3.tr0 hs;replace hb4:=hb4.tr0 hs;refine zn9 ?_;refine zw rfl (fun c14=>?_) (fun c14=>?_)
 ·have hF:=Wy c14;refine zn3 ?_;refine zk hb2 rfl rfl zq rfl zK (fun w10 hq hs=>?_);replace hB:=hB.tr1 hs lo2;replace hb2:=hq;refine zn4 ?_;refine x5 (.inl rfl) rfl (zy U37 rfl rfl hb2.range0 zq) ?_;exact⟨by rw [hF];rfl,hB⟩
 have c14:(twk t 1 0 0).2.1=0:=Classical.not_not.1 c14;obtain⟨v,rfl,hok,_,hv2⟩:=EQ t 1 0 0 c14;have hF:=tmF_ok c14;refine zn6 ?_;refine zV HK (Lq _ v (Nat.lt_succ_self _) [] A B none c m 0 _ (hS.mono hB) (hT.mono hB) (CtxIn.nil _) (Nat.le_refl _) (by simp only [List.length_nil];omega) hok) rfl (fun e' w11 hr=>?_);obtain⟨⟨s3,A3,n3,c3,rfl,_⟩,hs⟩:=hr;replace hs:=sB hs;replace hB:=hB.tr0 hs;replace hb1:=hb1.tr0 hs;replace hb2:=hb2.tr0 hs;replace hb3:=hb3.tr0 hs;replace hb4:=hb4.tr0 hs;replace hb5:=hb5.tr0 hs;refine⟨_,rfl,?_⟩;refine wmT rfl (wl (jv (v:= .agg _) rfl rfl) (wl (jv (v:= .bool _) rfl rfl) ?_));refine xV (cs:=#[.string ⟨#[]⟩,.slice none 0 0]) Vx rfl (fun _=>rfl) (fun _=>rfl) xy rfl zK (fun b6 w13 hb6 hs hr=>?_);replace hB:=hB.tr0 hs;replace hb2:=hb2.tr0 hs;refine zn9 ?_;refine j7 rfl (fun c22=>?_) (fun c22=>?_)
 ·rw [if_neg (by simpa using c22)] at hF;refine zn2 ?_;refine wl (yz (v0:= .int _ _) (v1:= .int _ _) (fun v0 v1=>#[v0,v1]) rfl rfl kR) ?_;refine zk hb2 rfl rfl zq rfl zK (fun w14 hq hs=>?_);replace hB:=hB.tr1 hs lo2;replace hb2:=hq;refine zn4 ?_;refine x5 (.inl rfl) rfl (zy U37 rfl rfl hb2.range0 zq) ?_;exact⟨by rw [hF];rfl,hB⟩
 rw [if_pos (by simpa using c22)] at hF;refine zn4 ?_;refine wl (uw (vs:=#[]) (cs:=#[.int .i64 0,.int .i64 0]) (by simp) kR) ?_;refine zk hb2 rfl rfl zq rfl zK (fun w15 hq hs=>?_);replace hB:=hB.tr1 hs lo2;replace hb2:=hq;refine zn3 ?_;refine x5 (.inl rfl) rfl (zy U37 rfl rfl hb2.range0 zq) ?_;exact⟨by rw [hF];rfl,hB⟩
end Go.Proofs.YtdkfnakncaggoaaGreatDoor
namespace Go.Proofs.YtdkfnakncaggoaaGreatDoor
open Go.RowKit
theorem r_cvU {P:Program} {n:Nat} {f:Fr} {w:World} {dst:Option Tmp} {gd:Option (Nat×Bool)} {ty:TypeId} {pos:String} {af:Array Edge} {x:Operand} {k':IntKind} {a:Int} {t t':TypeId} {dd:TypeDesc} (hs:P.underlying t=some dd) (hd:P.underlying t'=some (.int .u64)) (hx:ev n f x= .int k' a) (ha:0≤a∧a≤18446744073709551615):
    RV P n f w ⟨dst,.convert t t' x,ty,pos,af,gd⟩ (.int .u64 a) w:=by
  have:=IntWalk.u64_in a ha;simp [RV,execOp,hx,convert,run_underlying hs,run_underlying hd,Conv.intToInt,this]
def N4 (a b:Int):Int:=if a < b then -1 else if b < a then 1 else 0
theorem cmpI_lt {a b:Int}:N4 a b < 0 ↔ a < b:=by unfold N4;split <;> (try split) <;> omega
theorem HV {a b:Int}:N4 a b=0 ↔ a=b:=by unfold N4;split <;> (try split) <;> omega
theorem fn109:zQ Tryz.prog 109=true:=by kernel_rfl
theorem fn54:zQ Tryz.prog 54=true:=by kernel_rfl
theorem fn74:zQ Tryz.prog 74=true:=by kernel_rfl
theorem oZ:(Tryz.prog.info? 103).map (·.size)=some 2:=by kernel_rfl
theorem H9 (a:Int) (w:World):Calls Tryz.prog 74 #[.int .i64 a] w fun e w'=>e= .returned (.bool false)∧Bel w w':=by
 refine enter Tryz.func74 Tryz.ntmps74 rfl (Nat.le_of_ble_eq_true rfl) ?_;have hB:Bel w w:=Below.refl _ _;refine Zk ?_;exact⟨jK (decide_eq_false (fun h=>h rfl)).symm,hB⟩
theorem Y0 (a b:Int) (w:World):Calls Tryz.prog 54 #[.int .i64 a,.int .i64 b] w fun e w'=>e= .returned (.int .i64 (N4 a b))∧Bel w w':=by
 refine enter Tryz.func54 Tryz.ntmps54 rfl (Nat.le_of_ble_eq_true rfl) ?_;have hB:Bel w w:=Below.refl _ _;refine zn8 ?_;refine zV fn74 (H9 _ _) rfl (fun e' w1 hr=>?_);obtain⟨rfl,hs⟩:=hr;replace hs:=sB hs;replace hB:=hB.tr0 hs;refine⟨_,rfl,?_⟩;refine zn6 ?_;refine zV fn74 (H9 _ _) rfl (fun e' w2 hr=>?_);obtain⟨rfl,hs⟩:=hr;replace hs:=sB hs;replace hB:=hB.tr0 hs;refine⟨_,rfl,?_⟩;refine zn9 ?_;refine j7 rfl (fun c11=>?_) (fun c11=>?_)
 ·exact absurd c11 dE
 refine zn8 ?_;refine j7 rfl (fun c13=>?_) (fun c13=>?_)
 ·exact absurd c13 dE
 refine yq ?_;refine zw rfl (fun c16=>?_) (fun c16=>?_)
 ·refine zn8 ?_;exact⟨uQ (by unfold N4;rw [if_pos c16]),hB⟩
 refine yq ?_;refine zw rfl (fun c19=>?_) (fun c19=>?_)
 ·refine zn8 ?_;exact⟨uQ (by unfold N4;rw [if_neg c16];exact if_pos c19),hB⟩
 refine zn9 ?_;exact⟨uQ (by unfold N4;rw [if_neg c16];exact if_neg c19),hB⟩
theorem WZ (a b f:Int) (w:World):Calls Tryz.prog 109 #[.agg #[.int .i64 a,.int .i64 b],.int .i64 f] w fun e w'=>e= .returned (.int .i64 (N4 a f))∧Bel w w':=by
 refine enter Tryz.func109 Tryz.ntmps109 rfl (Nat.le_of_ble_eq_true rfl) ?_;have hB:Bel w w:=Below.refl _ _;refine zn2 ?_;refine qW (v:= .agg #[_,_]) (cs:=#[_,_]) rfl rfl (fun b2 w1 hb2 hs hr=>?_);replace hB:=hB.tr0 hs;refine zn8 ?_;refine zV fn54 (Y0 _ _ _) rfl (fun e' w2 hr=>?_);obtain⟨rfl,hs⟩:=hr;replace hs:=sB hs;replace hB:=hB.tr0 hs;refine⟨_,rfl,?_⟩;refine zn5 ?_;exact⟨rfl,hB⟩
theorem bsf_any (A:Option Addr) (c:Nat) (xs:List (Int×Int)) (f:Int) (w:World) (hX:LinksIn w A xs) (hl:xs.length≤1000) (hmono:∀ i j (hi:i < xs.length) (hj:j < xs.length),i≤j→(xs[i]).1≤(xs[j]).1):Calls Tryz.prog 108 #[.slice A xs.length c,.int .i64 f,.func (.func 109) #[] #[]] w fun e w'=>(∃ (i:Nat) (b:Bool),i≤xs.length∧e= .returned (.tuple #[.int .i64 i,.bool b])∧(∀ j (hj:j < xs.length),j < i→(xs[j]).1 < f)∧(∀ j (hj:j < xs.length),i≤j→f≤(xs[j]).1)∧(b=true ↔ ∃ h:i < xs.length,(xs[i]).1=f))∧Bel w w':=by
 refine enter Tryz.func108 Tryz.ntmps108 rfl (Nat.le_of_ble_eq_true rfl) ?_;have hB:Bel w w:=Below.refl _ _;refine zn22 ?_;refine q8 [9,10,11,15,16,17,18,19,20,21,22,23,24,25,26,27,28,29,30,31,32,33,34] (fun m g w'=>∃ i j:Nat,i≤j∧j≤xs.length∧m=j - i∧g 9= .int .i64 i∧g 10= .int .i64 j∧Bel w w'∧(∀ x (hx:x < xs.length),x < i→(xs[x]).1 < f)∧(∀ x (hx:x < xs.length),j≤x→f≤(xs[x]).1)) (xs.length) ?_ (fun m g3 w1 hI=>?_)
 ·exact⟨0,xs.length,Nat.zero_le _,Nat.le_refl _,rfl,rfl,rfl,hB,fun x _ h=>by omega,fun x h1 h2=>by omega⟩
 obtain⟨i,j,hij,hj,hm,h9,h10,hB,hlo,hhi⟩:=hI;refine zJ 9 (.int .i64 i) h9 nu (zJ 10 (.int .i64 j) h10 nu (zn8 ?_));refine zw rfl (fun c17=>?_) (fun c17=>?_)
 ·obtain⟨h,hh⟩:∃ h,h=(i + j) / 2:=⟨_,rfl⟩
  have hhl:h < xs.length:=by omega
  obtain⟨lb,lof,rfl,hlb,hlr⟩:=hX.at_ hB hhl;refine zn7 ?_;refine wl (kK (c:=((i + j:Nat):Int)) rfl rfl om om) (wl (r_cvU U3 Tryz.underlying174 rfl om) (wl (H3 (b:=1) (c:=h) rfl rfl om (by rw [hh,Nat.shiftRight_eq_div_pow])) (wl (MJ Tryz.underlying174 U3 rfl om) (zn9 ?_))));refine wl (zW X3 rfl rfl hlr oZ) (wmI rfl ?_);refine xJ rfl fn109 (WZ _ _ f _) rfl rfl (fun e' w2 hr=>?_);obtain⟨rfl,hs⟩:=hr;replace hB:=hB.tr0 (sB hs);refine⟨_,rfl,?_⟩;refine zn3 ?_;refine zw rfl (fun c31=>?_) (fun c31=>?_)
  ·have hlt:=cmpI_lt.1 c31;obtain⟨i2,hi2⟩:∃ i2,i2=h + 1:=⟨_,rfl⟩
   obtain⟨j2,hj2⟩:∃ j2,j2=j:=⟨_,rfl⟩
   have hlo2:∀ x (hx:x < xs.length),x < i2→(xs[x]).1 < f:=fun x hx hxi=>by
     by_cases e:x=h
     · subst e;exact hlt
     · have hsx:(xs[x]).1≤(xs[h]).1:=hmono x h hx hhl om
       omega
   have hhi2:∀ x (hx:x < xs.length),j2≤x→f≤(xs[x]).1:=fun x hx hxj=>hhi x hx om
   refine zn6 ?_;refine xv (j2 - i2) om agA ?_;exact⟨i2,j2,by omega,by omega,rfl,by subst hi2;rfl,by subst hj2;rfl,hB,hlo2,hhi2⟩
  have hge:¬(xs[h]).1 < f:=fun h=>c31 (cmpI_lt.2 h)
  obtain⟨i2,hi2⟩:∃ i2,i2=i:=⟨_,rfl⟩
  obtain⟨j2,hj2⟩:∃ j2,j2=h:=⟨_,rfl⟩
  have hlo2:∀ x (hx:x < xs.length),x < i2→(xs[x]).1 < f:=fun x hx hxi=>hlo x hx om
  have hhi2:∀ x (hx:x < xs.length),j2≤x→f≤(xs[x]).1:=fun x hx hxj=>by
    have hsx:(xs[h]).1≤(xs[x]).1:=hmono h x hhl hx om;omega
  refine zn5 ?_;refine xv (j2 - i2) om agA ?_;exact⟨i2,j2,by omega,by omega,rfl,by subst hi2;rfl,by subst hj2;rfl,hB,hlo2,hhi2⟩
 have hije:i=j:=by omega
 subst hije;refine yj ?_;refine zj 39 rfl (fun g39=>?_) (fun g39=>?_)
 ·refine zn6 ?_;have hiN:i < xs.length:=by omega
  obtain⟨lb,lof,rfl,hlb,hlr⟩:=hX.at_ hB hiN;refine zn3 ?_;refine wl (zW X3 rfl rfl hlr oZ) (zn3 ?_);refine xJ rfl fn109 (WZ _ _ f _) rfl rfl (fun e' w3 hr=>?_);obtain⟨rfl,hs⟩:=hr;replace hB:=hB.tr0 (sB hs);refine⟨_,rfl,?_⟩;refine zn8 ?_;refine X0 (.inl rfl) rfl rfl rfl ?_
  first
    | exact⟨⟨i,false,by omega,rfl,hlo,hhi,⟨fun h=>(Bool.noConfusion h),fun hh=>absurd hh.1 om⟩⟩,hB⟩
    | exact⟨⟨i,decide (N4 (xs[i]'hiN).1 f=0),by omega,rfl,hlo,hhi,by rw [decide_eq_true_iff,HV];exact⟨fun h=>⟨hiN,h⟩,fun⟨_,h⟩=>h⟩⟩,hB⟩
 refine oY ?_;refine X0 (.inl rfl) rfl rfl rfl ?_
 first
   | exact⟨⟨i,false,by omega,rfl,hlo,hhi,⟨fun h=>(Bool.noConfusion h),fun hh=>absurd hh.1 om⟩⟩,hB⟩
   | exact⟨⟨i,decide (N4 (xs[i]'hiN).1 f=0),by omega,rfl,hlo,hhi,by rw [decide_eq_true_iff,HV];exact⟨fun h=>⟨hiN,h⟩,fun⟨_,h⟩=>h⟩⟩,hB⟩
end Go.Proofs.YtdkfnakncaggoaaGreatDoor
namespace Go.Proofs.YtdkfnakncaggoaaGreatDoor
open Go.RowKit
theorem fn108:zQ Tryz.prog 108=true:=by kernel_rfl
theorem V5:(Tryz.prog.info? 100).map (·.size)=some 2:=by kernel_rfl
theorem Tk:(Tryz.prog.info? 103).map (·.zero)=some (some (.agg #[.int .i64 0,.int .i64 0])):=by kernel_rfl
theorem R9 (G:Option Addr) (cg nf:Nat) (gr:List Nd) (i:Nat) (f:Int) (w:World) (hG:NodesIn w G gr) (hi:i < gr.length) (hl:yZ nf gr.length (-1) (gr[i]'hi).ln=0) (hw:(gr[i]'hi).ln.length≤1000):Calls Tryz.prog 85 #[.agg #[.slice G gr.length cg],.int .i64 i,.int .i64 f] w fun e w'=>e= .returned (.int .i64 (tgt (gr[i]'hi).ln f))∧Bel w w':=by
 obtain⟨nb,no,LA,lc,rfl,hnb,hnr,hln⟩:=hG.at_ (Below.refl _ _:Bel w w) hi;have hso:=(KJ hl).2;refine enter Tryz.func85 Tryz.ntmps85 rfl (Nat.le_of_ble_eq_true rfl) ?_;have hB:Bel w w:=Below.refl _ _;refine zn2 ?_;refine qW (v:= .agg #[_]) (cs:=#[_]) rfl rfl (fun b3 w1 hb3 hs hr=>?_);replace hB:=hB.tr0 hs;refine zn8 ?_;refine wl (yQ (i:=i) U28 V5 rfl rfl hi rfl) (zn1 ?_);refine wl (qk (v:= .slice _ _ _) U98 rfl rfl (hB.cell hnb (hnr 1 _ rfl))) (wmI rfl ?_)
 refine zV fn108 (bsf_any LA lc (gr[i]'hi).ln f _ (hln.mono hB) hw (fun x y hx hy hxy=>by
       by_cases e:x=y
       · subst e;exact Int.le_refl _
       · exact Int.le_of_lt (hso x y hx hy om))) rfl (fun e' w2 hr=>?_)
 obtain⟨⟨ix,b,hix,rfl,hlo,hhi,hbt⟩,hs⟩:=hr;replace hs:=sB hs;replace hB:=hB.tr0 hs;replace hb3:=hb3.tr0 hs;obtain⟨hy,hn⟩:=tgt_bs hl hlo hhi;refine⟨_,rfl,?_⟩;refine wmT rfl (wl (jv (v:= .int _ _) rfl rfl) (wl (jv (v:= .bool _) rfl rfl) (vx ?_)));refine j7 rfl (fun c21=>?_) (fun c21=>?_)
 ·have hbf:¬b=true:=by simpa using c21
  have hno:=hn (fun h=>hbf (hbt.2 h));refine zn8 ?_;exact⟨uQ hno,hB⟩
 have hbt2:b=true:=by simpa using c21
 obtain⟨hxl,hxe⟩:=hbt.1 hbt2;have hyes:=hy hxl hxe;obtain⟨lb,lof,rfl,hlb,hlr⟩:=hln.at_ hB hxl;refine zn7 ?_;refine wl (yQ (i:=i) U28 V5 rfl rfl hi rfl) (zn1 ?_);refine wl (qk (v:= .slice _ _ _) U98 rfl rfl (hB.cell hnb (hnr 1 _ rfl))) (zn3 ?_);refine wl (qk (v:= .int _ _) U3 rfl rfl (hlr 1 _ rfl)) (zn5 ?_);exact⟨uQ hyes,hB⟩
theorem BV (G:Option Addr) (cg:Nat) (gr:List Nd) (i:Nat) (f:Int) (w:World) (hG:NodesIn w G gr) (hi:i < gr.length):Calls Tryz.prog 50 #[.agg #[.slice G gr.length cg],.int .i64 i,.int .i64 f] w fun e w'=>e= .returned (.int .i64 (tgt (gr[i]'hi).ln f))∧Bel w w':=by
 obtain⟨nb,no,LA,lc,rfl,hnb,hnr,hln⟩:=hG.at_ (Below.refl _ _:Bel w w) hi;have hmx:=hln.1;unfold yJ at hmx;refine enter Tryz.func50 Tryz.ntmps50 rfl (Nat.le_of_ble_eq_true rfl) ?_;have hB:Bel w w:=Below.refl _ _;refine zn2 ?_;refine qW (v:= .agg #[_]) (cs:=#[_]) rfl rfl (fun b3 w1 hb3 hs hr=>?_);replace hB:=hB.tr0 hs;refine zn9 ?_;refine wl (yQ (i:=i) U28 V5 rfl rfl hi rfl) (zn1 ?_);refine wl (qk (v:= .slice _ _ _) U98 rfl rfl (hB.cell hnb (hnr 1 _ rfl))) (zn5 ?_);refine q8 [6,8,16,17,18,19,20,21,22,23,24,25,26] (fun m g w'=>∃ k:Nat,k≤(gr[i]'hi).ln.length∧m=(gr[i]'hi).ln.length - k∧g 16= .int .i64 k∧Bel w w'∧(∀ j (hj:j < (gr[i]'hi).ln.length),j < k→¬((gr[i]'hi).ln[j]).1=f)) ((gr[i]'hi).ln.length) ?_ (fun m g2 w2 hI=>?_)
 ·exact⟨0,Nat.zero_le _,rfl,rfl,hB,fun j _ h=>by omega⟩
 obtain⟨k,hk,hm,h16,hB,hno⟩:=hI;refine zJ 16 (.int .i64 k) h16 nu (zn6 ?_);refine zw rfl (fun c17=>?_) (fun c17=>?_)
 ·have hkl:k < (gr[i]'hi).ln.length:=by omega
  obtain⟨lb,lof,rfl,hlb,hlr⟩:=hln.at_ hB hkl;refine zn7 ?_;refine wl (zW X3 rfl rfl hlr oZ) ?_;refine xV (cs:=#[.int .i64 0,.int .i64 0]) Tk rfl (fun _=>rfl) (fun _=>rfl) oZ rfl zK (fun b8 w4 hb8 hs hr=>?_);replace hB:=hB.tr0 hs;refine yq ?_;refine zw rfl (fun c23=>?_) (fun c23=>?_)
  ·refine oY ?_;exact⟨uQ (R6 hkl c23 (fun j hj h=>hno j hj h)),hB⟩
  refine zn7 ?_;refine xv ((gr[i]'hi).ln.length - (k + 1)) om agA ?_
  exact⟨k + 1,by omega,rfl,rfl,hB,fun j hj h=>by
    by_cases e:j=k
    · subst e;exact c23
    · exact hno j hj om⟩
 have hall:tgt (gr[i]'hi).ln f= -1:=R5 (fun j hj=>hno j hj om);refine yj ?_;exact⟨uQ hall,hB⟩
end Go.Proofs.YtdkfnakncaggoaaGreatDoor
namespace Go.Proofs.YtdkfnakncaggoaaGreatDoor
open Go.RowKit
theorem oW {a b:Int} (h:b=a):Ending.returned (.int .i64 a)= .returned (.int .i64 b):=by rw [h]
theorem ret_b {a b:Bool} (h:b=a):Ending.returned (.bool a)= .returned (.bool b):=by rw [h]
theorem fn42:zQ Tryz.prog 42=true:=by kernel_rfl
theorem fn81:zQ Tryz.prog 81=true:=by kernel_rfl
theorem fn82:zQ Tryz.prog 82=true:=by kernel_rfl
theorem fn83:zQ Tryz.prog 83=true:=by kernel_rfl
theorem fn85:zQ Tryz.prog 85=true:=by kernel_rfl
theorem RY (G:Option Addr) (cg nf:Nat) (gr:List Nd) (k:Int) (w:World) (hG:NodesIn w G gr) (h0:0 < gr.length) (hl:yZ nf gr.length (-1) (gr[0]'h0).ln=0) (hw:(gr[0]'h0).ln.length≤1000):Calls Tryz.prog 81 #[.agg #[.slice G (gr).length cg],.int .i64 k] w fun e w'=>e= .returned (.bool (oQ gr k))∧Bel w w':=by
 refine enter Tryz.func81 Tryz.ntmps81 rfl (Nat.le_of_ble_eq_true rfl) ?_;have hB:Bel w w:=Below.refl _ _;refine zn2 ?_;refine qW (v:= .agg #[_]) (cs:=#[_]) rfl rfl (fun b2 w1 hb2 hs hr=>?_);replace hB:=hB.tr0 hs;refine yq ?_;refine q8 [4,5,6,7,8,9,10,11,12,13,14,15,16,17] (fun m g w'=>∃ j:Nat,j≤4∧m=4 - j∧g 6= .int .i64 j∧Bel w w'∧Blk w' b2 30 #[.slice G (gr).length cg]∧∀ f,f < j→plN gr k f=true) (4) ?_ (fun m g2 w2 hI=>?_)
 ·exact⟨0,by omega,rfl,rfl,hB,hb2,fun f hf=>by omega⟩
 obtain⟨j,hj,hm,h6,hB,hb2,hall⟩:=hI;refine zJ 6 (.int .i64 j) h6 nu (zn6 ?_);refine zw rfl (fun c7=>?_) (fun c7=>?_)
 ·refine oY ?_;refine zV fn85 (R9 G cg nf gr 0 ((j:Nat):Int) _ (hG.mono hB) h0 hl hw) rfl (fun e' w3 hr=>?_);obtain⟨rfl,hs⟩:=hr;replace hs:=sB hs;replace hB:=hB.tr0 hs;replace hb2:=hb2.tr0 hs;refine⟨_,rfl,?_⟩;refine zn4 ?_;refine wl (O8 U4 rfl rfl) (zZ (e_S ?_));refine j7 rfl (fun c16=>?_) (fun c16=>?_)
  ·have hpl:plN gr k j=false:=by
     have h:=c16;rw [Bool.not_eq_true'] at h;rw [OW h0];exact h
   refine yj ?_;exact⟨ret_b (pl_no om hpl),hB⟩
  have hpl:plN gr k j=true:=by
    have h:=c16;rw [Bool.not_eq_false'] at h;rw [OW h0];exact h
  refine zn7 ?_;refine xv (4 - (j + 1)) om agA ?_
  exact⟨j + 1,by omega,rfl,rfl,hB,hb2,fun f hf=>by
    by_cases e:f=j
    · rw [e];exact hpl
    · exact hall f om⟩
 refine yj ?_;exact⟨ret_b (pl_yes (fun f hf=>hall f om)),hB⟩
theorem entry_any (A B G SA BA:Option Addr) (c d cg cs mB bu bd:Nat) (l:List Ty) (fs:List Ft) (x:Lx) (w:World) (hU:U8In w) (hI:TableIn w l bu bd) (h60:l.length≤60) (hF:FeatsIn w B fs) (hfo:FOk l.length fs) (hG:NodesIn w G x.gr) (hS:SimsIn w SA x.mean.type.args) (hT:TmsIn w BA x.mean.args) (hsz:x.word.size < 9223372036854775807):Calls Tryz.prog 64 #[.agg #[.slice A l.length c,.slice B fs.length d],VQ l.length bu bd,.agg #[.string (x).word,.slice G (x).gr.length cg,.int .i64 (x).wt,.int .i64 ((x).mean).kind,.string ((x).mean).name,.int .i64 ((x).mean).index,.string ((x).mean).type.base,.slice SA ((x).mean).type.args.length cs,.slice BA ((x).mean).args.length mB]] w fun e w'=>e= .returned (.int .i64 (Iv l fs x))∧Bel w w':=by
 refine enter Tryz.func64 Tryz.ntmps64 rfl (Nat.le_of_ble_eq_true rfl) ?_;have hB:Bel w w:=Below.refl _ _;refine zn2 ?_;refine qW (v:= .agg #[_,_]) (cs:=#[_,_]) rfl rfl (fun b3 w1 hb3 hs hr=>?_);replace hB:=hB.tr0 hs;refine qW (v:= .agg #[_,_]) (cs:=#[_,_]) rfl rfl (fun b4 w2 hb4 hs hr=>?_);replace hB:=hB.tr0 hs;replace hb3:=hb3.tr0 hs;refine qW (v:= .agg #[_,_,_,_,_,_,_,_,_]) (cs:=#[_,_,_,_,_,_,_,_,_]) rfl rfl (fun b5 w3 hb5 hs hr=>?_);replace hB:=hB.tr0 hs;replace hb3:=hb3.tr0 hs;replace hb4:=hb4.tr0 hs;refine zn8 ?_;refine zV fn83 (word_p x.word _ (hU.mono hB) hsz) rfl (fun e' w4 hr=>?_);obtain⟨rfl,hs⟩:=hr;replace hs:=sB hs;replace hB:=hB.tr0 hs;replace hb3:=hb3.tr0 hs;replace hb4:=hb4.tr0 hs;replace hb5:=hb5.tr0 hs;refine⟨_,rfl,?_⟩;refine zn3 ?_;refine j7 rfl (fun c11=>?_) (fun c11=>?_)
 ·have hwd:jz x.word=false:=by simpa using c11
  refine zn8 ?_;exact⟨oW (Dk hwd),hB⟩
 have hwd:jz x.word=true:=by simpa using c11
 refine zn4 ?_;refine x7 [12,13,14,15,16,17,18,19] 19 (.bool (decide (x.wt < 0∨1000000 < x.wt))) nu ?_ (fun gq=>?_)
 ·refine zn5 ?_;refine zj 15 rfl (fun g15=>?_) (fun g15=>?_)
  ·refine zn4 ?_;refine zZ (e_R ⟨rfl,agA,?_⟩);exact clA
  refine zn7 ?_;refine zZ (e_R ⟨rfl,agA,?_⟩);exact clA
 refine e_S ?_;refine zw rfl (fun c19=>?_) (fun c19=>?_)
 ·refine zn8 ?_;exact⟨oW (F6 hwd c19),hB⟩
 refine zn8 ?_;refine wl (zW U30 rfl rfl (hb5.sub (n:=1) (xs:=[_]) rfl) EW) ?_;refine zV fn42 (V3 A B G c d cg bu bd l fs x.gr _ (hI.mono hB) h60 (hF.mono hB) (hG.mono hB) hfo) rfl (fun e' w5 hr=>?_);obtain⟨rfl,hs⟩:=hr;replace hs:=sB hs;replace hB:=hB.tr0 hs;replace hb3:=hb3.tr0 hs;replace hb4:=hb4.tr0 hs;replace hb5:=hb5.tr0 hs;refine⟨_,rfl,?_⟩;refine xV (cs:=#[.int .i64 0,.int .i64 0]) zY rfl (fun _=>rfl) (fun _=>rfl) zq rfl zK (fun b7 w7 hb7 hs hr=>?_);replace hB:=hB.tr0 hs;replace hb5:=hb5.tr0 hs;refine zn9 ?_;refine zw rfl (fun c27=>?_) (fun c27=>?_)
 ·refine yq ?_;exact⟨oW (lx_gr hwd c19 c27),hB⟩
 have hin:=Decidable.not_not.1 c27;refine zn5 ?_;refine wl (zW U55 rfl rfl (hb5.sub (n:=6) (xs:=[_,_,_,_,_,_]) rfl) QK) ?_;refine zV fn82 (CV SA BA cs mB x.mean _ (hS.mono hB) (hT.mono hB)) rfl (fun e' w8 hr=>?_);obtain⟨rfl,hs⟩:=hr;replace hs:=sB hs;replace hB:=hB.tr0 hs;refine⟨_,rfl,?_⟩;refine wl (E3 (v:= .int _ _) U37 rfl U3 rfl rfl rfl) (zn5 ?_);exact⟨oW (lx_ok hwd c19 hin),hB⟩
theorem rule_any (A B G SA BA:Option Addr) (c d cg cs mB bu bd:Nat) (l:List Ty) (fs:List Ft) (r:Rl) (w:World) (hI:TableIn w l bu bd) (h60:l.length≤60) (hF:FeatsIn w B fs) (hfo:FOk l.length fs) (h40:fs.length≤40) (hG:NodesIn w G r.gr) (hS:SimsIn w SA r.mean.type.args) (hT:TmsIn w BA r.mean.args):Calls Tryz.prog 63 #[.agg #[.slice A l.length c,.slice B fs.length d],VQ l.length bu bd,.agg #[.string (r).name,.slice G (r).gr.length cg,.int .i64 (r).kids,.int .i64 (r).wt,.int .i64 ((r).mean).kind,.string ((r).mean).name,.int .i64 ((r).mean).index,.string ((r).mean).type.base,.slice SA ((r).mean).type.args.length cs,.slice BA ((r).mean).args.length mB]] w fun e w'=>e= .returned (.int .i64 (QQ l fs r))∧Bel w w':=by
 refine enter Tryz.func63 Tryz.ntmps63 rfl (Nat.le_of_ble_eq_true rfl) ?_;have hB:Bel w w:=Below.refl _ _;refine zn2 ?_;refine qW (v:= .agg #[_,_]) (cs:=#[_,_]) rfl rfl (fun b3 w1 hb3 hs hr=>?_);replace hB:=hB.tr0 hs;refine qW (v:= .agg #[_,_]) (cs:=#[_,_]) rfl rfl (fun b4 w2 hb4 hs hr=>?_);replace hB:=hB.tr0 hs;replace hb3:=hb3.tr0 hs;refine qW (v:= .agg #[_,_,_,_,_,_,_,_,_,_]) (cs:=#[_,_,_,_,_,_,_,_,_,_]) rfl rfl (fun b5 w3 hb5 hs hr=>?_);replace hB:=hB.tr0 hs;replace hb3:=hb3.tr0 hs;replace hb4:=hb4.tr0 hs;refine zn5 ?_;refine x7 [8,9,10,11,12,13,14,15,16,17,18,19,20,21,22,23,24,25] 25 (.bool (decide (r.kids < 1∨3 < r.kids∨r.wt < 0∨1000000 < r.wt))) nu ?_ (fun gq=>?_)
 ·refine zn5 ?_;refine zj 11 rfl (fun g11=>?_) (fun g11=>?_)
  ·refine oY ?_;refine zZ (e_R ⟨rfl,agA,?_⟩);exact clA
  refine zn8 ?_;refine zj 16 rfl (fun g16=>?_) (fun g16=>?_)
  ·refine zn9 ?_;refine zZ (e_R ⟨rfl,agA,?_⟩);exact clA
  refine zn8 ?_;refine zj 21 rfl (fun g21=>?_) (fun g21=>?_)
  ·refine zn4 ?_;refine zZ (e_R ⟨rfl,agA,?_⟩);exact clA
  refine zn7 ?_;refine zZ (e_R ⟨rfl,agA,?_⟩);exact clA
 refine e_S ?_;refine zw rfl (fun c25=>?_) (fun c25=>?_)
 ·refine zn8 ?_;exact⟨oW (RK c25),hB⟩
 refine zn8 ?_;refine wl (zW U30 rfl rfl (hb5.sub (n:=1) (xs:=[_]) rfl) EW) ?_;refine zV fn42 (V3 A B G c d cg bu bd l fs r.gr _ (hI.mono hB) h60 (hF.mono hB) (hG.mono hB) hfo) rfl (fun e' w4 hr=>?_);obtain⟨rfl,hs⟩:=hr;replace hs:=sB hs;replace hB:=hB.tr0 hs;replace hb3:=hb3.tr0 hs;replace hb4:=hb4.tr0 hs;replace hb5:=hb5.tr0 hs;refine⟨_,rfl,?_⟩;refine xV (cs:=#[.int .i64 0,.int .i64 0]) zY rfl (fun _=>rfl) (fun _=>rfl) zq rfl zK (fun b7 w6 hb7 hs hr=>?_);replace hB:=hB.tr0 hs;replace hb5:=hb5.tr0 hs;refine zn9 ?_;refine zw rfl (fun c33=>?_) (fun c33=>?_)
 ·refine yq ?_;exact⟨oW (rl_gr c25 c33),hB⟩
 have hin:=Decidable.not_not.1 c33;have hl0:=M3 hin;have hk0:=DY hl0;have hw0:=hk0.few 0 hk0.pos;refine zn6 ?_;refine wl (zW U30 rfl rfl (hb5.sub (n:=1) (xs:=[_]) rfl) EW) (zn2 ?_);refine zV fn81 (RY G cg fs.length r.gr r.kids _ (hG.mono hB) hk0.pos (loose_ln hl0 0 hk0.pos) om) rfl (fun e' w7 hr=>?_);obtain⟨rfl,hs⟩:=hr;replace hs:=sB hs;replace hB:=hB.tr0 hs;replace hb5:=hb5.tr0 hs;refine⟨_,rfl,?_⟩;refine zn3 ?_;refine j7 rfl (fun c41=>?_) (fun c41=>?_)
 ·have hpl:oQ r.gr r.kids=false:=by simpa using c41
  refine zn8 ?_;exact⟨oW (rl_pl c25 hin hpl),hB⟩
 have hpl:oQ r.gr r.kids=true:=by simpa using c41
 refine zn5 ?_;refine wl (zW U55 rfl rfl (hb5.sub (n:=6) (xs:=[_,_,_,_,_,_]) rfl) QK) ?_;refine zV fn82 (CV SA BA cs mB r.mean _ (hS.mono hB) (hT.mono hB)) rfl (fun e' w8 hr=>?_);obtain⟨rfl,hs⟩:=hr;replace hs:=sB hs;replace hB:=hB.tr0 hs;refine⟨_,rfl,?_⟩;refine wl (E3 (v:= .int _ _) U37 rfl U3 rfl rfl rfl) (zn5 ?_);exact⟨oW (rl_ok c25 hin hpl),hB⟩
theorem kj (a b:Int) (w:World):Calls Tryz.prog 40 #[.int .i64 a,.int .i64 b] w fun e w'=>e= .returned (flV (a,b))∧Bel w w':=by
 refine enter Tryz.func40 Tryz.ntmps40 rfl (Nat.le_of_ble_eq_true rfl) ?_;have hB:Bel w w:=Below.refl _ _;refine zn2 ?_;refine qZ (cs:=#[.int .i64 0,.int .i64 0]) zY rfl (fun b4 w1 hb4 hs hr=>?_);have lo4:=nLT (Bel.size hB) hr;replace hB:=hB.tr0 hs;refine zn6 ?_;refine wl (yz (v0:= .int _ _) (v1:= .int _ _) (fun v0 v1=>#[v0,v1]) rfl rfl kR) ?_;refine zk hb4 rfl rfl zq rfl zK (fun w2 hq hs=>?_);replace hB:=hB.tr1 hs lo4;replace hb4:=hq;refine zn3 ?_;refine x5 (.inl rfl) rfl (zy U37 rfl rfl hb4.range0 zq) ?_;exact⟨qQ rfl,hB⟩
end Go.Proofs.YtdkfnakncaggoaaGreatDoor
