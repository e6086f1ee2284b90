/- What these functions of the program compute, at every world: glosswright/glosswrightlaw4.GrammarCombineIsMonotone. -/
import Derived.Test.YtdgnllfbooklcaaDoorU
import Derived.Test.YtdgnllfbooklcaaDoorName
import Derived.Test.YtdgnllfbooklcaaDoorYMn
namespace Go.Proofs.YtdgnllfbooklcaaDoor
open Go.RowKit
theorem fn5:zZ Tryd.prog 5=true:=by kernel_rfl
theorem fn6:zZ Tryd.prog 6=true:=by kernel_rfl
theorem fn7:zZ Tryd.prog 7=true:=by kernel_rfl
theorem fn8:zZ Tryd.prog 8=true:=by kernel_rfl
theorem fn9:zZ Tryd.prog 9=true:=by kernel_rfl
theorem in30:(Tryd.prog.info? 30).map (fun i=>(i.zero,i.size,i.bytes))=some (some (.agg #[.slice none 0 0]),1,24):=by kernel_rfl
set_option maxRecDepth 100000 in
set_option maxHeartbeats 8000000 in
theorem law38_any (AT AF AR AX AS:Option Addr) (ct cf cr cx cst:Nat) (l:List Ty) (fs:List Ft) (rs:List Rl) (xs:List Lx) (st:List Nd) (ri:Int) {kc cm:Nat} {KA GM:Option Addr} {ks:List (List Nd)} {gm:List Nd} (w:World) (hTab:TabIn w) (hU:U8In w) (hTy:TypesIn w AT l) (hF:FeatsIn w AF fs) (hRu:RulesIn w AR rs) (hLx:LexesIn w AX xs) (hG:NodesIn w AS st) (hK:GrsIn w KA ks) (hkc:ks.length≤kc) (hM:NodesIn w GM gm):Calls Tryd.prog 3 #[.agg #[.slice AT l.length ct,.slice AF fs.length cf,.slice AR rs.length cr,.slice AX xs.length cx,.slice AS st.length cst],.int .i64 ri,.slice KA ks.length kc,.agg #[.slice GM (List.length gm) cm]] w fun e w'=>e= .returned (.bool true)∧Bel w w':=by
 have hrx:=hRu.1;have hkx:=hK.1;unfold j7 at hrx hkx;refine enter Tryd.func3 Tryd.ntmps3 rfl (Nat.le_of_ble_eq_true rfl) ?_;have hB:Bel w w:=Below.refl _ _;refine zn2 ?_;refine xk (v:= .agg #[_,_,_,_,_]) (cs:=#[_,_,_,_,_]) rfl rfl (fun b4 w1 hb4 s1 hr=>?_);have lo4:=nLT (Bel.size hB) hr;refine xk (v:= .agg #[_]) (cs:=#[_]) rfl rfl (fun b7 w2 hb7 s2 hr=>?_);have:=nLL hb4.lt hr;replace hB:=hB.tr0 s1;have lo7:=nLT (Bel.size hB) hr;refine zn5 ?_;refine qz fn5 (small_d _) rfl (fun e' w3 hr=>?_);obtain⟨⟨_,rfl,At1,ct1,Bf1,cf1,br,cells,A1,cap1,AS1,cst1,n1,rfl,lor,hbr,hD⟩,s3⟩:=hr;replace s3:=sB s3;have t1:=hD.now.1;have t2:=hD.now.2.1;have t3:=hD.now.2.2.1.rules hbr dE;have t4:=hD.now.2.2.2.1;have t5:=hD.now.2.2.2.2;obtain⟨lb,lq,G0,c0,G3,c3,G9,c9,rfl,hlb,hr0,hG0,hr3,hG3,hr9,hG9⟩:=small_lex t4;clear hD hbr;obtain⟨wS,hwS⟩:∃ z,z=w3:=⟨_,rfl⟩
 have hBs:Bel wS w3:=by rw [hwS];exact Below.refl _ _
 rw [← hwS] at t1 t2 t3 t4 t5 hlb hr0 hG0 hr3 hG3 hr9 hG9;refine⟨_,rfl,?_⟩;refine yv (cs:=#[.slice none 0 0,.slice none 0 0,.slice none 0 0,.slice none 0 0,.slice none 0 0]) ze32 rfl (fun _=>rfl) (fun _=>rfl) sz32 rfl zJ (fun b9 w5 hb9 s4 hr=>?_);replace hb4:=hb4.tr0 (s2.trans s3);have:=nLL hb4.lt hr;replace hb7:=hb7.tr0 s3;have:=nLL hb7.lt hr;replace hB:=hB.tr0 (s2.trans s3);have lo9:=nLT (Bel.size hB) hr;have lo_hBs_b9:=nLT (Bel.size hBs) hr;refine zn4 ?_;replace hB:=hB.tr0 s4;have hsz:=Bel.size hB;replace hBs:=hBs.tr0 s4;have hszs:=Bel.size hBs;replace hb4:=hb4.tr0 s4;have z4:=hb4.lt;replace hb7:=hb7.tr0 s4;have z7:=hb7.lt;have z9:=hb9.lt;refine yj [10,11,12,27,28,29,30,31,32,33,34,35,36,37,38,39,40,41,42,43] (fun g w'=>g 11= .bool true∧Bel w w'∧Blk w' b4 32 #[.slice AT l.length ct,.slice AF fs.length cf,.slice AR rs.length cr,.slice AX xs.length cx,.slice AS st.length cst]∧Blk w' b7 30 #[.slice GM (List.length gm) cm]) ?_ (fun g2 w6 hI=>?_)
 ·refine OK 19 [28,29,30,31,32,33,34,35,36,37,38,39,40,27,41,42,43,10,12] [15,16] (fun ix=>bif Nat.beq ix 13 then 12 else bif Nat.beq ix 14 then 12 else ix) (fun ix v la ha wv=>match ix with | 0=>v= .agg #[.slice At1 smallT.length ct1,.slice Bf1 smallF.length cf1,.slice (some ⟨br,0,none⟩) smallR.length smallR.length,.slice (some ⟨lb,lq,none⟩) smallX.length cap1,.slice AS1 smallS.length cst1] | 1=>v= .pointer (some ⟨b9,3,none⟩) | 2=>v= .slice (some ⟨lb,lq,none⟩) smallX.length cap1 | 3=>v= .pointer (some ⟨lb,lq + 0 * 9,none⟩) | 4=>v= .pointer (some ⟨lb,lq + 0 * 9 + 1,none⟩) | 5=>v= .agg #[.slice G0 2 c0] | 6=>v= .pointer (some ⟨b9,3,none⟩) | 7=>v= .slice (some ⟨lb,lq,none⟩) smallX.length cap1 | 8=>v= .pointer (some ⟨lb,lq + 3 * 9,none⟩) | 9=>v= .pointer (some ⟨lb,lq + 3 * 9 + 1,none⟩) | 10=>v= .agg #[.slice G3 2 c3] | 11=>∃ b,v= .slice (some ⟨b,0,none⟩) 2 2∧Blk wv b 30 #[.slice G0 2 c0,.slice G3 2 c3] | 12=>∃ AZ cZ,v= .tuple #[.agg #[.slice AZ 2 cZ],.bool true,.agg #[.int .i64 0,.int .i64 0]]∧Kept la ha wv (fun wq=>NodesIn wq AZ gRx) | 13=>∃ AZ cZ,v= .tuple #[.agg #[.slice AZ 2 cZ],.bool true,.agg #[.int .i64 0,.int .i64 0]]∧Kept la ha wv (fun wq=>NodesIn wq AZ gRx) | 14=>∃ AZ cZ,v= .agg #[.slice AZ 2 cZ]∧Kept la ha wv (fun wq=>NodesIn wq AZ gRx) | 15=>v= .bool true | 16=>v= .agg #[.int .i64 0,.int .i64 0] | 17=>∃ b,v= .pointer (some ⟨b,0,none⟩)∧w5.heap.size≤b∧Blk wv b 30 #[.slice none 0 0]∧la≤b∧b < ha | 18=>∃ b,v= .pointer (some ⟨b,0,none⟩)∧w5.heap.size≤b∧Blk wv b 36 #[.int .i64 0,.int .i64 0]∧la≤b∧b < ha | _=>True) kR kR kR kR ?_ ?_ ?_
  ·intro ix v la ha wv wv2 h hle s5
   match ix,h with
   | 0,h=>exact h
   | 1,h=>exact h
   | 2,h=>exact h
   | 3,h=>exact h
   | 4,h=>exact h
   | 5,h=>exact h
   | 6,h=>exact h
   | 7,h=>exact h
   | 8,h=>exact h
   | 9,h=>exact h
   | 10,h=>exact h
   | 11,h=>
    obtain⟨b39,e39,hb39⟩:=(show ∃ b,v= .slice (some ⟨b,0,none⟩) 2 2∧Blk wv b 30 #[.slice G0 2 c0,.slice G3 2 c3] from h)
    exact⟨b39,e39,hb39.tr0 s5⟩
   | 12,h=>
    obtain⟨AZ,cZ,e40,hNZ⟩:=(show ∃ AZ cZ,v= .tuple #[.agg #[.slice AZ 2 cZ],.bool true,.agg #[.int .i64 0,.int .i64 0]]∧Kept la ha wv (fun wq=>NodesIn wq AZ gRx) from h)
    exact⟨AZ,cZ,e40,hNZ.tr0 s5⟩
   | 13,h=>
    obtain⟨AZ7,cZ7,e27,hN7⟩:=(show ∃ AZ cZ,v= .tuple #[.agg #[.slice AZ 2 cZ],.bool true,.agg #[.int .i64 0,.int .i64 0]]∧Kept la ha wv (fun wq=>NodesIn wq AZ gRx) from h)
    exact⟨AZ7,cZ7,e27,hN7.tr0 s5⟩
   | 14,h=>
    obtain⟨AZ,cZ,e41,hNZ⟩:=(show ∃ AZ cZ,v= .agg #[.slice AZ 2 cZ]∧Kept la ha wv (fun wq=>NodesIn wq AZ gRx) from h)
    exact⟨AZ,cZ,e41,hNZ.tr0 s5⟩
   | 15,h=>exact h
   | 16,h=>exact h
   | 17,h=>
    obtain⟨b10,e10,lo10,hb10,la10,ha10⟩:=(show ∃ b,v= .pointer (some ⟨b,0,none⟩)∧w5.heap.size≤b∧Blk wv b 30 #[.slice none 0 0]∧la≤b∧b < ha from h)
    exact⟨b10,e10,lo10,hb10.tr0 s5,la10,ha10⟩
   | 18,h=>
    obtain⟨b12,e12,lo12,hb12,la12,ha12⟩:=(show ∃ b,v= .pointer (some ⟨b,0,none⟩)∧w5.heap.size≤b∧Blk wv b 36 #[.int .i64 0,.int .i64 0]∧la≤b∧b < ha from h)
    exact⟨b12,e12,lo12,hb12.tr0 s5,la12,ha12⟩
   | _ + 19,h=>exact trivial
  ·intro ix o hix hoq gg wx lo hi s6 hd hdis
   match ix,hix,hoq with
   | 0,_,hoq=>
    cases sI hoq;refine gdA ?_;replace hb9:=hb9.tr0 s6;refine qk (qW U32 rfl rfl hb9.range0 sz32) ⟨Same.refl _ _,?_⟩;exact rfl
   | 1,_,hoq=>
    cases sI hoq;refine gdA ?_;refine qk (uK U32 I3 dE rfl rfl rfl) ⟨Same.refl _ _,?_⟩;exact rfl
   | 2,_,hoq=>
    cases sI hoq;have d1:gg 29= .pointer (some ⟨b9,3,none⟩):=(hd 1 (zj kR)).1;have e29:=d1;refine gdA (zz 29 _ e29 nu ?_);replace hb9:=hb9.tr0 s6;refine qk (qY (v:= .slice _ _ _) U27 rfl rfl (hb9.cell rfl)) ⟨Same.refl _ _,?_⟩;exact rfl
   | 3,_,hoq=>
    cases sI hoq;have d2:gg 30= .slice (some ⟨lb,lq,none⟩) smallX.length cap1:=(hd 2 (zj kR)).1;have e30:=d2;refine gdA (zz 30 _ e30 nu ?_);refine qk (yz (i:=0) U27 O2 rfl rfl dE rfl) ⟨Same.refl _ _,?_⟩;exact rfl
   | 4,_,hoq=>
    cases sI hoq;have d3:gg 31= .pointer (some ⟨lb,lq + 0 * 9,none⟩):=(hd 3 (zj kR)).1;have e31:=d3;refine gdA (zz 31 _ e31 nu ?_);refine qk (uK U46 Z6 dE rfl rfl rfl) ⟨Same.refl _ _,?_⟩;exact rfl
   | 5,_,hoq=>
    cases sI hoq;have d4:gg 32= .pointer (some ⟨lb,lq + 0 * 9 + 1,none⟩):=(hd 4 (zj kR)).1;have e32:=d4;refine gdA (zz 32 _ e32 nu ?_);replace hBs:=hBs.tr0 s6;refine qk (qW U30 rfl rfl (hBs.range hlb hr0) Z6) ⟨Same.refl _ _,?_⟩;exact rfl
   | 6,_,hoq=>
    cases sI hoq;refine gdA ?_;refine qk (uK U32 I3 dE rfl rfl rfl) ⟨Same.refl _ _,?_⟩;exact rfl
   | 7,_,hoq=>
    cases sI hoq;have d6:gg 34= .pointer (some ⟨b9,3,none⟩):=(hd 6 (zj kR)).1;have e34:=d6;refine gdA (zz 34 _ e34 nu ?_);replace hb9:=hb9.tr0 s6;refine qk (qY (v:= .slice _ _ _) U27 rfl rfl (hb9.cell rfl)) ⟨Same.refl _ _,?_⟩;exact rfl
   | 8,_,hoq=>
    cases sI hoq;have d7:gg 35= .slice (some ⟨lb,lq,none⟩) smallX.length cap1:=(hd 7 (zj kR)).1;have e35:=d7;refine gdA (zz 35 _ e35 nu ?_);refine qk (yz (i:=3) U27 O2 rfl rfl dE rfl) ⟨Same.refl _ _,?_⟩;exact rfl
   | 9,_,hoq=>
    cases sI hoq;have d8:gg 36= .pointer (some ⟨lb,lq + 3 * 9,none⟩):=(hd 8 (zj kR)).1;have e36:=d8;refine gdA (zz 36 _ e36 nu ?_);refine qk (uK U46 Z6 dE rfl rfl rfl) ⟨Same.refl _ _,?_⟩;exact rfl
   | 10,_,hoq=>
    cases sI hoq;have d9:gg 37= .pointer (some ⟨lb,lq + 3 * 9 + 1,none⟩):=(hd 9 (zj kR)).1;have e37:=d9;refine gdA (zz 37 _ e37 nu ?_);replace hBs:=hBs.tr0 s6;refine qk (qW U30 rfl rfl (hBs.range hlb hr3) Z6) ⟨Same.refl _ _,?_⟩;exact rfl
   | 11,_,hoq=>
    cases sI hoq;have d5:gg 33= .agg #[.slice G0 2 c0]:=(hd 5 (zj kR)).1;have e33:=d5;have d10:gg 38= .agg #[.slice G3 2 c3]:=(hd 10 (zj kR)).1;have e38:=d10;refine gdA (zz 33 _ e33 nu (zz 38 _ e38 nu ?_));refine j5 (fun ops Q K=>?_);refine qJ (cs:=#[_,_]) [(0,.agg _),(1,.agg _)] rfl U33 Z6 Z9 dE dE kR rfl (fun b39 w7 hb39 s7 hr=>?_);exact K _ _ ⟨s7,⟨_,rfl,hb39⟩⟩
   | 12,_,hoq=>
    cases sI hoq;have d0:gg 28= .agg #[.slice At1 smallT.length ct1,.slice Bf1 smallF.length cf1,.slice (some ⟨br,0,none⟩) smallR.length smallR.length,.slice (some ⟨lb,lq,none⟩) smallX.length cap1,.slice AS1 smallS.length cst1]:=(hd 0 (zj kR)).1;have e28:=d0;have d11:∃ b,gg 39= .slice (some ⟨b,0,none⟩) 2 2∧Blk wx b 30 #[.slice G0 2 c0,.slice G3 2 c3]:=(hd 11 (zj kR)).1;obtain⟨b39,e39,hb39⟩:=d11;refine gdA (zz 28 _ e28 nu (zz 39 _ e39 nu ?_));replace hB:=hB.tr0 s6;replace hBs:=hBs.tr0 s6;refine yY fn6 (F9 (hTab.mono hB) (hU.mono hB) (t1.mono hBs) (t2.mono hBs) (t3.mono hBs) (t4.mono hBs) (t5.mono hBs) hb39 (hG0.mono hBs) (hG3.mono hBs)) rfl (fun e' w2 hr=>?_);obtain⟨⟨A9,cA9,rfl,hN9⟩,s8⟩:=hr;exact⟨_,rfl,sB s8,⟨A9,cA9,rfl,Q1 hN9⟩⟩
   | 13,_,hoq=>
    cases sI hoq;have d12:∃ AZ cZ,gg 40= .tuple #[.agg #[.slice AZ 2 cZ],.bool true,.agg #[.int .i64 0,.int .i64 0]]∧Kept (lo 12) (hi 12) wx (fun wq=>NodesIn wq AZ gRx):=(hd 12 (zj kR)).1;obtain⟨AZ,cZ,e40,hNZ⟩:=d12;refine gdA (zz 40 _ e40 nu ?_);refine qk (x8 (v:= .tuple _) rfl) ⟨Same.refl _ _,?_⟩;exact⟨_,_,rfl,hNZ⟩
   | 14,_,hoq=>
    cases sI hoq;have d13:∃ AZ cZ,gg 27= .tuple #[.agg #[.slice AZ 2 cZ],.bool true,.agg #[.int .i64 0,.int .i64 0]]∧Kept (lo 12) (hi 12) wx (fun wq=>NodesIn wq AZ gRx):=(hd 13 (zj kR)).1;obtain⟨AZ7,cZ7,e27,hN7⟩:=d13;refine gdA (zz 27 _ e27 nu ?_);refine qk (yZ (v:=_) rfl rfl) ⟨Same.refl _ _,?_⟩;exact⟨_,_,rfl,hN7⟩
   | 15,_,hoq=>
    cases sI hoq;have d13:∃ AZ cZ,gg 27= .tuple #[.agg #[.slice AZ 2 cZ],.bool true,.agg #[.int .i64 0,.int .i64 0]]∧Kept (lo 12) (hi 12) wx (fun wq=>NodesIn wq AZ gRx):=(hd 13 (zj kR)).1;obtain⟨AZ7,cZ7,e27,hN7⟩:=d13;refine gdA (zz 27 _ e27 nu ?_);refine qk (yZ (v:=_) rfl rfl) ⟨Same.refl _ _,?_⟩;exact rfl
   | 16,_,hoq=>
    cases sI hoq;have d13:∃ AZ cZ,gg 27= .tuple #[.agg #[.slice AZ 2 cZ],.bool true,.agg #[.int .i64 0,.int .i64 0]]∧Kept (lo 12) (hi 12) wx (fun wq=>NodesIn wq AZ gRx):=(hd 13 (zj kR)).1;obtain⟨AZ7,cZ7,e27,hN7⟩:=d13;refine gdA (zz 27 _ e27 nu ?_);refine qk (yZ (v:=_) rfl rfl) ⟨Same.refl _ _,?_⟩;exact rfl
   | 17,_,hoq=>
    cases sI hoq;have hs0:=s6;refine gdA ?_;refine j5 (fun ops Q K=>?_);refine qV (cs:=#[.slice none 0 0]) Z9 rfl (fun b10 w8 hb10 s9 hr=>?_);exact K _ _ ⟨s9,⟨_,rfl,nLT hs0.size hr,hb10,hr,hb10.lt⟩⟩
   | 18,_,hoq=>
    cases sI hoq;have hs0:=s6;refine gdA ?_;refine j5 (fun ops Q K=>?_);refine qV (cs:=#[.int .i64 0,.int .i64 0]) x7 rfl (fun b12 w9 hb12 s10 hr=>?_);exact K _ _ ⟨s10,⟨_,rfl,nLT hs0.size hr,hb12,hr,hb12.lt⟩⟩
   | _ + 19,hix,_=>exact absurd hix om
  refine⟨?_,?_,?_,?_,trivial⟩
  ·intro x gg w10 lo hi s11 hR hdis;have d13:∃ AZ cZ,gg 27= .tuple #[.agg #[.slice AZ 2 cZ],.bool true,.agg #[.int .i64 0,.int .i64 0]]∧Kept (lo 12) (hi 12) w10 (fun wq=>NodesIn wq AZ gRx):=(hR 13 dE dE).1;obtain⟨AZ7,cZ7,e27,hN7⟩:=d13;have d14:∃ AZ cZ,gg 41= .agg #[.slice AZ 2 cZ]∧Kept (lo 12) (hi 12) w10 (fun wq=>NodesIn wq AZ gRx):=(hR 14 dE dE).1;obtain⟨AZ,cZ,e41,hNZ⟩:=d14;have d15:gg 42= .bool true:=(hR 15 dE dE).1;have e42:=d15;have d16:gg 43= .agg #[.int .i64 0,.int .i64 0]:=(hR 16 dE dE).1;have e43:=d16;have d17:∃ b,gg 10= .pointer (some ⟨b,0,none⟩)∧w5.heap.size≤b∧Blk w10 b 30 #[.slice none 0 0]∧(lo 17)≤b∧b < (hi 17):=(hR 17 dE dE).1;obtain⟨b10,e10,lo10,hb10,la10,ha10⟩:=d17;have d18:∃ b,gg 12= .pointer (some ⟨b,0,none⟩)∧w5.heap.size≤b∧Blk w10 b 36 #[.int .i64 0,.int .i64 0]∧(lo 18)≤b∧b < (hi 18):=(hR 18 dE dE).1;obtain⟨b12,e12,lo12,hb12,la12,ha12⟩:=d18;have dis_12_17:(hi 12)≤(lo 17)∨(hi 17)≤(lo 12):=hdis 12 17 dE dE dE dE dE;have dis_12_18:(hi 12)≤(lo 18)∨(hi 18)≤(lo 12):=hdis 12 18 dE dE dE dE dE;have ne10:b10≠b12:=fun h=>absurd (vw (h ▸ hb10) hb12) dE
   have:=nLL z4 lo10;have:=nLL z7 lo10;have:=nLL z9 lo10;have:=nLL z4 lo12;have:=nLL z7 lo12;have:=nLL z9 lo12;have lo_hBs_b10:=nLT hszs lo10;have lo_hBs_b12:=nLT hszs lo12;replace lo10:=nLT hsz lo10;replace lo12:=nLT hsz lo12;refine x6 27 (.tuple #[.agg #[.slice AZ7 2 cZ7],.bool true,.agg #[.int .i64 0,.int .i64 0]]) e27 nu (x6 41 (.agg #[.slice AZ 2 cZ]) e41 nu (x6 42 (.bool true) e42 nu (x6 43 (.agg #[.int .i64 0,.int .i64 0]) e43 nu (x6 10 (.pointer (some ⟨b10,0,none⟩)) e10 nu (x6 12 (.pointer (some ⟨b12,0,none⟩)) e12 nu (XZ (k':=3) kR (Kq (listed':=#[true,true,true,true,true,true,true,true,true,true,true,true,true,true,true,true,true,true,true,false,false,false]) kR ?_)))))));refine xq [19] kR rfl ⟨fun o hoq=>?_,trivial⟩;cases sI hoq;refine zk hb10 rfl rfl Z6 rfl zJ (fun w11 hq s12=>?_);replace hb10:=hq;refine zQ (e_A (listed':=#[true,true,true,true,true,true,true,true,true,true,true,true,true,true,true,true,true,true,true,true,false,false]) (by rfl) (V4 20 rfl (fun _=>u7 (v:= .bool _) rfl) ?_));refine xq [21] kR rfl ⟨fun o hoq=>?_,trivial⟩;cases sI hoq;replace hb12:=hb12.tr1 s12 om;refine zk hb12 rfl rfl zq rfl zJ (fun w12 hq s13=>?_);replace hb12:=hq;refine zQ (e_A (listed':=#[true,true,true,true,true,true,true,true,true,true,true,true,true,true,true,true,true,true,true,true,true,true]) (by rfl) (oQ kR ?_));refine e_R ⟨agA,?_⟩;replace hB:=((hB.tr0 s11).tr1 s12 lo10).tr1 s13 lo12;replace hb4:=((hb4.tr0 s11).tr1 s12 om).tr1 s13 om;replace hb7:=((hb7.tr0 s11).tr1 s12 om).tr1 s13 om;exact⟨rfl,hB,hb4,hb7⟩
  ·intro x gg w13 lo hi s14 hR hdis;have d13:∃ AZ cZ,gg 27= .tuple #[.agg #[.slice AZ 2 cZ],.bool true,.agg #[.int .i64 0,.int .i64 0]]∧Kept (lo 12) (hi 12) w13 (fun wq=>NodesIn wq AZ gRx):=(hR 13 dE dE).1;obtain⟨AZ7,cZ7,e27,hN7⟩:=d13;have d14:∃ AZ cZ,gg 41= .agg #[.slice AZ 2 cZ]∧Kept (lo 12) (hi 12) w13 (fun wq=>NodesIn wq AZ gRx):=(hR 14 dE dE).1;obtain⟨AZ,cZ,e41,hNZ⟩:=d14;have d15:gg 42= .bool true:=(hR 15 dE dE).1;have e42:=d15;have d17:∃ b,gg 10= .pointer (some ⟨b,0,none⟩)∧w5.heap.size≤b∧Blk w13 b 30 #[.slice none 0 0]∧(lo 17)≤b∧b < (hi 17):=(hR 17 dE dE).1;obtain⟨b10,e10,lo10,hb10,la10,ha10⟩:=d17;have d18:∃ b,gg 12= .pointer (some ⟨b,0,none⟩)∧w5.heap.size≤b∧Blk w13 b 36 #[.int .i64 0,.int .i64 0]∧(lo 18)≤b∧b < (hi 18):=(hR 18 dE dE).1;obtain⟨b12,e12,lo12,hb12,la12,ha12⟩:=d18;have dis_12_17:(hi 12)≤(lo 17)∨(hi 17)≤(lo 12):=hdis 12 17 dE dE dE dE dE;have dis_12_18:(hi 12)≤(lo 18)∨(hi 18)≤(lo 12):=hdis 12 18 dE dE dE dE dE;have ne10:b10≠b12:=fun h=>absurd (vw (h ▸ hb10) hb12) dE
   have:=nLL z4 lo10;have:=nLL z7 lo10;have:=nLL z9 lo10;have:=nLL z4 lo12;have:=nLL z7 lo12;have:=nLL z9 lo12;have lo_hBs_b10:=nLT hszs lo10;have lo_hBs_b12:=nLT hszs lo12;replace lo10:=nLT hsz lo10;replace lo12:=nLT hsz lo12;refine x6 27 (.tuple #[.agg #[.slice AZ7 2 cZ7],.bool true,.agg #[.int .i64 0,.int .i64 0]]) e27 nu (x6 41 (.agg #[.slice AZ 2 cZ]) e41 nu (x6 42 (.bool true) e42 nu (x6 10 (.pointer (some ⟨b10,0,none⟩)) e10 nu (x6 12 (.pointer (some ⟨b12,0,none⟩)) e12 nu (XZ (k':=4) kR (Kq (listed':=#[true,true,true,true,true,true,true,true,true,true,true,true,true,true,true,true,false,true,true,false,false,false]) kR (V4 16 rfl (fun _=>yZ (v:=_) rfl rfl) ?_)))))));refine xq [19] kR rfl ⟨fun o hoq=>?_,trivial⟩;cases sI hoq;refine zk hb10 rfl rfl Z6 rfl zJ (fun w14 hq s15=>?_);replace hb10:=hq;refine zQ (e_A (listed':=#[true,true,true,true,true,true,true,true,true,true,true,true,true,true,true,true,true,true,true,true,false,false]) (by rfl) (V4 20 rfl (fun _=>u7 (v:= .bool _) rfl) ?_));refine xq [21] kR rfl ⟨fun o hoq=>?_,trivial⟩;cases sI hoq;replace hb12:=hb12.tr1 s15 om;refine zk hb12 rfl rfl zq rfl zJ (fun w15 hq s16=>?_);replace hb12:=hq;refine zQ (e_A (listed':=#[true,true,true,true,true,true,true,true,true,true,true,true,true,true,true,true,true,true,true,true,true,true]) (by rfl) (oQ kR ?_));refine e_R ⟨agA,?_⟩;replace hB:=((hB.tr0 s14).tr1 s15 lo10).tr1 s16 lo12;replace hb4:=((hb4.tr0 s14).tr1 s15 om).tr1 s16 om;replace hb7:=((hb7.tr0 s14).tr1 s15 om).tr1 s16 om;exact⟨rfl,hB,hb4,hb7⟩
  ·intro x gg w16 lo hi s17 hR hdis;have d13:∃ AZ cZ,gg 27= .tuple #[.agg #[.slice AZ 2 cZ],.bool true,.agg #[.int .i64 0,.int .i64 0]]∧Kept (lo 12) (hi 12) w16 (fun wq=>NodesIn wq AZ gRx):=(hR 13 dE dE).1;obtain⟨AZ7,cZ7,e27,hN7⟩:=d13;have d14:∃ AZ cZ,gg 41= .agg #[.slice AZ 2 cZ]∧Kept (lo 12) (hi 12) w16 (fun wq=>NodesIn wq AZ gRx):=(hR 14 dE dE).1;obtain⟨AZ,cZ,e41,hNZ⟩:=d14;have d16:gg 43= .agg #[.int .i64 0,.int .i64 0]:=(hR 16 dE dE).1;have e43:=d16;have d17:∃ b,gg 10= .pointer (some ⟨b,0,none⟩)∧w5.heap.size≤b∧Blk w16 b 30 #[.slice none 0 0]∧(lo 17)≤b∧b < (hi 17):=(hR 17 dE dE).1;obtain⟨b10,e10,lo10,hb10,la10,ha10⟩:=d17;have d18:∃ b,gg 12= .pointer (some ⟨b,0,none⟩)∧w5.heap.size≤b∧Blk w16 b 36 #[.int .i64 0,.int .i64 0]∧(lo 18)≤b∧b < (hi 18):=(hR 18 dE dE).1;obtain⟨b12,e12,lo12,hb12,la12,ha12⟩:=d18;have dis_12_17:(hi 12)≤(lo 17)∨(hi 17)≤(lo 12):=hdis 12 17 dE dE dE dE dE;have dis_12_18:(hi 12)≤(lo 18)∨(hi 18)≤(lo 12):=hdis 12 18 dE dE dE dE dE;have ne10:b10≠b12:=fun h=>absurd (vw (h ▸ hb10) hb12) dE
   have:=nLL z4 lo10;have:=nLL z7 lo10;have:=nLL z9 lo10;have:=nLL z4 lo12;have:=nLL z7 lo12;have:=nLL z9 lo12;have lo_hBs_b10:=nLT hszs lo10;have lo_hBs_b12:=nLT hszs lo12;replace lo10:=nLT hsz lo10;replace lo12:=nLT hsz lo12;refine x6 27 (.tuple #[.agg #[.slice AZ7 2 cZ7],.bool true,.agg #[.int .i64 0,.int .i64 0]]) e27 nu (x6 41 (.agg #[.slice AZ 2 cZ]) e41 nu (x6 43 (.agg #[.int .i64 0,.int .i64 0]) e43 nu (x6 10 (.pointer (some ⟨b10,0,none⟩)) e10 nu (x6 12 (.pointer (some ⟨b12,0,none⟩)) e12 nu (XZ (k':=4) kR (Kq (listed':=#[true,true,true,true,true,true,true,true,true,true,true,true,true,true,true,false,true,true,true,false,false,false]) kR (V4 15 rfl (fun _=>yZ (v:=_) rfl rfl) ?_)))))));refine xq [19] kR rfl ⟨fun o hoq=>?_,trivial⟩;cases sI hoq;refine zk hb10 rfl rfl Z6 rfl zJ (fun w17 hq s18=>?_);replace hb10:=hq;refine zQ (e_A (listed':=#[true,true,true,true,true,true,true,true,true,true,true,true,true,true,true,true,true,true,true,true,false,false]) (by rfl) (V4 20 rfl (fun _=>u7 (v:= .bool _) rfl) ?_));refine xq [21] kR rfl ⟨fun o hoq=>?_,trivial⟩;cases sI hoq;replace hb12:=hb12.tr1 s18 om;refine zk hb12 rfl rfl zq rfl zJ (fun w18 hq s19=>?_);replace hb12:=hq;refine zQ (e_A (listed':=#[true,true,true,true,true,true,true,true,true,true,true,true,true,true,true,true,true,true,true,true,true,true]) (by rfl) (oQ kR ?_));refine e_R ⟨agA,?_⟩;replace hB:=((hB.tr0 s17).tr1 s18 lo10).tr1 s19 lo12;replace hb4:=((hb4.tr0 s17).tr1 s18 om).tr1 s19 om;replace hb7:=((hb7.tr0 s17).tr1 s18 om).tr1 s19 om;exact⟨rfl,hB,hb4,hb7⟩
  intro x gg w19 lo hi s20 hR hdis;have d13:∃ AZ cZ,gg 27= .tuple #[.agg #[.slice AZ 2 cZ],.bool true,.agg #[.int .i64 0,.int .i64 0]]∧Kept (lo 12) (hi 12) w19 (fun wq=>NodesIn wq AZ gRx):=(hR 13 dE dE).1;obtain⟨AZ7,cZ7,e27,hN7⟩:=d13;have d14:∃ AZ cZ,gg 41= .agg #[.slice AZ 2 cZ]∧Kept (lo 12) (hi 12) w19 (fun wq=>NodesIn wq AZ gRx):=(hR 14 dE dE).1;obtain⟨AZ,cZ,e41,hNZ⟩:=d14;have d17:∃ b,gg 10= .pointer (some ⟨b,0,none⟩)∧w5.heap.size≤b∧Blk w19 b 30 #[.slice none 0 0]∧(lo 17)≤b∧b < (hi 17):=(hR 17 dE dE).1;obtain⟨b10,e10,lo10,hb10,la10,ha10⟩:=d17;have d18:∃ b,gg 12= .pointer (some ⟨b,0,none⟩)∧w5.heap.size≤b∧Blk w19 b 36 #[.int .i64 0,.int .i64 0]∧(lo 18)≤b∧b < (hi 18):=(hR 18 dE dE).1;obtain⟨b12,e12,lo12,hb12,la12,ha12⟩:=d18;have dis_12_17:(hi 12)≤(lo 17)∨(hi 17)≤(lo 12):=hdis 12 17 dE dE dE dE dE;have dis_12_18:(hi 12)≤(lo 18)∨(hi 18)≤(lo 12):=hdis 12 18 dE dE dE dE dE;have ne10:b10≠b12:=fun h=>absurd (vw (h ▸ hb10) hb12) dE
  have:=nLL z4 lo10;have:=nLL z7 lo10;have:=nLL z9 lo10;have:=nLL z4 lo12;have:=nLL z7 lo12;have:=nLL z9 lo12;have lo_hBs_b10:=nLT hszs lo10;have lo_hBs_b12:=nLT hszs lo12;replace lo10:=nLT hsz lo10;replace lo12:=nLT hsz lo12;refine x6 27 (.tuple #[.agg #[.slice AZ7 2 cZ7],.bool true,.agg #[.int .i64 0,.int .i64 0]]) e27 nu (x6 41 (.agg #[.slice AZ 2 cZ]) e41 nu (x6 10 (.pointer (some ⟨b10,0,none⟩)) e10 nu (x6 12 (.pointer (some ⟨b12,0,none⟩)) e12 nu (XZ (k':=5) kR (Kq (listed':=#[true,true,true,true,true,true,true,true,true,true,true,true,true,true,true,false,false,true,true,false,false,false]) kR (V4 15 rfl (fun _=>yZ (v:=_) rfl rfl) (V4 16 rfl (fun _=>yZ (v:=_) rfl rfl) ?_)))))));refine xq [19] kR rfl ⟨fun o hoq=>?_,trivial⟩;cases sI hoq;refine zk hb10 rfl rfl Z6 rfl zJ (fun w20 hq s21=>?_);replace hb10:=hq;refine zQ (e_A (listed':=#[true,true,true,true,true,true,true,true,true,true,true,true,true,true,true,true,true,true,true,true,false,false]) (by rfl) (V4 20 rfl (fun _=>u7 (v:= .bool _) rfl) ?_));refine xq [21] kR rfl ⟨fun o hoq=>?_,trivial⟩;cases sI hoq;replace hb12:=hb12.tr1 s21 om;refine zk hb12 rfl rfl zq rfl zJ (fun w21 hq s22=>?_);replace hb12:=hq;refine zQ (e_A (listed':=#[true,true,true,true,true,true,true,true,true,true,true,true,true,true,true,true,true,true,true,true,true,true]) (by rfl) (oQ kR ?_));refine e_R ⟨agA,?_⟩;replace hB:=((hB.tr0 s20).tr1 s21 lo10).tr1 s22 lo12;replace hb4:=((hb4.tr0 s20).tr1 s21 om).tr1 s22 om;replace hb7:=((hb7.tr0 s20).tr1 s21 om).tr1 s22 om;exact⟨rfl,hB,hb4,hb7⟩
 obtain⟨h11,hB,hb4,hb7⟩:=hI;refine uv 11 _ h11 nu (zn7 ?_);refine kw rfl (fun c45=>?_) (fun c45=>?_)
 ·exact absurd c45 dE
 refine zn7 ?_;refine qz fn6 (Nq AT AF AR AX AS ct cf cr cx cst l fs rs xs st ri _ (hTab.mono hB) (hU.mono hB) (hTy.mono hB) (hF.mono hB) (hRu.mono hB) (hLx.mono hB) (hG.mono hB) (hK.mono hB)) rfl (fun e' w22 hr=>?_);obtain⟨⟨A1x,Y1,ok1,c1,rfl,hN1,hC1⟩,s23⟩:=hr;replace s23:=sB s23;obtain⟨lz1,hz1,hK1⟩:∃ lz hz,Kept lz hz w22 (fun wq=>NodesIn wq A1x Y1):=⟨_,_,Q1 hN1⟩
 clear hN1;refine⟨_,rfl,?_⟩;refine wmT rfl (wl (yZ (v:=_) rfl rfl) (wl (yZ (v:=_) rfl rfl) (wl (yZ (v:=_) rfl rfl) ?_)));refine qV (cs:=#[.slice none 0 0]) Z9 rfl (fun b13 w23 hb13 s24 hr=>?_);replace hb4:=hb4.tr0 s23;have:=nLL hb4.lt hr;replace hb7:=hb7.tr0 s23;have:=nLL hb7.lt hr;have or_hK1_b13:=(nLT hK1.1 hr)
 replace hB:=hB.tr0 s23;have lo13:=nLT (Bel.size hB) hr;refine qV (cs:=#[.int .i64 0,.int .i64 0]) x7 rfl (fun b15 w24 hb15 s25 hr=>?_);replace hb4:=hb4.tr0 s24;have:=nLL hb4.lt hr;replace hb7:=hb7.tr0 s24;have:=nLL hb7.lt hr;replace hK1:=hK1.tr0 s24;have or_hK1_b15:=(nLT hK1.1 hr)
 have:=nLL hb13.lt hr;replace hB:=hB.tr0 s24;have lo15:=nLT (Bel.size hB) hr;replace hb13:=hb13.tr0 s25;refine zk hb13 rfl rfl Z6 rfl zJ (fun w25 hq s26=>?_);replace hb13:=hq;refine waB rfl ?_;replace hb15:=hb15.tr1 s26 om;refine zk hb15 rfl rfl zq rfl zJ (fun w26 hq s27=>?_);replace hb15:=hq;refine zn4 ?_;replace hB:=((hB.tr0 s25).tr1 s26 lo13).tr1 s27 lo15;replace hb4:=((hb4.tr0 s25).tr1 s26 om).tr1 s27 om;replace hb7:=((hb7.tr0 s25).tr1 s26 om).tr1 s27 om;replace hK1:=((hK1.tr0 s25).tr1 s26 om).tr1 s27 om;replace hb13:=hb13.tr1 s27 om;refine yj [54,55,56,57,58,59,60,61,62,63,64] (fun g w'=>g 64= .bool (decide (¬(XQ l fs rs xs st ri ks).1=0∨¬(qK l fs gm).1=0))∧Bel w w'∧Blk w' b4 32 #[.slice AT l.length ct,.slice AF fs.length cf,.slice AR rs.length cr,.slice AX xs.length cx,.slice AS st.length cst]∧Blk w' b7 30 #[.slice GM (List.length gm) cm]∧Blk w' b13 30 #[.slice A1x (List.length Y1) c1]∧Kept lz1 hz1 w' (fun wq=>NodesIn wq A1x Y1)) ?_ (fun g6 w27 hI=>?_)
 ·refine zn5 ?_;refine zY 57 rfl (fun g57=>?_) (fun g57=>?_)
  ·refine zn8 ?_;refine e_R ⟨agA,?_⟩;exact⟨by first | exact congrArg Value.bool (decide_eq_true (Or.inl g57)).symm | exact congrArg Value.bool (decide_eq_decide.2 ⟨fun h=>Or.inr h,fun h=>h.resolve_left g57⟩),hB,hb4,hb7,hb13,hK1⟩
  refine zn3 ?_;refine wl (qW U25 rfl rfl (hb4.sub (n:=2) (xs:=[_,_]) rfl) QQ) (zn3 ?_);obtain⟨hgA,_⟩:=OJ (Classical.not_not.1 g57);have hhA:=gr_h0 hgA;have hSA:=XK hhA;refine qz fn7 (inh_any AT AF GM ct cf cm l fs gm _ (hTy.mono hB) hSA.vt hSA.le (hF.mono hB) (hM.mono hB) (N9 hhA)) rfl (fun e' w28 hr=>?_);obtain⟨rfl,s28⟩:=hr;replace s28:=sB s28;refine⟨_,rfl,?_⟩;refine zn1 ?_;refine wl (SY (v:= .int _ _) U36 rfl U3 rfl rfl rfl) (zn4 ?_);refine e_R ⟨agA,?_⟩;replace hB:=hB.tr0 s28;replace hb4:=hb4.tr0 s28;replace hb7:=hb7.tr0 s28;replace hK1:=hK1.tr0 s28;replace hb13:=hb13.tr0 s28;exact⟨by first | exact congrArg Value.bool (decide_eq_true (Or.inl g57)).symm | exact congrArg Value.bool (decide_eq_decide.2 ⟨fun h=>Or.inr h,fun h=>h.resolve_left g57⟩),hB,hb4,hb7,hb13,hK1⟩
 obtain⟨h64,hB,hb4,hb7,hb13,hK1⟩:=hI;refine uv 64 _ h64 nu (e_S ?_);refine zW rfl (fun c64=>?_) (fun c64=>?_)
 ·refine zn8 ?_;exact⟨rfl,hB⟩
 have hcz:(XQ l fs rs xs st ri ks).1=0:=Classical.byContradiction (fun h=>c64 (.inl h));have hmz:(qK l fs gm).1=0:=Classical.byContradiction (fun h=>c64 (.inr h));obtain⟨hg0,hri,hkd,hcm,hz⟩:=OJ hcz;have h0:=gr_h0 hg0;have hS:=XK h0;have hfo:=N9 h0;obtain⟨rn,hrn⟩:=Int.eq_ofNat_of_zero_le (show 0≤ri by omega);have hril:rn < rs.length:=by omega
 obtain⟨rb,ro,Gk,cgk,Sk,csk,Bk,mk,hAR,hrb,hrr,_,_,_⟩:=hRu.at_ hB hril;obtain⟨hk1,hk3⟩:=gr_one hg0 hril;obtain⟨_,hjk⟩:=Wj hg0 hril;have hkd2:(ks.length:Int)=(rs[rn]).kids:=by rw [hkd,hrn,W9 hril]
 have hne:0 < ks.length:=by omega
 have hkv:∀ q ∈ ks,GV l fs q:=fun q hq=>by
   obtain⟨i,hi,rfl⟩:=List.getElem_of_mem hq;exact(Z3 h0 (hz i hi)).1
 have hk60:∀ q ∈ ks,q.length≤60:=fun q hq=>by have:=(hkv q hq).gok.le;omega
 have hgr60:(rs[rn]).gr.length≤60:=by have:=hjk.v.gok.le;omega
 have hJ1:=LV hC1 hcm;rw [hrn,B4 hril] at hJ1;have hgm:=Z3 h0 hmz;obtain⟨kb,ko,hKA,hkl,hkcell⟩:=hK.2 (by intro e;rw [e] at hne;exact absurd hne (Nat.not_lt_zero _));subst hAR hKA;refine zn6 ?_;refine wl (x8 (v:= .int .i64 ((rn:Nat):Int)) (congrArg (Value.int .i64) hrn)) (zn3 ?_);refine wl (qY (v:= .slice _ _ _) U28 rfl rfl (hrr 1 _ rfl)) (Z8 ?_);refine qQ [16,18,75,76,77,78,79,80,81,82,83,84] (fun m g w'=>∃ k:Nat,k≤ks.length∧m=ks.length - k∧g 75= .int .i64 k∧g 16= .int .i64 (((rs[rn]).gr.length + Xk (ks.take k):Nat):Int)∧Bel w w'∧Blk w' b4 32 #[.slice AT l.length ct,.slice AF fs.length cf,.slice (some ⟨rb,ro,none⟩) rs.length cr,.slice AX xs.length cx,.slice AS st.length cst]∧Blk w' b7 30 #[.slice GM (List.length gm) cm]∧Blk w' b13 30 #[.slice A1x (List.length Y1) c1]∧Kept lz1 hz1 w' (fun wq=>NodesIn wq A1x Y1)) (ks.length) ?_ (fun m g10 w29 hI=>?_)
 ·exact⟨0,Nat.zero_le _,rfl,rfl,rfl,hB,hb4,hb7,hb13,hK1⟩
 obtain⟨k,hk,hm,h75,h16,hB,hb4,hb7,hb13,hK1⟩:=hI;refine zX 75 _ h75 nu (zX 16 _ h16 nu (zn6 ?_));refine zW rfl (fun c76=>?_) (fun c76=>?_)
 ·have hlt:k < ks.length:=by omega
  obtain⟨GA,gc,hgr,hgn⟩:=hkcell k hlt;have hss:=D4 hlt;have hst:=sumL_tk hk60 k;have hq:=hk60 _ (List.getElem_mem hlt);refine zn6 ?_;refine wl (yz (i:=k) U33 Z6 rfl rfl hlt rfl) (zn1 ?_);refine yv (cs:=#[.slice none 0 0]) Z9 rfl (fun _=>rfl) (fun _=>rfl) Z6 rfl zJ (fun b18 w31 hb18 s29 hr=>?_);have:=nLL hb4.lt hr;have:=nLL hb7.lt hr;have:=nLL hb13.lt hr;have or_hK1_b18:=(nLT hK1.1 hr)
  have lo18:=nLT (Bel.size hB) hr;refine zn7 ?_;refine wl (J7 (c:=(((rs[rn]).gr.length + Xk (ks.take (k + 1)):Nat):Int)) rfl rfl om om) (zn8 ?_);refine y6 (ks.length - (k + 1)) om agA ?_;replace hB:=hB.tr0 s29;replace hb4:=hb4.tr0 s29;replace hb7:=hb7.tr0 s29;replace hb13:=hb13.tr0 s29;replace hK1:=hK1.tr0 s29;exact⟨k + 1,by omega,rfl,rfl,rfl,hB,hb4,hb7,hb13,hK1⟩
 have hke:Xk (ks.take k)=Xk ks:=by rw [List.take_of_length_le om]
 refine zn6 ?_;obtain⟨GA0,gc0,hgr0,hgn0⟩:=hkcell 0 hne;have hw0:=hz 0 hne;obtain⟨hv0,hg0z⟩:=Z3 h0 hw0;have htw:(kX l fs (ks[0]'hne) gm).1=0:=tw_mk (by rw [hg0z]) (by rw [hgm.2]);obtain⟨okI,fI,XI,hdet⟩:=Gy htw;have hsz:=Bel.size hB;have z4:=hb4.lt;have z7:=hb7.lt;have z13:=hb13.lt;have zK:=hK1.1;refine yj [19,20,21,85,86,87,88,89,90,91,92,93,94,95] (fun g w'=>∃ (b19 b21:Nat) (AZ:Option Addr) (lz hz:Nat),g 19= .pointer (some ⟨b19,0,none⟩)∧g 20= .bool okI∧g 21= .pointer (some ⟨b21,0,none⟩)∧Bel w w'∧Blk w' b4 32 #[.slice AT l.length ct,.slice AF fs.length cf,.slice (some ⟨rb,ro,none⟩) rs.length cr,.slice AX xs.length cx,.slice AS st.length cst]∧Blk w' b7 30 #[.slice GM (List.length gm) cm]∧Blk w' b13 30 #[.slice A1x (List.length Y1) c1]∧Kept lz1 hz1 w' (fun wq=>NodesIn wq A1x Y1)∧Blk w' b19 30 #[.slice AZ (List.length XI) XI.length]∧Blk w' b21 36 #[.int .i64 (Prod.fst fI),.int .i64 fI.2]∧Kept lz hz w' (fun wq=>NodesIn wq AZ XI)∧vY l fs (ks[0]'hne) gm okI fI XI∧hz1≤b21∧hz1≤b19∧w.heap.size≤b21∧b4 < b21∧b13 < b21) ?_ (fun g14 w32 hI=>?_)
 ·refine OK 13 [86,87,88,89,90,91,92,85,93,94,95,19,21] [9,10] (fun ix=>bif Nat.beq ix 7 then 6 else bif Nat.beq ix 8 then 6 else ix) (fun ix v la ha wv=>match ix with | 0=>v= .pointer (some ⟨b4,0,none⟩) | 1=>v= .agg #[.slice AT l.length ct,.slice AF fs.length cf] | 2=>v= .slice (some ⟨kb,ko,none⟩) ks.length kc | 3=>v= .pointer (some ⟨kb,ko + 0 * 1,none⟩) | 4=>v= .agg #[.slice GA0 (ks[0]'hne).length gc0] | 5=>v= .agg #[.slice GM (List.length gm) cm] | 6=>∃ AZ,v= .tuple #[.agg #[.slice AZ (List.length XI) XI.length],.bool okI,.agg #[.int .i64 (Prod.fst fI),.int .i64 fI.2]]∧Kept la ha wv (fun wq=>NodesIn wq AZ XI)∧vY l fs (ks[0]'hne) gm okI fI XI | 7=>∃ AZ,v= .tuple #[.agg #[.slice AZ (List.length XI) XI.length],.bool okI,.agg #[.int .i64 (Prod.fst fI),.int .i64 fI.2]]∧Kept la ha wv (fun wq=>NodesIn wq AZ XI)∧vY l fs (ks[0]'hne) gm okI fI XI | 8=>∃ AZ,v= .agg #[.slice AZ (List.length XI) XI.length]∧Kept la ha wv (fun wq=>NodesIn wq AZ XI)∧vY l fs (ks[0]'hne) gm okI fI XI | 9=>v= .bool okI | 10=>v= .agg #[.int .i64 (Prod.fst fI),.int .i64 fI.2] | 11=>∃ b,v= .pointer (some ⟨b,0,none⟩)∧w29.heap.size≤b∧Blk wv b 30 #[.slice none 0 0]∧la≤b∧b < ha | 12=>∃ b,v= .pointer (some ⟨b,0,none⟩)∧w29.heap.size≤b∧Blk wv b 36 #[.int .i64 0,.int .i64 0]∧la≤b∧b < ha | _=>True) kR kR kR kR ?_ ?_ ?_
  ·intro ix v la ha wv wv2 h hle s30
   match ix,h with
   | 0,h=>exact h
   | 1,h=>exact h
   | 2,h=>exact h
   | 3,h=>exact h
   | 4,h=>exact h
   | 5,h=>exact h
   | 6,h=>
    obtain⟨AZ,e92,hNZ,hIS⟩:=(show ∃ AZ,v= .tuple #[.agg #[.slice AZ (List.length XI) XI.length],.bool okI,.agg #[.int .i64 (Prod.fst fI),.int .i64 fI.2]]∧Kept la ha wv (fun wq=>NodesIn wq AZ XI)∧vY l fs (ks[0]'hne) gm okI fI XI from h)
    exact⟨AZ,e92,hNZ.tr0 s30,hIS⟩
   | 7,h=>
    obtain⟨AZ7,e85,hN7,hI7⟩:=(show ∃ AZ,v= .tuple #[.agg #[.slice AZ (List.length XI) XI.length],.bool okI,.agg #[.int .i64 (Prod.fst fI),.int .i64 fI.2]]∧Kept la ha wv (fun wq=>NodesIn wq AZ XI)∧vY l fs (ks[0]'hne) gm okI fI XI from h)
    exact⟨AZ7,e85,hN7.tr0 s30,hI7⟩
   | 8,h=>
    obtain⟨AZ,e93,hNZ,hIS⟩:=(show ∃ AZ,v= .agg #[.slice AZ (List.length XI) XI.length]∧Kept la ha wv (fun wq=>NodesIn wq AZ XI)∧vY l fs (ks[0]'hne) gm okI fI XI from h)
    exact⟨AZ,e93,hNZ.tr0 s30,hIS⟩
   | 9,h=>exact h
   | 10,h=>exact h
   | 11,h=>
    obtain⟨b19,e19,lo19,hb19,la19,ha19⟩:=(show ∃ b,v= .pointer (some ⟨b,0,none⟩)∧w29.heap.size≤b∧Blk wv b 30 #[.slice none 0 0]∧la≤b∧b < ha from h)
    exact⟨b19,e19,lo19,hb19.tr0 s30,la19,ha19⟩
   | 12,h=>
    obtain⟨b21,e21,lo21,hb21,la21,ha21⟩:=(show ∃ b,v= .pointer (some ⟨b,0,none⟩)∧w29.heap.size≤b∧Blk wv b 36 #[.int .i64 0,.int .i64 0]∧la≤b∧b < ha from h)
    exact⟨b21,e21,lo21,hb21.tr0 s30,la21,ha21⟩
   | _ + 13,h=>exact trivial
  ·intro ix o hix hoq gg wx lo hi s31 hd hdis
   match ix,hix,hoq with
   | 0,_,hoq=>
    cases sI hoq;refine gdA ?_;refine qk (uK U32 QQ dE rfl rfl rfl) ⟨Same.refl _ _,?_⟩;exact rfl
   | 1,_,hoq=>
    cases sI hoq;have d0:gg 86= .pointer (some ⟨b4,0,none⟩):=(hd 0 (zj kR)).1;have e86:=d0;refine gdA (zz 86 _ e86 nu ?_);replace hb4:=hb4.tr0 s31;refine qk (qW U25 rfl rfl (hb4.sub (n:=2) (xs:=[_,_]) rfl) QQ) ⟨Same.refl _ _,?_⟩;exact rfl
   | 2,_,hoq=>
    cases sI hoq;refine gdA ?_;refine qk (x8 (v:= .slice _ _ _) rfl) ⟨Same.refl _ _,?_⟩;exact rfl
   | 3,_,hoq=>
    cases sI hoq;have d2:gg 88= .slice (some ⟨kb,ko,none⟩) ks.length kc:=(hd 2 (zj kR)).1;have e88:=d2;refine gdA (zz 88 _ e88 nu ?_);refine qk (yz (i:=0) U33 Z6 rfl rfl hne rfl) ⟨Same.refl _ _,?_⟩;exact rfl
   | 4,_,hoq=>
    cases sI hoq;have d3:gg 89= .pointer (some ⟨kb,ko + 0 * 1,none⟩):=(hd 3 (zj kR)).1;have e89:=d3;refine gdA (zz 89 _ e89 nu ?_);replace hB:=hB.tr0 s31;refine qk (qW U30 rfl rfl (hB.range hkl hgr0) Z6) ⟨Same.refl _ _,?_⟩;exact rfl
   | 5,_,hoq=>
    cases sI hoq;refine gdA ?_;replace hb7:=hb7.tr0 s31;refine qk (qW U30 rfl rfl hb7.range0 Z6) ⟨Same.refl _ _,?_⟩;exact rfl
   | 6,_,hoq=>
    cases sI hoq;have d1:gg 87= .agg #[.slice AT l.length ct,.slice AF fs.length cf]:=(hd 1 (zj kR)).1;have e87:=d1;have d4:gg 90= .agg #[.slice GA0 (ks[0]'hne).length gc0]:=(hd 4 (zj kR)).1;have e90:=d4;have d5:gg 91= .agg #[.slice GM (List.length gm) cm]:=(hd 5 (zj kR)).1;have e91:=d5;refine gdA (zz 87 _ e87 nu (zz 90 _ e90 nu (zz 91 _ e91 nu ?_)));replace hB:=hB.tr0 s31;refine yY fn8 (GZ AT AF GA0 GM ct cf gc0 cm l fs (ks[0]'hne) gm wx (hTab.mono hB) (hTy.mono hB) (hF.mono hB) (hgn0.mono hB) (hM.mono hB)) rfl (fun e' w2 hr=>?_);obtain⟨⟨A9,X9,ok9,f9,rfl,hN9,hI9⟩,s32⟩:=hr;exact⟨_,rfl,sB s32,(by obtain⟨e1,e2,e3,e4⟩:=hdet ok9 f9 X9 hI9;subst e1 e2 e3;exact⟨A9,rfl,Q1 hN9,e4⟩)⟩
   | 7,_,hoq=>
    cases sI hoq;have d6:∃ AZ,gg 92= .tuple #[.agg #[.slice AZ (List.length XI) XI.length],.bool okI,.agg #[.int .i64 (Prod.fst fI),.int .i64 fI.2]]∧Kept (lo 6) (hi 6) wx (fun wq=>NodesIn wq AZ XI)∧vY l fs (ks[0]'hne) gm okI fI XI:=(hd 6 (zj kR)).1;obtain⟨AZ,e92,hNZ,hIS⟩:=d6;refine gdA (zz 92 _ e92 nu ?_);refine qk (x8 (v:= .tuple _) rfl) ⟨Same.refl _ _,?_⟩;exact⟨_,rfl,hNZ,hIS⟩
   | 8,_,hoq=>
    cases sI hoq;have d7:∃ AZ,gg 85= .tuple #[.agg #[.slice AZ (List.length XI) XI.length],.bool okI,.agg #[.int .i64 (Prod.fst fI),.int .i64 fI.2]]∧Kept (lo 6) (hi 6) wx (fun wq=>NodesIn wq AZ XI)∧vY l fs (ks[0]'hne) gm okI fI XI:=(hd 7 (zj kR)).1;obtain⟨AZ7,e85,hN7,hI7⟩:=d7;refine gdA (zz 85 _ e85 nu ?_);refine qk (yZ (v:=_) rfl rfl) ⟨Same.refl _ _,?_⟩;exact⟨_,rfl,hN7,hI7⟩
   | 9,_,hoq=>
    cases sI hoq;have d7:∃ AZ,gg 85= .tuple #[.agg #[.slice AZ (List.length XI) XI.length],.bool okI,.agg #[.int .i64 (Prod.fst fI),.int .i64 fI.2]]∧Kept (lo 6) (hi 6) wx (fun wq=>NodesIn wq AZ XI)∧vY l fs (ks[0]'hne) gm okI fI XI:=(hd 7 (zj kR)).1;obtain⟨AZ7,e85,hN7,hI7⟩:=d7;refine gdA (zz 85 _ e85 nu ?_);refine qk (yZ (v:=_) rfl rfl) ⟨Same.refl _ _,?_⟩;exact rfl
   | 10,_,hoq=>
    cases sI hoq;have d7:∃ AZ,gg 85= .tuple #[.agg #[.slice AZ (List.length XI) XI.length],.bool okI,.agg #[.int .i64 (Prod.fst fI),.int .i64 fI.2]]∧Kept (lo 6) (hi 6) wx (fun wq=>NodesIn wq AZ XI)∧vY l fs (ks[0]'hne) gm okI fI XI:=(hd 7 (zj kR)).1;obtain⟨AZ7,e85,hN7,hI7⟩:=d7;refine gdA (zz 85 _ e85 nu ?_);refine qk (yZ (v:=_) rfl rfl) ⟨Same.refl _ _,?_⟩;exact rfl
   | 11,_,hoq=>
    cases sI hoq;have hs0:=s31;refine gdA ?_;refine j5 (fun ops Q K=>?_);refine qV (cs:=#[.slice none 0 0]) Z9 rfl (fun b19 w33 hb19 s33 hr=>?_);exact K _ _ ⟨s33,⟨_,rfl,nLT hs0.size hr,hb19,hr,hb19.lt⟩⟩
   | 12,_,hoq=>
    cases sI hoq;have hs0:=s31;refine gdA ?_;refine j5 (fun ops Q K=>?_);refine qV (cs:=#[.int .i64 0,.int .i64 0]) x7 rfl (fun b21 w34 hb21 s34 hr=>?_);exact K _ _ ⟨s34,⟨_,rfl,nLT hs0.size hr,hb21,hr,hb21.lt⟩⟩
   | _ + 13,hix,_=>exact absurd hix om
  refine⟨?_,?_,?_,?_,trivial⟩
  ·intro x gg w35 lo hi s35 hR hdis;have d7:∃ AZ,gg 85= .tuple #[.agg #[.slice AZ (List.length XI) XI.length],.bool okI,.agg #[.int .i64 (Prod.fst fI),.int .i64 fI.2]]∧Kept (lo 6) (hi 6) w35 (fun wq=>NodesIn wq AZ XI)∧vY l fs (ks[0]'hne) gm okI fI XI:=(hR 7 dE dE).1;obtain⟨AZ7,e85,hN7,hI7⟩:=d7;have d8:∃ AZ,gg 93= .agg #[.slice AZ (List.length XI) XI.length]∧Kept (lo 6) (hi 6) w35 (fun wq=>NodesIn wq AZ XI)∧vY l fs (ks[0]'hne) gm okI fI XI:=(hR 8 dE dE).1;obtain⟨AZ,e93,hNZ,hIS⟩:=d8;have d9:gg 94= .bool okI:=(hR 9 dE dE).1;have e94:=d9;have d10:gg 95= .agg #[.int .i64 (Prod.fst fI),.int .i64 fI.2]:=(hR 10 dE dE).1;have e95:=d10;have d11:∃ b,gg 19= .pointer (some ⟨b,0,none⟩)∧w29.heap.size≤b∧Blk w35 b 30 #[.slice none 0 0]∧(lo 11)≤b∧b < (hi 11):=(hR 11 dE dE).1;obtain⟨b19,e19,lo19,hb19,la19,ha19⟩:=d11;have d12:∃ b,gg 21= .pointer (some ⟨b,0,none⟩)∧w29.heap.size≤b∧Blk w35 b 36 #[.int .i64 0,.int .i64 0]∧(lo 12)≤b∧b < (hi 12):=(hR 12 dE dE).1;obtain⟨b21,e21,lo21,hb21,la21,ha21⟩:=d12;have dis_6_11:(hi 6)≤(lo 11)∨(hi 11)≤(lo 6):=hdis 6 11 dE dE dE dE dE;have dis_6_12:(hi 6)≤(lo 12)∨(hi 12)≤(lo 6):=hdis 6 12 dE dE dE dE dE;have ne19:b19≠b21:=fun h=>absurd (vw (h ▸ hb19) hb21) dE
   have:=nLL z4 lo19;have:=nLL z7 lo19;have:=nLL z13 lo19;have or_b4_b21:b4 < b21:=nLL z4 lo21;have:=nLL z7 lo21;have or_b13_b21:b13 < b21:=nLL z13 lo21;have or_hK1_b19:=nLT zK lo19;have or_hK1_b21:=nLT zK lo21;replace lo19:=nLT hsz lo19;replace lo21:=nLT hsz lo21;refine x6 85 (.tuple #[.agg #[.slice AZ7 (List.length XI) XI.length],.bool okI,.agg #[.int .i64 (Prod.fst fI),.int .i64 fI.2]]) e85 nu (x6 93 (.agg #[.slice AZ (List.length XI) XI.length]) e93 nu (x6 94 (.bool okI) e94 nu (x6 95 (.agg #[.int .i64 (Prod.fst fI),.int .i64 fI.2]) e95 nu (x6 19 (.pointer (some ⟨b19,0,none⟩)) e19 nu (x6 21 (.pointer (some ⟨b21,0,none⟩)) e21 nu (XZ (k':=3) kR (Kq (listed':=#[true,true,true,true,true,true,true,true,true,true,true,true,true,false,false,false]) kR ?_)))))));refine xq [13] kR rfl ⟨fun o hoq=>?_,trivial⟩;cases sI hoq;refine zk hb19 rfl rfl Z6 rfl zJ (fun w36 hq s36=>?_);replace hb19:=hq;refine zQ (e_A (listed':=#[true,true,true,true,true,true,true,true,true,true,true,true,true,true,false,false]) (by rfl) (V4 14 rfl (fun _=>u7 (v:= .bool _) rfl) ?_));refine xq [15] kR rfl ⟨fun o hoq=>?_,trivial⟩;cases sI hoq;replace hb21:=hb21.tr1 s36 om;refine zk hb21 rfl rfl zq rfl zJ (fun w37 hq s37=>?_);replace hb21:=hq;refine zQ (e_A (listed':=#[true,true,true,true,true,true,true,true,true,true,true,true,true,true,true,true]) (by rfl) (oQ kR ?_));refine e_R ⟨agA,?_⟩;replace hB:=((hB.tr0 s35).tr1 s36 lo19).tr1 s37 lo21;replace hb4:=((hb4.tr0 s35).tr1 s36 om).tr1 s37 om;replace hb7:=((hb7.tr0 s35).tr1 s36 om).tr1 s37 om;replace hb13:=((hb13.tr0 s35).tr1 s36 om).tr1 s37 om;replace hK1:=((hK1.tr0 s35).tr1 s36 om).tr1 s37 om;replace hNZ:=(hNZ.tr1 s36 om).tr1 s37 om;replace hb19:=hb19.tr1 s37 om;exact⟨b19,b21,AZ,_,_,rfl,rfl,rfl,hB,hb4,hb7,hb13,hK1,hb19,hb21,hNZ,hIS,or_hK1_b21,or_hK1_b19,lo21,or_b4_b21,or_b13_b21⟩
  ·intro x gg w38 lo hi s38 hR hdis;have d7:∃ AZ,gg 85= .tuple #[.agg #[.slice AZ (List.length XI) XI.length],.bool okI,.agg #[.int .i64 (Prod.fst fI),.int .i64 fI.2]]∧Kept (lo 6) (hi 6) w38 (fun wq=>NodesIn wq AZ XI)∧vY l fs (ks[0]'hne) gm okI fI XI:=(hR 7 dE dE).1;obtain⟨AZ7,e85,hN7,hI7⟩:=d7;have d8:∃ AZ,gg 93= .agg #[.slice AZ (List.length XI) XI.length]∧Kept (lo 6) (hi 6) w38 (fun wq=>NodesIn wq AZ XI)∧vY l fs (ks[0]'hne) gm okI fI XI:=(hR 8 dE dE).1;obtain⟨AZ,e93,hNZ,hIS⟩:=d8;have d9:gg 94= .bool okI:=(hR 9 dE dE).1;have e94:=d9;have d11:∃ b,gg 19= .pointer (some ⟨b,0,none⟩)∧w29.heap.size≤b∧Blk w38 b 30 #[.slice none 0 0]∧(lo 11)≤b∧b < (hi 11):=(hR 11 dE dE).1;obtain⟨b19,e19,lo19,hb19,la19,ha19⟩:=d11;have d12:∃ b,gg 21= .pointer (some ⟨b,0,none⟩)∧w29.heap.size≤b∧Blk w38 b 36 #[.int .i64 0,.int .i64 0]∧(lo 12)≤b∧b < (hi 12):=(hR 12 dE dE).1;obtain⟨b21,e21,lo21,hb21,la21,ha21⟩:=d12;have dis_6_11:(hi 6)≤(lo 11)∨(hi 11)≤(lo 6):=hdis 6 11 dE dE dE dE dE;have dis_6_12:(hi 6)≤(lo 12)∨(hi 12)≤(lo 6):=hdis 6 12 dE dE dE dE dE;have ne19:b19≠b21:=fun h=>absurd (vw (h ▸ hb19) hb21) dE
   have:=nLL z4 lo19;have:=nLL z7 lo19;have:=nLL z13 lo19;have or_b4_b21:b4 < b21:=nLL z4 lo21;have:=nLL z7 lo21;have or_b13_b21:b13 < b21:=nLL z13 lo21;have or_hK1_b19:=nLT zK lo19;have or_hK1_b21:=nLT zK lo21;replace lo19:=nLT hsz lo19;replace lo21:=nLT hsz lo21;refine x6 85 (.tuple #[.agg #[.slice AZ7 (List.length XI) XI.length],.bool okI,.agg #[.int .i64 (Prod.fst fI),.int .i64 fI.2]]) e85 nu (x6 93 (.agg #[.slice AZ (List.length XI) XI.length]) e93 nu (x6 94 (.bool okI) e94 nu (x6 19 (.pointer (some ⟨b19,0,none⟩)) e19 nu (x6 21 (.pointer (some ⟨b21,0,none⟩)) e21 nu (XZ (k':=4) kR (Kq (listed':=#[true,true,true,true,true,true,true,true,true,true,false,true,true,false,false,false]) kR (V4 10 rfl (fun _=>yZ (v:=_) rfl rfl) ?_)))))));refine xq [13] kR rfl ⟨fun o hoq=>?_,trivial⟩;cases sI hoq;refine zk hb19 rfl rfl Z6 rfl zJ (fun w39 hq s39=>?_);replace hb19:=hq;refine zQ (e_A (listed':=#[true,true,true,true,true,true,true,true,true,true,true,true,true,true,false,false]) (by rfl) (V4 14 rfl (fun _=>u7 (v:= .bool _) rfl) ?_));refine xq [15] kR rfl ⟨fun o hoq=>?_,trivial⟩;cases sI hoq;replace hb21:=hb21.tr1 s39 om;refine zk hb21 rfl rfl zq rfl zJ (fun w40 hq s40=>?_);replace hb21:=hq;refine zQ (e_A (listed':=#[true,true,true,true,true,true,true,true,true,true,true,true,true,true,true,true]) (by rfl) (oQ kR ?_));refine e_R ⟨agA,?_⟩;replace hB:=((hB.tr0 s38).tr1 s39 lo19).tr1 s40 lo21;replace hb4:=((hb4.tr0 s38).tr1 s39 om).tr1 s40 om;replace hb7:=((hb7.tr0 s38).tr1 s39 om).tr1 s40 om;replace hb13:=((hb13.tr0 s38).tr1 s39 om).tr1 s40 om;replace hK1:=((hK1.tr0 s38).tr1 s39 om).tr1 s40 om;replace hNZ:=(hNZ.tr1 s39 om).tr1 s40 om;replace hb19:=hb19.tr1 s40 om;exact⟨b19,b21,AZ,_,_,rfl,rfl,rfl,hB,hb4,hb7,hb13,hK1,hb19,hb21,hNZ,hIS,or_hK1_b21,or_hK1_b19,lo21,or_b4_b21,or_b13_b21⟩
  ·intro x gg w41 lo hi s41 hR hdis;have d7:∃ AZ,gg 85= .tuple #[.agg #[.slice AZ (List.length XI) XI.length],.bool okI,.agg #[.int .i64 (Prod.fst fI),.int .i64 fI.2]]∧Kept (lo 6) (hi 6) w41 (fun wq=>NodesIn wq AZ XI)∧vY l fs (ks[0]'hne) gm okI fI XI:=(hR 7 dE dE).1;obtain⟨AZ7,e85,hN7,hI7⟩:=d7;have d8:∃ AZ,gg 93= .agg #[.slice AZ (List.length XI) XI.length]∧Kept (lo 6) (hi 6) w41 (fun wq=>NodesIn wq AZ XI)∧vY l fs (ks[0]'hne) gm okI fI XI:=(hR 8 dE dE).1;obtain⟨AZ,e93,hNZ,hIS⟩:=d8;have d10:gg 95= .agg #[.int .i64 (Prod.fst fI),.int .i64 fI.2]:=(hR 10 dE dE).1;have e95:=d10;have d11:∃ b,gg 19= .pointer (some ⟨b,0,none⟩)∧w29.heap.size≤b∧Blk w41 b 30 #[.slice none 0 0]∧(lo 11)≤b∧b < (hi 11):=(hR 11 dE dE).1;obtain⟨b19,e19,lo19,hb19,la19,ha19⟩:=d11;have d12:∃ b,gg 21= .pointer (some ⟨b,0,none⟩)∧w29.heap.size≤b∧Blk w41 b 36 #[.int .i64 0,.int .i64 0]∧(lo 12)≤b∧b < (hi 12):=(hR 12 dE dE).1;obtain⟨b21,e21,lo21,hb21,la21,ha21⟩:=d12;have dis_6_11:(hi 6)≤(lo 11)∨(hi 11)≤(lo 6):=hdis 6 11 dE dE dE dE dE;have dis_6_12:(hi 6)≤(lo 12)∨(hi 12)≤(lo 6):=hdis 6 12 dE dE dE dE dE;have ne19:b19≠b21:=fun h=>absurd (vw (h ▸ hb19) hb21) dE
   have:=nLL z4 lo19;have:=nLL z7 lo19;have:=nLL z13 lo19;have or_b4_b21:b4 < b21:=nLL z4 lo21;have:=nLL z7 lo21;have or_b13_b21:b13 < b21:=nLL z13 lo21;have or_hK1_b19:=nLT zK lo19;have or_hK1_b21:=nLT zK lo21;replace lo19:=nLT hsz lo19;replace lo21:=nLT hsz lo21;refine x6 85 (.tuple #[.agg #[.slice AZ7 (List.length XI) XI.length],.bool okI,.agg #[.int .i64 (Prod.fst fI),.int .i64 fI.2]]) e85 nu (x6 93 (.agg #[.slice AZ (List.length XI) XI.length]) e93 nu (x6 95 (.agg #[.int .i64 (Prod.fst fI),.int .i64 fI.2]) e95 nu (x6 19 (.pointer (some ⟨b19,0,none⟩)) e19 nu (x6 21 (.pointer (some ⟨b21,0,none⟩)) e21 nu (XZ (k':=4) kR (Kq (listed':=#[true,true,true,true,true,true,true,true,true,false,true,true,true,false,false,false]) kR (V4 9 rfl (fun _=>yZ (v:=_) rfl rfl) ?_)))))));refine xq [13] kR rfl ⟨fun o hoq=>?_,trivial⟩;cases sI hoq;refine zk hb19 rfl rfl Z6 rfl zJ (fun w42 hq s42=>?_);replace hb19:=hq;refine zQ (e_A (listed':=#[true,true,true,true,true,true,true,true,true,true,true,true,true,true,false,false]) (by rfl) (V4 14 rfl (fun _=>u7 (v:= .bool _) rfl) ?_));refine xq [15] kR rfl ⟨fun o hoq=>?_,trivial⟩;cases sI hoq;replace hb21:=hb21.tr1 s42 om;refine zk hb21 rfl rfl zq rfl zJ (fun w43 hq s43=>?_);replace hb21:=hq;refine zQ (e_A (listed':=#[true,true,true,true,true,true,true,true,true,true,true,true,true,true,true,true]) (by rfl) (oQ kR ?_));refine e_R ⟨agA,?_⟩;replace hB:=((hB.tr0 s41).tr1 s42 lo19).tr1 s43 lo21;replace hb4:=((hb4.tr0 s41).tr1 s42 om).tr1 s43 om;replace hb7:=((hb7.tr0 s41).tr1 s42 om).tr1 s43 om;replace hb13:=((hb13.tr0 s41).tr1 s42 om).tr1 s43 om;replace hK1:=((hK1.tr0 s41).tr1 s42 om).tr1 s43 om;replace hNZ:=(hNZ.tr1 s42 om).tr1 s43 om;replace hb19:=hb19.tr1 s43 om;exact⟨b19,b21,AZ,_,_,rfl,rfl,rfl,hB,hb4,hb7,hb13,hK1,hb19,hb21,hNZ,hIS,or_hK1_b21,or_hK1_b19,lo21,or_b4_b21,or_b13_b21⟩
  intro x gg w44 lo hi s44 hR hdis;have d7:∃ AZ,gg 85= .tuple #[.agg #[.slice AZ (List.length XI) XI.length],.bool okI,.agg #[.int .i64 (Prod.fst fI),.int .i64 fI.2]]∧Kept (lo 6) (hi 6) w44 (fun wq=>NodesIn wq AZ XI)∧vY l fs (ks[0]'hne) gm okI fI XI:=(hR 7 dE dE).1;obtain⟨AZ7,e85,hN7,hI7⟩:=d7;have d8:∃ AZ,gg 93= .agg #[.slice AZ (List.length XI) XI.length]∧Kept (lo 6) (hi 6) w44 (fun wq=>NodesIn wq AZ XI)∧vY l fs (ks[0]'hne) gm okI fI XI:=(hR 8 dE dE).1;obtain⟨AZ,e93,hNZ,hIS⟩:=d8;have d11:∃ b,gg 19= .pointer (some ⟨b,0,none⟩)∧w29.heap.size≤b∧Blk w44 b 30 #[.slice none 0 0]∧(lo 11)≤b∧b < (hi 11):=(hR 11 dE dE).1;obtain⟨b19,e19,lo19,hb19,la19,ha19⟩:=d11;have d12:∃ b,gg 21= .pointer (some ⟨b,0,none⟩)∧w29.heap.size≤b∧Blk w44 b 36 #[.int .i64 0,.int .i64 0]∧(lo 12)≤b∧b < (hi 12):=(hR 12 dE dE).1;obtain⟨b21,e21,lo21,hb21,la21,ha21⟩:=d12;have dis_6_11:(hi 6)≤(lo 11)∨(hi 11)≤(lo 6):=hdis 6 11 dE dE dE dE dE;have dis_6_12:(hi 6)≤(lo 12)∨(hi 12)≤(lo 6):=hdis 6 12 dE dE dE dE dE;have ne19:b19≠b21:=fun h=>absurd (vw (h ▸ hb19) hb21) dE
  have:=nLL z4 lo19;have:=nLL z7 lo19;have:=nLL z13 lo19;have or_b4_b21:b4 < b21:=nLL z4 lo21;have:=nLL z7 lo21;have or_b13_b21:b13 < b21:=nLL z13 lo21;have or_hK1_b19:=nLT zK lo19;have or_hK1_b21:=nLT zK lo21;replace lo19:=nLT hsz lo19;replace lo21:=nLT hsz lo21;refine x6 85 (.tuple #[.agg #[.slice AZ7 (List.length XI) XI.length],.bool okI,.agg #[.int .i64 (Prod.fst fI),.int .i64 fI.2]]) e85 nu (x6 93 (.agg #[.slice AZ (List.length XI) XI.length]) e93 nu (x6 19 (.pointer (some ⟨b19,0,none⟩)) e19 nu (x6 21 (.pointer (some ⟨b21,0,none⟩)) e21 nu (XZ (k':=5) kR (Kq (listed':=#[true,true,true,true,true,true,true,true,true,false,false,true,true,false,false,false]) kR (V4 9 rfl (fun _=>yZ (v:=_) rfl rfl) (V4 10 rfl (fun _=>yZ (v:=_) rfl rfl) ?_)))))));refine xq [13] kR rfl ⟨fun o hoq=>?_,trivial⟩;cases sI hoq;refine zk hb19 rfl rfl Z6 rfl zJ (fun w45 hq s45=>?_);replace hb19:=hq;refine zQ (e_A (listed':=#[true,true,true,true,true,true,true,true,true,true,true,true,true,true,false,false]) (by rfl) (V4 14 rfl (fun _=>u7 (v:= .bool _) rfl) ?_));refine xq [15] kR rfl ⟨fun o hoq=>?_,trivial⟩;cases sI hoq;replace hb21:=hb21.tr1 s45 om;refine zk hb21 rfl rfl zq rfl zJ (fun w46 hq s46=>?_);replace hb21:=hq;refine zQ (e_A (listed':=#[true,true,true,true,true,true,true,true,true,true,true,true,true,true,true,true]) (by rfl) (oQ kR ?_));refine e_R ⟨agA,?_⟩;replace hB:=((hB.tr0 s44).tr1 s45 lo19).tr1 s46 lo21;replace hb4:=((hb4.tr0 s44).tr1 s45 om).tr1 s46 om;replace hb7:=((hb7.tr0 s44).tr1 s45 om).tr1 s46 om;replace hb13:=((hb13.tr0 s44).tr1 s45 om).tr1 s46 om;replace hK1:=((hK1.tr0 s44).tr1 s45 om).tr1 s46 om;replace hNZ:=(hNZ.tr1 s45 om).tr1 s46 om;replace hb19:=hb19.tr1 s46 om;exact⟨b19,b21,AZ,_,_,rfl,rfl,rfl,hB,hb4,hb7,hb13,hK1,hb19,hb21,hNZ,hIS,or_hK1_b21,or_hK1_b19,lo21,or_b4_b21,or_b13_b21⟩
 obtain⟨b19,b21,AZ,lz,hz,h19,h20,h21,hB,hb4,hb7,hb13,hK1,hb19,hb21,hNZ,hIS,ork21,ork19,lo21,or_b4_b21,or_b13_b21⟩:=hI;refine uv 19 _ h19 nu (uv 20 _ h20 nu (uv 21 _ h21 nu (zn3 ?_)));refine yV [96,97,98,99,100,101,102] 102 (.bool (decide (¬fI.1=0∨¬okI=true))) nu ?_ (fun gq=>?_)
 ·refine zn5 ?_;refine zY 99 rfl (fun g99=>?_) (fun g99=>?_)
  ·refine zn3 ?_;refine zQ (e_R ⟨rfl,agA,?_⟩);show Value.bool _=Value.bool _
   first
    | exact congrArg Value.bool (decide_eq_true (Or.inl (by first | assumption | exact g99))).symm
    | (cases okI <;> simp [g99])
  refine zn5 ?_;refine zQ (e_R ⟨rfl,agA,?_⟩);show Value.bool _=Value.bool _
  first
   | exact congrArg Value.bool (decide_eq_true (Or.inl (by first | assumption | exact g99))).symm
   | (cases okI <;> simp [g99])
 refine e_S ?_;refine zW rfl (fun c102=>?_) (fun c102=>?_)
 ·refine zn8 ?_;exact⟨rfl,hB⟩
 have hokI:okI=true:=Classical.byContradiction (fun h=>c102 (.inr h));obtain⟨hky,hyz⟩:=Gw htw hIS hokI;have hyw:(qK l fs XI).1=0:=by rw [Jq h0] at hyz;exact congrArg Prod.fst hyz
 have hyv:=(Z3 h0 hyw).1;have hcr:=cmb_rest hcz hne hyw;refine zn3 ?_;have hsz:=Bel.size hB;have z4:=hb4.lt;have z13:=hb13.lt;have z21:=hb21.lt;have zK:=hK1.1;have zN:=hNZ.1;refine yj [22,103,104,105,106,107] (fun g w'=>∃ (AN:Option Addr) (cN:Nat),g 22= .slice AN (XI :: ks.drop 1).length cN∧GrsIn w' AN (XI :: ks.drop 1)∧Bel w w'∧Blk w' b4 32 #[.slice AT l.length ct,.slice AF fs.length cf,.slice (some ⟨rb,ro,none⟩) rs.length cr,.slice AX xs.length cx,.slice AS st.length cst]∧Blk w' b13 30 #[.slice A1x (List.length Y1) c1]∧Blk w' b21 36 #[.int .i64 (Prod.fst fI),.int .i64 fI.2]∧Kept lz1 hz1 w' (fun wq=>NodesIn wq A1x Y1)) ?_ (fun g17 w47 hI=>?_)
 ·refine o7 4 [103,104,105,106] (fun _=>false) (fun ix v wv=>match ix with | 0=>v= .agg #[.slice AZ (List.length XI) XI.length] | 1=>∃ b,v= .slice (some ⟨b,0,none⟩) 1 1∧w32.heap.size≤b∧Blk wv b 30 #[.slice AZ (List.length XI) XI.length] | 2=>v= .slice (some ⟨kb,ko,none⟩) ks.length kc | 3=>v= .slice (if kc=1 then (some ⟨kb,ko,none⟩:Option Addr) else (some ⟨kb,ko,none⟩:Option Addr).map (·.add (1 * 1))) (ks.length - 1) (kc - 1) | _=>True) kR kR ?_ ?_ ?_
  ·intro ix v wv wv2 h s47
   match ix,h with
   | 0,h=>exact h
   | 1,h=>
    obtain⟨b104,e104,lo104,hb104⟩:=(show ∃ b,v= .slice (some ⟨b,0,none⟩) 1 1∧w32.heap.size≤b∧Blk wv b 30 #[.slice AZ (List.length XI) XI.length] from h)
    exact⟨b104,e104,lo104,hb104.tr0 s47⟩
   | 2,h=>exact h
   | 3,h=>exact h
   | _ + 4,h=>exact trivial
  ·intro ix o hix hoq gg wx s48 hd hdis
   match ix,hix,hoq with
   | 0,_,hoq=>
    cases sI hoq;replace hb19:=hb19.tr0 s48;exact oVq (qW U30 rfl rfl hb19.range0 Z6) rfl
   | 1,_,hoq=>
    cases sI hoq;have hs0:=s48;have d0:gg 103= .agg #[.slice AZ (List.length XI) XI.length]:=hd 0 (zj kR);have e103:=d0;refine zz 103 _ e103 nu ?_;refine j5 (fun ops Q K=>?_);refine qJ (cs:=#[_]) [(0,.agg _)] rfl U33 Z6 Z9 dE dE kR rfl (fun b104 w48 hb104 s49 hr=>?_);exact K _ _ ⟨s49,⟨_,rfl,nLT hs0.size hr,hb104⟩,fRq hr hb104.lt⟩
   | 2,_,hoq=>
    cases sI hoq;exact oVq (x8 (v:= .slice _ _ _) rfl) rfl
   | 3,_,hoq=>
    cases sI hoq;have d2:gg 105= .slice (some ⟨kb,ko,none⟩) ks.length kc:=hd 2 (zj kR);have e105:=d2;refine zz 105 _ e105 nu ?_;exact oVq (SX (l:=1) U33 Z6 rfl rfl om) rfl
   | _ + 4,hix,_=>exact absurd hix om
  intro gg w49 s50 hR hdis;have d1:∃ b,gg 104= .slice (some ⟨b,0,none⟩) 1 1∧w32.heap.size≤b∧Blk w49 b 30 #[.slice AZ (List.length XI) XI.length]:=hR 1 dE;obtain⟨b104,e104,lo104,hb104⟩:=d1;have d3:gg 106= .slice (if kc=1 then (some ⟨kb,ko,none⟩:Option Addr) else (some ⟨kb,ko,none⟩:Option Addr).map (·.add (1 * 1))) (ks.length - 1) (kc - 1):=hR 3 dE;have e106:=d3;refine x9 104 _ e104 nu (x9 106 _ e106 nu ?_);obtain⟨vs,hvl,hvs⟩:=grs_cells hK;have hO:=IK (base:=w.heap.size) (e:=30) (sz:=1) (m:=1) hb104 (nLT hsz lo104) rfl dE;have hnl:(XI :: ks.drop 1).length=1 + (ks.length - 1):=by rw [List.length_cons,List.length_drop];omega
  replace hB:=hB.tr0 s50
  refine H3 (e:=30) (news:=vs.drop 1) U33 in30 rfl dE hO rfl rfl (fun hm=>⟨kb,ko + 1,by rw [if_neg om];rfl,fun j u hj=>by
    rw [List.getElem?_drop] at hj;have h5:=(hvs (1 + j) u hj).1;rw [show ko + 1 + j=ko + (1 + j) by omega];obtain⟨kb9,ko9,e9,hl9,_⟩:=hK.2 (by intro e;rw [e] at hne;exact absurd hne (Nat.not_lt_zero _));cases e9
    exact hB.cell hkl h5⟩) (by rw [List.length_drop,hvl];omega) (by
    rw [List.all_eq_true];intro u hu;obtain⟨j,hj,rfl⟩:=List.getElem_of_mem hu;obtain⟨A5,c5,e5,_⟩:=(hvs (1 + j) _ (by rw [← List.getElem?_drop];exact List.getElem?_eq_getElem hj)).2
    rw [e5];rfl) om om (Bel.size hB) (fun AN capN wN hoN hsN hgN=>?_)
  have hsN1:Same [b104] w49 wN:=hsN;have hBN:Bel w wN:=hB.tr hsN (fun g hg=>(hO.lt g hg).1);replace hb4:=hb4.tr0 s50;replace hb4:=hb4.tr1 hsN1 om;replace hb13:=hb13.tr0 s50;replace hb13:=hb13.tr1 hsN1 om;replace hb21:=hb21.tr0 s50;replace hb21:=hb21.tr1 hsN1 om;replace hK1:=hK1.tr0 s50;replace hK1:=hK1.tr1 hsN1 (.inr (nLT zK lo104));replace hNZ:=hNZ.tr0 s50;replace hNZ:=hNZ.tr1 hsN1 (.inr (nLT zN lo104))
  have hRst:GrsIn wN AN (XI :: ks.drop 1):=grs_own hoN hnl.symm om (fun j v hj=>by
    match j,hj with
    | 0,hj=>
      cases hj;exact⟨AZ,_,rfl,hNZ.now⟩
    | j + 1,hj=>
      have h6:(vs.drop 1)[j]? =some v:=hj;rw [List.getElem?_drop] at h6;obtain⟨A5,c5,e5,h7⟩:=(hvs (1 + j) v h6).2;have e8:(XI :: ks.drop 1).getD (j + 1) []=ks.getD (1 + j) []:=by
        show (ks.drop 1).getD j []=_;unfold List.getD;rw [List.getElem?_drop]
      refine⟨A5,c5,by rw [e8];exact e5,by rw [e8];exact h7.mono hBN⟩)
  have gN22:Value.slice AN (1 + (ks.length - 1)) capN= .slice AN (XI :: ks.drop 1).length capN:=by rw [hnl]
  clear hgN;refine zn2 ?_;refine e_R ⟨agA,?_⟩;exact⟨AN,capN,gN22,hRst,hBN,hb4,hb13,hb21,hK1⟩
 obtain⟨AN,cN,h22,hRst,hB,hb4,hb13,hb21,hK1⟩:=hI;refine uv 22 _ h22 nu (e_S (y8 ?_));obtain⟨wR,hwR⟩:∃ z,z=w47:=⟨_,rfl⟩
 have hBR:Bel wR w47:=by rw [hwR];exact Below.refl _ _
 rw [← hwR] at hRst;refine zn4 ?_;have z21:=hb21.lt;refine qz fn6 (Nq AT AF (some ⟨rb,ro,none⟩) AX AS ct cf cr cx cst l fs rs xs st ri (kc:=cN) (KA:=AN) (ks:=(XI :: ks.drop 1)) _ (hTab.mono hB) (hU.mono hB) (hTy.mono hB) (hF.mono hB) (hRu.mono hB) (hLx.mono hB) (hG.mono hB) (hRst.mono hBR)) rfl (fun e' w50 hr=>?_);obtain⟨⟨A2x,Y2,ok2,c2,rfl,hN2,hC2⟩,s51⟩:=hr;replace s51:=sB s51;obtain⟨lz2,hz2,hK2,hl2⟩:∃ lz hz,Kept lz hz w50 (fun wq=>NodesIn wq A2x Y2)∧b21 < lz:=⟨_,_,Q1 hN2,z21⟩
 clear hN2;have hJ2:=LV hC2 hcr;rw [hrn,B4 hril] at hJ2;obtain⟨hme1,hme2⟩:=mono_end hjk om hkv hyv hne hky om hJ1 hJ2;have hcr1:(XQ l fs rs xs st ri (XI :: ks.drop 1)).1=0:=by rw [hcr]
 refine⟨_,rfl,?_⟩;refine wmT rfl (wl (yZ (v:=_) rfl rfl) (wl (yZ (v:=_) rfl rfl) (wl (yZ (v:=_) rfl rfl) ?_)));refine yv (cs:=#[.slice none 0 0]) Z9 rfl (fun _=>rfl) (fun _=>rfl) Z6 rfl zJ (fun b23 w52 hb23 s52 hr=>?_);replace hb4:=hb4.tr0 s51;have:=nLL hb4.lt hr;replace hb13:=hb13.tr0 s51;have:=nLL hb13.lt hr;replace hb21:=hb21.tr0 s51;have:=nLL hb21.lt hr;replace hK1:=hK1.tr0 s51;have or_hK1_b23:=(nLT hK1.1 hr)
 have or_hK2_b23:=(nLT hK2.1 hr)
 replace hB:=hB.tr0 s51;have lo23:=nLT (Bel.size hB) hr;refine waB rfl ?_;replace hb21:=hb21.tr0 s52;refine zk hb21 rfl rfl zq rfl zJ (fun w53 hq s53=>?_);replace hb21:=hq;refine kv ?_;refine zW rfl (fun c118=>?_) (fun c118=>?_)
 ·exact absurd hcr1 c118
 refine zn4 ?_;replace hB:=(hB.tr0 s52).tr1 s53 lo21;refine yV [119,120,121,122,123,124] 124 (.bool (decide (ok1=false∨ok2=false))) nu ?_ (fun gq=>?_)
 ·refine zn4 ?_;refine KY 121 rfl (fun g121=>?_) (fun g121=>?_)
  ·refine zn3 ?_;refine zQ (e_R ⟨rfl,agA,?_⟩);show Value.bool _=Value.bool _
   first
    | exact congrArg Value.bool (decide_eq_true (Or.inl (by simpa using g121))).symm
    | (have h5:ok1=true:=by simpa using g121
       cases ok2 <;> simp [h5])
  refine zn5 ?_;refine zQ (e_R ⟨rfl,agA,?_⟩);show Value.bool _=Value.bool _
  first
   | exact congrArg Value.bool (decide_eq_true (Or.inl (by simpa using g121))).symm
   | (have h5:ok1=true:=by simpa using g121
      cases ok2 <;> simp [h5])
 refine e_S ?_;refine zW rfl (fun c124=>?_) (fun c124=>?_)
 ·refine y8 ?_;have hbig:ok2=true→60 < (rs[rn]).gr.length + Xk ks:=fun h=>hme1 h (by rcases c124 with h2 | h2;exact h2;rw [h] at h2;cases h2)
  refine yV [8,125,126,127,128,129,130] 8 (.bool (decide (True))) nu ?_ (fun gq=>?_)
  ·refine zn4 ?_;refine KY 127 rfl (fun g127=>?_) (fun g127=>?_)
   ·refine zn4 ?_;refine zQ (e_R ⟨rfl,agA,?_⟩);show Value.bool _=Value.bool _
    first
     | exact congrArg Value.bool (decide_eq_true True.intro).symm
     | (have h5:=hbig (by simpa using g127);exact congrArg Value.bool (decide_eq_decide.2 ⟨fun _=>trivial,fun _=>by omega⟩))
   refine zn6 ?_;refine zQ (e_R ⟨rfl,agA,?_⟩);show Value.bool _=Value.bool _
   first
    | exact congrArg Value.bool (decide_eq_true True.intro).symm
    | (have h5:=hbig (by simpa using g127);exact congrArg Value.bool (decide_eq_decide.2 ⟨fun _=>trivial,fun _=>by omega⟩))
  refine zn4 ?_;exact⟨rfl,hB⟩
 have hok1:ok1=true:=by cases h:ok1 with
   | true=>rfl
   | false=>exact absurd (.inl h) c124
 have hok2:ok2=true:=by cases h:ok2 with
   | true=>rfl
   | false=>exact absurd (.inr h) c124
 obtain⟨hmm,hv1,hv2⟩:=hme2 hok1 hok2;have htz:=tw_mk hv1 hv2;have hsub:S9 l fs Y1 Y2=true:=by rw [S8 htz];exact decide_eq_true hmm
 refine zn5 ?_;replace hb4:=(hb4.tr0 s52).tr1 s53 om;refine wl (qW U25 rfl rfl (hb4.sub (n:=2) (xs:=[_,_]) rfl) QQ) (zn2 ?_);replace hK1:=(hK1.tr0 s52).tr1 s53 om;replace hK2:=(hK2.tr0 s52).tr1 s53 om;refine qz fn9 (subs_any AT AF A1x A2x ct cf c1 c2 l fs Y1 Y2 _ (hTab.mono hB) (hTy.mono hB) (hF.mono hB) hK1.now hK2.now) rfl (fun e' w54 hr=>?_);obtain⟨rfl,s54⟩:=hr;replace s54:=sB s54;refine⟨_,rfl,?_⟩;refine wmT rfl (wl (yZ (v:= .bool _) rfl rfl) (wl (yZ (v:= .agg _) rfl rfl) (waB rfl ?_)));replace hb21:=hb21.tr0 s54;refine zk hb21 rfl rfl zq rfl zJ (fun w55 hq s55=>?_);replace hb21:=hq;refine zn3 ?_;refine yV [8,139,140,141,142,143,144] 8 (.bool (decide (True))) nu ?_ (fun gq=>?_)
 ·refine zn5 ?_;refine zY 142 rfl (fun g142=>?_) (fun g142=>?_)
  ·refine zn4 ?_;refine zQ (e_R ⟨rfl,agA,?_⟩);show Value.bool _=Value.bool _
   first
    | exact congrArg Value.bool (hsub.trans (decide_eq_true True.intro).symm)
    | exact absurd htz g142
  refine zn3 ?_;refine zQ (e_R ⟨rfl,agA,?_⟩);show Value.bool _=Value.bool _
  first
   | exact congrArg Value.bool (hsub.trans (decide_eq_true True.intro).symm)
   | exact absurd htz g142
 refine zn3 ?_;replace hB:=(hB.tr0 s54).tr1 s55 lo21;exact⟨rfl,hB⟩
end Go.Proofs.YtdgnllfbooklcaaDoor
