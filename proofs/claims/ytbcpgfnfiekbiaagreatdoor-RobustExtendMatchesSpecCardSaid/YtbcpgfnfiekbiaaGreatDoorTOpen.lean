/- What these functions of the program compute, at every world: glosswright/glosswrightlaw4.RobustExtendMatchesSpec. Arguments opened: graphs. Arguments opened: types and terms (structs that hold slices of themselves), rules, words and grammars; and the bounds of strings inside. -/
import Derived.Test.YtbcpgfnfiekbiaaGreatDoorU
import Derived.Test.YtbcpgfnfiekbiaaGreatDoorTrm
import Derived.Test.YtbcpgfnfiekbiaaGreatDoorSml
import Derived.Test.YtbcpgfnfiekbiaaGreatDoorComp
import Derived.Test.YtbcpgfnfiekbiaaGreatDoorEQg
import Derived.Test.YtbcpgfnfiekbiaaGreatDoorStk
import Derived.Test.YtbcpgfnfiekbiaaGreatDoorOpen
import Derived.Test.YtbcpgfnfiekbiaaGreatDoorGLoose
import Derived.Test.YtbcpgfnfiekbiaaGreatDoorLxd
import Derived.SizedLaws
namespace Go.Proofs.YtbcpgfnfiekbiaaGreatDoor
open Go.RowKit
theorem wugval {w:World} {AT AF AR AX AS AW AU:Option Addr} {ct cf cr cx cst cw cu:Nat} (hTab:TabIn w) (hU8:U8In w) (hTy:TypesIn w AT smallT) (hF:FeatsIn w AF smallF) (hRu:RulesIn w AR smallR) (hLx:LexesIn w AX smallX) (hG:NodesIn w AS smallS) (hW:StrsIn w AW sws) (hUn:LexesIn w AU sus):Calls Tryz.prog 6 #[.agg #[.slice AT smallT.length ct,.slice AF smallF.length cf,.slice AR smallR.length cr,.slice AX smallX.length cx,.slice AS smallS.length cst],.slice AW 3 cw,.slice AU 2 cu] w fun e w'=>(∃ (T F R X G:Option Addr) (k1 k2 k3 k4 k5 n1 n2 n3 n5:Nat),e= .returned (.tuple #[.agg #[.slice T n1 k1,.slice F n2 k2,.slice R n3 k3,.slice X 23 k4,.slice G n5 k5],.agg #[.int .i64 0,.int .i64 0]])∧WugAt w' X)∧Bel w w':=by
  have h:=P7 AT AF AR AX AS ct cf cr cx cst smallT smallF smallR smallX smallS w AW AU cw cu sws sus hTab hU8 hTy hF hRu hLx hG hW sws_size hUn;rw [Xy,show sws.length=3 from rfl] at h;exact h.mono (fun e w' h=>⟨ext_wug h.1,h.2⟩)
theorem fd36:(Tryz.prog.fieldsOf 36).toList.map (fun f=>(f.name == "_",f.type,f.offset))= [(false,3,0),(false,3,1)]:=by kernel_rfl
theorem fn5:zZ Tryz.prog 5=true:=by kernel_rfl
theorem fn6:zZ Tryz.prog 6=true:=by kernel_rfl
theorem fn7:zZ Tryz.prog 7=true:=by kernel_rfl
theorem fn8:zZ Tryz.prog 8=true:=by kernel_rfl
theorem fn9:zZ Tryz.prog 9=true:=by kernel_rfl
theorem ft36:Tryz.prog.underlying 36=some (.struct (Tryz.prog.fieldsOf 36)):=by kernel_rfl
set_option maxRecDepth 100000 in
set_option maxHeartbeats 8000000 in
theorem law35_any (AT AF AR AX AS:Option Addr) (ct cf cr cx cst:Nat) (l:List Ty) (fs:List Ft) (rs:List Rl) (xs:List Lx) (sg:List Nd) (w:World) (AW AU:Option Addr) (cw cu:Nat) (ws:List ByteArray) (us:List Lx) (hTab:TabIn w) (hU8:U8In w) (hct:l.length≤ct) (hcf:fs.length≤cf) (hcr:rs.length≤cr) (hTy:TypesIn w AT l) (hF:FeatsIn w AF fs) (hRu:RulesIn w AR rs) (hLx:LexesIn w AX xs) (hG:NodesIn w AS sg) (hW:StrsIn w AW ws) (hsw:∀ x ∈ ws,x.size < 9223372036854775807) (hU:LexesIn w AU us):Calls Tryz.prog 3 #[.agg #[.slice AT l.length ct,.slice AF fs.length cf,.slice AR rs.length cr,.slice AX xs.length cx,.slice AS sg.length cst],.slice AW ws.length cw,.slice AU us.length cu] w fun e w'=>e= .returned (.bool true)∧Bel w w':=by
 refine enT Tryz.func3 Tryz.ntmps3 rfl rfl fun hB=>?_;refine zn2 ?_;refine qK (v:= .agg #[_,_,_,_,_]) (cs:=#[_,_,_,_,_]) rfl rfl (fun b3 w1 hb3 q1 hr=>?_);refine zn5 ?_;refine zJ fn5 (small_d _) rfl (fun e' w2 hr=>?_);obtain⟨⟨_,rfl,At1,ct1,Bf1,cf1,br,cells,A1,cap1,AS1,cst1,n1,rfl,lor,hcp,hbr,hD⟩,q2⟩:=hr;replace q2:=sB q2;have t1:=hD.now.1;have t2:=hD.now.2.1;have t3:=hD.now.2.2.1.rules hbr dE;have t4:=hD.now.2.2.2.1;have t5:=hD.now.2.2.2.2;obtain⟨xb,xo,rfl,hsu⟩:=sus_in t4;clear hD hbr;obtain⟨wS,hwS⟩:∃ z,z=w2:=⟨_,rfl⟩
 have hBs:Bel wS w2:=by rw [hwS];exact Below.refl _ _
 rw [← hwS] at t1 t2 t3 t4 t5 hsu;refine⟨_,rfl,?_⟩;refine xW (cs:=#[.slice none 0 0,.slice none 0 0,.slice none 0 0,.slice none 0 0,.slice none 0 0]) ze32 rfl (fun _=>rfl) (fun _=>rfl) H2 rfl zX (fun b7 w4 hb7 q3 hr=>?_);refine zn4 ?_;replace hB:=hB.tr0 (q1.trans (q2.trans q3));have hszB:=Bel.size hB;refine IZ 13 [17,18,19,20,21,22,16,23,24,8,9] [] (fun ix=>Nat.beq ix 11 || Nat.beq ix 12) (fun st ix v la ha wv=>match ix with | 0=>v= .agg #[.slice At1 smallT.length ct1,.slice Bf1 smallF.length cf1,.slice (some ⟨br,0,none⟩) smallR.length smallR.length,.slice (some ⟨xb,xo,none⟩) smallX.length cap1,.slice AS1 smallS.length cst1] | 1=>∃ b:Nat,v= .slice (some ⟨b,0,none⟩) 3 3∧Blk wv b 9 #[.string wug,.string rex,.string wug] | 2=>v= .pointer (some ⟨b7,3,none⟩) | 3=>v= .slice (some ⟨xb,xo,none⟩) smallX.length cap1 | 4=>v= .slice (some ⟨xb,xo + 3 * 9,none⟩) (5 - 3) (cap1 - 3) | 5=>∃ (T1 F1 R1 X1 G1:Option Addr) (k1 k2 k3 k4 k5 n1 n2 n3 n5:Nat),v= .tuple #[.agg #[.slice T1 n1 k1,.slice F1 n2 k2,.slice R1 n3 k3,.slice X1 23 k4,.slice G1 n5 k5],.agg #[.int .i64 0,.int .i64 0]]∧WugAt wv X1 | 6=>∃ (T1 F1 R1 X1 G1:Option Addr) (k1 k2 k3 k4 k5 n1 n2 n3 n5:Nat),v= .tuple #[.agg #[.slice T1 n1 k1,.slice F1 n2 k2,.slice R1 n3 k3,.slice X1 23 k4,.slice G1 n5 k5],.agg #[.int .i64 0,.int .i64 0]]∧WugAt wv X1 | 7=>∃ (T1 F1 R1 X1 G1:Option Addr) (k1 k2 k3 k4 k5 n1 n2 n3 n5:Nat),v= .agg #[.slice T1 n1 k1,.slice F1 n2 k2,.slice R1 n3 k3,.slice X1 23 k4,.slice G1 n5 k5]∧WugAt wv X1 | 8=>v= .agg #[.int .i64 0,.int .i64 0] | 9=>∃ b:Nat,v= .pointer (some ⟨b,0,none⟩)∧w4.heap.size≤b∧(st 11=false→Blk wv b 32 #[.slice none 0 0,.slice none 0 0,.slice none 0 0,.slice none 0 0,.slice none 0 0])∧(st 11=true→∃ (T1 F1 R1 X1 G1:Option Addr) (k1 k2 k3 k4 k5 n1 n2 n3 n5:Nat),Blk wv b 32 #[.slice T1 n1 k1,.slice F1 n2 k2,.slice R1 n3 k3,.slice X1 23 k4,.slice G1 n5 k5]∧WugAt wv X1)∧la≤b∧b < ha | 10=>∃ b:Nat,v= .pointer (some ⟨b,0,none⟩)∧w4.heap.size≤b∧Blk wv b 36 #[.int .i64 0,.int .i64 0] | 11=>True | 12=>True | _=>True) kR kR kR ?_ ?_ ?_
 ·intro st ix v la ha wv wv2 h q4
  match ix,h with
  | 0,h=>exact h
  | 1,h=>
   obtain⟨b18,e18,hb18⟩:=h;exact⟨b18,e18,hb18.tr0 q4⟩
  | 2,h=>exact h
  | 3,h=>exact h
  | 4,h=>exact h
  | 5,h=>
   obtain⟨T1,F1,R1,X1,G1,k1,k2,k3,k4,k5,n1,n2,n3,n5,e22,hwg⟩:=h;exact⟨T1,F1,R1,X1,G1,k1,k2,k3,k4,k5,n1,n2,n3,n5,e22,hwg.mono q4.bel⟩
  | 6,h=>
   obtain⟨T1,F1,R1,X1,G1,k1,k2,k3,k4,k5,n1,n2,n3,n5,e16,hwg⟩:=h;exact⟨T1,F1,R1,X1,G1,k1,k2,k3,k4,k5,n1,n2,n3,n5,e16,hwg.mono q4.bel⟩
  | 7,h=>
   obtain⟨T1,F1,R1,X1,G1,k1,k2,k3,k4,k5,n1,n2,n3,n5,e23,hwg⟩:=h;exact⟨T1,F1,R1,X1,G1,k1,k2,k3,k4,k5,n1,n2,n3,n5,e23,hwg.mono q4.bel⟩
  | 8,h=>exact h
  | 9,h=>
   obtain⟨b8,e8,lo8,hz8,hy8,la8,ha8⟩:=h;exact⟨b8,e8,lo8,fun h=>(hz8 h).tr0 q4,(fun h=>by obtain⟨T1,F1,R1,X1,G1,k1,k2,k3,k4,k5,n1,n2,n3,n5,h1,h2⟩:=hy8 h;exact⟨T1,F1,R1,X1,G1,k1,k2,k3,k4,k5,n1,n2,n3,n5,h1.tr0 q4,h2.mono q4.bel⟩),la8,ha8⟩
  | 10,h=>
   obtain⟨b9,e9,lo9,hb9⟩:=h;exact⟨b9,e9,lo9,hb9.tr0 q4⟩
  | 11,h=>exact h
  | 12,h=>exact h
  | _ + 13,h=>exact trivial
 ·intro st ix o hix hoq hns gg wx la ha q5 hd
  match ix,hix,hoq,hns with
  | 0,_,hoq,hns=>
   cases sI hoq;show OS _ _ _ _ _ _;refine xk (zV U32 rfl rfl hb7.u.range0 H2) ⟨Same.refl _ _,?_⟩;exact rfl
  | 1,_,hoq,hns=>
   cases sI hoq;show OS _ _ _ _ _ _;refine vK (fun ops Q K=>?_);refine qv (cs:=#[_,_,_]) [(0,.string _),(1,.string _),(2,.string _)] rfl U33 sz9_Valid ze9 dE dE kR rfl (fun b18 w5 hb18 q6 hr=>?_);exact K _ _ ⟨q6,⟨_,rfl,hb18⟩⟩
  | 2,_,hoq,hns=>
   cases sI hoq;show OS _ _ _ _ _ _;refine xk (uk U32 QW dE rfl rfl rfl) ⟨Same.refl _ _,?_⟩;exact rfl
  | 3,_,hoq,hns=>
   cases sI hoq;show OS _ _ _ _ _ _;refine zz 19 _ (hd 2 _ (zq kR) rfl) nu ?_;refine xk (qZ (v:= .slice _ _ _) U27 rfl rfl (hb7.u.cell rfl)) ⟨Same.refl _ _,?_⟩;exact rfl
  | 4,_,hoq,hns=>
   cases sI hoq;show OS _ _ _ _ _ _;refine zz 20 _ (hd 3 _ (zq kR) rfl) nu ?_;refine xk (r_slB (l:=3) (h:=5) U27 K9 rfl rfl rfl dE (by rw [M6] at hcp;omega) (by rw [M6] at hcp;omega) dE) ⟨Same.refl _ _,rfl⟩
  | 5,_,hoq,hns=>
   cases sI hoq;show OS _ _ _ _ _ _;obtain⟨b18,e18,hb18⟩:=hd 1 _ (zq kR) rfl;refine zz 17 _ (hd 0 _ (zq kR) rfl) nu (zz 18 _ e18 nu (zz 21 _ (hd 4 _ (zq kR) rfl) nu ?_));refine yK fn6 (wugval (hTab.mono hB.u) (hU8.mono hB.u) (t1.mono hBs.u) (t2.mono hBs.u) (t3.mono hBs.u) (t4.mono hBs.u) (t5.mono hBs.u) (H5 hb18) (hsu.mono hBs.u)) rfl (fun e' w2 hr=>?_);obtain⟨⟨T1,F1,R1,X1,G1,k1,k2,k3,k4,k5,n1,n2,n3,n5,rfl,hwg⟩,q7⟩:=hr;exact⟨_,rfl,sB q7,⟨_,_,_,_,_,_,_,_,_,_,_,_,_,_,rfl,hwg⟩⟩
  | 6,_,hoq,hns=>
   cases sI hoq;show OS _ _ _ _ _ _;obtain⟨T1,F1,R1,X1,G1,k1,k2,k3,k4,k5,n1,n2,n3,n5,e22,hwg⟩:=hd 5 _ (zq kR) rfl;refine zz 22 _ e22 nu ?_;refine xk (xZ (v:= .tuple _) rfl) ⟨Same.refl _ _,?_⟩;exact⟨_,_,_,_,_,_,_,_,_,_,_,_,_,_,rfl,hwg⟩
  | 7,_,hoq,hns=>
   cases sI hoq;show OS _ _ _ _ _ _;obtain⟨T1,F1,R1,X1,G1,k1,k2,k3,k4,k5,n1,n2,n3,n5,e16,hwg⟩:=hd 6 _ (zq kR) rfl;refine zz 16 _ e16 nu ?_;refine xk (jw (v:= .agg _) rfl rfl) ⟨Same.refl _ _,?_⟩;exact⟨_,_,_,_,_,_,_,_,_,_,_,_,_,_,rfl,hwg⟩
  | 8,_,hoq,hns=>
   cases sI hoq;show OS _ _ _ _ _ _;obtain⟨T1,F1,R1,X1,G1,k1,k2,k3,k4,k5,n1,n2,n3,n5,e16,hwg⟩:=hd 6 _ (zq kR) rfl;refine zz 16 _ e16 nu ?_;refine xk (jw (v:= .agg _) rfl rfl) ⟨Same.refl _ _,?_⟩;exact rfl
  | 9,_,hoq,hns=>
   cases sI hoq;show OS _ _ _ _ _ _;have hs0:=q5;refine vK (fun ops Q K=>?_);refine zY (cs:=#[.slice none 0 0,.slice none 0 0,.slice none 0 0,.slice none 0 0,.slice none 0 0]) ze32 rfl (fun b8 w1 hb8 q8 hr=>?_);exact K _ _ ⟨q8,_,rfl,nLT hs0.size hr,fun _=>hb8,(fun h=>absurd (hns 11 rfl kR) (by rw [h];decide)),hr,hb8.lt⟩
  | 10,_,hoq,hns=>
   cases sI hoq;show OS _ _ _ _ _ _;have hs0:=q5;refine vK (fun ops Q K=>?_);refine zY (cs:=#[.int .i64 0,.int .i64 0]) qk rfl (fun b9 w1 hb9 q9 hr=>?_);exact K _ _ ⟨q9,_,rfl,nLT hs0.size hr,hb9⟩
  | 11,_,hoq,hns=>
   cases sI hoq;show st 11=false→(∀ j k,j ∈ _→k ∈ _→j≠k→ha j≤la k∨ha k≤la j)→OS _ _ _ _ _ _;intro hn hI;have hs0:=q5;obtain⟨T1,F1,R1,X1,G1,k1,k2,k3,k4,k5,n1,n2,n3,n5,e23,hwg⟩:=hd 7 _ (zq kR) rfl;obtain⟨b8,e8,lo8,hz8,hy8,la8,ha8⟩:=hd 9 _ (zq kR) rfl;refine zz 23 _ e23 nu (zz 8 _ e8 nu ?_);have hzb:=hz8 hn;refine Mx (fun ops Q K=>?_);refine zj hzb rfl rfl H2 rfl zX (fun w2 hq hs2=>?_);have K2:=K w2;refine K2 ⟨hs0.freshL hs2 (fun g hg=>by rw [List.mem_singleton.1 hg];exact .inr lo8),hs2.size,?_,fun kx ox hne hox h=>?_⟩
   ·exact trivial
   match kx,hne,hox,h with
   | 0,_,_,h=>exact h
   | 1,_,hox,h=>
    obtain rfl:_=ox:=Option.some.inj hox;obtain⟨b18,e18,hb18⟩:=h;exact⟨b18,e18,hb18.tr1 hs2 (P3 hb18 hzb dE)⟩
   | 2,_,_,h=>exact h
   | 3,_,_,h=>exact h
   | 4,_,_,h=>exact h
   | 5,_,hox,h=>
    obtain rfl:_=ox:=Option.some.inj hox;obtain⟨T1,F1,R1,X1,G1,k1,k2,k3,k4,k5,n1,n2,n3,n5,e22,hwg⟩:=h;exact⟨T1,F1,R1,X1,G1,k1,k2,k3,k4,k5,n1,n2,n3,n5,e22,hwg.tr hzb JK hs2⟩
   | 6,_,hox,h=>
    obtain rfl:_=ox:=Option.some.inj hox;obtain⟨T1,F1,R1,X1,G1,k1,k2,k3,k4,k5,n1,n2,n3,n5,e16,hwg⟩:=h;exact⟨T1,F1,R1,X1,G1,k1,k2,k3,k4,k5,n1,n2,n3,n5,e16,hwg.tr hzb JK hs2⟩
   | 7,_,hox,h=>
    obtain rfl:_=ox:=Option.some.inj hox;obtain⟨T1,F1,R1,X1,G1,k1,k2,k3,k4,k5,n1,n2,n3,n5,e23,hwg⟩:=h;exact⟨T1,F1,R1,X1,G1,k1,k2,k3,k4,k5,n1,n2,n3,n5,e23,hwg.tr hzb JK hs2⟩
   | 8,_,_,h=>exact h
   | 9,_,hox,h=>
    obtain rfl:_=ox:=Option.some.inj hox;obtain⟨bx,ex,lox,hzx,hyx,lax,hax⟩:=h;have hbx:bx=b8:=by
      have h:=ex.symm.trans e8;cases h;rfl
    subst hbx;exact⟨bx,ex,lox,(fun h=>by cases (show true=false from h)),(fun _=>⟨T1,F1,R1,X1,G1,k1,k2,k3,k4,k5,n1,n2,n3,n5,hq,hwg.tr hzb JK hs2⟩),lax,hax⟩
   | 10,_,hox,h=>
    obtain rfl:_=ox:=Option.some.inj hox;obtain⟨bx,ex,lox,hzx⟩:=h;exact⟨bx,ex,lox,hzx.tr1 hs2 (P3 hzx hzb dE)⟩
   | 11,hne,_,_=>exact absurd rfl hne
   | 12,_,_,h=>exact h
   | _ + 13,_,_,_=>exact trivial
  | 12,_,hoq,hns=>
   cases sI hoq;show st 12=false→(∀ j k,j ∈ _→k ∈ _→j≠k→ha j≤la k∨ha k≤la j)→OS _ _ _ _ _ _;intro hn hI;have hs0:=q5;obtain⟨b9,e9,lo9,hb9⟩:=hd 10 _ (zq kR) rfl;refine zz 24 _ (hd 8 _ (zq kR) rfl) nu (zz 9 _ e9 nu ?_);have hzb:=hb9;refine Mx (fun ops Q K=>?_);refine zj hzb rfl rfl z4 rfl zX (fun w2 hq hs2=>?_);have K2:=K w2;refine K2 ⟨hs0.freshL hs2 (fun g hg=>by rw [List.mem_singleton.1 hg];exact .inr lo9),hs2.size,?_,fun kx ox hne hox h=>?_⟩
   ·exact trivial
   match kx,hne,hox,h with
   | 0,_,_,h=>exact h
   | 1,_,hox,h=>
    obtain rfl:_=ox:=Option.some.inj hox;obtain⟨b18,e18,hb18⟩:=h;exact⟨b18,e18,hb18.tr1 hs2 (P3 hb18 hzb dE)⟩
   | 2,_,_,h=>exact h
   | 3,_,_,h=>exact h
   | 4,_,_,h=>exact h
   | 5,_,hox,h=>
    obtain rfl:_=ox:=Option.some.inj hox;obtain⟨T1,F1,R1,X1,G1,k1,k2,k3,k4,k5,n1,n2,n3,n5,e22,hwg⟩:=h;exact⟨T1,F1,R1,X1,G1,k1,k2,k3,k4,k5,n1,n2,n3,n5,e22,hwg.tr hzb K1 hs2⟩
   | 6,_,hox,h=>
    obtain rfl:_=ox:=Option.some.inj hox;obtain⟨T1,F1,R1,X1,G1,k1,k2,k3,k4,k5,n1,n2,n3,n5,e16,hwg⟩:=h;exact⟨T1,F1,R1,X1,G1,k1,k2,k3,k4,k5,n1,n2,n3,n5,e16,hwg.tr hzb K1 hs2⟩
   | 7,_,hox,h=>
    obtain rfl:_=ox:=Option.some.inj hox;obtain⟨T1,F1,R1,X1,G1,k1,k2,k3,k4,k5,n1,n2,n3,n5,e23,hwg⟩:=h;exact⟨T1,F1,R1,X1,G1,k1,k2,k3,k4,k5,n1,n2,n3,n5,e23,hwg.tr hzb K1 hs2⟩
   | 8,_,_,h=>exact h
   | 9,_,hox,h=>
    obtain rfl:_=ox:=Option.some.inj hox;obtain⟨bx,ex,lox,hzx,hyx,lax,hax⟩:=h;exact⟨bx,ex,lox,fun h=>(hzx h).tr1 hs2 (P3 (hzx h) hzb dE),(fun h=>by obtain⟨T1,F1,R1,X1,G1,k1,k2,k3,k4,k5,n1,n2,n3,n5,h1,h2⟩:=hyx h;exact⟨T1,F1,R1,X1,G1,k1,k2,k3,k4,k5,n1,n2,n3,n5,h1.tr1 hs2 (P3 h1 hzb dE),h2.tr hzb K1 hs2⟩),lax,hax⟩
   | 10,_,hox,h=>
    obtain rfl:_=ox:=Option.some.inj hox;obtain⟨bx,ex,lox,hzx⟩:=h;have hbx:bx=b9:=by
      have h:=ex.symm.trans e9;cases h;rfl
    subst hbx;exact⟨bx,ex,lox,hq⟩
   | 11,_,_,h=>exact h
   | 12,hne,_,_=>exact absurd rfl hne
   | _ + 13,_,_,_=>exact trivial
  | _ + 13,hix,_,_=>exact absurd hix om
 intro st gg w6 la ha hall q10 hR hI;obtain⟨b8,e8,lo8,hz8,hy8,la8,ha8⟩:=hR 9 _ rfl;obtain⟨b9,e9,lo9,hb9⟩:=hR 10 _ rfl;obtain⟨T1,F1,R1,X1,G1,k1,k2,k3,k4,k5,n1,n2,n3,n5,hb8,hwg⟩:=hy8 (hall 11 dE rfl);obtain⟨gb,go,rfl,hgb,hgc⟩:=hwg;obtain⟨wG,hwG⟩:∃ z,z=w6:=⟨_,rfl⟩
 have hBG:Bel wG w6:=by rw [hwG];exact Below.refl _ _
 rw [← hwG] at hgb hgc;clear hwG;refine x7 8 _ e8 nu (x7 9 _ e9 nu (zn7 ?_));refine wl (xZ (v:= .bool false) (congrArg Value.bool (decide_eq_false (fun h=>h rfl)))) (zn9 ?_);refine wl (xZ (v:= .bool false) (congrArg Value.bool (decide_eq_false (fun h=>h rfl)))) (zn5 ?_);refine wl (xw (i:=22) U27 K9 rfl rfl dE rfl) (zn3 ?_);refine wl (qZ (v:= .string _) U9 rfl rfl (hBG.cell hgb hgc)) (zn5 ?_);refine vw rfl (fun c41=>?_) (fun c41=>?_)
 ·exact absurd c41 dE
 refine zn7 ?_;refine zJ fn6 (P7 AT AF AR AX AS ct cf cr cx cst l fs rs xs sg _ AW AU cw cu ws us (hTab.mono hB.u) (hU8.mono hB.u) (hTy.mono hB.u) (hF.mono hB.u) (hRu.mono hB.u) (hLx.mono hB.u) (hG.mono hB.u) (hW.mono hB.u) hsw (hU.mono hB.u)) rfl (fun e' w7 hr=>?_);obtain⟨⟨T2,F2,R2,X2,G2,m1,m2,m3,m4,m5,l1,f1,r1,x1,s1,rfl,hr1,hH1⟩,q11⟩:=hr;replace q11:=sB q11;have hG1:=hH1.now;clear hH1;obtain⟨wX,hwX⟩:∃ z,z=w7:=⟨_,rfl⟩
 have hBX:Bel wX w7:=by rw [hwX];exact Below.refl _ _
 rw [← hwX] at hG1;clear hwX;refine⟨_,rfl,?_⟩;refine wmT rfl (wl (jw (v:= .agg _) rfl rfl) (wl (jw (v:= .agg _) rfl rfl) ?_));refine zY (cs:=#[.slice none 0 0,.slice none 0 0,.slice none 0 0,.slice none 0 0,.slice none 0 0]) ze32 rfl (fun b10 w8 hb10 q12 hr=>?_);have:=nLL hb3.u.lt hr;have:=nLL hb7.u.lt hr;have:=nLL hb8.u.lt hr;have:=nLL hb9.u.lt hr;have lo10:=nLT (Bel.size hB.u) hr;have lo_hBX_b10:=nLT (Bel.size hBX) hr;refine zY (cs:=#[.int .i64 0,.int .i64 0]) qk rfl (fun b11 w9 hb11 q13 hr=>?_);have:=nLL hb3.u.lt hr;have:=nLL hb7.u.lt hr;have:=nLL hb8.u.lt hr;have:=nLL hb9.u.lt hr;have:=nLL hb10.lt hr;have lo11:=nLT (Bel.size hB.u) hr;have lo_hBX_b11:=nLT (Bel.size hBX.u) hr;refine zj hb10.u rfl rfl H2 rfl zX (fun w10 hq q14=>?_);replace hb10:=hq;refine zj hb11.u rfl rfl z4 rfl zX (fun w11 hq q15=>?_);replace hb11:=hq;refine zn6 ?_;refine zJ fn7 (PJ AT AF AR AX AS ct cf cr cx cst l fs rs xs sg _ hct hcf hcr (hTy.mono hB.u) (hF.mono hB.u) (hRu.mono hB.u) (hLx.mono hB.u) (hG.mono hB.u)) rfl (fun e' w12 hr=>?_);obtain⟨rfl,q16⟩:=hr;replace q16:=sB q16;refine⟨_,rfl,?_⟩;refine xW (cs:=#[.int .i64 0,.int .i64 0]) qk rfl (fun _=>rfl) (fun _=>rfl) z4 rfl zX (fun b12 w14 hb12 q17 hr=>?_);refine zn9 ?_;refine zy rfl (fun c53=>?_) (fun c53=>?_)
 ·have hev:=ev_bad (l:=l) (fs:=fs) (rs:=rs) (xs:=xs) (us:=us) (st:=sg) (ws:=ws) rfl c53;replace hb11:=hb11.tr0 (q16.trans q17);rw [hev] at hb11 hr1;obtain⟨rfl,rfl,rfl,rfl,rfl⟩:l1= []∧f1= []∧r1= []∧x1= []∧s1= []:=by
    rcases hr1 with ⟨h,_⟩ | ⟨_,h⟩
    · exact absurd h c53
    · exact h
  refine zn4 ?_;refine wl (r_eqF Tryz.eqGuardType36 ft36 Tryz.stoodInHeld36 fd36 U3 rfl rfl) (wl (xZ (v:= .bool true) (congrArg Value.bool (decide_eq_true ⟨rfl,rfl⟩))) (Z6 ?_));exact⟨rfl,hB.u⟩
 have hg0:=Decidable.not_not.1 c53;have hP:=Ow hg0;replace hb11:=hb11.tr0 (q16.trans q17);rw [N7 (DV hg0)] at hb11 hr1;obtain⟨hk1,hk2,hk3,hk4⟩:=res_K hP hr1;refine zn7 ?_;refine zJ fn8 (Sw AT AF AR AX AS ct cf cr cx cst l fs rs xs sg _ AW AU cw cu ws us hP (hTy.mono hB.u) (hF.mono hB.u) (hRu.mono hB.u) (hLx.mono hB.u) (hG.mono hB.u) (hW.mono hB.u) hsw (hU.mono hB.u)) rfl (fun e' w15 hr=>?_);obtain⟨⟨T3,F3,R3,X3,G3,p1,p2,p3,p4,p5,l2,f2,r2,x2,s2,rfl,hr2,hH2⟩,q18⟩:=hr;replace q18:=sB q18;obtain⟨rfl,rfl,rfl,rfl,rfl⟩:=res_det hr1 hr2;have hG2:=hH2.now;clear hH2;obtain⟨wY,hwY⟩:∃ z,z=w15:=⟨_,rfl⟩
 have hBY:Bel wY w15:=by rw [hwY];exact Below.refl _ _
 rw [← hwY] at hG2;clear hwY;refine⟨_,rfl,?_⟩;refine wmT rfl (wl (jw (v:= .agg _) rfl rfl) (wl (jw (v:= .agg _) rfl rfl) ?_));refine zY (cs:=#[.slice none 0 0,.slice none 0 0,.slice none 0 0,.slice none 0 0,.slice none 0 0]) ze32 rfl (fun b13 w16 hb13 q19 hr=>?_);have:=nLL hb10.u.lt hr;have:=nLL hb11.u.lt hr;have lo13:=nLT (Bel.size hB.u) hr;have lo_hBX_b13:=nLT (Bel.size hBX.u) hr;have lo_hBY_b13:=nLT (Bel.size hBY) hr;refine zY (cs:=#[.int .i64 0,.int .i64 0]) qk rfl (fun b14 w17 hb14 q20 hr=>?_);have:=nLL hb10.u.lt hr;have:=nLL hb11.u.lt hr;have:=nLL hb13.lt hr;have lo14:=nLT (Bel.size hB.u) hr;have lo_hBX_b14:=nLT (Bel.size hBX.u) hr;have lo_hBY_b14:=nLT (Bel.size hBY.u) hr;refine zj hb13.u rfl rfl H2 rfl zX (fun w18 hq q21=>?_);replace hb13:=hq;refine zj hb14.u rfl rfl z4 rfl zX (fun w19 hq q22=>?_);replace hb14:=hq;refine zn6 ?_;refine wl (r_eqF Tryz.eqGuardType36 ft36 Tryz.stoodInHeld36 fd36 U3 rfl rfl) (wl (xZ (v:= .bool true) (congrArg Value.bool (decide_eq_true ⟨rfl,rfl⟩))) (zn5 ?_));refine zJ fn9 (grmq_any T2 F2 R2 X2 G2 T3 F3 R3 X3 G3 m1 m2 m3 m4 m5 p1 p2 p3 p4 p5 l2 f2 r2 x2 s2 _ hk1 hk2 hk3 hk4 (hG1.1.mono hBX.u) (hG1.2.1.mono hBX.u) (hG1.2.2.1.mono hBX.u) (hG1.2.2.2.1.mono hBX.u) (hG1.2.2.2.2.mono hBX.u) (hG2.1.mono hBY.u) (hG2.2.1.mono hBY.u) (hG2.2.2.1.mono hBY.u) (hG2.2.2.2.1.mono hBY.u) (hG2.2.2.2.2.mono hBY.u)) rfl (fun e' w20 hr=>?_);obtain⟨rfl,q23⟩:=hr;replace q23:=sB q23;refine⟨_,rfl,?_⟩;refine zn6 ?_;exact⟨rfl,hB.u⟩
end Go.Proofs.YtbcpgfnfiekbiaaGreatDoor
namespace Go.Proofs.YtbcpgfnfiekbiaaGreatDoor
open Go.RowKit Go.ChangeShapes Go.WideShapes Go.Deep Go.Joins
section
variable {H:Type} {enc:TypeId×Value→H} {P:Program} {w:World} {base:Nat} {spare:Nat→Bool} {held:Bool}
theorem Lq {t e ti:TypeId} {f0 f1:Field} {fuel:Nat} {v:Value} {x:DataW H×List MemPlace} (ht:P.underlying t=some (.slice e)) (he:P.underlying e=some (.struct #[f0,f1])) (hsz:P.cellsOf e=2) (o0:f0.offset=0) (o1:f1.offset=1) (e0:f0.type=ti) (e1:f1.type=ti)
    (hi:P.underlying ti=some (.int .i64)) (hc1:P.cellsOf ti=1) (h:DataW.trod enc P w base spare held fuel t [v]=some x):
    ∃ A xs c,v= .slice A (List.length xs) c∧xs.length≤c∧LinksIn w A xs:=by
  obtain⟨A,len,c,rfl,hl,hm,hx⟩:=KV ht hsz dE h;by_cases h0:len=0
  · subst h0
    exact⟨A,[],c,rfl,Nat.zero_le _,Nat.zero_le _,fun h=>absurd rfl h⟩
  · obtain⟨b,o,rfl,hlt,hc⟩:=hx h0
    obtain⟨xs,hxl,hxs⟩:=j7 (p:=fun i (z:Int×Int)=>w.rangeAt b (o + i * 2) [.int .i64 z.1,.int .i64 z.2]) (n:=len) (fun i hi'=>by
      obtain⟨cs,k,y,h1,h2,h3⟩:=hc i hi';obtain⟨v0,v1,n,y0,y1,rfl,g0,g1⟩:=IW he h1 o0 o1 (by rw [e0];exact hc1) (by rw [e1];exact hc1) h3;rw [e0] at g0;rw [e1] at g1;obtain⟨z1,h5,_,_⟩:=DataW.trod_int hi g0;obtain⟨z2,h6,_,_⟩:=DataW.trod_int hi g1;rw [jx h5,jx h6] at h2
      exact⟨(z1,z2),h2⟩)
    subst hxl;exact⟨_,xs,c,rfl,hl,nLT hl hm,fun _=>⟨b,o,rfl,hlt,hxs⟩⟩
theorem L6 {t e ti tl te:TypeId} {f0 f1 g0 g1:Field} {fuel:Nat} {v:Value} {x:DataW H×List MemPlace} (ht:P.underlying t=some (.slice e)) (he:P.underlying e=some (.struct #[f0,f1])) (hsz:P.cellsOf e=2) (o0:f0.offset=0) (o1:f1.offset=1) (e0:f0.type=ti) (e1:f1.type=tl)
    (htl:P.underlying tl=some (.slice te)) (hte:P.underlying te=some (.struct #[g0,g1])) (hst:P.cellsOf te=2) (p0:g0.offset=0) (p1:g1.offset=1) (d0:g0.type=ti) (d1:g1.type=ti) (hcl:P.cellsOf tl=1)
    (hi:P.underlying ti=some (.int .i64)) (hc1:P.cellsOf ti=1) (h:DataW.trod enc P w base spare held fuel t [v]=some x):
    ∃ A gr c,v= .slice A (List.length gr) c∧gr.length≤c∧NodesIn w A gr:=by
  obtain⟨A,len,c,rfl,hl,hm,hx⟩:=KV ht hsz dE h;by_cases h0:len=0
  · subst h0
    exact⟨A,[],c,rfl,Nat.zero_le _,Nat.zero_le _,fun h=>absurd rfl h⟩
  · obtain⟨b,o,rfl,hlt,hc⟩:=hx h0
    obtain⟨gr,hxl,hxs⟩:=j7 (p:=fun i (z:Nd)=>NdIn w b (o + i * 2) z) (n:=len) (fun i hi'=>by
      obtain⟨cs,k,y,h1,h2,h3⟩:=hc i hi';obtain⟨v0,v1,n,y0,y1,rfl,q0,q1⟩:=IW he h1 o0 o1 (by rw [e0];exact hc1) (by rw [e1];exact hcl) h3;rw [e0] at q0;rw [e1] at q1;obtain⟨z1,h5,_,_⟩:=DataW.trod_int hi q0;obtain⟨A',xs,c',rfl,_,hin⟩:=Lq htl hte hst p0 p1 d0 d1 hi hc1 q1;rw [jx h5] at h2
      exact⟨⟨z1,xs⟩,A',c',h2,hin⟩)
    subst hxl;exact⟨_,gr,c,rfl,hl,nLT hl hm,fun _=>⟨b,o,rfl,hlt,hxs⟩⟩
theorem one_cell {e:TypeId} {f0:Field} {fuel:Nat} {cs:List Value} {x:DataW H×List MemPlace} (he:P.underlying e=some (.struct #[f0])) (hl:cs.length=1) (o0:f0.offset=0) (c0:P.cellsOf f0.type=1) (h:DataW.trod enc P w base spare held fuel e cs=some x):
    ∃ v0 n y0,cs= [v0]∧DataW.trod enc P w base spare held n f0.type [v0]=some y0:=by
  obtain⟨y0,n,_,_,h0⟩:=trod_struct1 he h
  match cs,hl with
  | [v0],_=>
    simp [o0,c0] at h0;exact⟨v0,n,y0,rfl,h0⟩
end
end Go.Proofs.YtbcpgfnfiekbiaaGreatDoor
namespace Go.Proofs.YtbcpgfnfiekbiaaGreatDoor
open Go.RowKit Go.ChangeShapes Go.WideShapes Go.Deep Go.Joins
section
variable {H:Type} {enc:TypeId×Value→H} {P:Program} {w:World} {base:Nat} {spare:Nat→Bool} {held:Bool}
def Lw (P:Program) (t:TypeId) (d:DataW H):Prop:=∀ n ∈ d.weights P t,n≤reachBytes
theorem MK {e:TypeId}:∀ {l:List (DataW H)} {d:DataW H},d ∈ l→∀ n ∈ d.weights P e,n ∈ DataW.weightsAll P e l
  | [],_,h,_,_=>nomatch h
  | a :: r,d,h,n,hn=>by
    simp only [DataW.weightsAll,List.mem_append]
    rcases List.mem_cons.1 h with rfl | h
    · exact .inl hn
    · exact .inr (MK h n hn)
theorem LJ {t:TypeId} {fs:Array Field} {fuel:Nat} {cs:List Value} {x:DataW H×List MemPlace} (ht:P.underlying t=some (.struct fs)) (h:DataW.trod enc P w base spare held fuel t cs=some x):
    ∃ n,n < fuel∧cs.length=P.cellsOf t∧∀ (i:Nat) (f:Field),fs[i]? =some f→∃ y,DataW.trod enc P w base spare held n f.type ((cs.drop f.offset).take (P.cellsOf f.type))=some y∧(Lw P t x.1→Lw P f.type y.1):=by
  obtain⟨xs,n,rfl,rfl,hl,hlen,hf⟩:=DataW.trod_struct ht h;refine⟨n,Nat.lt_succ_self n,hl,fun i f hi=>?_⟩;have hil:i < xs.length:=by rw [hlen];exact(Array.getElem?_eq_some_iff.1 hi).1
  have h1:=hf i f hi;rw [List.getElem?_eq_getElem hil] at h1;refine⟨xs[i],h1,fun hw m hm=>hw m ?_⟩;show m ∈ DataW.weights P t (.agg (xs.map (·.1)));simp only [DataW.weights,ht];refine DataW.weights_mem_each (j:=i) (t:=f.type) (d:=(xs[i]).1) ?_ ?_ m hm
  · rw [List.getElem?_map,Array.getElem?_toList,hi];rfl
  · rw [List.getElem?_map,List.getElem?_eq_getElem hil];rfl
theorem slF {t e:TypeId} {sz fuel:Nat} {v:Value} {x:DataW H×List MemPlace} (ht:P.underlying t=some (.slice e)) (hsz:P.cellsOf e=sz) (hpos:0 < sz) (h:DataW.trod enc P w base spare held fuel t [v]=some x):
    ∃ A len c,v= .slice A len c∧len≤c∧c≤vQ∧(len≠0→∃ b o,A=some ⟨b,o,none⟩∧b < w.heap.size∧∀ i,i < len→∃ cs k y,k < fuel∧cs.length=sz∧w.rangeAt b (o + i * sz) cs∧DataW.trod enc P w base spare held k e cs=some y∧(Lw P t x.1→Lw P e y.1)):=by
  rcases DataW.trod_slice ht h with ⟨hc,_⟩ | ⟨a,len,cap,elems,rest,n,rfl,hc,rfl,hb,hl,hm,hlen,hel,_⟩
  · rw [jx hc]
    exact⟨none,0,0,rfl,Nat.le_refl _,Nat.zero_le _,fun h=>absurd rfl h⟩
  · rw [jx hc]
    rw [hsz] at hel;have hi:∀ i (hi:i < len),∃ cs',w.cells? base (a.add (i * sz)) sz=some cs'∧DataW.trod enc P w base spare held n e cs'=some (elems[i]'om):=fun i hi=>by
      have key:=hel i hi;rw [List.getElem?_eq_getElem om] at key;exact Option.bind_eq_some_iff.1 key
    refine⟨some a,len,cap,rfl,hl,hm,fun h0=>?_⟩;obtain⟨b,o,s⟩:=a;have hsp:s=none∧b < w.heap.size:=by
      obtain⟨cs,h1,_⟩:=hi 0 om;obtain⟨_,h3,h4⟩:=World.cells?_some h1;have h5:=h4 0 hpos;have h6:cs[0]? =some (cs[0]'om):=List.getElem?_eq_getElem om;have h7:(Addr.add (Addr.add ⟨b,o,s⟩ (0 * sz)) 0)=⟨b,o,s⟩:=by simp [Addr.add]
      rw [h7,h6] at h5;exact⟨World.cell?_spot h5,Go.Clock.block_lt h5⟩
    obtain⟨rfl,hlt⟩:=hsp;refine⟨b,o,rfl,hlt,fun i hil=>?_⟩;obtain⟨cs,h1,h2⟩:=hi i om;obtain⟨_,h3,h4⟩:=World.cells?_some h1;refine⟨cs,n,_,Nat.lt_succ_self n,h3,fun j v hj=>?_,h2,fun hw m hm=>hw m ?_⟩
    · have hjl:=(List.getElem?_eq_some_iff.1 hj).1
      have h5:=h4 j om;rw [Addr.add_mid,Addr.add_mid] at h5;rw [h5];exact hj
    · show m ∈ DataW.weights P t (.slice (elems.map (·.1)) (rest.map (·.1)))
      simp only [DataW.weights,ht,List.mem_cons,List.mem_append];exact .inr (.inl (MK (List.mem_map.2 ⟨_,List.getElem_mem om,rfl⟩) m hm))
theorem QY {t:TypeId} {fuel:Nat} {v:Value} {x:DataW H×List MemPlace} (ht:P.underlying t=some .string) (h:DataW.trod enc P w base spare held fuel t [v]=some x):∃ s:ByteArray,v= .string s∧(Lw P t x.1→s.size < 9223372036854775807):=by
  obtain⟨s,h1,rfl,_⟩:=DataW.trod_string ht h;refine⟨s,jx h1,fun hw=>?_⟩;have:=hw s.data.toList.length (by simp [DataW.weights]);have h2:s.data.toList.length=s.size:=Array.length_toList;unfold reachBytes at this;omega
structure SmT (P:Program) (e ts tstr:TypeId) (f0 f1:Field):Prop where
  he:P.underlying e=some (.struct #[f0,f1])
  hsz:P.cellsOf e=2
  o0:f0.offset=0
  o1:f1.offset=1
  e0:f0.type=tstr
  e1:f1.type=ts
  hts:P.underlying ts=some (.slice e)
  hs:P.underlying tstr=some .string
  cs:P.cellsOf tstr=1
  ct:P.cellsOf ts=1
theorem sims_open {e ts tstr:TypeId} {f0 f1:Field} (T:SmT P e ts tstr f0 f1):∀ (fuel:Nat) (v:Value) (x:DataW H×List MemPlace),DataW.trod enc P w base spare held fuel ts [v]=some x→∃ A l c,v= .slice A (List.length l) c∧l.length≤c∧SimsIn w A l:=by
  intro fuel
  induction fuel using Nat.strongRecOn with
  | ind fuel ih=>
    intro v x h;obtain⟨A,len,c,rfl,hl,hm,hx⟩:=slF T.hts T.hsz dE h;by_cases h0:len=0
    · subst h0
      exact⟨A,[],c,rfl,Nat.zero_le _,.nil⟩
    · obtain⟨b,o,rfl,hlt,hc⟩:=hx h0
      obtain⟨l,hxl,hxs⟩:=j7 (p:=fun i (z:Sm)=>SimAt w b (o + i * 2) z) (n:=len) (fun i hi=>by
        obtain⟨cs,k,y,hk,h1,h2,h3,_⟩:=hc i hi;obtain⟨n,hn,hlc,hf⟩:=LJ T.he h3;obtain⟨y0,g0,_⟩:=hf 0 f0 rfl;obtain⟨y1,g1,_⟩:=hf 1 f1 rfl
        match cs,h1 with
        | [v0,v1],_=>
          rw [T.e0,T.o0,T.cs] at g0;rw [T.e1,T.o1,T.ct] at g1;obtain⟨s,rfl,_⟩:=QY T.hs (show DataW.trod enc P w base spare held n tstr [v0]=some y0 from g0);obtain⟨A',l',c',rfl,_,hin⟩:=ih n om v1 y1 g1
          exact⟨.mk s l',.mk hlt h2 hin⟩)
      subst hxl;exact⟨_,l,c,rfl,hl,.more (nLT hl hm) hlt hxs⟩
theorem sim_open {e ts tstr:TypeId} {f0 f1:Field} (T:SmT P e ts tstr f0 f1) {fuel:Nat} {v0 v1:Value} {x:DataW H×List MemPlace} (h:DataW.trod enc P w base spare held fuel e [v0,v1]=some x):∃ (s:Sm) (A:Option Addr) (c:Nat),v0= .string s.base∧v1= .slice A s.args.length c∧SimsIn w A s.args:=by
  obtain⟨n,hn,hlc,hf⟩:=LJ T.he h;obtain⟨y0,g0,_⟩:=hf 0 f0 rfl;obtain⟨y1,g1,_⟩:=hf 1 f1 rfl;rw [T.e0,T.o0,T.cs] at g0;rw [T.e1,T.o1,T.ct] at g1;obtain⟨s,rfl,_⟩:=QY T.hs (show DataW.trod enc P w base spare held n tstr [v0]=some y0 from g0);obtain⟨A',l',c',rfl,_,hin⟩:=sims_open T n v1 y1 g1;exact⟨.mk s l',A',c',rfl,rfl,hin⟩
structure TmT (P:Program) (m tm ti tstr e ts:TypeId) (f0 f1:Field) (g0 g1 g2 g3 g4:Field):Prop where
  S:SmT P e ts tstr f0 f1
  he:P.underlying m=some (.struct #[g0,g1,g2,g3,g4])
  hsz:P.cellsOf m=6
  o0:g0.offset=0
  o1:g1.offset=1
  o2:g2.offset=2
  o3:g3.offset=3
  o4:g4.offset=5
  e0:g0.type=ti
  e1:g1.type=tstr
  e2:g2.type=ti
  e3:g3.type=e
  e4:g4.type=tm
  htm:P.underlying tm=some (.slice m)
  hi:P.underlying ti=some (.int .i64)
  ci:P.cellsOf ti=1
  ct:P.cellsOf tm=1
section tm
variable {m tm ti tstr e ts:TypeId} {f0 f1 g0 g1 g2 g3 g4:Field}
theorem Tq (T:TmT P m tm ti tstr e ts f0 f1 g0 g1 g2 g3 g4) {fuel:Nat} {cs:List Value} {x:DataW H×List MemPlace} (hl:cs.length=6) (h:DataW.trod enc P w base spare held fuel m cs=some x):
    ∃ (k i:Int) (nm:ByteArray) (s:Sm) (A:Option Addr) (c:Nat) (v:Value) (n:Nat) (y:DataW H×List MemPlace),n < fuel∧cs= [.int .i64 k,.string nm,.int .i64 i,.string s.base,.slice A s.args.length c,v]∧SimsIn w A s.args∧DataW.trod enc P w base spare held n tm [v]=some y:=by
  obtain⟨n,hn,hlc,hf⟩:=LJ T.he h;obtain⟨y0,q0,_⟩:=hf 0 g0 rfl;obtain⟨y1,q1,_⟩:=hf 1 g1 rfl;obtain⟨y2,q2,_⟩:=hf 2 g2 rfl;obtain⟨y3,q3,_⟩:=hf 3 g3 rfl;obtain⟨y4,q4,_⟩:=hf 4 g4 rfl
  match cs,hl with
  | [v0,v1,v2,v3,v4,v5],_=>
    rw [T.e0,T.o0,T.ci] at q0;rw [T.e1,T.o1,T.S.cs] at q1;rw [T.e2,T.o2,T.ci] at q2;rw [T.e3,T.o3,T.S.hsz] at q3;rw [T.e4,T.o4,T.ct] at q4;obtain⟨k,h5,_,_⟩:=DataW.trod_int T.hi (show DataW.trod enc P w base spare held n ti [v0]=some y0 from q0);obtain⟨nm,rfl,_⟩:=QY T.S.hs (show DataW.trod enc P w base spare held n tstr [v1]=some y1 from q1);obtain⟨i,h6,_,_⟩:=DataW.trod_int T.hi (show DataW.trod enc P w base spare held n ti [v2]=some y2 from q2);obtain⟨s,A,c,rfl,rfl,hS⟩:=sim_open T.S (show DataW.trod enc P w base spare held n e [v3,v4]=some y3 from q3);rw [jx h5,jx h6];exact⟨k,i,nm,s,A,c,v5,n,y4,hn,rfl,hS,q4⟩
theorem tms_open (T:TmT P m tm ti tstr e ts f0 f1 g0 g1 g2 g3 g4):∀ (fuel:Nat) (v:Value) (x:DataW H×List MemPlace),DataW.trod enc P w base spare held fuel tm [v]=some x→∃ A l c,v= .slice A (List.length l) c∧l.length≤c∧TmsIn w A l:=by
  intro fuel
  induction fuel using Nat.strongRecOn with
  | ind fuel ih=>
    intro v x h;obtain⟨A,len,c,rfl,hl,hm,hx⟩:=slF T.htm T.hsz dE h;by_cases h0:len=0
    · subst h0
      exact⟨A,[],c,rfl,Nat.zero_le _,.nil⟩
    · obtain⟨b,o,rfl,hlt,hc⟩:=hx h0
      obtain⟨l,hxl,hxs⟩:=j7 (p:=fun i (z:Tm)=>TmAt w b (o + i * 6) z) (n:=len) (fun i hi=>by
        obtain⟨cs,k,y,hk,h1,h2,h3,_⟩:=hc i hi;obtain⟨kd,ix,nm,s,A1,c1,v',n,y',hn,rfl,hS,h4⟩:=Tq T h1 h3;obtain⟨A',l',c',rfl,_,hin⟩:=ih n om v' y' h4
        exact⟨.mk kd nm ix s l',.mk hlt h2 hS hin⟩)
      subst hxl;exact⟨_,l,c,rfl,hl,.more (nLT hl hm) hlt hxs⟩
theorem tm_open (T:TmT P m tm ti tstr e ts f0 f1 g0 g1 g2 g3 g4) {fuel:Nat} {cs:List Value} {x:DataW H×List MemPlace} (hl:cs.length=6) (h:DataW.trod enc P w base spare held fuel m cs=some x):
    ∃ (t:Tm) (A:Option Addr) (c:Nat) (B:Option Addr) (d:Nat),cs= [.int .i64 t.kind,.string t.name,.int .i64 t.index,.string t.type.base,.slice A t.type.args.length c,.slice B t.args.length d]∧SimsIn w A t.type.args∧TmsIn w B t.args:=by
  obtain⟨kd,ix,nm,s,A1,c1,v',n,y',hn,rfl,hS,h4⟩:=Tq T hl h;obtain⟨A',l',c',rfl,_,hin⟩:=tms_open T n v' y' h4;exact⟨.mk kd nm ix s l',A1,c1,A',c',rfl,hS,hin⟩
end tm
structure GrfT (P:Program) (tg tn e ti tl te:TypeId) (q0 f0 f1 g0 g1:Field):Prop where
  hg:P.underlying tg=some (.struct #[q0])
  hgz:P.cellsOf tg=1
  r0:q0.offset=0
  s0:q0.type=tn
  hcn:P.cellsOf tn=1
  htn:P.underlying tn=some (.slice e)
  he:P.underlying e=some (.struct #[f0,f1])
  hsz:P.cellsOf e=2
  o0:f0.offset=0
  o1:f1.offset=1
  e0:f0.type=ti
  e1:f1.type=tl
  htl:P.underlying tl=some (.slice te)
  hte:P.underlying te=some (.struct #[g0,g1])
  hst:P.cellsOf te=2
  p0:g0.offset=0
  p1:g1.offset=1
  d0:g0.type=ti
  d1:g1.type=ti
  hcl:P.cellsOf tl=1
  hi:P.underlying ti=some (.int .i64)
  hc1:P.cellsOf ti=1
theorem Sq {tg tn e ti tl te:TypeId} {q0 f0 f1 g0 g1:Field} (T:GrfT P tg tn e ti tl te q0 f0 f1 g0 g1) {fuel:Nat} {v:Value} {x:DataW H×List MemPlace} (h:DataW.trod enc P w base spare held fuel tg [v]=some x):∃ A gr c,v= .slice A (List.length gr) c∧NodesIn w A gr:=by
  obtain⟨v0,n,y0,h1,h2⟩:=one_cell T.hg rfl T.r0 (by rw [T.s0];exact T.hcn) h;rw [T.s0] at h2;obtain⟨A,gr,c,rfl,_,hin⟩:=L6 T.htn T.he T.hsz T.o0 T.o1 T.e0 T.e1 T.htl T.hte T.hst T.p0 T.p1 T.d0 T.d1 T.hcl T.hi T.hc1 h2;exact⟨A,gr,c,jx h1,hin⟩
section rl
variable {m tm ti tstr e ts:TypeId} {f0 f1 g0 g1 g2 g3 g4:Field} {tg tn te' tl tk:TypeId} {q0 a0 a1 b0 b1:Field}
theorem Hx {t r:TypeId} {x0 x1 x2 x3 x4:Field} (T:TmT P m tm ti tstr e ts f0 f1 g0 g1 g2 g3 g4) (G:GrfT P tg tn te' ti tl tk q0 a0 a1 b0 b1) (ht:P.underlying t=some (.slice r)) (hr:P.underlying r=some (.struct #[x0,x1,x2,x3,x4])) (hsz:P.cellsOf r=10)
    (o0:x0.offset=0) (o1:x1.offset=1) (o2:x2.offset=2) (o3:x3.offset=3) (o4:x4.offset=4) (t0:x0.type=tstr) (t1:x1.type=tg) (t2:x2.type=ti) (t3:x3.type=ti) (t4:x4.type=m) {fuel:Nat} {v:Value} {x:DataW H×List MemPlace} (h:DataW.trod enc P w base spare held fuel t [v]=some x):
    ∃ A l c,v= .slice A (List.length l) c∧l.length≤c∧RulesIn w A l:=by
  obtain⟨A,len,c,rfl,hl,hm,hx⟩:=slF ht hsz dE h;by_cases h0:len=0
  · subst h0
    exact⟨A,[],c,rfl,Nat.zero_le _,Nat.zero_le _,fun h=>absurd rfl h⟩
  · obtain⟨b,o,rfl,hlt,hc⟩:=hx h0
    obtain⟨l,hxl,hxs⟩:=j7 (p:=fun i (z:Rl)=>RlIn w b (o + i * 10) z) (n:=len) (fun i hi=>by
      obtain⟨cs,k,y,hk,h1,h2,h3,_⟩:=hc i hi;obtain⟨n,hn,hlc,hf⟩:=LJ hr h3;obtain⟨y0,p0,_⟩:=hf 0 x0 rfl;obtain⟨y1,p1,_⟩:=hf 1 x1 rfl;obtain⟨y2,p2,_⟩:=hf 2 x2 rfl;obtain⟨y3,p3,_⟩:=hf 3 x3 rfl;obtain⟨y4,p4,_⟩:=hf 4 x4 rfl
      match cs,h1 with
      | [v0,v1,v2,v3,v4,v5,v6,v7,v8,v9],_=>
        rw [t0,o0,T.S.cs] at p0;rw [t1,o1,G.hgz] at p1;rw [t2,o2,T.ci] at p2;rw [t3,o3,T.ci] at p3;rw [t4,o4,T.hsz] at p4;obtain⟨nm,rfl,_⟩:=QY T.S.hs (show DataW.trod enc P w base spare held n tstr [v0]=some y0 from p0);obtain⟨B,gr,d,rfl,hG⟩:=Sq G (show DataW.trod enc P w base spare held n tg [v1]=some y1 from p1);obtain⟨kd,h5,_,_⟩:=DataW.trod_int T.hi (show DataW.trod enc P w base spare held n ti [v2]=some y2 from p2);obtain⟨wt,h6,_,_⟩:=DataW.trod_int T.hi (show DataW.trod enc P w base spare held n ti [v3]=some y3 from p3);obtain⟨tt,A2,c2,B2,d2,h7,hS,hT⟩:=tm_open T rfl (show DataW.trod enc P w base spare held n m [v4,v5,v6,v7,v8,v9]=some y4 from p4);rw [jx h5,jx h6,h7] at h2
        exact⟨⟨nm,gr,kd,wt,tt⟩,B,d,A2,c2,B2,d2,h2,hG,hS,hT⟩)
    subst hxl;exact⟨_,l,c,rfl,hl,nLT hl hm,fun _=>⟨b,o,rfl,hlt,hxs⟩⟩
theorem Oj {t r:TypeId} {x0 x1 x2 x3:Field} (T:TmT P m tm ti tstr e ts f0 f1 g0 g1 g2 g3 g4) (G:GrfT P tg tn te' ti tl tk q0 a0 a1 b0 b1) (ht:P.underlying t=some (.slice r)) (hr:P.underlying r=some (.struct #[x0,x1,x2,x3])) (hsz:P.cellsOf r=9)
    (o0:x0.offset=0) (o1:x1.offset=1) (o2:x2.offset=2) (o3:x3.offset=3) (t0:x0.type=tstr) (t1:x1.type=tg) (t2:x2.type=ti) (t3:x3.type=m) {fuel:Nat} {v:Value} {x:DataW H×List MemPlace} (hw:Lw P t x.1) (h:DataW.trod enc P w base spare held fuel t [v]=some x):
    ∃ A l c,v= .slice A (List.length l) c∧l.length≤c∧LexesIn w A l:=by
  obtain⟨A,len,c,rfl,hl,hm,hx⟩:=slF ht hsz dE h;by_cases h0:len=0
  · subst h0
    exact⟨A,[],c,rfl,Nat.zero_le _,Nat.zero_le _,fun h=>absurd rfl h⟩
  · obtain⟨b,o,rfl,hlt,hc⟩:=hx h0
    obtain⟨l,hxl,hxs⟩:=j7 (p:=fun i (z:Lx)=>LxIn w b (o + i * 9) z) (n:=len) (fun i hi=>by
      obtain⟨cs,k,y,hk,h1,h2,h3,hwy⟩:=hc i hi;obtain⟨n,hn,hlc,hf⟩:=LJ hr h3;obtain⟨y0,p0,hw0⟩:=hf 0 x0 rfl;obtain⟨y1,p1,_⟩:=hf 1 x1 rfl;obtain⟨y2,p2,_⟩:=hf 2 x2 rfl;obtain⟨y3,p3,_⟩:=hf 3 x3 rfl
      match cs,h1 with
      | [v0,v1,v2,v3,v4,v5,v6,v7,v8],_=>
        rw [t0,o0,T.S.cs] at p0;rw [t0] at hw0;rw [t1,o1,G.hgz] at p1;rw [t2,o2,T.ci] at p2;rw [t3,o3,T.hsz] at p3;obtain⟨nm,rfl,hws⟩:=QY T.S.hs (show DataW.trod enc P w base spare held n tstr [v0]=some y0 from p0);obtain⟨B,gr,d,rfl,hG⟩:=Sq G (show DataW.trod enc P w base spare held n tg [v1]=some y1 from p1);obtain⟨wt,h6,_,_⟩:=DataW.trod_int T.hi (show DataW.trod enc P w base spare held n ti [v2]=some y2 from p2);obtain⟨tt,A2,c2,B2,d2,h7,hS,hT⟩:=tm_open T rfl (show DataW.trod enc P w base spare held n m [v3,v4,v5,v6,v7,v8]=some y3 from p3);rw [jx h6,h7] at h2
        exact⟨⟨nm,gr,wt,tt⟩,hws (hw0 (hwy hw)),B,d,A2,c2,B2,d2,h2,hG,hS,hT⟩)
    subst hxl;exact⟨_,l,c,rfl,hl,nLT hl hm,fun _=>⟨b,o,rfl,hlt,hxs⟩⟩
end rl
theorem Lz {ts:List TypeId} {ds:List (DataW H)} (h:(DataW.weightsEach P ts ds).all (·≤reachBytes)=true) {j:Nat} {t:TypeId} {d:DataW H} (ht:ts[j]? =some t) (hd:ds[j]? =some d):Lw P t d:=fun n hn=>by
  have:=List.all_eq_true.1 h _ (DataW.weights_mem_each ht hd n hn)
  simpa using this
end
end Go.Proofs.YtbcpgfnfiekbiaaGreatDoor
