/- What these functions compute, at every world: law4.GrammarCombineMatchesSpec; and plain laws. -/
import Derived.Test.YtgcgnkmmbecfmaaGreatDoorU
import Derived.Test.YtgcgnkmmbecfmaaGreatDoorZst
import Derived.Test.YtgcgnkmmbecfmaaGreatDoorYEi
import Derived.Test.YtgcgnkmmbecfmaaGreatDoorGLoose
import Derived.Test.YtgcgnkmmbecfmaaGreatDoorEng3
import Derived.SizedLaws
namespace Go.Proofs.YtgcgnkmmbecfmaaGreatDoor
open Go.RowKit Go.Proofs.Tryz Go.ChangeShapes Go.WideShapes Go.Deep Go.Joins
variable {a1:Nat}{cs:List Value}{e t te ti tl:TypeId}{v:Value}
theorem fd36:(prog.fieldsOf 36).toList.map (fun f=>(f.name == "_",f.type,f.offset))= [(false,3,0),(false,3,1)]:=by kernel_rfl
theorem ft36:prog.underlying 36=some (.struct (prog.fieldsOf 36)):=by kernel_rfl
set_option maxRecDepth 100000 in
set_option maxHeartbeats 8000000 in
theorem law42_any(AT AF AR AX AS:Option Addr)(ct cf cr cx c5:Nat)(l:List Ty)(fs:List Ft)(rs:List Rl)(xs:List Lx)(st:List Nd)(ri:Int){kc:Nat}{KA:Option Addr}{ks:List (List Nd)}(w:World)(di:TabIn w)(hU:U8In w)(hct:l.length<=ct)(hcf:fs.length<=cf)(hcr:rs.length<=cr)(dv:TypesIn w AT l)(hF:FeatsIn w AF fs)(dj:RulesIn w AR rs)(hLx:LexesIn w AX xs)(hG:NodesIn w AS st)(hK:GrsIn w KA ks):Calls prog 3 #[.agg #[.slice AT l.length ct,.slice AF fs.length cf,.slice AR rs.length cr,.slice AX xs.length cx,.slice AS st.length c5],.int .i64 ri,.slice KA ks.length kc] w fun e w'=>e= .returned (.bool true)/\Bel w w':=by
 have hrx:=dj.1;have hkx:=hK.1;unfold vJ at hrx hkx;refine enT func3 ntmps3 rfl rfl fun hB=>?_;refine zn2 ?_;refine xy (v:= .agg #[_,_,_,_,_]) (cs:=#[_,_,_,_,_]) rfl rfl (fun b3 w1 an s1 hr=>?_);have lo3:=hB.ob hr;refine zn5 ?_;refine qq kR (small_d _) rfl (fun e' w2 hr=>?_);obtain⟨⟨_,rfl,f3,ep,f2,er,br,cells,A1,bg,f4,cj,n1,rfl,lor,hcp,hbr,hD⟩,s2⟩:=hr;replace s2:=sB s2;have t1:=hD.now.1;have t2:=hD.now.2.1;have t3:=hD.now.2.2.1.rules hbr dE;have t4:=hD.now.2.2.2.1;have t5:=hD.now.2.2.2.2;obtain⟨lb,lq,G0,c0,G3,c3,G9,c9,rfl,du,hr0,hG0,hr3,hG3,hr9,hG9⟩:=small_lex t4;clear hD hbr;obtain⟨wS,hwS⟩:∃ z,z=w2:=⟨_,rfl⟩
 have bc:Bel wS w2:=by rw[hwS];exact Below.refl _ _
 rw[<- hwS]at t1 t2 t3 t4 t5 du hr0 hG0 hr3 hG3 hr9 hG9;refine⟨_,rfl,?_⟩;refine yx (cs:=cG) ze32 rfl (fun _=>rfl) (fun _=>rfl) sz32 rfl qz (fun b7 w4 bo s3 hr=>?_);have:=an.u.ob hr;have lo7:=hB.u.ob hr;have cn:=bc.ob hr;refine zn4 ?_;replace hB:=hB.tr0 (s1.t (s2.t s3));have hsz:=Bel.size hB;replace bc:=bc.tr0 s3;have bd:=Bel.size bc;replace an:=an.tr0 (s2.t s3);have z3:=an.lt;have z7:=bo.lt;refine y9 (rg [8,9,10] 20 17) (fun g w'=>∃(b8 bb:Nat) (AZ:Option Addr) (cZ lz hz:Nat),g 8= .pointer (some ⟨b8,0,none⟩)/\g 9= .bool true/\g 10= .pointer (some ⟨bb,0,none⟩)/\Bel w w'/\Bel wS w'/\Blk w' b3 32 #[.slice AT l.length ct,.slice AF fs.length cf,.slice AR rs.length cr,.slice AX xs.length cx,.slice AS st.length c5]/\Blk w' b7 32 #[.slice f3 smallT.length ep,.slice f2 smallF.length er,.slice (some ⟨br,0,none⟩) smallR.length smallR.length,.slice (some ⟨lb,lq,none⟩) smallX.length bg,.slice f4 smallS.length cj]/\Blk w' b8 30 #[.slice AZ 2 cZ]/\Blk w' bb 36 #[.int .i64 0,.int .i64 0]/\Kept lz hz w' (fun wq=>NodesIn wq AZ gRx)) ?_ (fun g2 w5 hI=>?_)
 ·refine BZ 19 [21,22,23,24,25,26,27,28,29,30,31,32,33,20,34,35,36,8,10] [15,16] (fun ix=>bif Nat.beq ix 13 then 12 else bif Nat.beq ix 14 then 12 else ix) (fun ix v la ha wv=>match ix with|0=>v= .agg #[.slice f3 smallT.length ep,.slice f2 smallF.length er,.slice (some ⟨br,0,none⟩) smallR.length smallR.length,.slice (some ⟨lb,lq,none⟩) smallX.length bg,.slice f4 smallS.length cj]|1=>v= .pointer (some ⟨b7,3,none⟩)|2=>v= .slice (some ⟨lb,lq,none⟩) smallX.length bg|3=>v= .pointer (some ⟨lb,lq+0*9,none⟩)|4=>v= .pointer (some ⟨lb,lq+0*9+1,none⟩)|5=>v= .agg #[.slice G0 2 c0]|6=>v= .pointer (some ⟨b7,3,none⟩)|7=>v= .slice (some ⟨lb,lq,none⟩) smallX.length bg|8=>v= .pointer (some ⟨lb,lq+3*9,none⟩)|9=>v= .pointer (some ⟨lb,lq+3*9+1,none⟩)|10=>v= .agg #[.slice G3 2 c3]|11=>∃ b,v= .slice (some ⟨b,0,none⟩) 2 2/\Blk wv b 30 #[.slice G0 2 c0,.slice G3 2 c3]|12=>∃ AZ cZ,v= .tuple #[.agg #[.slice AZ 2 cZ],.bool true,.agg #[.int .i64 0,.int .i64 0]]/\Kept la ha wv (fun wq=>NodesIn wq AZ gRx)|13=>∃ AZ cZ,v= .tuple #[.agg #[.slice AZ 2 cZ],.bool true,.agg #[.int .i64 0,.int .i64 0]]/\Kept la ha wv (fun wq=>NodesIn wq AZ gRx)|14=>∃ AZ cZ,v= .agg #[.slice AZ 2 cZ]/\Kept la ha wv (fun wq=>NodesIn wq AZ gRx)|15=>v= .bool true|16=>v= .agg #[.int .i64 0,.int .i64 0]|17=>∃ b,v= .pointer (some ⟨b,0,none⟩)/\w4.heap.size<=b/\Blk wv b 30 #[.slice none 0 0]/\la<=b/\b<ha|18=>∃ b,v= .pointer (some ⟨b,0,none⟩)/\w4.heap.size<=b/\Blk wv b 36 #[.int .i64 0,.int .i64 0]/\la<=b/\b<ha|_=>True) kR kR kR kR ?_ ?_ ?_
  ·intro ix v la ha wv wv2 h hle s4
   match ix,h with
   | 0,h=>exact h
   | 1,h=>exact h
   | 2,h=>exact h
   | 3,h=>exact h
   | 4,h=>exact h
   | 5,h=>exact h
   | 6,h=>exact h
   | 7,h=>exact h
   | 8,h=>exact h
   | 9,h=>exact h
   | 10,h=>exact h
   | 11,h=>
    obtain⟨eu,ek,bm⟩:=(show ∃ b,v= .slice (some ⟨b,0,none⟩) 2 2/\Blk wv b 30 #[.slice G0 2 c0,.slice G3 2 c3]from h)
    exact⟨eu,ek,bm.tr0 s4⟩
   | 12,h=>
    obtain⟨AZ,cZ,ej,b9⟩:=(show ∃ AZ cZ,v= .tuple #[.agg #[.slice AZ 2 cZ],.bool true,.agg #[.int .i64 0,.int .i64 0]]/\Kept la ha wv (fun wq=>NodesIn wq AZ gRx)from h)
    exact⟨AZ,cZ,ej,b9.tr0 s4⟩
   | 13,h=>
    obtain⟨bj,bi,bf,bq⟩:=(show ∃ AZ cZ,v= .tuple #[.agg #[.slice AZ 2 cZ],.bool true,.agg #[.int .i64 0,.int .i64 0]]/\Kept la ha wv (fun wq=>NodesIn wq AZ gRx)from h)
    exact⟨bj,bi,bf,bq.tr0 s4⟩
   | 14,h=>
    obtain⟨AZ,cZ,bx,b9⟩:=(show ∃ AZ cZ,v= .agg #[.slice AZ 2 cZ]/\Kept la ha wv (fun wq=>NodesIn wq AZ gRx)from h)
    exact⟨AZ,cZ,bx,b9.tr0 s4⟩
   | 15,h=>exact h
   | 16,h=>exact h
   | 17,h=>
    obtain⟨b8,e8,b4,b6,db,dh⟩:=(show ∃ b,v= .pointer (some ⟨b,0,none⟩)/\w4.heap.size<=b/\Blk wv b 30 #[.slice none 0 0]/\la<=b/\b<ha from h)
    exact⟨b8,e8,b4,b6.tr0 s4,db,dh⟩
   | 18,h=>
    obtain⟨bb,bz,a2,a3,bk,bn⟩:=(show ∃ b,v= .pointer (some ⟨b,0,none⟩)/\w4.heap.size<=b/\Blk wv b 36 #[.int .i64 0,.int .i64 0]/\la<=b/\b<ha from h)
    exact⟨bb,bz,a2,a3.tr0 s4,bk,bn⟩
   | _+19,h=>exact trivial
  ·intro ix o hix a1 gg wx lo hi s5 hd b5
   match ix,hix,a1 with
   | 0,_,a1=>
    cases sI a1;refine gdA ?_;refine qZ (qw U32 rfl rfl bo.u.range0 sz32) ⟨Same.refl _ _,?_⟩;exact rfl
   | 1,_,a1=>
    cases sI a1;refine gdA ?_;refine qZ (u6 U32 Hw dE rfl rfl rfl) ⟨Same.refl _ _,?_⟩;exact rfl
   | 2,_,a1=>
    cases sI a1;have d1:gg 22= .pointer (some ⟨b7,3,none⟩):=(hd 1 (zk kR)).1;have e22:=d1;refine gdA (zq 22 _ e22 nu ?_);refine qZ (qy (v:= .slice _ _ _) U27 rfl rfl (bo.u.cell rfl)) ⟨Same.refl _ _,?_⟩;exact rfl
   | 3,_,a1=>
    cases sI a1;have d2:gg 23= .slice (some ⟨lb,lq,none⟩) smallX.length bg:=(hd 2 (zk kR)).1;have e23:=d2;refine gdA (zq 23 _ e23 nu ?_);refine qZ (x9 (i:=0) U27 Kk rfl rfl dE rfl) ⟨Same.refl _ _,?_⟩;exact rfl
   | 4,_,a1=>
    cases sI a1;have d3:gg 24= .pointer (some ⟨lb,lq+0*9,none⟩):=(hd 3 (zk kR)).1;have e24:=d3;refine gdA (zq 24 _ e24 nu ?_);refine qZ (u6 U46 QQ dE rfl rfl rfl) ⟨Same.refl _ _,?_⟩;exact rfl
   | 5,_,a1=>
    cases sI a1;have d4:gg 25= .pointer (some ⟨lb,lq+0*9+1,none⟩):=(hd 4 (zk kR)).1;have e25:=d4;refine gdA (zq 25 _ e25 nu ?_);refine qZ (qw U30 rfl rfl (bc.u.range du hr0) QQ) ⟨Same.refl _ _,?_⟩;exact rfl
   | 6,_,a1=>
    cases sI a1;refine gdA ?_;refine qZ (u6 U32 Hw dE rfl rfl rfl) ⟨Same.refl _ _,?_⟩;exact rfl
   | 7,_,a1=>
    cases sI a1;have d6:gg 27= .pointer (some ⟨b7,3,none⟩):=(hd 6 (zk kR)).1;have e27:=d6;refine gdA (zq 27 _ e27 nu ?_);refine qZ (qy (v:= .slice _ _ _) U27 rfl rfl (bo.u.cell rfl)) ⟨Same.refl _ _,?_⟩;exact rfl
   | 8,_,a1=>
    cases sI a1;have d7:gg 28= .slice (some ⟨lb,lq,none⟩) smallX.length bg:=(hd 7 (zk kR)).1;have e28:=d7;refine gdA (zq 28 _ e28 nu ?_);refine qZ (x9 (i:=3) U27 Kk rfl rfl dE rfl) ⟨Same.refl _ _,?_⟩;exact rfl
   | 9,_,a1=>
    cases sI a1;have d8:gg 29= .pointer (some ⟨lb,lq+3*9,none⟩):=(hd 8 (zk kR)).1;have e29:=d8;refine gdA (zq 29 _ e29 nu ?_);refine qZ (u6 U46 QQ dE rfl rfl rfl) ⟨Same.refl _ _,?_⟩;exact rfl
   | 10,_,a1=>
    cases sI a1;have d9:gg 30= .pointer (some ⟨lb,lq+3*9+1,none⟩):=(hd 9 (zk kR)).1;have e30:=d9;refine gdA (zq 30 _ e30 nu ?_);refine qZ (qw U30 rfl rfl (bc.u.range du hr3) QQ) ⟨Same.refl _ _,?_⟩;exact rfl
   | 11,_,a1=>
    cases sI a1;have d5:gg 26= .agg #[.slice G0 2 c0]:=(hd 5 (zk kR)).1;have e26:=d5;have d10:gg 31= .agg #[.slice G3 2 c3]:=(hd 10 (zk kR)).1;have e31:=d10;refine gdA (zq 26 _ e26 nu (zq 31 _ e31 nu ?_));refine jK (fun ops Q K=>?_);refine qV (cs:=#[_,_]) [(0,.agg _),(1,.agg _)] rfl U33 QQ H0 dE dE kR rfl (fun eu w6 bm s6 hr=>?_);exact K _ _ ⟨s6,⟨_,rfl,bm⟩⟩
   | 12,_,a1=>
    cases sI a1;have d0:gg 21= .agg #[.slice f3 smallT.length ep,.slice f2 smallF.length er,.slice (some ⟨br,0,none⟩) smallR.length smallR.length,.slice (some ⟨lb,lq,none⟩) smallX.length bg,.slice f4 smallS.length cj]:=(hd 0 (zk kR)).1;have e21:=d0;have d11:∃ b,gg 32= .slice (some ⟨b,0,none⟩) 2 2/\Blk wx b 30 #[.slice G0 2 c0,.slice G3 2 c3]:=(hd 11 (zk kR)).1;obtain⟨eu,ek,bm⟩:=d11;refine gdA (zq 21 _ e21 nu (zq 32 _ ek nu ?_));refine vZ kR (small_comb (di.mono hB.u) (hU.mono hB.u) (t1.mono bc.u) (t2.mono bc.u) (t3.mono bc.u) (t4.mono bc.u) (t5.mono bc.u) bm (hG0.mono bc.u) (hG3.mono bc.u)) rfl (fun e' w2 hr=>?_);obtain⟨⟨A9,cA9,rfl,hN9⟩,s7⟩:=hr;exact⟨_,rfl,sB s7,⟨A9,cA9,rfl,Q7 hN9⟩⟩
   | 13,_,a1=>
    cases sI a1;have d12:∃ AZ cZ,gg 33= .tuple #[.agg #[.slice AZ 2 cZ],.bool true,.agg #[.int .i64 0,.int .i64 0]]/\Kept (lo 12) (hi 12) wx (fun wq=>NodesIn wq AZ gRx):=(hd 12 (zk kR)).1;obtain⟨AZ,cZ,ej,b9⟩:=d12;refine gdA (zq 33 _ ej nu ?_);refine qZ (xz (v:= .tuple _) rfl) ⟨Same.refl _ _,?_⟩;exact⟨_,_,rfl,b9⟩
   | 14,_,a1=>
    cases sI a1;have bh:∃ AZ cZ,gg 20= .tuple #[.agg #[.slice AZ 2 cZ],.bool true,.agg #[.int .i64 0,.int .i64 0]]/\Kept (lo 12) (hi 12) wx (fun wq=>NodesIn wq AZ gRx):=(hd 13 (zk kR)).1;obtain⟨bj,bi,bf,bq⟩:=bh;refine gdA (zq 20 _ bf nu ?_);refine qZ (vY (v:=_) rfl rfl) ⟨Same.refl _ _,?_⟩;exact⟨_,_,rfl,bq⟩
   | 15,_,a1=>
    cases sI a1;have bh:∃ AZ cZ,gg 20= .tuple #[.agg #[.slice AZ 2 cZ],.bool true,.agg #[.int .i64 0,.int .i64 0]]/\Kept (lo 12) (hi 12) wx (fun wq=>NodesIn wq AZ gRx):=(hd 13 (zk kR)).1;obtain⟨bj,bi,bf,bq⟩:=bh;refine gdA (zq 20 _ bf nu ?_);refine qZ (vY (v:=_) rfl rfl) ⟨Same.refl _ _,?_⟩;exact rfl
   | 16,_,a1=>
    cases sI a1;have bh:∃ AZ cZ,gg 20= .tuple #[.agg #[.slice AZ 2 cZ],.bool true,.agg #[.int .i64 0,.int .i64 0]]/\Kept (lo 12) (hi 12) wx (fun wq=>NodesIn wq AZ gRx):=(hd 13 (zk kR)).1;obtain⟨bj,bi,bf,bq⟩:=bh;refine gdA (zq 20 _ bf nu ?_);refine qZ (vY (v:=_) rfl rfl) ⟨Same.refl _ _,?_⟩;exact rfl
   | 17,_,a1=>
    cases sI a1;have eb:=s5;refine gdA ?_;refine jK (fun ops Q K=>?_);refine qW (cs:=#[.slice none 0 0]) H0 rfl (fun b8 w7 b6 s8 hr=>?_);exact K _ _ ⟨s8,⟨_,rfl,nLT eb.size hr,b6,hr,b6.lt⟩⟩
   | 18,_,a1=>
    cases sI a1;have eb:=s5;refine gdA ?_;refine jK (fun ops Q K=>?_);refine qW (cs:=#[.int .i64 0,.int .i64 0]) x6 rfl (fun bb w8 a3 s9 hr=>?_);exact K _ _ ⟨s9,⟨_,rfl,nLT eb.size hr,a3,hr,a3.lt⟩⟩
   | _+19,hix,_=>exact absurd hix oG
  refine⟨?_,?_,?_,?_,trivial⟩
  ·intro _ gg w9 lo hi s10 hR b5;have bh:∃ AZ cZ,gg 20= .tuple #[.agg #[.slice AZ 2 cZ],.bool true,.agg #[.int .i64 0,.int .i64 0]]/\Kept (lo 12) (hi 12) w9 (fun wq=>NodesIn wq AZ gRx):=(hR 13 dE dE).1;obtain⟨bj,bi,bf,bq⟩:=bh;have cg:∃ AZ cZ,gg 34= .agg #[.slice AZ 2 cZ]/\Kept (lo 12) (hi 12) w9 (fun wq=>NodesIn wq AZ gRx):=(hR 14 dE dE).1;obtain⟨AZ,cZ,bx,b9⟩:=cg;have en:gg 35= .bool true:=(hR 15 dE dE).1;have ei:=en;have em:gg 36= .agg #[.int .i64 0,.int .i64 0]:=(hR 16 dE dE).1;have eh:=em;have ce:∃ b,gg 8= .pointer (some ⟨b,0,none⟩)/\w4.heap.size<=b/\Blk w9 b 30 #[.slice none 0 0]/\(lo 17)<=b/\b<(hi 17):=(hR 17 dE dE).1;obtain⟨b8,e8,b4,b6,db,dh⟩:=ce;have cd:∃ b,gg 10= .pointer (some ⟨b,0,none⟩)/\w4.heap.size<=b/\Blk w9 b 36 #[.int .i64 0,.int .i64 0]/\(lo 18)<=b/\b<(hi 18):=(hR 18 dE dE).1;obtain⟨bb,bz,a2,a3,bk,bn⟩:=cd;have b2:(hi 12)<=(lo 17)\/(hi 17)<=(lo 12):=b5 12 17 dE dE dE dE dE;have b1:(hi 12)<=(lo 18)\/(hi 18)<=(lo 12):=b5 12 18 dE dE dE dE dE;have e7:b8≠bb:=fun h=>absurd (jy (h ▸ b6) a3) dE
   have:=nLL z3 b4;have:=nLL z7 b4;have:=nLL z3 a2;have:=nLL z7 a2;have ao:=nLT bd b4;have ac:=nLT bd a2;replace b4:=nLT hsz b4;replace a2:=nLT hsz a2;refine yk 20 (.tuple #[.agg #[.slice bj 2 bi],.bool true,.agg #[.int .i64 0,.int .i64 0]]) bf nu (yk 34 (.agg #[.slice AZ 2 cZ]) bx nu (yk 35 (.bool true) ei nu (yk 36 (.agg #[.int .i64 0,.int .i64 0]) eh nu (yk 8 (.pointer (some ⟨b8,0,none⟩)) e8 nu (yk 10 (.pointer (some ⟨bb,0,none⟩)) bz nu (Ij (k':=3) kR (Pw (listed':=#[true,true,true,true,true,true,true,true,true,true,true,true,true,true,true,true,true,true,true,false,false,false]) kR ?_)))))));refine X2 [19] kR rfl ⟨fun o a1=>?_,trivial⟩;cases sI a1;refine zZ b6 rfl rfl QQ rfl qz (fun w10 hq s11=>?_);replace b6:=hq;refine zJ (e_A (listed':=#[true,true,true,true,true,true,true,true,true,true,true,true,true,true,true,true,true,true,true,true,false,false]) (by rfl) (EW 20 rfl (fun _=>uK (v:= .bool _) rfl) ?_));refine X2 [21] kR rfl ⟨fun o a1=>?_,trivial⟩;cases sI a1;refine zZ a3.u rfl rfl zj rfl qz (fun w11 hq s12=>?_);replace a3:=hq;refine zJ (e_A (listed':=#[true,true,true,true,true,true,true,true,true,true,true,true,true,true,true,true,true,true,true,true,true,true]) (by rfl) (PJ kR ?_));refine e_R ⟨agA,?_⟩;replace b9:=(b9.tr1 s11 oG).tr1 s12 oG;exact⟨b8,bb,AZ,cZ,_,_,rfl,rfl,rfl,hB.u,bc.u,an.u,bo.u,b6.u,a3,b9⟩
  ·intro _ gg dn lo hi s13 hR b5;have bh:∃ AZ cZ,gg 20= .tuple #[.agg #[.slice AZ 2 cZ],.bool true,.agg #[.int .i64 0,.int .i64 0]]/\Kept (lo 12) (hi 12) dn (fun wq=>NodesIn wq AZ gRx):=(hR 13 dE dE).1;obtain⟨bj,bi,bf,bq⟩:=bh;have cg:∃ AZ cZ,gg 34= .agg #[.slice AZ 2 cZ]/\Kept (lo 12) (hi 12) dn (fun wq=>NodesIn wq AZ gRx):=(hR 14 dE dE).1;obtain⟨AZ,cZ,bx,b9⟩:=cg;have en:gg 35= .bool true:=(hR 15 dE dE).1;have ei:=en;have ce:∃ b,gg 8= .pointer (some ⟨b,0,none⟩)/\w4.heap.size<=b/\Blk dn b 30 #[.slice none 0 0]/\(lo 17)<=b/\b<(hi 17):=(hR 17 dE dE).1;obtain⟨b8,e8,b4,b6,db,dh⟩:=ce;have cd:∃ b,gg 10= .pointer (some ⟨b,0,none⟩)/\w4.heap.size<=b/\Blk dn b 36 #[.int .i64 0,.int .i64 0]/\(lo 18)<=b/\b<(hi 18):=(hR 18 dE dE).1;obtain⟨bb,bz,a2,a3,bk,bn⟩:=cd;have b2:(hi 12)<=(lo 17)\/(hi 17)<=(lo 12):=b5 12 17 dE dE dE dE dE;have b1:(hi 12)<=(lo 18)\/(hi 18)<=(lo 12):=b5 12 18 dE dE dE dE dE;have e7:b8≠bb:=fun h=>absurd (jy (h ▸ b6) a3) dE
   have:=nLL z3 b4;have:=nLL z7 b4;have:=nLL z3 a2;have:=nLL z7 a2;have ao:=nLT bd b4;have ac:=nLT bd a2;replace b4:=nLT hsz b4;replace a2:=nLT hsz a2;refine yk 20 (.tuple #[.agg #[.slice bj 2 bi],.bool true,.agg #[.int .i64 0,.int .i64 0]]) bf nu (yk 34 (.agg #[.slice AZ 2 cZ]) bx nu (yk 35 (.bool true) ei nu (yk 8 (.pointer (some ⟨b8,0,none⟩)) e8 nu (yk 10 (.pointer (some ⟨bb,0,none⟩)) bz nu (Ij (k':=4) kR (Pw (listed':=#[true,true,true,true,true,true,true,true,true,true,true,true,true,true,true,true,false,true,true,false,false,false]) kR (EW 16 rfl (fun _=>vY (v:=_) rfl rfl) ?_)))))));refine X2 [19] kR rfl ⟨fun o a1=>?_,trivial⟩;cases sI a1;refine zZ b6 rfl rfl QQ rfl qz (fun w13 hq s14=>?_);replace b6:=hq;refine zJ (e_A (listed':=#[true,true,true,true,true,true,true,true,true,true,true,true,true,true,true,true,true,true,true,true,false,false]) (by rfl) (EW 20 rfl (fun _=>uK (v:= .bool _) rfl) ?_));refine X2 [21] kR rfl ⟨fun o a1=>?_,trivial⟩;cases sI a1;refine zZ a3.u rfl rfl zj rfl qz (fun w14 hq s15=>?_);replace a3:=hq;refine zJ (e_A (listed':=#[true,true,true,true,true,true,true,true,true,true,true,true,true,true,true,true,true,true,true,true,true,true]) (by rfl) (PJ kR ?_));refine e_R ⟨agA,?_⟩;replace b9:=(b9.tr1 s14 oG).tr1 s15 oG;exact⟨b8,bb,AZ,cZ,_,_,rfl,rfl,rfl,hB.u,bc.u,an.u,bo.u,b6.u,a3,b9⟩
  ·intro _ gg dm lo hi s16 hR b5;have bh:∃ AZ cZ,gg 20= .tuple #[.agg #[.slice AZ 2 cZ],.bool true,.agg #[.int .i64 0,.int .i64 0]]/\Kept (lo 12) (hi 12) dm (fun wq=>NodesIn wq AZ gRx):=(hR 13 dE dE).1;obtain⟨bj,bi,bf,bq⟩:=bh;have cg:∃ AZ cZ,gg 34= .agg #[.slice AZ 2 cZ]/\Kept (lo 12) (hi 12) dm (fun wq=>NodesIn wq AZ gRx):=(hR 14 dE dE).1;obtain⟨AZ,cZ,bx,b9⟩:=cg;have em:gg 36= .agg #[.int .i64 0,.int .i64 0]:=(hR 16 dE dE).1;have eh:=em;have ce:∃ b,gg 8= .pointer (some ⟨b,0,none⟩)/\w4.heap.size<=b/\Blk dm b 30 #[.slice none 0 0]/\(lo 17)<=b/\b<(hi 17):=(hR 17 dE dE).1;obtain⟨b8,e8,b4,b6,db,dh⟩:=ce;have cd:∃ b,gg 10= .pointer (some ⟨b,0,none⟩)/\w4.heap.size<=b/\Blk dm b 36 #[.int .i64 0,.int .i64 0]/\(lo 18)<=b/\b<(hi 18):=(hR 18 dE dE).1;obtain⟨bb,bz,a2,a3,bk,bn⟩:=cd;have b2:(hi 12)<=(lo 17)\/(hi 17)<=(lo 12):=b5 12 17 dE dE dE dE dE;have b1:(hi 12)<=(lo 18)\/(hi 18)<=(lo 12):=b5 12 18 dE dE dE dE dE;have e7:b8≠bb:=fun h=>absurd (jy (h ▸ b6) a3) dE
   have:=nLL z3 b4;have:=nLL z7 b4;have:=nLL z3 a2;have:=nLL z7 a2;have ao:=nLT bd b4;have ac:=nLT bd a2;replace b4:=nLT hsz b4;replace a2:=nLT hsz a2;refine yk 20 (.tuple #[.agg #[.slice bj 2 bi],.bool true,.agg #[.int .i64 0,.int .i64 0]]) bf nu (yk 34 (.agg #[.slice AZ 2 cZ]) bx nu (yk 36 (.agg #[.int .i64 0,.int .i64 0]) eh nu (yk 8 (.pointer (some ⟨b8,0,none⟩)) e8 nu (yk 10 (.pointer (some ⟨bb,0,none⟩)) bz nu (Ij (k':=4) kR (Pw (listed':=#[true,true,true,true,true,true,true,true,true,true,true,true,true,true,true,false,true,true,true,false,false,false]) kR (EW 15 rfl (fun _=>vY (v:=_) rfl rfl) ?_)))))));refine X2 [19] kR rfl ⟨fun o a1=>?_,trivial⟩;cases sI a1;refine zZ b6 rfl rfl QQ rfl qz (fun w16 hq s17=>?_);replace b6:=hq;refine zJ (e_A (listed':=#[true,true,true,true,true,true,true,true,true,true,true,true,true,true,true,true,true,true,true,true,false,false]) (by rfl) (EW 20 rfl (fun _=>uK (v:= .bool _) rfl) ?_));refine X2 [21] kR rfl ⟨fun o a1=>?_,trivial⟩;cases sI a1;refine zZ a3.u rfl rfl zj rfl qz (fun w17 hq s18=>?_);replace a3:=hq;refine zJ (e_A (listed':=#[true,true,true,true,true,true,true,true,true,true,true,true,true,true,true,true,true,true,true,true,true,true]) (by rfl) (PJ kR ?_));refine e_R ⟨agA,?_⟩;replace b9:=(b9.tr1 s17 oG).tr1 s18 oG;exact⟨b8,bb,AZ,cZ,_,_,rfl,rfl,rfl,hB.u,bc.u,an.u,bo.u,b6.u,a3,b9⟩
  intro _ gg dk lo hi s19 hR b5;have bh:∃ AZ cZ,gg 20= .tuple #[.agg #[.slice AZ 2 cZ],.bool true,.agg #[.int .i64 0,.int .i64 0]]/\Kept (lo 12) (hi 12) dk (fun wq=>NodesIn wq AZ gRx):=(hR 13 dE dE).1;obtain⟨bj,bi,bf,bq⟩:=bh;have cg:∃ AZ cZ,gg 34= .agg #[.slice AZ 2 cZ]/\Kept (lo 12) (hi 12) dk (fun wq=>NodesIn wq AZ gRx):=(hR 14 dE dE).1;obtain⟨AZ,cZ,bx,b9⟩:=cg;have ce:∃ b,gg 8= .pointer (some ⟨b,0,none⟩)/\w4.heap.size<=b/\Blk dk b 30 #[.slice none 0 0]/\(lo 17)<=b/\b<(hi 17):=(hR 17 dE dE).1;obtain⟨b8,e8,b4,b6,db,dh⟩:=ce;have cd:∃ b,gg 10= .pointer (some ⟨b,0,none⟩)/\w4.heap.size<=b/\Blk dk b 36 #[.int .i64 0,.int .i64 0]/\(lo 18)<=b/\b<(hi 18):=(hR 18 dE dE).1;obtain⟨bb,bz,a2,a3,bk,bn⟩:=cd;have b2:(hi 12)<=(lo 17)\/(hi 17)<=(lo 12):=b5 12 17 dE dE dE dE dE;have b1:(hi 12)<=(lo 18)\/(hi 18)<=(lo 12):=b5 12 18 dE dE dE dE dE;have e7:b8≠bb:=fun h=>absurd (jy (h ▸ b6) a3) dE
  have:=nLL z3 b4;have:=nLL z7 b4;have:=nLL z3 a2;have:=nLL z7 a2;have ao:=nLT bd b4;have ac:=nLT bd a2;replace b4:=nLT hsz b4;replace a2:=nLT hsz a2;refine yk 20 (.tuple #[.agg #[.slice bj 2 bi],.bool true,.agg #[.int .i64 0,.int .i64 0]]) bf nu (yk 34 (.agg #[.slice AZ 2 cZ]) bx nu (yk 8 (.pointer (some ⟨b8,0,none⟩)) e8 nu (yk 10 (.pointer (some ⟨bb,0,none⟩)) bz nu (Ij (k':=5) kR (Pw (listed':=#[true,true,true,true,true,true,true,true,true,true,true,true,true,true,true,false,false,true,true,false,false,false]) kR (EW 15 rfl (fun _=>vY (v:=_) rfl rfl) (EW 16 rfl (fun _=>vY (v:=_) rfl rfl) ?_)))))));refine X2 [19] kR rfl ⟨fun o a1=>?_,trivial⟩;cases sI a1;refine zZ b6 rfl rfl QQ rfl qz (fun w19 hq s20=>?_);replace b6:=hq;refine zJ (e_A (listed':=#[true,true,true,true,true,true,true,true,true,true,true,true,true,true,true,true,true,true,true,true,false,false]) (by rfl) (EW 20 rfl (fun _=>uK (v:= .bool _) rfl) ?_));refine X2 [21] kR rfl ⟨fun o a1=>?_,trivial⟩;cases sI a1;refine zZ a3.u rfl rfl zj rfl qz (fun w20 hq s21=>?_);replace a3:=hq;refine zJ (e_A (listed':=#[true,true,true,true,true,true,true,true,true,true,true,true,true,true,true,true,true,true,true,true,true,true]) (by rfl) (PJ kR ?_));refine e_R ⟨agA,?_⟩;replace b9:=(b9.tr1 s20 oG).tr1 s21 oG;exact⟨b8,bb,AZ,cZ,_,_,rfl,rfl,rfl,hB.u,bc.u,an.u,bo.u,b6.u,a3,b9⟩
 obtain⟨b8,bb,AZ,cZ,lz,hz,h8,h9,h10,hB,bc,an,bo,b6,a3,b9⟩:=hI;refine jj 8 _ h8 nu (jj 9 _ h9 nu (jj 10 _ h10 nu (e_S (xV ?_))));refine uz [] [0,1,2,3,4,5,6,7,8,9,10,11,12,13,14,15,16] rfl (fun w21 e6=>?_);refine zn2 ?_;refine hle rfl (fun _=>Tz rfl rfl) (ae (ap (fun h=>h rfl))) (zn8 ?_);refine hg 44 rfl rfl rfl (fun _ _=>x9 (i:=19) U27 Kk rfl rfl dE rfl) (zn1 ?_);refine hgS 44 rfl rfl rfl U30 rfl rfl (bc.u.range du hr9) QQ (h1 rfl (zn1 ?_));replace b9:=b9.tr0 e6;refine qq kR (L5 AZ G9 2 2 cZ c9 gRx gRx w21 b9.now (hG9.mono bc.u) rfl rfl rfl) rfl (fun e' w22 hr=>?_);obtain⟨rfl,cz⟩:=hr;replace cz:=sB cz;have dc:=cz;refine⟨_,rfl,?_⟩;refine zJ (K9 dc (vj ?_));refine qq kR (R5 AT AF AR AX AS ct cf cr cx c5 l fs rs xs st ri _ (di.mono hB.u) (hU.mono hB.u) (dv.mono hB.u) (hF.mono hB.u) (dj.mono hB.u) (hLx.mono hB.u) (hG.mono hB.u) (hK.mono hB.u)) rfl (fun e' w23 hr=>?_);obtain⟨⟨c6,Y1,dr,c1,rfl,hN1,hC1⟩,dq⟩:=hr;replace dq:=sB dq;obtain⟨lz,hz,ab⟩:∃ lz hz,Kept lz hz w23 (fun wq=>NodesIn wq c6 Y1):=⟨_,_,Q7 hN1⟩
 clear hN1;refine⟨_,rfl,?_⟩;refine wmT rfl (wl (vY (v:=_) rfl rfl) (wl (vY (v:=_) rfl rfl) (wl (vY (v:=_) rfl rfl) ?_)));refine qW (cs:=#[.slice none 0 0]) H0 rfl (fun ez w24 a4 e5 hr=>?_);have:=an.u.ob hr;have cc:=(nLT ab.1 hr)
 have ea:=hB.u.ob hr;refine qW (cs:=#[.int .i64 0,.int .i64 0]) x6 rfl (fun ey w25 a5 dz hr=>?_);have:=an.u.ob hr;replace ab:=ab.tr0 e5;have cb:=(nLT ab.1 hr)
 have:=a4.ob hr;have e9:=hB.u.ob hr;refine zZ a4.u rfl rfl QQ rfl qz (fun w26 hq dy=>?_);replace a4:=hq;refine waB rfl ?_;refine zZ a5.u rfl rfl zj rfl qz (fun w27 hq dp=>?_);replace a5:=hq;refine zn5 ?_;refine ba kR (Sx AT AF AR AX AS ct cf cr cx c5 l fs rs xs st _ hct hcf hcr (dv.mono hB.u) (hF.mono hB.u) (dj.mono hB.u) (hLx.mono hB.u) (hG.mono hB.u)) rfl (fun w28 cy=>?_);refine yx (cs:=#[.int .i64 0,.int .i64 0]) x6 rfl (fun _=>rfl) (fun _=>rfl) zj rfl qz (fun ew w30 a9 cw hr=>?_);have:=an.u.ob hr;replace ab:=(((ab.tr0 dz).tr1 dy oG).tr1 dp oG).tr0 cy;have ca:=(nLT ab.1 hr)
 have:=a4.u.ob hr;have:=a5.u.ob hr;have da:=hB.u.ob hr;refine zn4 ?_;replace hB:=(((hB.tr0 (e6.t (cz.t (dq.t (e5.t dz))))).tr1 dy ea).tr1 dp e9).tr0 (cy.t cw);replace an:=(((an.tr0 (e6.t (cz.t (dq.t (e5.t dz))))).tr1 dy oG).tr1 dp oG).tr0 (cy.t cw);replace a4:=(a4.tr1 dp oG).tr0 (cy.t cw);replace a5:=a5.tr0 (cy.t cw);replace ab:=ab.tr0 cw;refine xw (rg [] 64 14) 77 (.bool (decide ((yj l fs rs xs st).1=0/\(ri<0\/(rs.length:Int)<=ri)))) nu ?_ (fun gq=>?_)
 ·refine zn5 ?_;refine zw 67 rfl (fun g67=>?_) (fun g67=>?_)
  ·refine zn6 ?_;refine zw 70 rfl (fun g70=>?_) (fun g70=>?_)
   ·refine zn8 ?_;refine zJ (e_R ⟨rfl,agA,?_⟩);exact clA
   refine uw ?_;refine zJ (e_R ⟨rfl,agA,?_⟩);exact clA
  refine yW ?_;refine zJ (e_R ⟨rfl,agA,?_⟩);exact clA
 refine e_S ?_;refine y9 [78] (fun g w'=>Bel w w'/\Blk w' b3 32 #[.slice AT l.length ct,.slice AF fs.length cf,.slice AR rs.length cr,.slice AX xs.length cx,.slice AS st.length c5]/\Blk w' ez 30 #[.slice c6 (List.length Y1) c1]/\Blk w' ey 36 #[.int .i64 (QZ l fs rs xs st ri ks).1,.int .i64 (QZ l fs rs xs st ri ks).2]/\Blk w' ew 36 #[.int .i64 (e1F (yj l fs rs xs st) rs.length ri).1,.int .i64 (e1F (yj l fs rs xs st) rs.length ri).2]/\Kept lz hz w' (fun wq=>NodesIn wq c6 Y1)) ?_ (fun gx1 w31 hI=>?_)
 ·refine zQ rfl (fun et=>?_) (fun et=>?_)
  ·have ed:(e1F (yj l fs rs xs st) rs.length ri)=(3,-2):=if_pos et;refine oK (wl (vw (v0:= .int _ _) (v1:= .int _ _) (fun v0 v1=>#[v0,v1]) rfl rfl kR) ?_);refine zZ a9 rfl rfl zj rfl qz (fun w32 hq cv=>?_);replace a9:=hq;refine zJ ?_;refine e_R ⟨agA,?_⟩;replace hB:=hB.tr1 cv da;replace an:=an.tr1 cv oG;replace ab:=ab.tr1 cv oG;replace a4:=a4.tr1 cv oG;replace a5:=a5.tr1 cv oG;exact⟨hB,an,a4,a5,by rw[ed];exact a9,ab⟩
  have ed:(e1F (yj l fs rs xs st) rs.length ri)=yj l fs rs xs st:=if_neg et;refine Yj ?_;refine e_R ⟨agA,?_⟩;exact⟨hB,an,a4,a5,by rw[ed];exact a9,ab⟩
 obtain⟨hB,an,a4,a5,a9,ab⟩:=hI;refine zn3 ?_;refine xw (rg [] 79 14) 92 (.bool (decide ((e1F (yj l fs rs xs st) rs.length ri).1=0/\¬(ks.length:Int)=kdR rs ri))) nu ?_ (fun gq=>?_)
 ·refine zn5 ?_;refine zw 82 rfl (fun g82=>?_) (fun g82=>?_)
  ·refine zn4 ?_;obtain⟨dg,hri⟩:=e1_ok g82;obtain⟨rn,de⟩:=Int.eq_ofNat_of_zero_le (show 0<=ri by omega);subst de;have be:rn<rs.length:=by omega
   obtain⟨rb,ro,Gk,cgk,Sk,csk,Bk,mk,hAR,hrb,hrr,_,_,_⟩:=dj.at_ hB be;have hkd:=W6 (rs:=rs) be;subst hAR;refine zn5 ?_;refine wl (xz (v:= .int .i64 ((rn:Nat):Int)) rfl) (zn5 ?_);refine wl (qy (v:= .int _ _) U3 rfl rfl (hrr 2 _ rfl)) (zn3 ?_);refine zJ (e_R ⟨rfl,agA,?_⟩);exact clA
  refine yW ?_;refine zJ (e_R ⟨rfl,agA,?_⟩);exact clA
 refine e_S ?_;refine y9 [93] (fun g w'=>Bel w w'/\Blk w' b3 32 #[.slice AT l.length ct,.slice AF fs.length cf,.slice AR rs.length cr,.slice AX xs.length cx,.slice AS st.length c5]/\Blk w' ez 30 #[.slice c6 (List.length Y1) c1]/\Blk w' ey 36 #[.int .i64 (QZ l fs rs xs st ri ks).1,.int .i64 (QZ l fs rs xs st ri ks).2]/\Blk w' ew 36 #[.int .i64 (e2F (e1F (yj l fs rs xs st) rs.length ri) ks.length (kdR rs ri)).1,.int .i64 (e2F (e1F (yj l fs rs xs st) rs.length ri) ks.length (kdR rs ri)).2]/\Kept lz hz w' (fun wq=>NodesIn wq c6 Y1)) ?_ (fun gx2 w33 hI=>?_)
 ·refine zQ rfl (fun es=>?_) (fun es=>?_)
  ·have ec:(e2F (e1F (yj l fs rs xs st) rs.length ri) ks.length (kdR rs ri))=(9,-3):=if_pos es;refine oK (wl (vw (v0:= .int _ _) (v1:= .int _ _) (fun v0 v1=>#[v0,v1]) rfl rfl kR) ?_);refine zZ a9 rfl rfl zj rfl qz (fun w34 hq cu=>?_);replace a9:=hq;refine zJ ?_;refine e_R ⟨agA,?_⟩;replace hB:=hB.tr1 cu da;replace an:=an.tr1 cu oG;replace ab:=ab.tr1 cu oG;replace a4:=a4.tr1 cu oG;replace a5:=a5.tr1 cu oG;exact⟨hB,an,a4,a5,by rw[ec];exact a9,ab⟩
  have ec:(e2F (e1F (yj l fs rs xs st) rs.length ri) ks.length (kdR rs ri))=(e1F (yj l fs rs xs st) rs.length ri):=if_neg es;refine Yj ?_;refine e_R ⟨agA,?_⟩;exact⟨hB,an,a4,a5,by rw[ec];exact a9,ab⟩
 obtain⟨hB,an,a4,a5,a9,ab⟩:=hI;refine zn8 ?_;refine qx (rg [15,16] 94 24) (fun m g w'=>∃(k:Nat) (e:Fl),k<=ks.length/\m=ks.length-k/\g 15= .int .i64 k/\Bel w w'/\Blk w' b3 32 #[.slice AT l.length ct,.slice AF fs.length cf,.slice AR rs.length cr,.slice AX xs.length cx,.slice AS st.length c5]/\Blk w' ez 30 #[.slice c6 (List.length Y1) c1]/\Blk w' ey 36 #[.int .i64 (QZ l fs rs xs st ri ks).1,.int .i64 (QZ l fs rs xs st ri ks).2]/\Blk w' ew 36 #[.int .i64 e.1,.int .i64 e.2]/\Kept lz hz w' (fun wq=>NodesIn wq c6 Y1)/\EI l fs ks (e2F (e1F (yj l fs rs xs st) rs.length ri) ks.length (kdR rs ri)) k e) (ks.length) ?_ (fun m g12 w35 hI=>?_)
 ·exact⟨0,_,ag _,rfl,rfl,hB,an,a4,a5,a9,ab,EI.start _⟩
 obtain⟨k,e,hk,hm,h15,hB,an,a4,a5,a9,ab,hE⟩:=hI;refine zX 15 _ h15 nu (xV (xV ?_));refine xw (rg [] 94 9) 102 (.bool (decide (k<ks.length/\e.1=0))) nu ?_ (fun gq=>?_)
 ·refine zn6 ?_;refine zw 98 rfl (fun g98=>?_) (fun g98=>?_)
  ·refine zn7 ?_;refine zJ (e_R ⟨rfl,agA,?_⟩);exact clA
  refine zn4 ?_;refine zJ (e_R ⟨rfl,agA,?_⟩);exact clA
 refine e_S ?_;refine zQ rfl (fun cm=>?_) (fun cm=>?_)
 ·obtain⟨co,cp⟩:=cm;obtain⟨dg,_⟩:=e1_ok (e2_ok (hE.zero cp).1).1;obtain⟨_,hl1,_⟩:=gr_nums dg;have h0:=gr_h0 dg;have hS:=Ky h0;have hfo:=By h0;obtain⟨gb,go,hKA,hgl,hgc⟩:=hK.2 (by intro e;rw[e]at co;exact absurd co (aA _));subst hKA;obtain⟨GA,gc,hgr,hgn⟩:=hgc k co;refine zn5 ?_;refine uz [] [0,1,2,3,4,5,6,7,8] rfl (fun w36 s33=>?_);refine zn1 ?_;refine hlS rfl U25 rfl rfl (an.u.sub (n:=2) (xs:=[_,_]) rfl) N9 (zn2 ?_);refine hl rfl (fun _=>x9 (i:=k) U33 QQ rfl rfl co rfl) (zn1 ?_);refine hcl (fun v wv=>v= .agg #[.int .i64 (xk l fs ks[k]).1,.int .i64 (xk l fs ks[k]).2]) rfl kR (Dk AT AF GA ct cf gc l fs ks[k] w36 (dv.mono hB.u) hS.vt hS.le (hF.mono hB.u) (hgn.mono hB.u) hfo) rfl (fun e' w2 hr=>?_) (fun v111 w37 s34 eo=>?_)
  ·obtain⟨rfl,s35⟩:=hr;exact⟨_,rfl,sB s35,rfl⟩
  have el:=eo;subst el;refine hl rfl (fun _=>CX (v:= .int _ _) U36 rfl U3 rfl rfl rfl) (zn9 ?_);replace ab:=ab.tr0 (s33.t s34);refine zQ rfl (fun ck=>?_) (fun ck=>?_)
  ·have eg:=hE.bad cp co ck;refine zn3 ?_;refine wl (vw (v0:= .int _ _) (v1:= .int _ _) (fun v0 v1=>#[v0,v1]) rfl rfl kR) ?_;refine zZ a9.u rfl rfl zj rfl qz (fun w38 hq s36=>?_);replace a9:=hq;refine zn8 ?_;refine x8 (ks.length-(k+1)) oG agA ?_;replace ab:=ab.tr1 s36 oG;exact⟨k+1,_,by omega,rfl,rfl,hB.u,an.u,a4.u,a5.u,a9,ab,eg⟩
  have eg:=hE.good cp co (ak.1 ck);refine zn8 ?_;refine x8 (ks.length-(k+1)) oG agA ?_;exact⟨k+1,_,by omega,rfl,rfl,hB.u,an.u,a4.u,a5.u,a9.u,ab,eg⟩
 refine uw ?_;refine zQ rfl (fun c4=>?_) (fun c4=>?_)
 ·have cq:=hE.fin c4;obtain⟨rfl,rfl⟩:=comb_bad hC1 (by rw[cq];exact c4);have hc1:(QZ l fs rs xs st ri ks).1=e.1:=by rw[cq]
  have ef:(QZ l fs rs xs st ri ks).2=e.2:=by rw[cq]
  refine zn4 ?_;refine wl (r_eqF Tryz.eqGuardType36 ft36 Tryz.stoodInHeld36 fd36 U3 rfl rfl) (wl (xz (v:= .bool _) rfl) ?_);refine zw 124 rfl (fun bw=>?_) (fun bw=>?_)
  ·refine zn6 ?_;refine XW 128 rfl (fun bv=>?_) (fun bv=>?_)
   ·refine Yv ?_;exact⟨by first|exact absurd ⟨hc1,ef⟩ bw|exact absurd bv dE|rfl,hB⟩
   refine jq ?_;exact⟨by first|exact absurd ⟨hc1,ef⟩ bw|exact absurd bv dE|rfl,hB⟩
  refine Yv ?_;exact⟨by first|exact absurd ⟨hc1,ef⟩ bw|exact absurd bv dE|rfl,hB⟩
 have cp:=ak.1 c4;have hkl:ks.length<=k:=Nat.le_of_not_lt (fun h=>cm ⟨h,cp⟩);obtain⟨dg,hri,df,hz,cq⟩:=hE.all cp hkl;obtain⟨rn,de⟩:=Int.eq_ofNat_of_zero_le (show 0<=ri by omega);have be:rn<rs.length:=by omega
 obtain⟨h0,hjk⟩:=gr_jok dg be;rw[de,W6 be]at df;have hkv:∀ q∈ks,GV l fs q:=fun q hq=>by
   obtain⟨i,hi,rfl⟩:=aW hq;exact(J0 h0 (hz i hi)).1
 have hJ1:=comb_ok hC1 cq;rw[de,grR_at be]at hJ1;have ee:(QZ l fs rs xs st ri ks).1=0:=by rw[cq]
 refine zn5 ?_;refine wl (xz (v:= .int .i64 ((rn:Nat):Int)) (congrArg (Value.int .i64) de)) (wmS rfl ?_);refine qq kR (Wj AT AF AR AX AS ct cf cr cx c5 l fs rs xs st (ri:=rn) _ (dv.mono hB) (dj.mono hB) be hjk (hK.mono hB) hkv df) rfl (fun e' w39 hr=>?_);obtain⟨⟨A2x,Y2,ok2,c2,rfl,hN2,hJ2⟩,dx⟩:=hr;replace dx:=sB dx;obtain⟨lz2,hz2,dw⟩:∃ lz hz,Kept lz hz w39 (fun wq=>NodesIn wq A2x Y2):=⟨_,_,Q7 hN2⟩
 clear hN2;obtain⟨rfl,rfl⟩:=B8 ks _ 0 dr ok2 Y1 Y2 hjk hkv oG hJ1 hJ2;refine⟨_,rfl,?_⟩;refine wmT rfl (wl (vY (v:=_) rfl rfl) (wl (vY (v:=_) rfl rfl) ?_));refine yx (cs:=#[.slice none 0 0]) H0 rfl (fun _=>rfl) (fun _=>rfl) QQ rfl qz (fun b17 w41 hb17 s38 hr=>?_);have:=an.u.ob hr;replace ab:=ab.tr0 dx;have c8:=(nLT ab.1 hr)
 have:=a4.u.ob hr;have:=a5.u.ob hr;have:=a9.u.ob hr;have c7:=(nLT dw.1 hr)
 have lo17:=hB.u.ob hr;refine zn9 ?_;refine zw 144 rfl (fun bu=>?_) (fun bu=>?_)
 ·refine zn5 ?_;refine wl (r_eqlB U4 rfl rfl) (zn2 ?_);refine XW 149 rfl (fun bt=>?_) (fun bt=>?_)
  ·refine zn5 ?_;replace ab:=ab.tr0 s38;replace dw:=dw.tr0 s38;refine ba kR (L5 c6 A2x _ _ _ _ _ _ _ ab.now dw.now rfl rfl rfl) rfl (fun w42 s39=>?_);refine zn6 ?_;exact⟨by first|exact absurd ee bu|exact absurd ((beq_self_eq_true dr).symm.trans bt) dE|rfl,hB.u⟩
  refine zn9 ?_;exact⟨by first|exact absurd ee bu|exact absurd ((beq_self_eq_true dr).symm.trans bt) dE|rfl,hB.u⟩
 refine ZV ?_;exact⟨by first|exact absurd ee bu|exact absurd ((beq_self_eq_true dr).symm.trans bt) dE|rfl,hB.u⟩
section
section
variable {H:Type} {enc:TypeId×Value->H} {P:Program} {w:World} {base:Nat} {spare:Nat->Bool} {held:Bool}
theorem links_open{f0 f1:Field}{x:DataW H×List MemPlace}(ht:P.underlying t=some (.slice e))(he:P.underlying e=some (.struct #[f0,f1]))(hsz:P.cellsOf e=2)(o0:f0.offset=0)(o1:f1.offset=1)(e0:f0.type=ti)(e1:f1.type=ti)
  (hi:P.underlying ti=some (.int .i64)) (hc1:P.cellsOf ti=1) (h:DataW.trod enc P w base spare held a1 t [v]=some x):
  ∃ A xs c,v= .slice A (List.length xs) c/\xs.length<=c/\LinksIn w A xs:=by
 obtain⟨A,len,c,rfl,hl,hm,hx⟩:=IW ht hsz dE h;by_cases h0:len=0
 ·subst h0
  exact⟨A,[],c,rfl,ag _,ag _,fun h=>absurd rfl h⟩
 ·obtain⟨b,o,rfl,hlt,hc⟩:=hx h0
  obtain⟨xs,hxl,hxs⟩:=kX (p:=fun i (z:Int×Int)=>w.rangeAt b (o+i*2) [.int .i64 z.1,.int .i64 z.2]) (n:=len) (fun i hi'=>by
   obtain⟨cs,k,y,h1,h2,h3⟩:=hc i hi';obtain⟨v0,v1,n,y0,y1,rfl,g0,g1⟩:=O3 he h1 o0 o1 (by rw[e0];exact hc1) (by rw[e1];exact hc1) h3;rw[e0]at g0;rw[e1]at g1;obtain⟨z1,h5,_,_⟩:=DataW.trod_int hi g0;obtain⟨z2,h6,_,_⟩:=DataW.trod_int hi g1;rw[u5 h5,u5 h6]at h2
   exact⟨(z1,z2),h2⟩)
  subst hxl;exact⟨_,xs,c,rfl,hl,nLT hl hm,fun _=>⟨b,o,rfl,hlt,hxs⟩⟩
theorem CY{f0 f1 g0 g1:Field}{x:DataW H×List MemPlace}(ht:P.underlying t=some (.slice e))(he:P.underlying e=some (.struct #[f0,f1]))(hsz:P.cellsOf e=2)(o0:f0.offset=0)(o1:f1.offset=1)(e0:f0.type=ti)(e1:f1.type=tl)
  (htl:P.underlying tl=some (.slice te)) (hte:P.underlying te=some (.struct #[g0,g1])) (hst:P.cellsOf te=2) (p0:g0.offset=0) (p1:g1.offset=1) (d0:g0.type=ti) (d1:g1.type=ti) (hcl:P.cellsOf tl=1)
  (hi:P.underlying ti=some (.int .i64)) (hc1:P.cellsOf ti=1) (h:DataW.trod enc P w base spare held a1 t [v]=some x):
  ∃ A gr c,v= .slice A (List.length gr) c/\gr.length<=c/\NodesIn w A gr:=by
 obtain⟨A,len,c,rfl,hl,hm,hx⟩:=IW ht hsz dE h;by_cases h0:len=0
 ·subst h0
  exact⟨A,[],c,rfl,ag _,ag _,fun h=>absurd rfl h⟩
 ·obtain⟨b,o,rfl,hlt,hc⟩:=hx h0
  obtain⟨gr,hxl,hxs⟩:=kX (p:=fun i (z:Nd)=>NdIn w b (o+i*2) z) (n:=len) (fun i hi'=>by
   obtain⟨cs,k,y,h1,h2,h3⟩:=hc i hi';obtain⟨v0,v1,n,y0,y1,rfl,q0,q1⟩:=O3 he h1 o0 o1 (by rw[e0];exact hc1) (by rw[e1];exact hcl) h3;rw[e0]at q0;rw[e1]at q1;obtain⟨z1,h5,_,_⟩:=DataW.trod_int hi q0;obtain⟨A',xs,c',rfl,_,hin⟩:=links_open htl hte hst p0 p1 d0 d1 hi hc1 q1;rw[u5 h5]at h2
   exact⟨⟨z1,xs⟩,A',c',h2,hin⟩)
  subst hxl;exact⟨_,gr,c,rfl,hl,nLT hl hm,fun _=>⟨b,o,rfl,hlt,hxs⟩⟩
theorem Ly{f0:Field}{x:DataW H×List MemPlace}(he:P.underlying e=some (.struct #[f0]))(hl:cs.length=1)(o0:f0.offset=0)(c0:P.cellsOf f0.type=1)(h:DataW.trod enc P w base spare held a1 e cs=some x):
  ∃ v0 n y0,cs= [v0]/\DataW.trod enc P w base spare held n f0.type [v0]=some y0:=by
 obtain⟨y0,n,_,_,h0⟩:=trod_struct1 he h
 match cs,hl with
 | [v0],_=>
  simp[o0,c0]at h0;exact⟨v0,n,y0,rfl,h0⟩
theorem grs_open{tg tn:TypeId}{q0 f0 f1 g0 g1:Field}{x:DataW H×List MemPlace}(ht:P.underlying t=some (.slice tg))(hg:P.underlying tg=some (.struct #[q0]))(hgz:P.cellsOf tg=1)(r0:q0.offset=0)(s0:q0.type=tn)(hcn:P.cellsOf tn=1)
  (htn:P.underlying tn=some (.slice e)) (he:P.underlying e=some (.struct #[f0,f1])) (hsz:P.cellsOf e=2) (o0:f0.offset=0) (o1:f1.offset=1) (e0:f0.type=ti) (e1:f1.type=tl)
  (htl:P.underlying tl=some (.slice te)) (hte:P.underlying te=some (.struct #[g0,g1])) (hst:P.cellsOf te=2) (p0:g0.offset=0) (p1:g1.offset=1) (d0:g0.type=ti) (d1:g1.type=ti) (hcl:P.cellsOf tl=1)
  (hi:P.underlying ti=some (.int .i64)) (hc1:P.cellsOf ti=1) (h:DataW.trod enc P w base spare held a1 t [v]=some x):
  ∃ A gs c,v= .slice A (List.length gs) c/\gs.length<=c/\gs.length<=vJ/\(gs≠[]->∃ b o,A=some ⟨b,o,none⟩/\b<w.heap.size/\∀ k (hk:k<gs.length),∃ A' c,w.rangeAt b (o+k*1) [.slice A' (gs[k]).length c]/\NodesIn w A' gs[k]):=by
 subst s0;obtain⟨A,len,c,rfl,hl,hm,hx⟩:=IW ht hgz dE h;by_cases h0:len=0
 ·subst h0
  exact⟨A,[],c,rfl,ag _,ag _,fun h=>absurd rfl h⟩
 ·obtain⟨b,o,rfl,hlt,hc⟩:=hx h0
  obtain⟨gs,hxl,hxs⟩:=kX (p:=fun i (z:List Nd)=>∃ A' c,w.rangeAt b (o+i*1) [.slice A' z.length c]/\NodesIn w A' z) (n:=len) (fun i hi'=>by
   obtain⟨cs,k,y,h1,h2,h3⟩:=hc i hi';obtain⟨v0,n,y0,rfl,q0⟩:=Ly hg h1 r0 hcn h3;obtain⟨A',gr,c',rfl,_,hin⟩:=CY htn he hsz o0 o1 e0 e1 htl hte hst p0 p1 d0 d1 hcl hi hc1 q0
   exact⟨gr,A',c',h2,hin⟩)
  subst hxl;exact⟨_,gs,c,rfl,hl,nLT hl hm,fun _=>⟨b,o,rfl,hlt,hxs⟩⟩
end
end
section
section
variable {H:Type} {enc:TypeId×Value->H} {P:Program} {w:World} {base:Nat} {spare:Nat->Bool} {held:Bool}
def Lw(P:Program)(t:TypeId)(d:DataW H):Prop:=∀ n∈d.weights P t,n<=reachBytes
theorem P4{e:TypeId}:∀ {l:List (DataW H)} {d:DataW H},d∈l->∀ n∈d.weights P e,n∈DataW.weightsAll P e l
 | [],_,h,_,_=>nomatch h
 | a::r,d,h,n,hn=>by
  simp only[DataW.weightsAll,List.mem_append]
  rcases ax.1 h with rfl|h
  ·exact .inl hn
  ·exact .inr (P4 h n hn)
theorem flds{fs:Array Field}{x:DataW H×List MemPlace}(ht:P.underlying t=some (.struct fs))(h:DataW.trod enc P w base spare held a1 t cs=some x):
  ∃ n,n<a1/\cs.length=P.cellsOf t/\∀(i:Nat) (f:Field),fs[i]? =some f->∃ y,DataW.trod enc P w base spare held n f.type ((cs.drop f.offset).take (P.cellsOf f.type))=some y/\(Lw P t x.1->Lw P f.type y.1):=by
 obtain⟨xs,n,rfl,rfl,hl,a2,hf⟩:=DataW.trod_struct ht h;refine⟨n,aI n,hl,fun i f hi=>?_⟩;have hil:i<xs.length:=by rw[a2];exact(Array.getElem?_eq_some_iff.1 hi).1
 have h1:=hf i f hi;rw[List.getElem?_eq_getElem hil]at h1;refine⟨xs[i],h1,fun hw m hm=>hw m ?_⟩;show m∈DataW.weights P t (.agg (xs.map (·.1)));simp only[DataW.weights,ht];refine DataW.weights_mem_each (j:=i) (t:=f.type) (d:=(xs[i]).1) ?_ ?_ m hm
 ·rw[List.getElem?_map,Array.getElem?_toList,hi];rfl
 ·rw[List.getElem?_map,List.getElem?_eq_getElem hil];rfl
theorem slF{sz:Nat}{x:DataW H×List MemPlace}(ht:P.underlying t=some (.slice e))(hsz:P.cellsOf e=sz)(a2:0<sz)(h:DataW.trod enc P w base spare held a1 t [v]=some x):
  ∃ A len c,v= .slice A len c/\len<=c/\c<=vJ/\(len≠0->∃ b o,A=some ⟨b,o,none⟩/\b<w.heap.size/\∀ i,i<len->∃ cs k y,k<a1/\cs.length=sz/\w.rangeAt b (o+i*sz) cs/\DataW.trod enc P w base spare held k e cs=some y/\(Lw P t x.1->Lw P e y.1)):=by
 rcases DataW.trod_slice ht h with ⟨hc,_⟩|⟨a,len,cap,elems,rest,n,rfl,hc,rfl,hb,hl,hm,hlen,hel,_⟩
 ·rw[u5 hc]
  exact⟨none,0,0,rfl,ah _,ag _,fun h=>absurd rfl h⟩
 ·rw[u5 hc]
  rw[hsz]at hel;have hi:∀ i (hi:i<len),∃ cs',w.cells? base (a.add (i*sz)) sz=some cs'/\DataW.trod enc P w base spare held n e cs'=some (elems[i]'oG):=fun i hi=>by
   have key:=hel i hi;rw[List.getElem?_eq_getElem oG]at key;exact Option.bind_eq_some_iff.1 key
  refine⟨some a,len,cap,rfl,hl,hm,fun h0=>?_⟩;obtain⟨b,o,s⟩:=a;have hsp:s=none/\b<w.heap.size:=by
   obtain⟨cs,h1,_⟩:=hi 0 oG;obtain⟨_,h3,h4⟩:=World.cells?_some h1;have h5:=h4 0 a2;have h6:cs[0]? =some (cs[0]'oG):=aN oG;have h7:(Addr.add (Addr.add ⟨b,o,s⟩ (0*sz)) 0)=⟨b,o,s⟩:=by simp[Addr.add]
   rw[h7,h6]at h5;exact⟨World.cell?_spot h5,Go.Clock.block_lt h5⟩
  obtain⟨rfl,hlt⟩:=hsp;refine⟨b,o,rfl,hlt,fun i hil=>?_⟩;obtain⟨cs,h1,h2⟩:=hi i oG;obtain⟨_,h3,h4⟩:=World.cells?_some h1;refine⟨cs,n,_,aI n,h3,fun j v hj=>?_,h2,fun hw m hm=>hw m ?_⟩
  ·have hjl:=(au.1 hj).1
   have h5:=h4 j oG;rw[Addr.add_mid,Addr.add_mid]at h5;rw[h5];exact hj
  ·show m∈DataW.weights P t (.slice (elems.map (·.1)) (rest.map (·.1)))
   simp only[DataW.weights,ht,List.mem_cons,List.mem_append];exact .inr (.inl (P4 (av.2 ⟨_,am oG,rfl⟩) m hm))
theorem Kw{x:DataW H×List MemPlace}(ht:P.underlying t=some .string)(h:DataW.trod enc P w base spare held a1 t [v]=some x):∃ s:ByteArray,v= .string s/\(Lw P t x.1->s.size<9223372036854775807):=by
 obtain⟨s,h1,rfl,_⟩:=DataW.trod_string ht h;refine⟨s,u5 h1,fun hw=>?_⟩;have:=hw s.data.toList.length (by simp[DataW.weights]);have h2:s.data.toList.length=s.size:=Array.length_toList;unfold reachBytes at this;omega
structure SmT(P:Program)(e ts tstr:TypeId)(f0 f1:Field):Prop where
 he:P.underlying e=some (.struct #[f0,f1])
 hsz:P.cellsOf e=2
 o0:f0.offset=0
 o1:f1.offset=1
 e0:f0.type=tstr
 e1:f1.type=ts
 hts:P.underlying ts=some (.slice e)
 hs:P.underlying tstr=some .string
 cs:P.cellsOf tstr=1
 ct:P.cellsOf ts=1
theorem sims_open{ts a2:TypeId}{f0 f1:Field}(T:SmT P e ts a2 f0 f1):∀(a1:Nat) (v:Value) (x:DataW H×List MemPlace),DataW.trod enc P w base spare held a1 ts [v]=some x->∃ A l c,v= .slice A (List.length l) c/\l.length<=c/\SimsIn w A l:=by
 intro a1
 induction a1 using Nat.strongRecOn with
 | ind a1 ih=>
  intro v x h;obtain⟨A,len,c,rfl,hl,hm,hx⟩:=slF T.hts T.hsz dE h;by_cases h0:len=0
  ·subst h0
   exact⟨A,[],c,rfl,ag _,.nil⟩
  ·obtain⟨b,o,rfl,hlt,hc⟩:=hx h0
   obtain⟨l,hxl,hxs⟩:=kX (p:=fun i (z:Sm)=>SimAt w b (o+i*2) z) (n:=len) (fun i hi=>by
    obtain⟨cs,k,y,hk,h1,h2,h3,_⟩:=hc i hi;obtain⟨n,hn,hlc,hf⟩:=flds T.he h3;obtain⟨y0,g0,_⟩:=hf 0 f0 rfl;obtain⟨y1,g1,_⟩:=hf 1 f1 rfl
    match cs,h1 with
    | [v0,v1],_=>
     rw[T.e0,T.o0,T.cs]at g0;rw[T.e1,T.o1,T.ct]at g1;obtain⟨s,rfl,_⟩:=Kw T.hs (show DataW.trod enc P w base spare held n a2 [v0]=some y0 from g0);obtain⟨A',l',c',rfl,_,hin⟩:=ih n oG v1 y1 g1
     exact⟨.mk s l',.mk hlt h2 hin⟩)
   subst hxl;exact⟨_,l,c,rfl,hl,.more (nLT hl hm) hlt hxs⟩
theorem sim_open{ts a1:TypeId}{f0 f1:Field}(T:SmT P e ts a1 f0 f1){a2:Nat}{v0 v1:Value}{x:DataW H×List MemPlace}(h:DataW.trod enc P w base spare held a2 e [v0,v1]=some x):∃(s:Sm) (A:Option Addr) (c:Nat),v0= .string s.base/\v1= .slice A s.args.length c/\SimsIn w A s.args:=by
 obtain⟨n,hn,hlc,hf⟩:=flds T.he h;obtain⟨y0,g0,_⟩:=hf 0 f0 rfl;obtain⟨y1,g1,_⟩:=hf 1 f1 rfl;rw[T.e0,T.o0,T.cs]at g0;rw[T.e1,T.o1,T.ct]at g1;obtain⟨s,rfl,_⟩:=Kw T.hs (show DataW.trod enc P w base spare held n a1 [v0]=some y0 from g0);obtain⟨A',l',c',rfl,_,hin⟩:=sims_open T n v1 y1 g1;exact⟨.mk s l',A',c',rfl,rfl,hin⟩
structure TmT(P:Program)(m tm ti tstr e ts:TypeId)(f0 f1:Field)(g0 g1 g2 g3 g4:Field):Prop where
 S:SmT P e ts tstr f0 f1
 he:P.underlying m=some (.struct #[g0,g1,g2,g3,g4])
 hsz:P.cellsOf m=6
 o0:g0.offset=0
 o1:g1.offset=1
 o2:g2.offset=2
 o3:g3.offset=3
 o4:g4.offset=5
 e0:g0.type=ti
 e1:g1.type=tstr
 e2:g2.type=ti
 e3:g3.type=e
 e4:g4.type=tm
 htm:P.underlying tm=some (.slice m)
 hi:P.underlying ti=some (.int .i64)
 ci:P.cellsOf ti=1
 ct:P.cellsOf tm=1
section tm
variable {m tm ti tstr e ts:TypeId} {f0 f1 g0 g1 g2 g3 g4:Field}
theorem Hz(T:TmT P m tm ti tstr e ts f0 f1 g0 g1 g2 g3 g4){x:DataW H×List MemPlace}(hl:cs.length=6)(h:DataW.trod enc P w base spare held a1 m cs=some x):
  ∃(k i:Int) (nm:ByteArray) (s:Sm) (A:Option Addr) (c:Nat) (v:Value) (n:Nat) (y:DataW H×List MemPlace),n<a1/\cs= [.int .i64 k,.string nm,.int .i64 i,.string s.base,.slice A s.args.length c,v]/\SimsIn w A s.args/\DataW.trod enc P w base spare held n tm [v]=some y:=by
 obtain⟨n,hn,hlc,hf⟩:=flds T.he h;obtain⟨y0,q0,_⟩:=hf 0 g0 rfl;obtain⟨y1,q1,_⟩:=hf 1 g1 rfl;obtain⟨y2,q2,_⟩:=hf 2 g2 rfl;obtain⟨y3,q3,_⟩:=hf 3 g3 rfl;obtain⟨y4,q4,_⟩:=hf 4 g4 rfl
 match cs,hl with
 | [v0,v1,v2,v3,v4,v5],_=>
  rw[T.e0,T.o0,T.ci]at q0;rw[T.e1,T.o1,T.S.cs]at q1;rw[T.e2,T.o2,T.ci]at q2;rw[T.e3,T.o3,T.S.hsz]at q3;rw[T.e4,T.o4,T.ct]at q4;obtain⟨k,h5,_,_⟩:=DataW.trod_int T.hi (show DataW.trod enc P w base spare held n ti [v0]=some y0 from q0);obtain⟨nm,rfl,_⟩:=Kw T.S.hs (show DataW.trod enc P w base spare held n tstr [v1]=some y1 from q1);obtain⟨i,h6,_,_⟩:=DataW.trod_int T.hi (show DataW.trod enc P w base spare held n ti [v2]=some y2 from q2);obtain⟨s,A,c,rfl,rfl,hS⟩:=sim_open T.S (show DataW.trod enc P w base spare held n e [v3,v4]=some y3 from q3);rw[u5 h5,u5 h6];exact⟨k,i,nm,s,A,c,v5,n,y4,hn,rfl,hS,q4⟩
theorem tms_open(T:TmT P m tm ti tstr e ts f0 f1 g0 g1 g2 g3 g4):∀(a1:Nat) (v:Value) (x:DataW H×List MemPlace),DataW.trod enc P w base spare held a1 tm [v]=some x->∃ A l c,v= .slice A (List.length l) c/\l.length<=c/\TmsIn w A l:=by
 intro a1
 induction a1 using Nat.strongRecOn with
 | ind a1 ih=>
  intro v x h;obtain⟨A,len,c,rfl,hl,hm,hx⟩:=slF T.htm T.hsz dE h;by_cases h0:len=0
  ·subst h0
   exact⟨A,[],c,rfl,ag _,.nil⟩
  ·obtain⟨b,o,rfl,hlt,hc⟩:=hx h0
   obtain⟨l,hxl,hxs⟩:=kX (p:=fun i (z:Tm)=>TmAt w b (o+i*6) z) (n:=len) (fun i hi=>by
    obtain⟨cs,k,y,hk,h1,h2,h3,_⟩:=hc i hi;obtain⟨kd,ix,nm,s,A1,c1,v',n,y',hn,rfl,hS,h4⟩:=Hz T h1 h3;obtain⟨A',l',c',rfl,_,hin⟩:=ih n oG v' y' h4
    exact⟨.mk kd nm ix s l',.mk hlt h2 hS hin⟩)
   subst hxl;exact⟨_,l,c,rfl,hl,.more (nLT hl hm) hlt hxs⟩
theorem tm_open(T:TmT P m tm ti tstr e ts f0 f1 g0 g1 g2 g3 g4){x:DataW H×List MemPlace}(hl:cs.length=6)(h:DataW.trod enc P w base spare held a1 m cs=some x):
  ∃(t:Tm) (A:Option Addr) (c:Nat) (B:Option Addr) (d:Nat),cs= [.int .i64 t.kind,.string t.name,.int .i64 t.index,.string t.type.base,.slice A t.type.args.length c,.slice B t.args.length d]/\SimsIn w A t.type.args/\TmsIn w B t.args:=by
 obtain⟨kd,ix,nm,s,A1,c1,v',n,y',hn,rfl,hS,h4⟩:=Hz T hl h;obtain⟨A',l',c',rfl,_,hin⟩:=tms_open T n v' y' h4;exact⟨.mk kd nm ix s l',A1,c1,A',c',rfl,hS,hin⟩
end tm
structure GrfT(P:Program)(tg tn e ti tl te:TypeId)(q0 f0 f1 g0 g1:Field):Prop where
 hg:P.underlying tg=some (.struct #[q0])
 hgz:P.cellsOf tg=1
 r0:q0.offset=0
 s0:q0.type=tn
 hcn:P.cellsOf tn=1
 htn:P.underlying tn=some (.slice e)
 he:P.underlying e=some (.struct #[f0,f1])
 hsz:P.cellsOf e=2
 o0:f0.offset=0
 o1:f1.offset=1
 e0:f0.type=ti
 e1:f1.type=tl
 htl:P.underlying tl=some (.slice te)
 hte:P.underlying te=some (.struct #[g0,g1])
 hst:P.cellsOf te=2
 p0:g0.offset=0
 p1:g1.offset=1
 d0:g0.type=ti
 d1:g1.type=ti
 hcl:P.cellsOf tl=1
 hi:P.underlying ti=some (.int .i64)
 hc1:P.cellsOf ti=1
theorem Wz{tg tn:TypeId}{q0 f0 f1 g0 g1:Field}(T:GrfT P tg tn e ti tl te q0 f0 f1 g0 g1){x:DataW H×List MemPlace}(h:DataW.trod enc P w base spare held a1 tg [v]=some x):∃ A gr c,v= .slice A (List.length gr) c/\NodesIn w A gr:=by
 obtain⟨v0,n,y0,h1,h2⟩:=Ly T.hg rfl T.r0 (by rw[T.s0];exact T.hcn) h;rw[T.s0]at h2;obtain⟨A,gr,c,rfl,_,hin⟩:=CY T.htn T.he T.hsz T.o0 T.o1 T.e0 T.e1 T.htl T.hte T.hst T.p0 T.p1 T.d0 T.d1 T.hcl T.hi T.hc1 h2;exact⟨A,gr,c,u5 h1,hin⟩
section rl
variable {m tm ti tstr e ts:TypeId} {f0 f1 g0 g1 g2 g3 g4:Field} {tg tn te' tl tk:TypeId} {q0 a0 a1 b0 b1:Field}
theorem rules_open{r:TypeId}{x0 x1 x2 x3 x4:Field}(T:TmT P m tm ti tstr e ts f0 f1 g0 g1 g2 g3 g4)(G:GrfT P tg tn te' ti tl tk q0 a0 a1 b0 b1)(ht:P.underlying t=some (.slice r))(hr:P.underlying r=some (.struct #[x0,x1,x2,x3,x4]))(hsz:P.cellsOf r=10)
  (o0:x0.offset=0) (o1:x1.offset=1) (o2:x2.offset=2) (o3:x3.offset=3) (o4:x4.offset=4) (t0:x0.type=tstr) (t1:x1.type=tg) (t2:x2.type=ti) (t3:x3.type=ti) (t4:x4.type=m) {a2:Nat} {v:Value} {x:DataW H×List MemPlace} (h:DataW.trod enc P w base spare held a2 t [v]=some x):
  ∃ A l c,v= .slice A (List.length l) c/\l.length<=c/\RulesIn w A l:=by
 obtain⟨A,len,c,rfl,hl,hm,hx⟩:=slF ht hsz dE h;by_cases h0:len=0
 ·subst h0
  exact⟨A,[],c,rfl,ag _,ag _,fun h=>absurd rfl h⟩
 ·obtain⟨b,o,rfl,hlt,hc⟩:=hx h0
  obtain⟨l,hxl,hxs⟩:=kX (p:=fun i (z:Rl)=>RlIn w b (o+i*10) z) (n:=len) (fun i hi=>by
   obtain⟨cs,k,y,hk,h1,h2,h3,_⟩:=hc i hi;obtain⟨n,hn,hlc,hf⟩:=flds hr h3;obtain⟨y0,p0,_⟩:=hf 0 x0 rfl;obtain⟨y1,p1,_⟩:=hf 1 x1 rfl;obtain⟨y2,p2,_⟩:=hf 2 x2 rfl;obtain⟨y3,p3,_⟩:=hf 3 x3 rfl;obtain⟨y4,p4,_⟩:=hf 4 x4 rfl
   match cs,h1 with
   | [v0,v1,v2,v3,v4,v5,v6,v7,v8,v9],_=>
    rw[t0,o0,T.S.cs]at p0;rw[t1,o1,G.hgz]at p1;rw[t2,o2,T.ci]at p2;rw[t3,o3,T.ci]at p3;rw[t4,o4,T.hsz]at p4;obtain⟨nm,rfl,_⟩:=Kw T.S.hs (show DataW.trod enc P w base spare held n tstr [v0]=some y0 from p0);obtain⟨B,gr,d,rfl,hG⟩:=Wz G (show DataW.trod enc P w base spare held n tg [v1]=some y1 from p1);obtain⟨kd,h5,_,_⟩:=DataW.trod_int T.hi (show DataW.trod enc P w base spare held n ti [v2]=some y2 from p2);obtain⟨wt,h6,_,_⟩:=DataW.trod_int T.hi (show DataW.trod enc P w base spare held n ti [v3]=some y3 from p3);obtain⟨tt,A2,c2,B2,d2,h7,hS,hT⟩:=tm_open T rfl (show DataW.trod enc P w base spare held n m [v4,v5,v6,v7,v8,v9]=some y4 from p4);rw[u5 h5,u5 h6,h7]at h2
    exact⟨⟨nm,gr,kd,wt,tt⟩,B,d,A2,c2,B2,d2,h2,hG,hS,hT⟩)
  subst hxl;exact⟨_,l,c,rfl,hl,nLT hl hm,fun _=>⟨b,o,rfl,hlt,hxs⟩⟩
theorem lexes_open{r:TypeId}{x0 x1 x2 x3:Field}(T:TmT P m tm ti tstr e ts f0 f1 g0 g1 g2 g3 g4)(G:GrfT P tg tn te' ti tl tk q0 a0 a1 b0 b1)(ht:P.underlying t=some (.slice r))(hr:P.underlying r=some (.struct #[x0,x1,x2,x3]))(hsz:P.cellsOf r=9)
  (o0:x0.offset=0) (o1:x1.offset=1) (o2:x2.offset=2) (o3:x3.offset=3) (t0:x0.type=tstr) (t1:x1.type=tg) (t2:x2.type=ti) (t3:x3.type=m) {a2:Nat} {v:Value} {x:DataW H×List MemPlace} (hw:Lw P t x.1) (h:DataW.trod enc P w base spare held a2 t [v]=some x):
  ∃ A l c,v= .slice A (List.length l) c/\l.length<=c/\LexesIn w A l:=by
 obtain⟨A,len,c,rfl,hl,hm,hx⟩:=slF ht hsz dE h;by_cases h0:len=0
 ·subst h0
  exact⟨A,[],c,rfl,ag _,ag _,fun h=>absurd rfl h⟩
 ·obtain⟨b,o,rfl,hlt,hc⟩:=hx h0
  obtain⟨l,hxl,hxs⟩:=kX (p:=fun i (z:Lx)=>LxIn w b (o+i*9) z) (n:=len) (fun i hi=>by
   obtain⟨cs,k,y,hk,h1,h2,h3,hwy⟩:=hc i hi;obtain⟨n,hn,hlc,hf⟩:=flds hr h3;obtain⟨y0,p0,hw0⟩:=hf 0 x0 rfl;obtain⟨y1,p1,_⟩:=hf 1 x1 rfl;obtain⟨y2,p2,_⟩:=hf 2 x2 rfl;obtain⟨y3,p3,_⟩:=hf 3 x3 rfl
   match cs,h1 with
   | [v0,v1,v2,v3,v4,v5,v6,v7,v8],_=>
    rw[t0,o0,T.S.cs]at p0;rw[t0]at hw0;rw[t1,o1,G.hgz]at p1;rw[t2,o2,T.ci]at p2;rw[t3,o3,T.hsz]at p3;obtain⟨nm,rfl,hws⟩:=Kw T.S.hs (show DataW.trod enc P w base spare held n tstr [v0]=some y0 from p0);obtain⟨B,gr,d,rfl,hG⟩:=Wz G (show DataW.trod enc P w base spare held n tg [v1]=some y1 from p1);obtain⟨wt,h6,_,_⟩:=DataW.trod_int T.hi (show DataW.trod enc P w base spare held n ti [v2]=some y2 from p2);obtain⟨tt,A2,c2,B2,d2,h7,hS,hT⟩:=tm_open T rfl (show DataW.trod enc P w base spare held n m [v3,v4,v5,v6,v7,v8]=some y3 from p3);rw[u5 h6,h7]at h2
    exact⟨⟨nm,gr,wt,tt⟩,hws (hw0 (hwy hw)),B,d,A2,c2,B2,d2,h2,hG,hS,hT⟩)
  subst hxl;exact⟨_,l,c,rfl,hl,nLT hl hm,fun _=>⟨b,o,rfl,hlt,hxs⟩⟩
end rl
theorem lw_arg{ts:List TypeId}{ds:List (DataW H)}(h:(DataW.weightsEach P ts ds).all (·<=reachBytes)=true){j:Nat}{d:DataW H}(ht:ts[j]? =some t)(hd:ds[j]? =some d):Lw P t d:=fun n hn=>by
 have:=aC.1 h _ (DataW.weights_mem_each ht hd n hn)
 simpa using this
end
end
end Go.Proofs.YtgcgnkmmbecfmaaGreatDoor
