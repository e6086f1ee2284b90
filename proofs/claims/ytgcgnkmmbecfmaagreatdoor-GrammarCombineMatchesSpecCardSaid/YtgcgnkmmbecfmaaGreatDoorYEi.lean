/- What these functions compute, at every world: ref3.step, ref3.Combined, ; and plain laws. -/
import Derived.Test.YtgcgnkmmbecfmaaGreatDoorU
import Derived.Test.YtgcgnkmmbecfmaaGreatDoorZst
import Derived.Test.YtgcgnkmmbecfmaaGreatDoorLxd
import Derived.Test.YtgcgnkmmbecfmaaGreatDoorRJoin
import Derived.Test.YtgcgnkmmbecfmaaGreatDoorGCan
import Derived.Test.YtgcgnkmmbecfmaaGreatDoorHtx
import Derived.Test.YtgcgnkmmbecfmaaGreatDoorRIns
namespace Go.Proofs.YtgcgnkmmbecfmaaGreatDoor
open Go.RowKit
variable {E e:Fl}{k:Nat}
theorem va2(ga gb:List Nd):VA [ga,gb] [ga,gb].length=vX ga gb:=by
 show D1 (D1 [] ga) gb=_;have z0:∀ x:Nd,shN 0 x=x:=fun x=>V8 rfl (by simp[shN])
 have e:D1 [] ga=ga:=by
  unfold D1;rw[List.nil_append,List.length_nil]
  conv=>rhs;rw[<- List.map_id ga]
  exact aP (fun x _=>z0 x)
 rw[e];rfl
theorem pa2(ga gb:List Nd)(j:Nat):PA [ga,gb] [j]= [(j,ga.length)]:=by
 show[(j,(VA [ga,gb] 1).length)]=_;have:(VA [ga,gb] 1).length=ga.length:=by show (D1 [] ga).length=_;simp[D1]
 rw[this]
theorem va2_is{l:List Ty}{ga gb X:List Nd}{j:Nat}{ok:Bool}(h:(ok=true/\Vj l (VA [ga,gb] [ga,gb].length) (PA [ga,gb] [j]) X)\/(ok=false/\X= []/\¬EY l (VA [ga,gb] [ga,gb].length) (PA [ga,gb] [j]))):kJ l (vX ga gb) [(j,ga.length)] ok X:=by
 rw[va2,pa2]at h;exact h
set_option maxRecDepth 100000 in
set_option maxHeartbeats 4000000 in
theorem rstep_any(AT AF:Option Addr)(ct cf:Nat){c1 c2:Nat}{G1 G2:Option Addr}{l:List Ty}{fs:List Ft}{ga gb:List Nd}{f m:Int}(w:World)(hT:TypesIn w AT l)(hG1:NodesIn w G1 ga)(hG2:NodesIn w G2 gb)(ha:Jok l fs m ga)(hb:GV l fs gb)(hf0:0<=f)(hfm:f<=m):Calls Tryz.prog 34 #[.agg #[.slice AT l.length ct,.slice AF fs.length cf],.agg #[.slice G1 ga.length c1],.int .i64 f,.agg #[.slice G2 gb.length c2]] w fun e w'=>(∃ A X ok c,e= .returned (.tuple #[.agg #[.slice A (List.length X) c],.bool ok])/\(∀ w2,FrSame w.heap.size w' w2->NodesIn w2 A X)/\StepS l ga gb f ok X)/\Bel w w':=by
 have bv:=ha.lt hf0 hfm;have h0l:=ha.v.gx.pos;obtain⟨a5,XI,c4⟩:=Gq ha.v.gx hb.gx bv;have hpa:=Fv ha hf0 hfm;refine enT Tryz.func34 Tryz.ntmps34 rfl rfl fun hB=>?_;refine zn2 ?_;refine xy (v:= .agg #[_,_]) (cs:=#[_,_]) rfl rfl (fun b4 w1 bi s1 hr=>?_);have lo4:=hB.ob hr;refine xy (v:= .agg #[_]) (cs:=#[_]) rfl rfl (fun b5 w2 bh s2 hr=>?_);have:=bi.ob hr;have lo5:=hB.u.ob hr;refine xy (v:= .agg #[_]) (cs:=#[_]) rfl rfl (fun b7 w3 bo s3 hr=>?_);have:=bi.u.ob hr;have:=bh.ob hr;have lo7:=hB.u.ob hr;refine qW (cs:=#[.slice none 0 0]) yz rfl (fun b8 w4 ab s4 hr=>?_);have:=bi.u.ob hr;have:=bh.u.ob hr;have:=bo.ob hr;have lo8:=hB.u.ob hr;refine zn4 ?_;replace hB:=hB.tr0 (s1.t (s2.t (s3.t s4)));have hsz:=Bel.size hB;replace bi:=bi.tr0 (s2.t (s3.t s4));have z4:=bi.lt;replace bh:=bh.tr0 (s3.t s4);have z5:=bh.lt;replace bo:=bo.tr0 s4;have z7:=bo.lt;have z8:=ab.lt;refine y9 (rg [] 10 14) (fun g w'=>∃(ac:Nat) (AZ:Option Addr) (cZ lz hz:Nat),g 10= .pointer (some ⟨ac,0,none⟩)/\g 11= .bool a5/\Bel w w'/\Blk w' ac 30 #[.slice AZ (List.length XI) cZ]/\(∃ z,Blk w' b8 30 #[z])/\b8≠ac/\Kept lz hz w' (fun wq=>NodesIn wq AZ XI)/\w.heap.size<=lz/\b8<lz/\kJ l (vX ga gb) [((plc ga f).toNat,ga.length)] a5 XI) ?_ (fun g1 w5 hI=>?_)
 ·refine BZ 13 [13,14,15,16,17,18,19,20,21,12,22,23,10] [11] (fun ix=>bif Nat.beq ix 9 then 8 else bif Nat.beq ix 10 then 8 else ix) (fun ix v la ha wv=>match ix with|0=>v= .agg #[.slice AT l.length ct,.slice AF fs.length cf]|1=>v= .agg #[.slice G1 ga.length c1]|2=>v= .agg #[.slice G2 gb.length c2]|3=>∃ b,v= .slice (some ⟨b,0,none⟩) 2 2/\GrsIn wv (some ⟨b,0,none⟩) [ga,gb]|4=>v= .agg #[.slice G1 ga.length c1]|5=>v= .int .i64 f|6=>v= .int .i64 (((plc ga f).toNat:Nat):Int)|7=>∃ b,v= .slice (some ⟨b,0,none⟩) 1 1/\IntsIn wv (some ⟨b,0,none⟩) ([(plc ga f).toNat].map (fun n=>((n:Nat):Int)))|8=>∃ AZ cZ,v= .tuple #[.agg #[.slice AZ (List.length XI) cZ],.bool a5]/\Kept la ha wv (fun wq=>NodesIn wq AZ XI)/\w4.heap.size<=la/\kJ l (vX ga gb) [((plc ga f).toNat,ga.length)] a5 XI|9=>∃ AZ cZ,v= .tuple #[.agg #[.slice AZ (List.length XI) cZ],.bool a5]/\Kept la ha wv (fun wq=>NodesIn wq AZ XI)/\w4.heap.size<=la/\kJ l (vX ga gb) [((plc ga f).toNat,ga.length)] a5 XI|10=>∃ AZ cZ,v= .agg #[.slice AZ (List.length XI) cZ]/\Kept la ha wv (fun wq=>NodesIn wq AZ XI)/\w4.heap.size<=la/\kJ l (vX ga gb) [((plc ga f).toNat,ga.length)] a5 XI|11=>v= .bool a5|12=>∃ b,v= .pointer (some ⟨b,0,none⟩)/\w4.heap.size<=b/\Blk wv b 30 #[.slice none 0 0]/\la<=b/\b<ha|_=>True) kR kR kR kR ?_ ?_ ?_
  ·intro ix v la ha wv bt h hle s5
   match ix,h with
   | 0,h=>exact h
   | 1,h=>exact h
   | 2,h=>exact h
   | 3,h=>
    obtain⟨bx,cd,b6⟩:=(show ∃ b,v= .slice (some ⟨b,0,none⟩) 2 2/\GrsIn wv (some ⟨b,0,none⟩) [ga,gb]from h)
    exact⟨bx,cd,b6.mono s5.bel⟩
   | 4,h=>exact h
   | 5,h=>exact h
   | 6,h=>exact h
   | 7,h=>
    obtain⟨bw,cc,b3⟩:=(show ∃ b,v= .slice (some ⟨b,0,none⟩) 1 1/\IntsIn wv (some ⟨b,0,none⟩) ([(plc ga f).toNat].map (fun n=>((n:Nat):Int)))from h)
    exact⟨bw,cc,b3.mono s5.bel⟩
   | 8,h=>
    obtain⟨AZ,cZ,cb,a3,b2,b1⟩:=(show ∃ AZ cZ,v= .tuple #[.agg #[.slice AZ (List.length XI) cZ],.bool a5]/\Kept la ha wv (fun wq=>NodesIn wq AZ XI)/\w4.heap.size<=la/\kJ l (vX ga gb) [((plc ga f).toNat,ga.length)] a5 XI from h)
    exact⟨AZ,cZ,cb,a3.tr0 s5,b2,b1⟩
   | 9,h=>
    obtain⟨bm,bk,be,bn,an,ao⟩:=(show ∃ AZ cZ,v= .tuple #[.agg #[.slice AZ (List.length XI) cZ],.bool a5]/\Kept la ha wv (fun wq=>NodesIn wq AZ XI)/\w4.heap.size<=la/\kJ l (vX ga gb) [((plc ga f).toNat,ga.length)] a5 XI from h)
    exact⟨bm,bk,be,bn.tr0 s5,an,ao⟩
   | 10,h=>
    obtain⟨AZ,cZ,bq,a3,b2,b1⟩:=(show ∃ AZ cZ,v= .agg #[.slice AZ (List.length XI) cZ]/\Kept la ha wv (fun wq=>NodesIn wq AZ XI)/\w4.heap.size<=la/\kJ l (vX ga gb) [((plc ga f).toNat,ga.length)] a5 XI from h)
    exact⟨AZ,cZ,bq,a3.tr0 s5,b2,b1⟩
   | 11,h=>exact h
   | 12,h=>
    obtain⟨ac,br,a4,a2,bg,bj⟩:=(show ∃ b,v= .pointer (some ⟨b,0,none⟩)/\w4.heap.size<=b/\Blk wv b 30 #[.slice none 0 0]/\la<=b/\b<ha from h)
    exact⟨ac,br,a4,a2.tr0 s5,bg,bj⟩
   | _+13,h=>exact trivial
  ·intro ix o hix a1 gg wx lo hi s6 hd bd
   match ix,hix,a1 with
   | 0,_,a1=>
    cases sI a1;refine gdA ?_;refine qZ (qw U25 rfl rfl bi.u.range0 RX) ⟨Same.refl _ _,?_⟩;exact rfl
   | 1,_,a1=>
    cases sI a1;refine gdA ?_;refine qZ (qw U30 rfl rfl bh.u.range0 zY) ⟨Same.refl _ _,?_⟩;exact rfl
   | 2,_,a1=>
    cases sI a1;refine gdA ?_;refine qZ (qw U30 rfl rfl bo.u.range0 zY) ⟨Same.refl _ _,?_⟩;exact rfl
   | 3,_,a1=>
    cases sI a1;have d1:gg 14= .agg #[.slice G1 ga.length c1]:=(hd 1 (zk kR)).1;have e14:=d1;have d2:gg 15= .agg #[.slice G2 gb.length c2]:=(hd 2 (zk kR)).1;have e15:=d2;refine gdA (zq 14 _ e14 nu (zq 15 _ e15 nu ?_));refine jK (fun bu Q K=>?_);refine qV (cs:=#[_,_]) [(0,.agg _),(1,.agg _)] rfl U33 zY yz dE dE kR rfl (fun bx w6 c6 s7 hr=>?_);exact K _ _ ⟨s7,⟨_,rfl,grs_two c6 ((hG1.mono hB.u).mono s7.bel) ((hG2.mono hB.u).mono s7.bel)⟩⟩
   | 4,_,a1=>
    cases sI a1;refine gdA ?_;refine qZ (qw U30 rfl rfl bh.u.range0 zY) ⟨Same.refl _ _,?_⟩;exact rfl
   | 5,_,a1=>
    cases sI a1;refine gdA ?_;refine qZ (xz (v:= .int _ _) rfl) ⟨Same.refl _ _,?_⟩;exact rfl
   | 6,_,a1=>
    cases sI a1;have d4:gg 17= .agg #[.slice G1 ga.length c1]:=(hd 4 (zk kR)).1;have e17:=d4;have d5:gg 18= .int .i64 f:=(hd 5 (zk kR)).1;have e18:=d5;refine gdA (zq 17 _ e17 nu (zq 18 _ e18 nu ?_));refine vZ kR (Yy G1 c1 ga 0 f wx (hG1.mono hB.u) h0l) rfl (fun e' w2 hr=>?_);obtain⟨rfl,s8⟩:=hr;exact⟨_,rfl,sB s8,(congrArg (Value.int .i64) hpa)⟩
   | 7,_,a1=>
    cases sI a1;have d6:gg 19= .int .i64 (((plc ga f).toNat:Nat):Int):=(hd 6 (zk kR)).1;have e19:=d6;refine gdA (zq 19 _ e19 nu ?_);refine jK (fun bu Q K=>?_);refine qV (cs:=#[_]) [(0,.int _ _)] rfl U59 qk O0 dE dE kR rfl (fun bw w7 c5 s9 hr=>?_);exact K _ _ ⟨s9,⟨_,rfl,CV (xs:=[(((plc ga f).toNat:Nat):Int)]) (YK (base:=0) (m:=1) c5 (ag _) rfl dE)⟩⟩
   | 8,_,a1=>
    cases sI a1;have c0:=s6;have d0:gg 13= .agg #[.slice AT l.length ct,.slice AF fs.length cf]:=(hd 0 (zk kR)).1;have e13:=d0;have d3:∃ b,gg 16= .slice (some ⟨b,0,none⟩) 2 2/\GrsIn wx (some ⟨b,0,none⟩) [ga,gb]:=(hd 3 (zk kR)).1;obtain⟨bx,cd,b6⟩:=d3;have d7:∃ b,gg 20= .slice (some ⟨b,0,none⟩) 1 1/\IntsIn wx (some ⟨b,0,none⟩) ([(plc ga f).toNat].map (fun n=>((n:Nat):Int))):=(hd 7 (zk kR)).1;obtain⟨bw,cc,b3⟩:=d7;refine gdA (zq 13 _ e13 nu (zq 16 _ cd nu (zq 20 _ cc nu ?_)));replace hB:=hB.tr0 s6
    refine vZ kR (joined_any (nf:=fs.length) AT AF (some ⟨bx,0,none⟩) (some ⟨bw,0,none⟩) ct cf 2 1 l fs [ga,gb] [(plc ga f).toNat] wx (hT.mono hB) b6 b3 ha.v.s (fun i hi=>by
      match i,hi with
      | 0,_=>exact ha.v.gx.toGY
      | 1,_=>exact hb.gx.toGY) (fun i hi=>by
      match i,hi with
      | 0,_=>exact Ek ha.v.gok
      | 1,_=>exact Ek hb.gok) (by have:=ha.v.few;omega) (by show 2<=1000000;decide) (by rw[va2,N6];have:=ha.v.gok.le;have:=hb.gok.le;omega) (by show 0<2;decide) (by show 1<2;decide) (fun k hk=>by
      match k,hk with
      | 0,_=>exact bv)) rfl (fun e' w2 hr=>?_)
    obtain⟨⟨A9,X9,c9,ok9,rfl,hN9,hI9⟩,s10⟩:=hr;exact⟨_,rfl,sB s10,(by obtain⟨e1,e2,e3⟩:=c4 ok9 X9 (va2_is hI9);subst e1 e2;exact⟨A9,c9,rfl,Q7 hN9,c0.size,e3⟩)⟩
   | 9,_,a1=>
    cases sI a1;have d8:∃ AZ cZ,gg 21= .tuple #[.agg #[.slice AZ (List.length XI) cZ],.bool a5]/\Kept (lo 8) (hi 8) wx (fun wq=>NodesIn wq AZ XI)/\w4.heap.size<=(lo 8)/\kJ l (vX ga gb) [((plc ga f).toNat,ga.length)] a5 XI:=(hd 8 (zk kR)).1;obtain⟨AZ,cZ,cb,a3,b2,b1⟩:=d8;refine gdA (zq 21 _ cb nu ?_);refine qZ (xz (v:= .tuple _) rfl) ⟨Same.refl _ _,?_⟩;exact⟨_,_,rfl,a3,b2,b1⟩
   | 10,_,a1=>
    cases sI a1;have d9:∃ AZ cZ,gg 12= .tuple #[.agg #[.slice AZ (List.length XI) cZ],.bool a5]/\Kept (lo 8) (hi 8) wx (fun wq=>NodesIn wq AZ XI)/\w4.heap.size<=(lo 8)/\kJ l (vX ga gb) [((plc ga f).toNat,ga.length)] a5 XI:=(hd 9 (zk kR)).1;obtain⟨bm,bk,be,bn,an,ao⟩:=d9;refine gdA (zq 12 _ be nu ?_);refine qZ (vY (v:=_) rfl rfl) ⟨Same.refl _ _,?_⟩;exact⟨_,_,rfl,bn,an,ao⟩
   | 11,_,a1=>
    cases sI a1;have d9:∃ AZ cZ,gg 12= .tuple #[.agg #[.slice AZ (List.length XI) cZ],.bool a5]/\Kept (lo 8) (hi 8) wx (fun wq=>NodesIn wq AZ XI)/\w4.heap.size<=(lo 8)/\kJ l (vX ga gb) [((plc ga f).toNat,ga.length)] a5 XI:=(hd 9 (zk kR)).1;obtain⟨bm,bk,be,bn,an,ao⟩:=d9;refine gdA (zq 12 _ be nu ?_);refine qZ (vY (v:=_) rfl rfl) ⟨Same.refl _ _,?_⟩;exact rfl
   | 12,_,a1=>
    cases sI a1;have c0:=s6;refine gdA ?_;refine jK (fun bu Q K=>?_);refine qW (cs:=#[.slice none 0 0]) yz rfl (fun ac w8 a2 s11 hr=>?_);exact K _ _ ⟨s11,⟨_,rfl,nLT c0.size hr,a2,hr,a2.lt⟩⟩
   | _+13,hix,_=>exact absurd hix oG
  refine⟨?_,?_,trivial⟩
  ·intro _ gg w9 lo hi s12 hR bd;have d9:∃ AZ cZ,gg 12= .tuple #[.agg #[.slice AZ (List.length XI) cZ],.bool a5]/\Kept (lo 8) (hi 8) w9 (fun wq=>NodesIn wq AZ XI)/\w4.heap.size<=(lo 8)/\kJ l (vX ga gb) [((plc ga f).toNat,ga.length)] a5 XI:=(hR 9 dE dE).1;obtain⟨bm,bk,be,bn,an,ao⟩:=d9;have cg:∃ AZ cZ,gg 22= .agg #[.slice AZ (List.length XI) cZ]/\Kept (lo 8) (hi 8) w9 (fun wq=>NodesIn wq AZ XI)/\w4.heap.size<=(lo 8)/\kJ l (vX ga gb) [((plc ga f).toNat,ga.length)] a5 XI:=(hR 10 dE dE).1;obtain⟨AZ,cZ,bq,a3,b2,b1⟩:=cg;have d11:gg 23= .bool a5:=(hR 11 dE dE).1;have e23:=d11;have ce:∃ b,gg 10= .pointer (some ⟨b,0,none⟩)/\w4.heap.size<=b/\Blk w9 b 30 #[.slice none 0 0]/\(lo 12)<=b/\b<(hi 12):=(hR 12 dE dE).1;obtain⟨ac,br,a4,a2,bg,bj⟩:=ce;have b9:(hi 8)<=(lo 12)\/(hi 12)<=(lo 8):=bd 8 12 dE dE dE dE dE;have:=nLL z4 a4;have:=nLL z5 a4;have:=nLL z7 a4;have:=nLL z8 a4;replace a4:=nLT hsz a4;have bb:b8<(lo 8):=nLL z8 b2;refine yk 12 (.tuple #[.agg #[.slice bm (List.length XI) bk],.bool a5]) be nu (yk 22 (.agg #[.slice AZ (List.length XI) cZ]) bq nu (yk 23 (.bool a5) e23 nu (yk 10 (.pointer (some ⟨ac,0,none⟩)) br nu (Ij (k':=2) kR (Pw (listed':=#[true,true,true,true,true,true,true,true,true,true,true,true,true,false,false]) kR ?_)))));refine X2 [13] kR rfl ⟨fun o a1=>?_,trivial⟩;cases sI a1;refine zZ a2 rfl rfl zY rfl qz (fun w10 hq s13=>?_);replace a2:=hq;refine zJ (e_A (listed':=#[true,true,true,true,true,true,true,true,true,true,true,true,true,true,false]) (by rfl) (EW 14 rfl (fun _=>uK (v:= .bool _) rfl) (PJ kR ?_)));refine e_R ⟨agA,?_⟩;replace a3:=a3.tr1 s13 oG;exact⟨ac,AZ,cZ,_,_,rfl,rfl,hB.u,a2,⟨_,ab.u⟩,by omega,a3,nLT hsz b2,bb,b1⟩
  intro _ gg bz lo hi s14 hR bd;have d9:∃ AZ cZ,gg 12= .tuple #[.agg #[.slice AZ (List.length XI) cZ],.bool a5]/\Kept (lo 8) (hi 8) bz (fun wq=>NodesIn wq AZ XI)/\w4.heap.size<=(lo 8)/\kJ l (vX ga gb) [((plc ga f).toNat,ga.length)] a5 XI:=(hR 9 dE dE).1;obtain⟨bm,bk,be,bn,an,ao⟩:=d9;have cg:∃ AZ cZ,gg 22= .agg #[.slice AZ (List.length XI) cZ]/\Kept (lo 8) (hi 8) bz (fun wq=>NodesIn wq AZ XI)/\w4.heap.size<=(lo 8)/\kJ l (vX ga gb) [((plc ga f).toNat,ga.length)] a5 XI:=(hR 10 dE dE).1;obtain⟨AZ,cZ,bq,a3,b2,b1⟩:=cg;have ce:∃ b,gg 10= .pointer (some ⟨b,0,none⟩)/\w4.heap.size<=b/\Blk bz b 30 #[.slice none 0 0]/\(lo 12)<=b/\b<(hi 12):=(hR 12 dE dE).1;obtain⟨ac,br,a4,a2,bg,bj⟩:=ce;have b9:(hi 8)<=(lo 12)\/(hi 12)<=(lo 8):=bd 8 12 dE dE dE dE dE;have:=nLL z4 a4;have:=nLL z5 a4;have:=nLL z7 a4;have:=nLL z8 a4;replace a4:=nLT hsz a4;have bb:b8<(lo 8):=nLL z8 b2;refine yk 12 (.tuple #[.agg #[.slice bm (List.length XI) bk],.bool a5]) be nu (yk 22 (.agg #[.slice AZ (List.length XI) cZ]) bq nu (yk 10 (.pointer (some ⟨ac,0,none⟩)) br nu (Ij (k':=3) kR (Pw (listed':=#[true,true,true,true,true,true,true,true,true,true,true,false,true,false,false]) kR (EW 11 rfl (fun _=>vY (v:=_) rfl rfl) ?_)))));refine X2 [13] kR rfl ⟨fun o a1=>?_,trivial⟩;cases sI a1;refine zZ a2 rfl rfl zY rfl qz (fun w12 hq s15=>?_);replace a2:=hq;refine zJ (e_A (listed':=#[true,true,true,true,true,true,true,true,true,true,true,true,true,true,false]) (by rfl) (EW 14 rfl (fun _=>uK (v:= .bool _) rfl) (PJ kR ?_)));refine e_R ⟨agA,?_⟩;replace a3:=a3.tr1 s15 oG;exact⟨ac,AZ,cZ,_,_,rfl,rfl,hB.u,a2,⟨_,ab.u⟩,by omega,a3,nLT hsz b2,bb,b1⟩
 obtain⟨ac,AZ,cZ,lz,hz,h10,h11,hB,a2,⟨z8v,ab⟩,bf,a3,hlz,bb,b1⟩:=hI;refine jj 10 _ h10 nu (jj 11 _ h11 nu (e_S (xV ?_)));rcases Bool.eq_false_or_eq_true (a5)with hok|hok
 ·refine zX 11 _ (ae hok) nu ?_;refine M9 10 [24,25,26,27,28,29,30,31,9] [b8] (fun ix v wv=>match ix with|0=>v= .agg #[.slice AZ (List.length XI) cZ]|1=>v= .bool true|2=>v= .bool true|3=>v= .pointer (some ⟨ac,0,none⟩)|4=>v= .slice AZ (List.length XI) cZ|5=>v= .int .i64 ((XI.length:Nat):Int)|6=>v= .bool (decide (((XI.length:Nat):Int)<=60))|7=>v= .bool (decide (((XI.length:Nat):Int)<=60))|8=>Blk wv b8 30 #[.slice AZ (List.length XI) cZ]|9=>v= .bool (decide (((XI.length:Nat):Int)<=60))|_=>True) (fun wq=>(∃ z,Blk wq b8 30 #[z])/\Kept lz hz wq (fun w3=>NodesIn w3 AZ XI)) kR kR ?_ ?_ ⟨⟨_,ab⟩,(by first|exact a3|exact a3.tr0 s4|exact a3.tr1 bc (.inl bb))⟩ ?_ ?_
  ·intro ix v wv bt h s16
   match ix,h with
   | 0,h=>exact h
   | 1,h=>exact h
   | 2,h=>exact h
   | 3,h=>exact h
   | 4,h=>exact h
   | 5,h=>exact h
   | 6,h=>exact h
   | 7,h=>exact h
   | 8,h=>exact(show Blk wv b8 30 #[.slice AZ (List.length XI) cZ]from h).tr0 s16
   | 9,h=>exact h
   | _+10,h=>exact trivial
  ·intro wv bt h s17;obtain⟨⟨z1,ab⟩,a3⟩:=h;exact⟨⟨_,ab.u⟩,(by first|exact a3|exact a3.tr0 s17|exact a3.tr1 bc (.inl bb))⟩
  ·intro ix o hix a1 gg wx s18 hJ hd
   match ix,hix,a1 with
   | 0,_,a1=>
    cases sI a1;replace a2:=a2.tr s18 (fun hx=>by simp only[List.mem_cons,List.not_mem_nil,or_false]at hx;omega);refine gdA ?_;show OS _ _ _ _ _ _;exact oVq (qw U30 rfl rfl a2.range0 zY) rfl
   | 1,_,a1=>
    cases sI a1;refine gdA ?_;show OS _ _ _ _ _ _;exact oVq (xz (v:= .bool _) rfl) rfl
   | 2,_,a1=>
    cases sI a1;have d1:gg 25= .bool true:=hd 1 _ (zk kR) rfl;have c8:=d1;refine gdA ?_;show OS _ _ _ _ _ _;refine zq 25 _ c8 nu ?_;exact oVq (xz (v:= .bool _) rfl) rfl
   | 3,_,a1=>
    cases sI a1;have d2:gg 26= .bool true:=hd 2 _ (zk kR) rfl;have a9:=d2;refine vV 26 true rfl a9 (fun _=>?_) (fun h=>absurd h dE);show OS _ _ _ _ _ _;refine zq 26 _ a9 nu ?_;exact oVq (u6 U30 sz28 dE rfl rfl rfl) rfl
   | 4,_,a1=>
    cases sI a1;replace a2:=a2.tr s18 (fun hx=>by simp only[List.mem_cons,List.not_mem_nil,or_false]at hx;omega);have d2:gg 26= .bool true:=hd 2 _ (zk kR) rfl;have a9:=d2;have d3:gg 27= .pointer (some ⟨ac,0,none⟩):=hd 3 _ (zk kR) rfl;have e27:=d3;refine vV 26 true rfl a9 (fun _=>?_) (fun h=>absurd h dE);show OS _ _ _ _ _ _;refine zq 26 _ a9 nu (zq 27 _ e27 nu ?_);exact oVq (qy (v:= .slice _ _ _) U28 rfl rfl (a2.cell rfl)) rfl
   | 5,_,a1=>
    cases sI a1;have d2:gg 26= .bool true:=hd 2 _ (zk kR) rfl;have a9:=d2;have d4:gg 28= .slice AZ (List.length XI) cZ:=hd 4 _ (zk kR) rfl;have e28:=d4;refine vV 26 true rfl a9 (fun _=>?_) (fun h=>absurd h dE);show OS _ _ _ _ _ _;refine zq 26 _ a9 nu (zq 28 _ e28 nu ?_);exact oVq (E1 U28 rfl) rfl
   | 6,_,a1=>
    cases sI a1;have d2:gg 26= .bool true:=hd 2 _ (zk kR) rfl;have a9:=d2;have d5:gg 29= .int .i64 ((XI.length:Nat):Int):=hd 5 _ (zk kR) rfl;have e29:=d5;refine vV 26 true rfl a9 (fun _=>?_) (fun h=>absurd h dE);show OS _ _ _ _ _ _;refine zq 26 _ a9 nu (zq 29 _ e29 nu ?_);exact oVq (r_leq rfl rfl) rfl
   | 7,_,a1=>
    cases sI a1;have d2:gg 26= .bool true:=hd 2 _ (zk kR) rfl;have a9:=d2;have d6:gg 30= .bool (decide (((XI.length:Nat):Int)<=60)):=hd 6 _ (zk kR) rfl;have e30:=d6;refine gdA ?_;show OS _ _ _ _ _ _;refine zq 26 _ a9 nu (zq 30 _ e30 nu ?_);exact oVq (Fq (v:= .bool _) rfl rfl) rfl
   | 8,_,a1=>
    cases sI a1;have d0:gg 24= .agg #[.slice AZ (List.length XI) cZ]:=hd 0 _ (zk kR) rfl;have ca:=d0;refine gdA ?_;show OS _ _ _ _ _ _;refine zq 24 _ ca nu ?_;obtain⟨⟨z1,ab⟩,a3⟩:=hJ;refine I8 (fun bu Q K=>?_);refine zZ ab rfl rfl zY rfl qz (fun w2 hq bc=>?_);have K2:=K w2;refine K2 ⟨bc.weak (by simp),?_,hq,fun kx v bf h=>?_⟩
    ·replace ab:=hq;exact⟨⟨_,ab⟩,(by first|exact a3|exact a3.tr0 s18|exact a3.tr1 bc (.inl bb))⟩
    match kx,bf,h with
    | 0,_,h=>exact h
    | 1,_,h=>exact h
    | 2,_,h=>exact h
    | 3,_,h=>exact h
    | 4,_,h=>exact h
    | 5,_,h=>exact h
    | 6,_,h=>exact h
    | 7,_,h=>exact h
    | 8,bf,_=>exact absurd rfl bf
    | 9,_,h=>exact h
    | _+10,_,_=>exact trivial
   | 9,_,a1=>
    cases sI a1;have d7:gg 31= .bool (decide (((XI.length:Nat):Int)<=60)):=hd 7 _ (zk kR) rfl;have c7:=d7;refine gdA ?_;show OS _ _ _ _ _ _;refine zq 31 _ c7 nu ?_;exact oVq (uK (v:= .bool _) rfl) rfl
   | _+10,hix,_=>exact absurd hix oG
  intro gg w13 s19 hJ hR;replace hB:=hB.tr s19 (fun q hx=>by simp only[List.mem_cons,List.not_mem_nil,or_false]at hx;omega);have c3:Blk w13 b8 30 #[.slice AZ (List.length XI) cZ]:=hR 8 _ rfl;replace ab:=c3;have d9:gg 9= .bool (decide (((XI.length:Nat):Int)<=60)):=hR 9 _ rfl;have e9:=d9;refine xj 9 _ e9 nu (zn3 ?_);refine QK (.inl rfl) rfl (zW U30 rfl rfl ab.range0 zY) rfl ?_;obtain⟨_,a3⟩:=hJ;refine⟨⟨AZ,XI,_,cZ,rfl,V4 a3 hlz,?_⟩,hB⟩;have hst:=D4 ha.v.gx hb.gx bv b1;rw[hok]at hst;exact hst
 refine zX 11 _ (ae hok) nu ?_;refine M9 10 [24,25,26,27,28,29,30,31,9] [b8] (fun ix v wv=>match ix with|0=>v= .agg #[.slice AZ (List.length XI) cZ]|1=>v= .bool false|2=>v= .bool false|3=>v=undef|4=>v=undef|5=>v=undef|6=>v=undef|7=>v= .bool false|8=>Blk wv b8 30 #[.slice AZ (List.length XI) cZ]|9=>v= .bool false|_=>True) (fun wq=>(∃ z,Blk wq b8 30 #[z])/\Kept lz hz wq (fun w3=>NodesIn w3 AZ XI)) kR kR ?_ ?_ ⟨⟨_,ab⟩,(by first|exact a3|exact a3.tr0 s4|exact a3.tr1 bc (.inl bb))⟩ ?_ ?_
 ·intro ix v wv bt h s20
  match ix,h with
  | 0,h=>exact h
  | 1,h=>exact h
  | 2,h=>exact h
  | 3,h=>exact h
  | 4,h=>exact h
  | 5,h=>exact h
  | 6,h=>exact h
  | 7,h=>exact h
  | 8,h=>exact(show Blk wv b8 30 #[.slice AZ (List.length XI) cZ]from h).tr0 s20
  | 9,h=>exact h
  | _+10,h=>exact trivial
 ·intro wv bt h s21;obtain⟨⟨z1,ab⟩,a3⟩:=h;exact⟨⟨_,ab.u⟩,(by first|exact a3|exact a3.tr0 s21|exact a3.tr1 bc (.inl bb))⟩
 ·intro ix o hix a1 gg wx s22 hJ hd
  match ix,hix,a1 with
  | 0,_,a1=>
   cases sI a1;replace a2:=a2.tr s22 (fun hx=>by simp only[List.mem_cons,List.not_mem_nil,or_false]at hx;omega);refine gdA ?_;show OS _ _ _ _ _ _;exact oVq (qw U30 rfl rfl a2.range0 zY) rfl
  | 1,_,a1=>
   cases sI a1;refine gdA ?_;show OS _ _ _ _ _ _;exact oVq (xz (v:= .bool _) rfl) rfl
  | 2,_,a1=>
   cases sI a1;have d1:gg 25= .bool false:=hd 1 _ (zk kR) rfl;have c8:=d1;refine gdA ?_;show OS _ _ _ _ _ _;refine zq 25 _ c8 nu ?_;exact oVq (xz (v:= .bool _) rfl) rfl
  | 3,_,a1=>
   cases sI a1;have d2:gg 26= .bool false:=hd 2 _ (zk kR) rfl;have a9:=d2;exact vV 26 false rfl a9 (fun h=>absurd h dE) (fun _=>rfl)
  | 4,_,a1=>
   cases sI a1;have d2:gg 26= .bool false:=hd 2 _ (zk kR) rfl;have a9:=d2;have d3:gg 27=undef:=hd 3 _ (zk kR) rfl;have e27:=d3;exact vV 26 false rfl a9 (fun h=>absurd h dE) (fun _=>rfl)
  | 5,_,a1=>
   cases sI a1;have d2:gg 26= .bool false:=hd 2 _ (zk kR) rfl;have a9:=d2;have d4:gg 28=undef:=hd 4 _ (zk kR) rfl;have e28:=d4;exact vV 26 false rfl a9 (fun h=>absurd h dE) (fun _=>rfl)
  | 6,_,a1=>
   cases sI a1;have d2:gg 26= .bool false:=hd 2 _ (zk kR) rfl;have a9:=d2;have d5:gg 29=undef:=hd 5 _ (zk kR) rfl;have e29:=d5;exact vV 26 false rfl a9 (fun h=>absurd h dE) (fun _=>rfl)
  | 7,_,a1=>
   cases sI a1;have d2:gg 26= .bool false:=hd 2 _ (zk kR) rfl;have a9:=d2;have d6:gg 30=undef:=hd 6 _ (zk kR) rfl;have e30:=d6;refine gdA ?_;show OS _ _ _ _ _ _;refine zq 26 _ a9 nu ?_;exact oVq (Fx (v:= .bool _) rfl rfl) rfl
  | 8,_,a1=>
   cases sI a1;have d0:gg 24= .agg #[.slice AZ (List.length XI) cZ]:=hd 0 _ (zk kR) rfl;have ca:=d0;refine gdA ?_;show OS _ _ _ _ _ _;refine zq 24 _ ca nu ?_;obtain⟨⟨z1,ab⟩,a3⟩:=hJ;refine I8 (fun bu Q K=>?_);refine zZ ab rfl rfl zY rfl qz (fun w2 hq bc=>?_);have K2:=K w2;refine K2 ⟨bc.weak (by simp),?_,hq,fun kx v bf h=>?_⟩
   ·replace ab:=hq;exact⟨⟨_,ab⟩,(by first|exact a3|exact a3.tr0 s22|exact a3.tr1 bc (.inl bb))⟩
   match kx,bf,h with
   | 0,_,h=>exact h
   | 1,_,h=>exact h
   | 2,_,h=>exact h
   | 3,_,h=>exact h
   | 4,_,h=>exact h
   | 5,_,h=>exact h
   | 6,_,h=>exact h
   | 7,_,h=>exact h
   | 8,bf,_=>exact absurd rfl bf
   | 9,_,h=>exact h
   | _+10,_,_=>exact trivial
  | 9,_,a1=>
   cases sI a1;have d7:gg 31= .bool false:=hd 7 _ (zk kR) rfl;have c7:=d7;refine gdA ?_;show OS _ _ _ _ _ _;refine zq 31 _ c7 nu ?_;exact oVq (uK (v:= .bool _) rfl) rfl
  | _+10,hix,_=>exact absurd hix oG
 intro gg w14 s23 hJ hR;replace hB:=hB.tr s23 (fun q hx=>by simp only[List.mem_cons,List.not_mem_nil,or_false]at hx;omega);have c3:Blk w14 b8 30 #[.slice AZ (List.length XI) cZ]:=hR 8 _ rfl;replace ab:=c3;have d9:gg 9= .bool false:=hR 9 _ rfl;have e9:=d9;refine xj 9 _ e9 nu (zn3 ?_);refine QK (.inl rfl) rfl (zW U30 rfl rfl ab.range0 zY) rfl ?_;obtain⟨_,a3⟩:=hJ;refine⟨⟨AZ,XI,_,cZ,rfl,V4 a3 hlz,?_⟩,hB⟩;have hst:=D4 ha.v.gx hb.gx bv b1;rw[hok]at hst;exact hst
set_option maxRecDepth 100000 in
set_option maxHeartbeats 4000000 in
theorem Wj(AT AF AR AX AS:Option Addr)(ct cf cr cx cst:Nat)(l:List Ty)(fs:List Ft)(rs:List Rl)(xs:List Lx)(st:List Nd){kc ri:Nat}{KA:Option Addr}{ks:List (List Nd)}(w:World)(hT:TypesIn w AT l)(hRu:RulesIn w AR rs)(hri:ri<rs.length)(hJ:Jok l fs (rs[ri]).kids (rs[ri]).gr)(hK:GrsIn w KA ks)(hkv:∀ k∈ks,GV l fs k)(hkl:(ks.length:Int)=(rs[ri]).kids):Calls Tryz.prog 9 #[.agg #[.slice AT l.length ct,.slice AF fs.length cf,.slice AR rs.length cr,.slice AX xs.length cx,.slice AS st.length cst],.int .i64 (ri:Nat),.slice KA ks.length kc] w fun e w'=>(∃ A Y ok c,e= .returned (.tuple #[.agg #[.slice A (List.length Y) c],.bool ok])/\(∀ w2,FrSame w.heap.size w' w2->NodesIn w2 A Y)/\J3 l (rs[ri]).gr 0 ks ok Y)/\Bel w w':=by
 have hrx:=hRu.1;have hkx:=hK.1;unfold vJ at hrx hkx;obtain⟨rb,ro,Gk,cgk,Sk,csk,Bk,mk,hAR,hrb,bf,hGk,_,_⟩:=hRu.at_ (Below.refl _ _) hri;have hk0:0<=(rs[ri]).kids:=by omega
 refine enT Tryz.func9 Tryz.ntmps9 rfl rfl fun hB=>?_;refine zn2 ?_;refine xy (v:= .agg #[_,_,_,_,_]) (cs:=#[_,_,_,_,_]) rfl rfl (fun b3 w1 ac s1 hr=>?_);have lo3:=hB.ob hr;refine qW (cs:=#[.slice none 0 0]) yz rfl (fun b6 w2 a2 s2 hr=>?_);have:=ac.ob hr;have lo6:=hB.u.ob hr;refine zn4 ?_;have hAR2:=hAR;subst hAR;refine zn6 ?_;replace hB:=hB.tr0 (s1.t s2);refine wl (qw U30 rfl rfl (hB.range hrb (xs:=[.slice Gk (rs[ri]).gr.length cgk]) (fun j v hj=>by match j,hj with|0,hj=>cases hj;exact bf 1 _ rfl|_+1,hj=>cases hj)) zY) ?_;refine yx (cs:=#[.slice none 0 0]) yz rfl (fun _=>rfl) (fun _=>rfl) zY rfl qz (fun b8 w4 ab s3 hr=>?_);have:=ac.u.ob hr;have:=a2.ob hr;have lo8:=hB.ob hr;refine jq ?_;refine qx (rg [7,9,10,11,12] 21 20) (fun m g w'=>∃(i:Nat) (x:List Nd) (Ax:Option Addr) (cq:Nat) (wX:World),i<=ks.length/\m=ks.length-i/\g 21= .int .i64 i/\Bel w w'/\Blk w' b3 32 #[.slice AT l.length ct,.slice AF fs.length cf,.slice (some ⟨rb,ro,none⟩) rs.length cr,.slice AX xs.length cx,.slice AS st.length cst]/\Blk w' b6 30 #[.slice none 0 0]/\Blk w' b8 30 #[.slice Ax (List.length x) cq]/\ChG (fun g=>g=b8) wX w'/\(∀ w2,ChG (fun g=>g=b8) wX w2->NodesIn w2 Ax x)/\Jok l fs (rs[ri]).kids x/\(∀ ok Y,J3 l x i (ks.drop i) ok Y->J3 l (rs[ri]).gr 0 ks ok Y)) (ks.length) ?_ (fun m g3 w5 hI=>?_)
 ·replace ac:=ac.tr0 (s2.t s3);replace hB:=hB.tr0 s3;replace a2:=a2.tr0 s3;exact⟨0,_,Gk,cgk,_,ag _,rfl,rfl,hB,ac,a2,ab,ChG.refl _ _,fun w2 h=>hGk.mono (hB.chG h (fun g hg=>by rw[show g=b8 from hg];exact lo8)),hJ,fun ok Y h=>h⟩
 obtain⟨i,x,Ax,cq,wX,hi,hm,h21,hB,ac,a2,ab,a4,bj,an,bi⟩:=hI;refine zX 21 _ h21 nu (zn6 ?_);refine zQ rfl (fun c22=>?_) (fun c22=>?_)
 ·have b7:i<ks.length:=by omega
  obtain⟨gb,go,GA,gc,rfl,hgr,hgn⟩:=hK.at_ hB b7;have hdr:ks.drop i=ks[i]::ks.drop (i+1):=List.drop_eq_getElem_cons b7;refine zn7 ?_;refine wl (x9 (i:=i) U33 zY rfl rfl b7 rfl) (wl (qw U30 rfl rfl hgr zY) ?_);refine qW (cs:=#[.slice none 0 0]) yz rfl (fun b10 w6 b1 s4 hr=>?_);have:=ac.ob hr;have:=a2.ob hr;have:=ab.ob hr;have a5:=(nLT a4.size hr)
  have b4:=hB.ob hr;replace a4:=a4.st s4 (by simp);refine waI rfl ?_;refine zZ b1 rfl rfl zY rfl qz (fun w7 hq s5=>?_);replace a4:=a4.st s5 (fun g hg=>by rw[List.mem_singleton.1 hg];first|exact .inl rfl|exact .inr a5);replace b1:=hq;refine zn5 ?_;refine wl (qw U25 rfl rfl (ac.u.sub (n:=2) (xs:=[_,_]) rfl) RX) (zn4 ?_);replace ab:=(ab.tr0 s4).tr1 s5 oG;have z8:=ab.lt;refine qq kR (rstep_any AT AF ct cf (m:=(rs[ri]).kids) _ (hT.mono hB.u) (bj _ a4) (hgn.mono hB.u) an (hkv _ (am b7)) oG oG) rfl (fun e' w8 hr=>?_);obtain⟨⟨A3,X3,ok3,c3,rfl,hN3,hS3⟩,s6⟩:=hr;replace s6:=sB s6;replace a4:=a4.st s6 (by simp);have bc:∀ w2,ChG (fun g=>g=b8) w8 w2->NodesIn w2 A3 X3:=fun w2 h=>hN3 w2 ⟨h.size,fun k h1 h2=>h.blk k h2 (fun e=>by rw[show k=b8 from e]at h1;omega)⟩
  obtain⟨wX3,b5⟩:∃ z,z=w8:=⟨_,rfl⟩
  have a3:ChG (fun g=>g=b8) wX3 w8:=by rw[b5];exact ChG.refl _ _
  rw[<- b5]at bc;have a9:b8=b8:=rfl;refine⟨_,rfl,?_⟩;refine wmT rfl (wl (vY (v:=_) rfl rfl) (wl (vY (v:=_) rfl rfl) ?_));refine qW (cs:=#[.slice none 0 0]) yz rfl (fun b11 w9 b9 s7 hr=>?_);have:=ac.u.ob hr;have:=a2.u.ob hr;have:=ab.u.ob hr;have:=b1.u.ob hr;have a1:=(nLT a3.size hr)
  have b2:=hB.u.ob hr;replace a3:=a3.st s7 (by simp);refine zZ b9 rfl rfl zY rfl qz (fun w10 hq s8=>?_);replace a3:=a3.st s8 (fun g hg=>by rw[List.mem_singleton.1 hg];first|exact .inl rfl|exact .inr a1);replace b9:=hq;refine yW ?_;refine jQ rfl (fun bm=>?_) (fun bm=>?_)
  ·have ao:ok3=false:=by simpa using bm
   have hZ:=step_no hS3 ao;refine zn2 ?_;refine wl (gQ (vs:=#[]) (cs:=#[.slice none 0 0]) (by simp) kR) ?_;refine zZ a2.u rfl rfl zY rfl qz (fun w11 hq s9=>?_);replace a2:=hq;refine yW ?_;refine QK (.inl rfl) rfl (zW U30 rfl rfl a2.range0 zY) rfl ?_;replace hB:=((((hB.tr0 s4).tr1 s5 b4).tr0 (s6.t s7)).tr1 s8 b2).tr1 s9 lo6;exact⟨⟨none,[],false,0,rfl,fun w2 _=>ZX w2 none,bi false [] (by rw[hdr];exact join_no hZ)⟩,hB⟩
  have ao:ok3=true:=by simpa using bm
  obtain⟨hU3,h60⟩:=HY hS3 ao;refine zn4 ?_;refine zZ ab.u rfl rfl zY rfl qz (fun w12 hq bd=>?_);replace a3:=a3.st bd (fun g hg=>by rw[List.mem_singleton.1 hg];first|exact .inl rfl|exact .inr a9);replace ab:=hq;refine zn7 ?_;refine x8 (ks.length-(i+1)) oG agA ?_;replace hB:=((((hB.tr0 s4).tr1 s5 b4).tr0 (s6.t s7)).tr1 s8 b2).tr1 bd lo8;replace ac:=((((ac.tr0 s4).tr1 s5 oG).tr0 (s6.t s7)).tr1 s8 oG).tr1 bd oG;replace a2:=((((a2.tr0 s4).tr1 s5 oG).tr0 (s6.t s7)).tr1 s8 oG).tr1 bd oG;exact⟨i+1,X3,A3,_,wX3,by omega,rfl,rfl,hB,ac,a2,ab,a3,bc,an.step (hkv _ (am b7)) oG oG hU3 h60,fun ok Y h=>bi ok Y (by rw[hdr];exact .inl ⟨X3,hU3,h60,h⟩)⟩
 have hie:i=ks.length:=by omega
 have hdn:ks.drop i= []:=List.drop_eq_nil_of_le oG;refine zn6 ?_;have z6:=a2.lt;have be:=Bel.size hB;have hjl:=an.lt (aM _) hk0;have h0l:=an.v.gx.pos;obtain⟨oM,hoM⟩:=an.v.gx.toGY.dl hjl;have hpa:=Fv an (aM _) hk0;refine oW 4 [41,42,43,44] (fun _=>false) (fun ix v wv=>match ix with|0=>v= .agg #[.slice Ax (List.length x) cq]|1=>v= .agg #[.slice Ax (List.length x) cq]|2=>v= .int .i64 (((plc x 0).toNat:Nat):Int)|3=>∃ AZ cZ lz hz,v= .agg #[.slice AZ oM.length cZ]/\Kept lz hz wv (fun wq=>NodesIn wq AZ (yK x oM))/\w5.heap.size<=lz|_=>True) kR kR ?_ ?_ ?_
 ·intro ix v wv wv2 h s11
  match ix,h with
  | 0,h=>exact h
  | 1,h=>exact h
  | 2,h=>exact h
  | 3,h=>
   obtain⟨AZ,cZ,lz,hz,bk,bb,bg⟩:=h;exact⟨AZ,cZ,lz,hz,bk,bb.tr0 s11,bg⟩
  | _+4,h=>exact trivial
 ·intro ix o hix hoq gg wx s12 hd bh
  match ix,hix,hoq with
  | 0,_,hoq=>
   cases sI hoq;exact oVq (qw U30 rfl rfl ab.u.range0 zY) rfl
  | 1,_,hoq=>
   cases sI hoq;exact oVq (qw U30 rfl rfl ab.u.range0 zY) rfl
  | 2,_,hoq=>
   cases sI hoq;replace a4:=a4.st s12 (by simp);refine a7 42 (hd 1 a8) ?_;refine vZ kR (Yy Ax cq x 0 0 wx (bj _ a4) h0l) rfl (fun e' w2 hr=>?_);obtain⟨rfl,s13⟩:=hr;exact⟨_,rfl,sB s13,(congrArg (Value.int .i64) hpa),y8⟩
  | 3,_,hoq=>
   cases sI hoq;have hs0:=s12;replace a4:=a4.st s12 (by simp);refine a7 41 (hd 0 a8) (a7 43 (hd 2 a8) ?_);refine vZ kR (Cw Ax cq fs.length x (plc x 0).toNat wx (bj _ a4) an.v.gok.two (by have:=an.v.few;omega) hjl) rfl (fun e' w2 hr=>?_);obtain⟨⟨o9,A9,c9,hd9,_,rfl,hN9⟩,s14⟩:=hr;exact⟨_,rfl,sB s14,(by obtain rfl:=DL.det hd9 hoM;exact⟨A9,c9,_,_,rfl,Q7 hN9,hs0.size⟩),y8⟩
  | _+4,hix,_=>exact absurd hix oG
 intro gg w13 s15 hR bh;replace a4:=a4.st s15 (by simp);obtain⟨AZ,cZ,lz,hz,bk,bb,bg⟩:=hR 3 dE;refine xj 44 _ bk nu ?_;refine zZ a2.u rfl rfl zY rfl qz (fun w14 hq s16=>?_);replace a2:=hq;refine zn4 ?_;refine QK (.inl rfl) rfl (zW U30 rfl rfl a2.range0 zY) rfl ?_;replace hB:=(hB.tr0 s15).tr1 s16 lo6;replace bb:=bb.tr1 s16 oG;exact⟨⟨AZ,yK x oM,true,cZ,by rw[uY];rfl,V4 bb (nLT be bg),bi true _ (by rw[hdn];exact⟨rfl,oM,hoM,rfl⟩)⟩,hB⟩
section
def e1F(g:Fl)(n:Nat)(ri:Int):Fl:=if g.1=0/\(ri<0\/(n:Int)<=ri)then (3,-2)else g
def e2F(e:Fl)(k:Nat)(kd:Int):Fl:=if e.1=0/\¬(k:Int)=kd then (9,-3)else e
section ei
variable {l:List Ty} {fs:List Ft} {rs:List Rl} {xs:List Lx} {st:List Nd} {ri:Int} {ks:List (List Nd)}
theorem e1_ok{g:Fl}{n:Nat}(h:(e1F g n ri).1=0):g.1=0/\¬(ri<0\/(n:Int)<=ri):=by
 unfold e1F at h;by_cases e:g.1=0/\(ri<0\/(n:Int)<=ri)
 ·rw[if_pos e]at h;cases h
 ·rw[if_neg e]at h;exact⟨h,fun k=>e ⟨h,k⟩⟩
theorem e2_ok{kd:Int}(h:(e2F e k kd).1=0):e.1=0/\(k:Int)=kd:=by
 unfold e2F at h;by_cases c:e.1=0/\¬(k:Int)=kd
 ·rw[if_pos c]at h;cases h
 ·rw[if_neg c]at h;exact⟨h,ak.1 (fun k=>c ⟨h,k⟩)⟩
theorem e2_bad(h:¬(e2F (e1F (yj l fs rs xs st) rs.length ri) ks.length (kdR rs ri)).1=0):QZ l fs rs xs st ri ks=e2F (e1F (yj l fs rs xs st) rs.length ri) ks.length (kdR rs ri):=by
 unfold e2F e1F at h ⊢;by_cases g:(yj l fs rs xs st).1=0
 ·by_cases r:ri<0\/(rs.length:Int)<=ri
  ·rw[cmb_r g r,if_pos (⟨g,r⟩:_/\_),if_neg (fun c=>absurd c.1 dE)]
  ·rw[if_neg (fun c:_/\_=>r c.2)]at h ⊢
   by_cases k:(ks.length:Int)=kdR rs ri
   ·rw[if_neg (fun c:(yj l fs rs xs st).1=0/\¬(ks.length:Int)=kdR rs ri=>c.2 k)]at h;exact absurd g h
   ·rw[cmb_k g r k,if_pos (⟨g,k⟩:_/\_)]
 ·rw[if_neg (fun c:_/\_=>g c.1),if_neg (fun c:_/\_=>g c.1),cmb_g g]
def EI(l:List Ty)(fs:List Ft)(ks:List (List Nd))(E:Fl)(k:Nat)(e:Fl):Prop:=(¬E.1=0/\e=E)\/(E.1=0/\e.1=0/\∀ i (hi:i<ks.length),i<k->(xk l fs ks[i]).1=0)\/(E.1=0/\¬e.1=0/\e=qQ (wiN l fs ks) 0 ks.length)
theorem EI.start(E:Fl):EI l fs ks E 0 E:=by
 by_cases h:E.1=0
 ·exact .inr (.inl ⟨h,h,fun i _ hi=>by omega⟩)
 ·exact .inl ⟨h,rfl⟩
theorem TV{f:Nat->Int}{c:Int}(hc:c≠0):∀(m i k:Nat),i<=k->k<i+m->(∀ j,i<=j->j<k->f j=0)->f k=c->qQ f i m=(c,(k:Int))
 | 0,i,k,h1,h2,_,_=>by omega
 | m+1,i,k,h1,h2,h3,h4=>by
  by_cases e:i=k
  ·subst e;rw[qQ,if_pos (by rw[h4];exact hc),h4]
  ·rw[qQ,if_neg (fun q=>q (h3 i (Nat.le_refl _) oG))]
   exact TV hc m (i+1) k oG oG (fun j a b=>h3 j oG b) h4
theorem EI.zero(h:EI l fs ks E k e)(h0:e.1=0):E.1=0/\∀ i (hi:i<ks.length),i<k->(xk l fs ks[i]).1=0:=by
 rcases h with ⟨a,rfl⟩|⟨a,_,b⟩|⟨_,a,_⟩
 ·exact absurd h0 a
 ·exact⟨a,b⟩
 ·exact absurd h0 a
theorem EI.bad(h:EI l fs ks E k e)(h0:e.1=0)(hk:k<ks.length)(hw:¬(xk l fs ks[k]).1=0):EI l fs ks E (k+1) ((xk l fs ks[k]).1,(k:Int)):=by
 obtain⟨a,b⟩:=h.zero h0;exact .inr (.inr ⟨a,hw,(TV hw _ 0 k (ag _) oG (fun j _ hj=>(DV (show j<ks.length by omega)).trans (b j oG hj)) (DV hk)).symm⟩)
theorem EI.good(h:EI l fs ks E k e)(h0:e.1=0)(hk:k<ks.length)(hw:(xk l fs ks[k]).1=0):EI l fs ks E (k+1) e:=by
 obtain⟨a,b⟩:=h.zero h0;refine .inr (.inl ⟨a,h0,fun i hi hik=>?_⟩);by_cases e:i=k
 ·subst e;exact hw
 ·exact b i hi oG
theorem EI.fin(h:EI l fs ks (e2F (e1F (yj l fs rs xs st) rs.length ri) ks.length (kdR rs ri)) k e)(h0:¬e.1=0):QZ l fs rs xs st ri ks=e:=by
 rcases h with ⟨a,rfl⟩|⟨_,a,_⟩|⟨a,_,b⟩
 ·exact e2_bad a
 ·exact absurd a h0
 ·obtain⟨c,d⟩:=e2_ok a
  obtain⟨g,r⟩:=e1_ok c;rw[b];exact cmb_w g r d rfl
theorem EI.all(h:EI l fs ks (e2F (e1F (yj l fs rs xs st) rs.length ri) ks.length (kdR rs ri)) k e)(h0:e.1=0)(hk:ks.length<=k):(yj l fs rs xs st).1=0/\¬(ri<0\/(rs.length:Int)<=ri)/\(ks.length:Int)=kdR rs ri/\(∀ i (hi:i<ks.length),(xk l fs ks[i]).1=0)/\QZ l fs rs xs st ri ks=(0,0):=by
 obtain⟨a,b⟩:=h.zero h0;obtain⟨c,d⟩:=e2_ok a;obtain⟨g,r⟩:=e1_ok c;have hz:∀ i (hi:i<ks.length),(xk l fs ks[i]).1=0:=fun i hi=>b i hi oG
 exact⟨g,r,d,hz,cmb_w g r d (Zw (fun j _ hj=>by
  have hj2:j<ks.length:=by omega
  rw[DV hj2];exact hz j hj2))⟩
end ei
end
end Go.Proofs.YtgcgnkmmbecfmaaGreatDoor
