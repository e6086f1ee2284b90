/- What these functions compute, at every world: equal.graphOf, equal.Small$1, equal.hierarchyOf, equal.base, equal.fun, equal.con, equal.bound, equal.abs and 2 more; and plain laws. -/
import Derived.Test.YtndbjnkilegebaaGreatDoorU
import Derived.Test.YtndbjnkilegebaaGreatDoorZst
import Derived.Test.YtndbjnkilegebaaGreatDoorLTa
import Derived.Test.YtndbjnkilegebaaGreatDoorNTo
import Derived.Test.YtndbjnkilegebaaGreatDoorGSearch
import Derived.Test.YtndbjnkilegebaaGreatDoorGro
import Derived.Test.YtndbjnkilegebaaGreatDoorSml
namespace Go.Proofs.YtndbjnkilegebaaGreatDoor
open Go.RowKit Go.Proofs.Tryz
set_option maxHeartbeats 2000000
theorem in84_DGo:(prog.info? 84).map (fun i=>(i.zero,i.size,i.bytes))=some (some (.agg #[.int .i64 0,.int .i64 0]),2,16):=by kernel_rfl
theorem in87_DGo:(prog.info? 87).map (fun i=>(i.zero,i.size,i.bytes))=some (some (.agg #[.int .i64 0,.slice none 0 0]),2,32):=by kernel_rfl
theorem sz26_DGo:(prog.info? 26).map (·.size)=some 1:=by kernel_rfl
theorem Gj:(prog.info? 28).map (·.size)=some 1:=by kernel_rfl
theorem qJ:(prog.info? 3).map (·.size)=some 1:=by kernel_rfl
theorem yw:(prog.info? 62).map (·.size)=some 1:=by kernel_rfl
theorem sz84_DGo:(prog.info? 84).map (·.size)=some 2:=by kernel_rfl
theorem G8:(prog.info? 85).map (·.size)=some 1:=by kernel_rfl
theorem G7:(prog.info? 87).map (·.size)=some 2:=by kernel_rfl
theorem Lj:(prog.info? 28).map (·.zero)=some (some (.agg #[.slice none 0 0])):=by kernel_rfl
theorem ze84_DGo:(prog.info? 84).map (·.zero)=some (some (.agg #[.int .i64 0,.int .i64 0])):=by kernel_rfl
theorem Lz:(prog.info? 87).map (·.zero)=some (some (.agg #[.int .i64 0,.slice none 0 0])):=by kernel_rfl
set_option maxHeartbeats 2000000 in
theorem ZX(A:Option Addr)(c:Nat)(rs:List (List Int))(w:World)(hR:RowsIn w A rs):Calls prog 18 #[.slice A rs.length c] w fun e w'=>(∃ A' cap,e= .returned (.agg #[.slice A' rs.length cap])/\Fz [] w'.heap.size TS w' (fun w=>NodesIn w A' (rs.map JY)))/\Bel w w':=by
 have hrl:=hR.1;have hrr:=hR.2.1;refine enT func18 ntmps18 rfl rfl fun hB=>?_;refine zn2 ?_;refine qQ (cs:=#[.slice none 0 0]) Lj rfl (fun b2 w1 a3 s1 hr=>?_);have lo2:=hB.ob hr;refine zn4 ?_;refine qQ (cs:=#[.slice none 0 0]) Lj rfl (fun b3 w2 a4 s2 hr=>?_);have:=a3.ob hr;have lo3:=hB.u.ob hr;refine vJ ?_;refine qz (rg [5,6,7] 10 37) (fun m g w'=>∃(k:Nat) (A3:Option Addr) (b4:Nat) (bi:List Value) (n3:Nat),k<=rs.length/\m=rs.length-k/\g 10= .int .i64 k/\Bel w w'/\Blk w' b2 28 #[.slice none 0 0]/\Blk w' b3 28 #[.slice A3 k b4]/\Own w' (b3+1) 87 2 A3 k b4 bi/\Fz [] n3 TS1 w' (fun w=>NdData w ((rs.take k).map JY) bi)) (rs.length) ?_ (fun m g3 w3 hI=>?_)
 ·exact⟨0,none,0,[],_,ah _,rfl,rfl,hB.u,a3.u,a4,Own.nil _ _ _ _,Fz.triv [] _ TS1 (fun _=>NdData.nil)⟩
 obtain⟨k,A3,b4,bi,n3,hk,hm,h10,hB,a3,a4,a2,a5⟩:=hI;refine zQ 10 _ h10 nu (zn6 ?_);refine zZ rfl (fun c11=>?_) (fun c11=>?_)
 ·have a9:k<rs.length:=by omega
  have bn:=hrr _ (aq a9);obtain⟨rb,ro,Ar,cr,rfl,hrc,hri⟩:=hR.at_ hB a9;refine zn7 ?_;refine wl (qj (v:= .slice _ _ _) U62 rfl rfl hrc) (zn4 ?_);obtain⟨pb,po,rfl,bo,bw⟩:=hri.2 (by intro h;rw[h]at bn;simp at bn);have hc0:=hB.cell bo (bw 0 bn.1);obtain⟨z0,hz0⟩:∃ z,z=(rs[k]'a9)[0]'bn.1:=⟨_,rfl⟩
  rw[<- hz0]at hc0;refine zn2 ?_;refine wl (x7 (i:=0) U62 qJ rfl rfl oG rfl) (wl (qj (v:= .int _ _) U3 rfl rfl hc0) (wl (Z1 (v0:= .int _ _) (fun v0=>#[v0,.slice none 0 0]) rfl kR) ?_));refine y8 (cs:=#[.int .i64 0,.slice none 0 0]) Lz rfl (fun _=>rfl) (fun _=>rfl) G7 rfl xW (fun b6 w5 ao s3 hr=>?_);have:=a3.ob hr;have:=a4.ob hr;have a1:=a2.ob hr;have bh:=nLT a5.le hr;have lo6:=hB.ob hr;refine zn9 ?_;replace a2:=a2.tr0 s3;replace a5:=a5.tr0 s3;refine qz (rg [7] 18 22) (fun m g w'=>∃(i j:Nat) (A6:Option Addr) (b5:Nat) (b7:List (Int×Int)),1<=i/\j<=i/\i<=(rs[k]'a9).length+1/\m=(rs[k]'a9).length+2-i/\g 7= .int .i64 i/\Vj ((rs[k]'a9).drop 1)=b7++Vj ((rs[k]'a9).drop i)/\Bel w w'/\Blk w' b2 28 #[.slice none 0 0]/\Blk w' b3 28 #[.slice A3 k b4]/\Own w' (b3+1) 87 2 A3 k b4 bi/\Blk w' b6 87 #[.int .i64 z0,.slice A6 j b5]/\Own w' (b6+1) 84 2 A6 j b5 (lnC b7)/\Fz [] n3 TS1 w' (fun w=>NdData w ((rs.take k).map JY) bi)) ((rs[k]'a9).length+1) ?_ (fun m g7 w6 hI=>?_)
  ·exact⟨1,0,none,0,[],ai _,ah _,by omega,rfl,rfl,rfl,hB.u,a3.u,a4.u,a2,ao,Own.nil _ _ _ _,a5⟩
  obtain⟨i,j,A6,b5,b7,hi1,hji,hil,hm7,h7,hpr,hB,a3,a4,a2,ao,a8,a5⟩:=hI;refine zQ 7 _ h7 nu (zn4 ?_);refine wl (uW (c:=((i+1:Nat):Int)) rfl rfl rfl oG) (zn5 ?_);refine zZ rfl (fun c22=>?_) (fun c22=>?_)
  ·have hi0:i<(rs[k]'a9).length:=by omega
   have bx:i+1<(rs[k]'a9).length:=by omega
   have bt:=hB.cell bo (bw i hi0);have br:=hB.cell bo (bw (i+1) bx);obtain⟨za,hza⟩:∃ z,z=(rs[k]'a9)[i]'hi0:=⟨_,rfl⟩
   obtain⟨zb,hzb⟩:∃ z,z=(rs[k]'a9)[i+1]'bx:=⟨_,rfl⟩
   rw[<- hza]at bt;rw[<- hzb]at br;have bv:Vj ((rs[k]'a9).drop 1)=(b7++[(za,zb)])++Vj ((rs[k]'a9).drop (i+2)):=by rw[hpr,pairs_step bx,<- hza,<- hzb,List.append_assoc];rfl
   refine zn4 ?_;have z2:=a3.lt;have z3:=a4.lt;have z6:=ao.lt;have zo3:=fun g hg=>(a2.lt g hg).2
   have zo6:=fun g hg=>(a8.lt g hg).2
   have hsz:=Bel.size hB;replace bt:=fun(w1:World) (h:Bel w6 w1)=>h.cell (nLL bo hsz) bt
   replace br:=fun(w1:World) (h:Bel w6 w1)=>h.cell (nLL bo hsz) br
   refine uX 13 (rg [] 25 13) (fun ix=>Nat.beq ix 12) (fun ix v wv=>match ix with|0=>v= .pointer (some ⟨b6,1,none⟩)|1=>v= .slice A6 j b5|2=>v= .slice (some ⟨pb,po,none⟩) (rs[k]'a9).length cr|3=>v= .int .i64 i|4=>v= .pointer (some ⟨pb,po+i*1,none⟩)|5=>v= .int .i64 za|6=>v= .slice (some ⟨pb,po,none⟩) (rs[k]'a9).length cr|7=>v= .int .i64 i|8=>v= .int .i64 ((i+1:Nat):Int)|9=>v= .pointer (some ⟨pb,po+(i+1)*1,none⟩)|10=>v= .int .i64 zb|11=>v= .agg #[.int .i64 za,.int .i64 zb]|12=>∃ b,v= .slice (some ⟨b,0,none⟩) 1 1/\w6.heap.size<=b/\Blk wv b 84 #[.int .i64 za,.int .i64 zb]|_=>True) kR kR ?_ ?_ ?_
   ·intro ix v wv wv2 h s4
    match ix,h with
    | 0,h=>exact h
    | 1,h=>exact h
    | 2,h=>exact h
    | 3,h=>exact h
    | 4,h=>exact h
    | 5,h=>exact h
    | 6,h=>exact h
    | 7,h=>exact h
    | 8,h=>exact h
    | 9,h=>exact h
    | 10,h=>exact h
    | 11,h=>exact h
    | 12,h=>
     obtain⟨c4,c3,bm,b1⟩:=h;exact⟨c4,c3,bm,b1.tr0 s4⟩
    | _+13,h=>exact trivial
   ·intro ix o hix hoq gg wx s5 hd bz
    match ix,hix,hoq with
    | 0,_,hoq=>
     cases sI hoq;exact oVq (jX U87 G8 dE rfl rfl rfl) rfl
    | 1,_,hoq=>
     cases sI hoq;refine aZ 25 (hd 0 a6) ?_;exact oVq (qj (v:= .slice _ _ _) U85 rfl rfl (ao.u.cell rfl)) rfl
    | 2,_,hoq=>
     cases sI hoq;exact oVq (x6 (v:= .slice _ _ _) rfl) rfl
    | 3,_,hoq=>
     cases sI hoq;exact oVq (x6 (v:= .int _ _) rfl) rfl
    | 4,_,hoq=>
     cases sI hoq;refine aZ 27 (hd 2 a6) (aZ 28 (hd 3 a6) ?_);exact oVq (x7 (i:=i) U62 qJ rfl rfl oG rfl) rfl
    | 5,_,hoq=>
     cases sI hoq;have bd:=s5;refine aZ 29 (hd 4 a6) ?_;exact oVq (qj (v:= .int _ _) U3 rfl rfl (bt _ bd.bel)) rfl
    | 6,_,hoq=>
     cases sI hoq;exact oVq (x6 (v:= .slice _ _ _) rfl) rfl
    | 7,_,hoq=>
     cases sI hoq;exact oVq (x6 (v:= .int _ _) rfl) rfl
    | 8,_,hoq=>
     cases sI hoq;refine aZ 32 (hd 7 a6) ?_;exact oVq (uW (c:=((i+1:Nat):Int)) rfl rfl rfl oG) rfl
    | 9,_,hoq=>
     cases sI hoq;refine aZ 31 (hd 6 a6) (aZ 33 (hd 8 a6) ?_);exact oVq (x7 (i:=i+1) U62 qJ rfl rfl oG rfl) rfl
    | 10,_,hoq=>
     cases sI hoq;have bd:=s5;refine aZ 34 (hd 9 a6) ?_;exact oVq (qj (v:= .int _ _) U3 rfl rfl (br _ bd.bel)) rfl
    | 11,_,hoq=>
     cases sI hoq;refine aZ 30 (hd 5 a6) (aZ 35 (hd 10 a6) ?_);exact oVq (Q5 (v0:= .int _ _) (v1:= .int _ _) (fun v0 v1=>#[v0,v1]) rfl rfl kR) rfl
    | 12,_,hoq=>
     cases sI hoq;have bd:=s5;refine aZ 36 (hd 11 a6) ?_;refine jq (fun ops Q K=>?_);refine qZ (cs:=#[_,_]) [(0,.agg _)] rfl U85 sz84_DGo ze84_DGo dE dE kR rfl (fun c4 w7 b1 s6 hr=>?_);exact K _ _ ⟨s6,⟨_,rfl,nLT bd.size hr,b1⟩,fRq hr b1.lt⟩
    | _+13,hix,_=>exact absurd hix oG
   intro gg w8 s7 hR bz;have bd:=s7;obtain⟨c4,c3,bm,b1⟩:=hR 12 dE;have hsm:_<=w8.heap.size:=bd.size;refine x8 26 _ (hR 1 dE) nu (x8 37 _ c3 nu ?_);replace a8:=a8.tr0 s7;refine vV U85 in84_DGo rfl dE a8 b1 rfl rfl rfl xW dE oG oG (nLT z6 hsm) (fun c2 cap38 w9 bf s8 hg=>?_);have bc:c2≠b2:=neA a8 a3.u.lt hg
   have bb:c2≠b3:=neA a8 a4.u.lt hg
   have an:c2≠b6:=neA a8 ao.u.lt hg
   replace hB:=hB.u.tr s8 (fun g hg=>nLT (aI lo6) (a8.lt g hg).1);replace a3:=a3.tr0 s7;replace a3:=a3.ta s8 a8;replace a4:=a4.tr0 s7;replace a4:=a4.ta s8 a8;replace a2:=a2.tr0 s7;replace a2:=a2.tr s8 (fun g hg hx=>by have:=(a8.lt _ hx).1;have:=(a2.lt _ hg).1;(try have:=or_ho3_b2 _ hg);(try have:=or_ho6_b2 _ hx);(try have:=or_ho3_b3 _ hg);(try have:=or_ho6_b3 _ hx);(try have:=a1 _ hg);(try have:=or_ho6_b6 _ hx);(try have:=or_ho3_b37 _ hg);(try have:=or_ho6_b37 _ hx);omega);replace a5:=a5.tr0 s7;replace a5:=a5.trX s8 (fun g hg=> .inl (by have:=(a8.lt g hg).1;omega));replace ao:=ao.tr0 s7;replace ao:=ao.ta s8 a8;refine zn1 ?_;refine xx (v:= .slice _ _ _) ao rfl rfl G8 (by first|decide|simp) rfl rfl (fun w10 hq s9=>?_);replace a2:=a2.tr1 s9 (fun g hg=>by have:=a1 g hg;omega);replace a5:=a5.sp1 s9 ao (.inl dE);replace bf:=bf.tr1 s9 (neS an);replace ao:=hq;refine zn5 ?_;refine wl (uW (c:=((i+2:Nat):Int)) rfl rfl rfl oG) (zn2 ?_);refine x9 ((rs[k]'a9).length+2-(i+2)) oG agA ?_;replace hB:=hB.tr1 s9 lo6;replace a3:=a3.tr1 s9 oG;replace a4:=a4.tr1 s9 oG;exact⟨i+2,j+1,_,_,b7++[(za,zb)],by omega,by omega,by omega,rfl,rfl,bv,hB,a3,a4,a2,ao,by rw[<- lnC_snoc];exact bf,a5⟩
  have hls:Vj ((rs[k]'a9).drop 1)=b7:=by rw[hpr,pairs_end oG,List.append_nil]
  have bu:JY (rs[k]'a9)=⟨z0,b7⟩:=by
    unfold JY;rw[hls,hz0];simp[List.getD,bn.1]
  have htk:(rs.take (k+1)).map JY=(rs.take k).map JY++[⟨z0,b7⟩]:=by rw[XJ rs a9,List.map_append,List.map_cons,List.map_nil,bu]
  refine zn9 ?_;refine qZ (cs:=#[_,_]) [(0,.agg _)] rfl U26 G7 Lz dE dE kR rfl (fun b43 w11 c0 bk hr=>?_);have:=a3.ob hr;have:=a4.ob hr;have ac:=a2.ob hr;have b8:=nLT a5.le hr;have:=ao.ob hr;have ab:=a8.ob hr;have lo43:=hB.ob hr;replace a2:=a2.tr0 bk;refine vV U26 in87_DGo rfl dE a2 c0 rfl rfl rfl xW dE oG oG a4.u.lt (fun c1 cap44 w12 be bj hg=>?_);have ba:c1≠b2:=neA a2 a3.u.lt hg
  have ad:c1≠b3:=neA a2 a4.u.lt hg
  have b9:c1≠b6:=neB ao.u.lt hg (fun g hg=>by have:=a1 g hg;omega)
  replace hB:=hB.u.tr bj (fun g hg=>nLT (aI lo3) (a2.lt g hg).1);replace a3:=a3.tr0 bk;replace a3:=a3.ta bj a2;replace a4:=a4.tr0 bk;replace a4:=a4.ta bj a2;replace a5:=a5.tr0 bk;replace a5:=a5.trX bj (fun g hg=>by obtain⟨cs,h⟩:=V5 a2 g hg;exact .inr (.inr ⟨_,_,h,.inl dE⟩));replace a8:=a8.tr0 bk;replace a8:=a8.tr bj (fun g hg hx=>by have:=(a2.lt _ hx).1;have:=(a8.lt _ hg).1;(try have:=or_ho6_b2 _ hg);(try have:=or_ho3_b2 _ hx);(try have:=or_ho6_b3 _ hg);(try have:=or_ho3_b3 _ hx);(try have:=or_ho6_b6 _ hg);(try have:=a1 _ hx);(try have:=ab _ hg);(try have:=ac _ hx);omega);have bg:=gof_more (z:=z0) a8 a5;refine zn1 ?_;refine xx (v:= .slice _ _ _) a4 rfl rfl sz26_DGo (by first|decide|simp) rfl rfl (fun w13 hq bq=>?_);replace be:=be.tr1 bq (neS ad);replace bg:=bg.sp1 bq a4 (.inl dE);replace a4:=hq;refine zn7 ?_;refine x9 (rs.length-(k+1)) oG agA ?_;replace hB:=hB.tr1 bq lo3;replace a3:=a3.tr1 bq oG;exact⟨k+1,_,_,_,_,by omega,rfl,rfl,hB,a3,a4,be,by rw[htk];exact bg⟩
 have hkl:k=rs.length:=by omega
 subst hkl;rw[List.take_length]at a5;refine zn8 ?_;refine zV a3 (fun w14 hq s13=>?_);replace a2:=a2.tq s13;replace a5:=a5.sp1 s13 a3 (.inl dE);replace a3:=hq;refine zn3 ?_;refine xK (.inl rfl) rfl (zX U28 rfl rfl a3.range0 Gj) ?_;exact⟨⟨_,_,rfl,gof_end a2 a5⟩,hB.u⟩
theorem in38:(prog.info? 38).map (fun i=>(i.zero,i.size,i.bytes))=some (some (.agg cE),9,144):=by kernel_rfl
theorem uy:(prog.info? 34).map (·.size)=some 6:=by kernel_rfl
theorem sz38:(prog.info? 38).map (·.size)=some 9:=by kernel_rfl
theorem sz40:(prog.info? 40).map (·.size)=some 1:=by kernel_rfl
theorem ze38:(prog.info? 38).map (·.zero)=some (some (.agg cE)):=by kernel_rfl
set_option maxHeartbeats 1000000 in
theorem Zz(s:ByteArray)(z:Int)(x:Tv)(SA BA R A:Option Addr)(cs cb:Nat)(rs:List (List Int))(c bG base k cap nT nL:Nat)(c0 c1 c2 c4:Value)(xs:List Value)(lx:List Lx)(w:World)(hs9:s.size<9223372036854775807)(hR:RowsIn w R rs)(hT:Fz [] nT TS w (fun w=>SimsIn w SA x.tm.type.args/\TmsIn w BA x.tm.args))(a3:Blk w bG 42 #[c0,c1,c2,.slice A k cap,c4])(ho:Own w base 38 9 A k cap xs)(hL:Fz [] nL TS w (fun w=>LxData w lx xs))(an:base<=w.heap.size)(hbl:bG<base)(hk:k<=1000):Calls prog 19 #[.string s,.int .i64 z,.agg #[.int .i64 (x).tm.kind,.string (x).tm.name,.int .i64 (x).tm.index,.string (x).tm.type.base,.slice SA (x).tm.type.args.length cs,.slice BA (x).tm.args.length cb],.slice R rs.length c,.pointer (some ⟨bG,0,none⟩)] w (fun e w'=>e= .returned (.tuple #[])/\∃ A' cap' xs',Blk w' bG 42 #[c0,c1,c2,.slice A' (k+1) cap',c4]/\Own w' base 38 9 A' (k+1) cap' xs'/\Fz [] w'.heap.size TS w' (fun w=>LxData w (lx++[⟨s,rs.map JY,z,x.tm⟩]) xs')/\Same (bG::aL A) w w'/\(aL A'=aL A\/∀ g∈aL A',w.heap.size<=g)):=by
 refine enT func19 ntmps19 rfl rfl fun hB=>?_;refine zn2 ?_;refine qv (cs:=#[_,_,_,_,_,_]) rfl (fun b7 w1 hb7 s1 hr=>?_);have a5:=ho.ob hr;refine qY (e_S ?_);replace a3:=a3.tr0 s1;have zG:=a3.lt;replace ho:=ho.tr0 s1;have zo:=fun g hg=>(ho.lt g hg).2
 replace hB:=hB.tr0 s1;have hsz:=Bel.size hB;have hrs:=hR.1;refine uX 9 (rg [] 9 9) (fun ix=>Nat.beq ix 8) (fun ix v wv=>match ix with|0=>v= .pointer (some ⟨bG,3,none⟩)|1=>v= .slice A k cap|2=>v= .string s|3=>v= .int .i64 z|4=>v= .agg #[.int .i64 (x).tm.kind,.string (x).tm.name,.int .i64 (x).tm.index,.string (x).tm.type.base,.slice SA (x).tm.type.args.length cs,.slice BA (x).tm.args.length cb]|5=>v= .slice R rs.length c|6=>∃ G g n,v= .agg #[.slice G rs.length g]/\Fz [] n TS wv (fun w=>NodesIn w G (rs.map JY))|7=>∃ G g n,v= .agg #[.string s,.slice G rs.length g,.int .i64 z,.int .i64 (x).tm.kind,.string (x).tm.name,.int .i64 (x).tm.index,.string (x).tm.type.base,.slice SA (x).tm.type.args.length cs,.slice BA (x).tm.args.length cb]/\Fz [] n TS wv (fun w=>NodesIn w G (rs.map JY))|8=>∃ b G g n,v= .slice (some ⟨b,0,none⟩) 1 1/\w1.heap.size<=b/\Blk wv b 38 #[.string s,.slice G rs.length g,.int .i64 z,.int .i64 (x).tm.kind,.string (x).tm.name,.int .i64 (x).tm.index,.string (x).tm.type.base,.slice SA (x).tm.type.args.length cs,.slice BA (x).tm.args.length cb]/\Fz [] n TS wv (fun w=>NodesIn w G (rs.map JY))|_=>True) kR kR ?_ ?_ ?_
 ·intro ix v wv wv2 h s2
  match ix,h with
  | 0,h=>exact h
  | 1,h=>exact h
  | 2,h=>exact h
  | 3,h=>exact h
  | 4,h=>exact h
  | 5,h=>exact h
  | 6,h=>
   obtain⟨bc,b5,b1,b9,ab⟩:=h;exact⟨bc,b5,b1,b9,ab.tr0 s2⟩
  | 7,h=>
   obtain⟨bb,b4,ao,b8,a9⟩:=h;exact⟨bb,b4,ao,b8,a9.tr0 s2⟩
  | 8,h=>
   obtain⟨ba,G17,g17,n17,b6,ad,a4,a2⟩:=h;exact⟨ba,G17,g17,n17,b6,ad,a4.tr0 s2,a2.tr0 s2⟩
  | _+9,h=>exact trivial
 ·intro ix o hix hoq gg wx s3 hd b3
  match ix,hix,hoq with
  | 0,_,hoq=>
   cases sI hoq;exact oVq (jX U42 sz40 dE rfl rfl rfl) rfl
  | 1,_,hoq=>
   cases sI hoq;refine aZ 9 (hd 0 a6) ?_;exact oVq (qj (v:= .slice _ _ _) U40 rfl rfl (a3.u.cell rfl)) rfl
  | 2,_,hoq=>
   cases sI hoq;exact oVq (x6 (v:= .string _) rfl) rfl
  | 3,_,hoq=>
   cases sI hoq;exact oVq (x6 (v:= .int _ _) rfl) rfl
  | 4,_,hoq=>
   cases sI hoq;exact oVq (qw U34 rfl rfl hb7.u.range0 uy) rfl
  | 5,_,hoq=>
   cases sI hoq;exact oVq (x6 (v:= .slice _ _ _) rfl) rfl
  | 6,_,hoq=>
   cases sI hoq;refine aZ 14 (hd 5 a6) ?_;refine vw kR (ZX _ _ _ wx (hR.mono hB.u)) rfl (fun e' w2 hr=>?_);obtain⟨⟨G9,g9,rfl,hz9⟩,s4⟩:=hr;exact⟨_,rfl,sB s4,⟨G9,g9,_,rfl,hz9⟩,y6⟩
  | 7,_,hoq=>
   cases sI hoq;obtain⟨bc,b5,b1,b9,ab⟩:=hd 6 (zj kR);refine aZ 11 (hd 2 a6) (aZ 12 (hd 3 a6) (aZ 13 (hd 4 a6) (zq 15 _ b9 nu ?_)));exact oVq (r_bd4 (v0:= .string _) (v1:= .int _ _) (v2:= .agg _) (v3:= .agg _) (fun v0 v1 v2 v3=>#[v0,(qy v3 0),v1,(qy v2 0),(qy v2 1),(qy v2 2),(qy v2 3),(qy v2 4),(qy v2 5)]) rfl rfl rfl rfl kR) ⟨bc,b5,b1,rfl,ab⟩
  | 8,_,hoq=>
   cases sI hoq;have hs0:=s3;obtain⟨bb,b4,ao,b8,a9⟩:=hd 7 (zj kR);refine zq 16 _ b8 nu ?_;refine jq (fun ops Q K=>?_);refine qZ (cs:=#[_,_,_,_,_,_,_,_,_]) [(0,.agg _)] rfl U40 sz38 ze38 dE dE kR rfl (fun ba w2 a4 s5 hr=>?_);exact K _ _ ⟨s5,⟨_,bb,b4,ao,rfl,nLT hs0.size hr,a4,a9.tr0 s5⟩,fRq hr a4.lt⟩
  | _+9,hix,_=>exact absurd hix oG
 intro gg w3 s6 hR b3;obtain⟨ba,G17,g17,n17,b6,ad,a4,a2⟩:=hR 8 dE;have hbs:base<=w3.heap.size:=nLT an (Bel.size hB.u);replace hB:=hB.tr0 s6;have hS0:=(sB hB).weak (Y:=bG::aL A) (by simp);have b2:=Bel.size hB;refine x8 10 _ (hR 1 dE) nu (x8 17 _ b6 nu ?_);replace ho:=ho.tr0 s6;refine vV U40 in38 rfl dE ho a4 rfl rfl rfl xW dE oG oG hbs (fun g18 cap18 w4 ac s7 hg=>?_);have a1:g18≠bG:=neA ho a3.u.lt hg
 have a8:g18≠b7:=neB hb7.u.lt hg (fun g hg=>by have:=a5 g hg;omega)
 replace a3:=a3.tr0 s6;replace a3:=a3.ta s7 ho;replace hT:=hT.tr0 (s1.t s6);replace hT:=hT.trX s7 (fun g hg=>by obtain⟨cs,h⟩:=V5 ho g hg;exact .inr (.inr ⟨_,_,h,.inl dE⟩));replace hL:=hL.tr0 (s1.t s6);replace hL:=hL.trX s7 (fun g hg=>by obtain⟨cs,h⟩:=V5 ho g hg;exact .inr (.inr ⟨_,_,h,.inl dE⟩));replace a2:=a2.trX s7 (fun g hg=>by obtain⟨cs,h⟩:=V5 ho g hg;exact .inr (.inr ⟨_,_,h,.inl dE⟩));have hS:=hS0.trans (s7.weak (fun x hx=>aw _ hx));refine zn1 ?_;refine xx (v:= .slice _ _ _) a3 rfl rfl sz40 (by first|decide|simp) rfl rfl (fun w5 hq s8=>?_);replace hT:=hT.sp1 s8 a3 (.inl dE);replace hL:=hL.sp1 s8 a3 (.inl dE);replace a2:=a2.sp1 s8 a3 (.inl dE);replace ac:=ac.tr1 s8 (neS a1);replace hS:=hS.trans (s8.weak (by simp));replace a3:=hq;refine qY (fin0 (.inr rfl) rfl  ?_);refine⟨rfl,_,_,_,a3,ac,(hL.and (hT.and a2)).imp (fun _ h=>LxData.snoc (x:=⟨s,rs.map JY,z,x.tm⟩) h.1 hs9 (List.length_map _).symm h.2.2 h.2.1.1 h.2.1.2),hS,?_⟩;rcases hg with hg|hg
 · left;rw[hg];rfl
 · right;intro g hgm;cases ar.1 hgm;exact nLT b2 hg
theorem in102:(prog.info? 102).map (fun i=>(i.zero,i.size,i.bytes))=some (some (.agg #[.string ⟨#[]⟩,.slice none 0 0]),2,40):=by kernel_rfl
theorem P0:(prog.info? 102).map (·.size)=some 2:=by kernel_rfl
theorem Gk:(prog.info? 22).map (·.size)=some 1:=by kernel_rfl
theorem sz23_DHo:(prog.info? 23).map (·.size)=some 1:=by kernel_rfl
theorem E1:(prog.info? 25).map (·.size)=some 2:=by kernel_rfl
theorem W7:(prog.info? 3).map (·.size)=some 1:=by kernel_rfl
theorem Gz:(prog.info? 62).map (·.size)=some 1:=by kernel_rfl
theorem sz9_DHo:(prog.info? 9).map (·.size)=some 1:=by kernel_rfl
theorem OZ:(prog.info? 102).map (·.zero)=some (some (.agg #[.string ⟨#[]⟩,.slice none 0 0])):=by kernel_rfl
theorem ze25:(prog.info? 25).map (·.zero)=some (some (.agg #[.slice none 0 0,.slice none 0 0])):=by kernel_rfl
theorem qX:(prog.info? 3).map (·.zero)=some (some (.int .i64 0)):=by kernel_rfl
set_option maxHeartbeats 1000000 in
theorem TK(A B C:Option Addr)(c d mC f:Nat)(ns:List ByteArray)(ps:List Int)(w:World)(hN:StrsD w A ns)(hP:IntsIn w B ps)(hl:ns.length<=1000)(hpl:ps.length=ns.length):Calls prog 16 #[.slice A ns.length c,.slice B ps.length d,.slice C mC f] w fun e w'=>(∃ A' cap,e= .returned (.agg #[.slice A' ns.length cap,.slice C mC f])/\Fz [] w'.heap.size TS w' (fun w=>TypesIn w A' (Kk ns ps ns.length)))/\Bel w w':=by
 refine enT func16 ntmps16 rfl rfl fun hB=>?_;refine zn2 ?_;refine qQ (cs:=#[.slice none 0 0,.slice none 0 0]) ze25 rfl (fun b6 w1 a5 s1 hr=>?_);have lo6:=hB.ob hr;refine zn4 ?_;refine qQ (cs:=#[.slice none 0 0,.slice none 0 0]) ze25 rfl (fun b7 w2 a4 s2 hr=>?_);have:=a5.ob hr;have lo7:=hB.u.ob hr;refine vJ ?_;refine qz (rg [8,9,10] 13 22) (fun m g w'=>∃(k:Nat) (A7:Option Addr) (b5:Nat) (cs:List Value) (n7:Nat),k<=ns.length/\m=ns.length-k/\g 13= .int .i64 k/\Bel w w'/\Blk w' b6 25 #[.slice none 0 0,.slice none 0 0]/\Blk w' b7 25 #[.slice A7 k b5,.slice none 0 0]/\Own w' (b7+1) 102 2 A7 k b5 cs/\Fz [] n7 TS2 w' (fun w=>TyData w (Kk ns ps k) cs)) (ns.length) ?_ (fun m g3 w3 hI=>?_)
 ·exact⟨0,none,0,[],_,ah _,rfl,rfl,hB.u,a5.u,a4,Own.nil _ _ _ _,Fz.triv [] _ TS2 (fun _=>TyData.nil)⟩
 obtain⟨k,A7,b5,cs,n7,hk,hm,h13,hB,a5,a4,a3,a9⟩:=hI;refine zQ 13 _ h13 nu (zn6 ?_);refine zZ rfl (fun c14=>?_) (fun c14=>?_)
 ·have b8:k<ns.length:=by omega
  have bc:k<ps.length:=by omega
  obtain⟨nb,no,rfl,hnc⟩:=hN.at_ hB b8;obtain⟨pb,po,rfl,hpb,hpc⟩:=hP.at_ bc;refine zn8 ?_;refine wl (qj (v:= .string _) U9 rfl rfl hnc) (zn7 ?_);refine wl (Z1 (v0:= .string _) (fun v0=>#[v0,.slice none 0 0]) rfl kR) ?_;refine y8 (cs:=#[.string ⟨#[]⟩,.slice none 0 0]) OZ rfl (fun _=>rfl) (fun _=>rfl) P0 rfl xW (fun b10 w5 ad s3 hr=>?_);have:=a5.ob hr;have:=a4.ob hr;have a1:=a3.ob hr;have lo10:=hB.ob hr;refine zn9 ?_;replace a3:=a3.tr0 s3;replace a9:=a9.tr0 s3;refine zZ rfl (fun c21=>?_) (fun c21=>?_)
  ·refine zn4 ?_;refine wl (qj (v:= .int _ _) U3 rfl rfl (hB.u.cell hpb hpc)) ?_;refine qZ (cs:=#[_]) [(0,.int _ _)] rfl U62 W7 qX dE dE kR rfl (fun b26 w6 ac s4 hr=>?_);have:=a4.u.ob hr;have a8:=a3.ob hr;have:=ad.ob hr;refine zn1 ?_;replace ad:=ad.tr0 s4;refine xx (v:= .slice _ _ _) ad rfl rfl Gz (by first|decide|simp) rfl rfl (fun w7 hq s5=>?_);replace a3:=a3.tr0 s4;replace a3:=a3.tr1 s5 (fun g hg=>by have:=a1 g hg;omega);replace a9:=a9.tr0 s4;replace a9:=a9.sp1 s5 ad (.inl dE);replace ad:=hq;refine zn6 ?_;refine qZ (cs:=#[_,_]) [(0,.agg _)] rfl U22 P0 OZ dE dE kR rfl (fun b31 w8 b4 s6 hr=>?_);have:=a5.u.ob hr;have:=a4.u.ob hr;have:=ac.u.ob hr;replace a3:=a3.tr0 s6;refine vV U22 in102 rfl dE a3 b4 rfl rfl rfl xW dE oG oG a4.u.lt (fun b3 b9 w9 b1 s7 hg=>?_);have an:b3≠b6:=neA a3 a5.u.lt hg
   have a2:b3≠b7:=neA a3 a4.u.lt hg
   have ab:b3≠b10:=neB ad.u.lt hg (fun g hg=>by have:=a1 g hg;omega)
   have b2:b3≠b26:=neB ac.u.lt hg (fun g hg=>by have:=a8 g hg;omega)
   replace hB:=hB.u.tr s7 (fun g hg=>nLT (aI lo7) (a3.lt g hg).1);replace a5:=((a5.tr0 (s3.t s4)).tr1 s5 oG).tr0 s6;replace a5:=a5.ta s7 a3;replace a4:=((a4.tr0 (s3.t s4)).tr1 s5 oG).tr0 s6;replace a4:=a4.ta s7 a3;replace a9:=a9.tr0 s6;replace a9:=a9.trX s7 (fun g hg=>by obtain⟨cs,h⟩:=V5 a3 g hg;exact .inr (.inr ⟨_,_,h,.inl dE⟩));replace ac:=(ac.tr1 s5 oG).tr0 s6;replace ac:=ac.tb s7 (fun g hg=>by have:=a8 g hg;omega);have ao:=(by first|exact hof_pos a9 b8 bc oG ac|exact hof_zero a9 b8 oG:Fz [] (w9).heap.size TS2 w9 (fun w=>TyData w (Kk ns ps (k+1)) (cs++_)))
   refine zn1 ?_;refine xx (v:= .slice _ _ _) a4 rfl rfl Gk (by first|decide|simp) rfl rfl (fun w10 hq s8=>?_);replace b1:=b1.tr1 s8 (neS a2);replace ao:=ao.sp1 s8 a4 (.inl dE);replace a4:=hq;refine zn7 ?_;refine x9 (ns.length-(k+1)) oG agA ?_;exact⟨k+1,_,_,_,_,by omega,rfl,rfl,hB.u,a5.u,a4,b1,ao⟩
  refine zn6 ?_;refine qZ (cs:=#[_,_]) [(0,.agg _)] rfl U22 P0 OZ dE dE kR rfl (fun b31 w11 b4 s9 hr=>?_);have:=a5.u.ob hr;have:=a4.u.ob hr;replace a3:=a3.tr0 s9;refine vV U22 in102 rfl dE a3 b4 rfl rfl rfl xW dE oG oG a4.u.lt (fun b3 b9 w12 b1 ba hg=>?_);have an:b3≠b6:=neA a3 a5.u.lt hg
  have a2:b3≠b7:=neA a3 a4.u.lt hg
  have ab:b3≠b10:=neB ad.u.lt hg (fun g hg=>by have:=a1 g hg;omega)
  replace hB:=hB.u.tr ba (fun g hg=>nLT (aI lo7) (a3.lt g hg).1);replace a5:=a5.tr0 (s3.t s9);replace a5:=a5.ta ba a3;replace a4:=a4.tr0 (s3.t s9);replace a4:=a4.ta ba a3;replace a9:=a9.tr0 s9;replace a9:=a9.trX ba (fun g hg=>by obtain⟨cs,h⟩:=V5 a3 g hg;exact .inr (.inr ⟨_,_,h,.inl dE⟩));have ao:=(by first|exact hof_pos a9 b8 bc oG ac|exact hof_zero a9 b8 oG:Fz [] (w12).heap.size TS2 w12 (fun w=>TyData w (Kk ns ps (k+1)) (cs++_)))
  refine zn1 ?_;refine xx (v:= .slice _ _ _) a4 rfl rfl Gk (by first|decide|simp) rfl rfl (fun w13 hq s11=>?_);replace b1:=b1.tr1 s11 (neS a2);replace ao:=ao.sp1 s11 a4 (.inl dE);replace a4:=hq;refine zn7 ?_;refine x9 (ns.length-(k+1)) oG agA ?_;exact⟨k+1,_,_,_,_,by omega,rfl,rfl,hB.u,a5.u,a4,b1,ao⟩
 have hkl:k=ns.length:=by omega
 subst hkl;refine zn9 ?_;refine xx (v:= .slice _ _ _) a4 rfl rfl sz23_DHo (by first|decide|simp) rfl rfl (fun w14 hq bb=>?_);replace a3:=a3.tq bb;replace a9:=a9.sp1 bb a4 (.inl dE);replace a4:=hq;refine zn5 ?_;refine zV a5.u (fun w15 hq s13=>?_);replace a3:=a3.tq s13;replace a5:=a5.tr1 bb oG;replace a9:=a9.sp1 s13 a5 (.inl dE);replace a5:=hq;refine zn3 ?_;refine xK (.inl rfl) rfl (zX U25 rfl rfl a5.range0 E1) ?_;exact⟨⟨_,_,rfl,hof_end a3 a9⟩,hB.u⟩
theorem vx:(prog.info? 31).map (·.size)=some 2:=by kernel_rfl
theorem ZY:(prog.info? 34).map (·.size)=some 6:=by kernel_rfl
theorem jk:(prog.info? 31).map (·.zero)=some (some (.agg #[.string ⟨#[]⟩,.slice none 0 0])):=by kernel_rfl
theorem Z4:(prog.info? 34).map (·.zero)=some (some (.agg cG)):=by kernel_rfl
theorem ZJ(s:ByteArray)(w:World):Calls prog 14 #[.string s] w fun e w'=>e= .returned (.agg #[.string s,.slice none 0 0])/\Bel w w':=by
 refine enT func14 ntmps14 rfl rfl fun hB=>?_;refine zn2 ?_;refine qQ (cs:=#[.string ⟨#[]⟩,.slice none 0 0]) jk rfl (fun b2 w1 a1 s1 hr=>?_);have lo2:=hB.ob hr;refine zn5 ?_;refine wl (Z1 (v0:= .string _) (fun v0=>#[v0,.slice none 0 0]) rfl kR) ?_;refine zV a1 (fun w2 hq s2=>?_);replace a1:=hq;refine zn3 ?_;refine xK (.inl rfl) rfl (zX U31 rfl rfl a1.range0 vx) ?_;exact⟨rfl,hB.u⟩
theorem Qk(X:List Nat)(a b:Ts)(A1 A2:Option Addr)(c1 c2 n1 n2:Nat)(w:World)(hX:∀ x∈X,x<w.heap.size)(h1:Fz X n1 TS w (fun w=>SimsIn w A1 (a).sm.args))(h2:Fz X n2 TS w (fun w=>SimsIn w A2 (b).sm.args)):Calls prog 15 #[.agg #[.string (a).sm.base,.slice A1 (a).sm.args.length c1],.agg #[.string (b).sm.base,.slice A2 (b).sm.args.length c2]] w fun e w'=>(∃ z,e= .returned z/\SmD X (.f a b) w' z)/\Bel w w':=by
 refine enT func15 ntmps15 rfl rfl fun hB=>?_;refine zn2 ?_;refine qv (cs:=#[_,_]) rfl (fun b2 w1 hb2 s1 hr=>?_);refine qv (cs:=#[_,_]) rfl (fun b3 w2 hb3 s2 hr=>?_);refine qQ (cs:=#[.string ⟨#[]⟩,.slice none 0 0]) jk rfl (fun b4 w3 a1 s3 hr=>?_);have lo4:=hB.u.ob hr;refine zn6 ?_;refine qZ (cs:=#[_,_,_,_]) [(0,.agg _),(1,.agg _)] rfl U29 vx jk dE dE kR rfl (fun b7 w4 a2 s4 hr=>?_);have:=a1.ob hr;refine wl (Z1 (v0:= .slice _ _ _) (fun v0=>#[.string ⟨#[]⟩,v0]) rfl kR) ?_;refine zV a1.u (fun w5 hq s5=>?_);replace a1:=hq;refine zn3 ?_;refine xK (.inl rfl) rfl (zX U31 rfl rfl a1.range0 vx) ?_;replace hB:=(hB.tr0 (s1.t (s2.t (s3.t s4)))).tr1 s5 lo4;replace a2:=a2.tr1 s5 oG;exact⟨⟨_,rfl,SmD.two a2 (fun hm=>by have:=hX _ hm;omega) (h1.bel hB) (h2.bel hB)⟩,hB⟩
theorem Z9(X:List Nat)(nm:ByteArray)(a:Ts)(A1:Option Addr)(c1 n1:Nat)(w:World)(h1:Fz X n1 TS w (fun w=>SimsIn w A1 (a).sm.args)):Calls prog 21 #[.string nm,.agg #[.string (a).sm.base,.slice A1 (a).sm.args.length c1]] w fun e w'=>(∃ z,e= .returned z/\TmD X (.con nm a) w' z)/\Bel w w':=by
 refine enT func21 ntmps21 rfl rfl fun hB=>?_;refine zn2 ?_;refine qv (cs:=#[_,_]) rfl (fun b3 w1 hb3 s1 hr=>?_);refine qQ (cs:=cG) Z4 rfl (fun b4 w2 a1 s2 hr=>?_);have lo4:=hB.u.ob hr;refine zn6 ?_;refine wl (Ix (v0:= .int _ _) (v1:= .string _) (v2:= .agg _) (fun v0 v1 v2=>#[v0,v1,.int .i64 0,(qy v2 0),(qy v2 1),.slice none 0 0]) rfl rfl rfl kR) ?_;refine zV a1 (fun w3 hq s3=>?_);replace a1:=hq;refine zn3 ?_;refine xK (.inl rfl) rfl (zX U34 rfl rfl a1.range0 ZY) ?_;exact⟨⟨_,rfl,TmD.con nm (h1.bel hB.u)⟩,hB.u⟩
theorem jw(X:List Nat)(i:Nat)(w:World):Calls prog 24 #[.int .i64 ((i:Nat):Int)] w fun e w'=>(∃ z,e= .returned z/\TmD X (.var i) w' z)/\Bel w w':=by
 refine enT func24 ntmps24 rfl rfl fun hB=>?_;refine zn2 ?_;refine qQ (cs:=cG) Z4 rfl (fun b2 w1 a1 s1 hr=>?_);have lo2:=hB.ob hr;refine zn5 ?_;refine wl (Q5 (v0:= .int _ _) (v1:= .int _ _) (fun v0 v1=>#[v0,.string ⟨#[]⟩,v1,.string ⟨#[]⟩,.slice none 0 0,.slice none 0 0]) rfl rfl kR) ?_;refine zV a1 (fun w2 hq s2=>?_);replace a1:=hq;refine zn3 ?_;refine xK (.inl rfl) rfl (zX U34 rfl rfl a1.range0 ZY) ?_;exact⟨⟨_,rfl,TmD.var i⟩,hB.u⟩
theorem gw(X:List Nat)(a:Ts)(x:Tv)(A1 S2 B2:Option Addr)(c1 n1 c2 m2 n2:Nat)(w:World)(hX:∀ x∈X,x<w.heap.size)(h1:Fz X n1 TS w (fun w=>SimsIn w A1 (a).sm.args))(h2:Fz X n2 TS w (fun w=>SimsIn w S2 (x).tm.type.args/\TmsIn w B2 (x).tm.args)):Calls prog 22 #[.agg #[.string (a).sm.base,.slice A1 (a).sm.args.length c1],.agg #[.int .i64 (x).tm.kind,.string (x).tm.name,.int .i64 (x).tm.index,.string (x).tm.type.base,.slice S2 (x).tm.type.args.length c2,.slice B2 (x).tm.args.length m2]] w fun e w'=>(∃ z,e= .returned z/\TmD X (.abs a x) w' z)/\Bel w w':=by
 refine enT func22 ntmps22 rfl rfl fun hB=>?_;refine zn2 ?_;refine qv (cs:=#[_,_]) rfl (fun b2 w1 hb2 s1 hr=>?_);refine qv (cs:=#[_,_,_,_,_,_]) rfl (fun b3 w2 hb3 s2 hr=>?_);refine qQ (cs:=cG) Z4 rfl (fun b4 w3 a1 s3 hr=>?_);have lo4:=hB.u.ob hr;refine zn6 ?_;refine qZ (cs:=#[_,_,_,_,_,_]) [(0,.agg _)] rfl U32 ZY Z4 dE dE kR rfl (fun b7 w4 a2 s4 hr=>?_);have:=a1.ob hr;refine wl (Ix (v0:= .int _ _) (v1:= .agg _) (v2:= .slice _ _ _) (fun v0 v1 v2=>#[v0,.string ⟨#[]⟩,.int .i64 0,(qy v1 0),(qy v1 1),v2]) rfl rfl rfl kR) ?_;refine zV a1.u (fun w5 hq s5=>?_);replace a1:=hq;refine zn3 ?_;refine xK (.inl rfl) rfl (zX U34 rfl rfl a1.range0 ZY) ?_;replace hB:=(hB.tr0 (s1.t (s2.t (s3.t s4)))).tr1 s5 lo4;replace a2:=a2.tr1 s5 oG;exact⟨⟨_,rfl,TmD.abs (h1.bel hB) a2 (fun hm=>by have:=hX _ hm;omega) (h2.bel hB)⟩,hB⟩
theorem Qx(X:List Nat)(x y:Tv)(S1 B1 S2 B2:Option Addr)(c1 m1 n1 c2 m2 n2:Nat)(w:World)(hX:∀ x∈X,x<w.heap.size)(h1:Fz X n1 TS w (fun w=>SimsIn w S1 (x).tm.type.args/\TmsIn w B1 (x).tm.args))(h2:Fz X n2 TS w (fun w=>SimsIn w S2 (y).tm.type.args/\TmsIn w B2 (y).tm.args)):Calls prog 23 #[.agg #[.int .i64 (x).tm.kind,.string (x).tm.name,.int .i64 (x).tm.index,.string (x).tm.type.base,.slice S1 (x).tm.type.args.length c1,.slice B1 (x).tm.args.length m1],.agg #[.int .i64 (y).tm.kind,.string (y).tm.name,.int .i64 (y).tm.index,.string (y).tm.type.base,.slice S2 (y).tm.type.args.length c2,.slice B2 (y).tm.args.length m2]] w fun e w'=>(∃ z,e= .returned z/\TmD X (.app x y) w' z)/\Bel w w':=by
 refine enT func23 ntmps23 rfl rfl fun hB=>?_;refine zn2 ?_;refine qv (cs:=#[_,_,_,_,_,_]) rfl (fun b2 w1 hb2 s1 hr=>?_);refine qv (cs:=#[_,_,_,_,_,_]) rfl (fun b3 w2 hb3 s2 hr=>?_);refine qQ (cs:=cG) Z4 rfl (fun b4 w3 a1 s3 hr=>?_);have lo4:=hB.u.ob hr;refine zn6 ?_;refine qZ (cs:=#[_,_,_,_,_,_,_,_,_,_,_,_]) [(0,.agg _),(1,.agg _)] rfl U32 ZY Z4 dE dE kR rfl (fun b7 w4 a2 s4 hr=>?_);have:=a1.ob hr;refine wl (Q5 (v0:= .int _ _) (v1:= .slice _ _ _) (fun v0 v1=>#[v0,.string ⟨#[]⟩,.int .i64 0,.string ⟨#[]⟩,.slice none 0 0,v1]) rfl rfl kR) ?_;refine zV a1.u (fun w5 hq s5=>?_);replace a1:=hq;refine zn3 ?_;refine xK (.inl rfl) rfl (zX U34 rfl rfl a1.range0 ZY) ?_;replace hB:=(hB.tr0 (s1.t (s2.t (s3.t s4)))).tr1 s5 lo4;replace a2:=a2.tr1 s5 oG;exact⟨⟨_,rfl,TmD.app a2 (fun hm=>by have:=hX _ hm;omega) (h1.bel hB) (h2.bel hB)⟩,hB⟩
abbrev cM:Array Value:=#[.string ((Ts.b true)).sm.base,.slice none ((Ts.b true)).sm.args.length 0]
def qN19(s1 s2:ByteArray):Ts:=(fun _=>(Ts.f (Ts.f (Ts.b false) (Ts.b true)) (Ts.b true))) (s1,s2)
def qN20(s1 s2:ByteArray):Tv:=(Tv.con s1 (qN19 s1 s2))
def qN26(s1 s2:ByteArray):Ts:=(fun _=>(Ts.f (Ts.b true) (Ts.b true))) (s1,s2)
def qN27(s1 s2:ByteArray):Ts:=(Ts.f (Ts.b true) (qN26 s1 s2))
def qN28(s1 s2:ByteArray):Tv:=(Tv.con s2 (qN27 s1 s2))
def qN29(s1 s2:ByteArray):Tv:=(fun _=>(Tv.var 2)) (s1,s2)
def qN30(s1 s2:ByteArray):Tv:=(fun _=>(Tv.var 0)) (s1,s2)
def qN31(s1 s2:ByteArray):Tv:=(Tv.app (qN29 s1 s2) (qN30 s1 s2))
def qN32(s1 s2:ByteArray):Tv:=(Tv.app (qN28 s1 s2) (qN31 s1 s2))
def qN33(s1 s2:ByteArray):Tv:=(fun _=>(Tv.var 1)) (s1,s2)
def qN34(s1 s2:ByteArray):Tv:=(fun _=>(Tv.var 0)) (s1,s2)
def qN35(s1 s2:ByteArray):Tv:=(Tv.app (qN33 s1 s2) (qN34 s1 s2))
def qN36(s1 s2:ByteArray):Tv:=(Tv.app (qN32 s1 s2) (qN35 s1 s2))
def qN37(s1 s2:ByteArray):Tv:=(Tv.abs (Ts.b false) (qN36 s1 s2))
def P9(s1 s2:ByteArray):Tv:=(Tv.app (qN20 s1 s2) (qN37 s1 s2))
def qM49(s1 s2:ByteArray):Tv:=(Tv.abs (Ts.f (Ts.b false) (Ts.b true)) (P9 s1 s2))
def qM50(s1 s2:ByteArray):Tv:=(Tv.abs (Ts.f (Ts.b false) (Ts.b true)) (qM49 s1 s2))
def qY42(s1 s2:ByteArray):Ts:=(fun _=>(Ts.f (Ts.b true) (Ts.b true))) (s1,s2)
def qY43(s1 s2:ByteArray):Tv:=(Tv.con ⟨#[110,111,116]⟩ (qY42 s1 s2))
def qY45(s1 s2:ByteArray):Tv:=(Tv.app (qY43 s1 s2) (P9 s1 s2))
def qY49(s1 s2:ByteArray):Tv:=(Tv.abs (Ts.f (Ts.b false) (Ts.b true)) (qY45 s1 s2))
def qY50(s1 s2:ByteArray):Tv:=(Tv.abs (Ts.f (Ts.b false) (Ts.b true)) (qY49 s1 s2))
def quN(s1 s2:ByteArray):Tv:=(qM50 s1 s2)
def quY(s1 s2:ByteArray):Tv:=(qY50 s1 s2)
def QuR(s1 s2:ByteArray)(wc:World)(v:Value)(w':World):Prop:=∃ b10 S38 c38 B38 m38 n38,v= .pointer (some ⟨b10,0,none⟩)/\wc.heap.size<=b10/\Blk w' b10 34 #[.int .i64 ((P9 s1 s2)).tm.kind,.string ((P9 s1 s2)).tm.name,.int .i64 ((P9 s1 s2)).tm.index,.string ((P9 s1 s2)).tm.type.base,.slice S38 ((P9 s1 s2)).tm.type.args.length c38,.slice B38 ((P9 s1 s2)).tm.args.length m38]/\Fz [b10] n38 TS w' (fun w=>SimsIn w S38 ((P9 s1 s2)).tm.type.args/\TmsIn w B38 ((P9 s1 s2)).tm.args)
theorem Same.new10{b:Nat}{w w1 w2:World}(h:Same [] w w1)(hs:Same [b] w1 w2)(hb:w.heap.size<=b):Same [] w w2:=
 ⟨hs.os.trans h.os,hs.tape.trans h.tape,hs.output.trans h.output,nLT h.size hs.size,fun k hk _=>by
  rw[hs.blk k (nLL hk h.size) (by simp;omega)];exact h.blk k hk (by simp)⟩
theorem KZ:zw prog 15=true:=by kernel_rfl
theorem VZ:zw prog 21=true:=by kernel_rfl
theorem YX:zw prog 22=true:=by kernel_rfl
theorem K5:zw prog 23=true:=by kernel_rfl
theorem YQ:zw prog 24=true:=by kernel_rfl
theorem qu_r3{wc:World}{b7 b8 b9 c15 n15:Nat}{c1:Option Addr}(s1 s2:ByteArray)(hb7:Blk wc b7 31 #[.string ⟨#[101]⟩,.slice none 0 0])(ba:Blk wc b8 31 #[.string ⟨#[116]⟩,.slice none 0 0])(hb9:Blk wc b9 31 #[.string ((Ts.f (Ts.b false) (Ts.b true))).sm.base,.slice c1 ((Ts.f (Ts.b false) (Ts.b true))).sm.args.length c15])(b6:Fz [] n15 TS wc (fun w=>SimsIn w c1 ((Ts.f (Ts.b false) (Ts.b true))).sm.args))(f:Fr)(Q:Exit->Act->World->Prop)(k0:f 0= .string s1)(k1:f 1= .string s2)(k7:f 7= .pointer (some ⟨b7,0,none⟩))(k8:f 8= .pointer (some ⟨b8,0,none⟩))(k9:f 9= .pointer (some ⟨b9,0,none⟩))(_hPQ:PQ Q):WC prog (sl (sr (sr (sr (ob Tryz.f20.body))))) (QRS 51 [10,16,17,18,19,20,21,22,23,24,25,26,27,28,29,30,31,32,33,34,35,36,37,38] f (fun g w'=>Same [] wc w'/\QuR s1 s2 wc (g 10) w') Q) 51 f wc:=by
 have hZ:Same [] wc wc:=Same.refl _ _;refine zQ 0 _ k0 nu (zQ 1 _ k1 nu (zQ 7 _ k7 nu (zQ 8 _ k8 nu (zQ 9 _ k9 nu ?_))));have z7:=hb7.lt;have z8:=ba.lt;have z9:=hb9.lt;refine uX 24 [16,17,18,19,20,21,22,23,24,25,26,27,28,29,30,31,32,33,34,35,36,37,38,10] (fun ix=>Nat.beq ix 23) (fun ix v wv=>match ix with|0=>v= .string s1|1=>v= .agg #[.string ((Ts.f (Ts.b false) (Ts.b true))).sm.base,.slice c1 ((Ts.f (Ts.b false) (Ts.b true))).sm.args.length c15]|2=>v= .agg cM|3=>SmD [] (qN19 s1 s2) wv (v)|4=>TmD [] (qN20 s1 s2) wv (v)|5=>v= .agg #[.string ((Ts.b false)).sm.base,.slice none ((Ts.b false)).sm.args.length 0]|6=>v= .string s2|7=>v= .agg cM|8=>v= .agg cM|9=>v= .agg cM|10=>SmD [] (qN26 s1 s2) wv (v)|11=>SmD [] (qN27 s1 s2) wv (v)|12=>TmD [] (qN28 s1 s2) wv (v)|13=>TmD [] (qN29 s1 s2) wv (v)|14=>TmD [] (qN30 s1 s2) wv (v)|15=>TmD [] (qN31 s1 s2) wv (v)|16=>TmD [] (qN32 s1 s2) wv (v)|17=>TmD [] (qN33 s1 s2) wv (v)|18=>TmD [] (qN34 s1 s2) wv (v)|19=>TmD [] (qN35 s1 s2) wv (v)|20=>TmD [] (qN36 s1 s2) wv (v)|21=>TmD [] (qN37 s1 s2) wv (v)|22=>TmD [] (P9 s1 s2) wv (v)|23=>∃ b,v= .pointer (some ⟨b,0,none⟩)/\wc.heap.size<=b/\Blk wv b 34 cG|_=>True) kR kR ?_ ?_ ?_
 ·intro ix v wv wv2 h t1
  match ix,h with
  | 0,h=>exact h
  | 1,h=>exact h
  | 2,h=>exact h
  | 3,h=>
   obtain⟨A19,c19,n19,bv,b5⟩:=h;exact⟨A19,c19,n19,bv,b5.tr0 t1⟩
  | 4,h=>
   obtain⟨S20,c20,B20,m20,n20,bu,b4⟩:=h;exact⟨S20,c20,B20,m20,n20,bu,b4.tr0 t1⟩
  | 5,h=>exact h
  | 6,h=>exact h
  | 7,h=>exact h
  | 8,h=>exact h
  | 9,h=>exact h
  | 10,h=>
   obtain⟨A26,c26,n26,bt,b3⟩:=h;exact⟨A26,c26,n26,bt,b3.tr0 t1⟩
  | 11,h=>
   obtain⟨A27,c27,n27,br,b2⟩:=h;exact⟨A27,c27,n27,br,b2.tr0 t1⟩
  | 12,h=>
   obtain⟨S28,c28,B28,m28,n28,bq,b1⟩:=h;exact⟨S28,c28,B28,m28,n28,bq,b1.tr0 t1⟩
  | 13,h=>
   obtain⟨S29,c29,B29,m29,n29,bo,ao⟩:=h;exact⟨S29,c29,B29,m29,n29,bo,ao.tr0 t1⟩
  | 14,h=>
   obtain⟨S30,c30,B30,m30,n30,bn,an⟩:=h;exact⟨S30,c30,B30,m30,n30,bn,an.tr0 t1⟩
  | 15,h=>
   obtain⟨S31,c31,B31,m31,n31,bm,ad⟩:=h;exact⟨S31,c31,B31,m31,n31,bm,ad.tr0 t1⟩
  | 16,h=>
   obtain⟨S32,c32,B32,m32,n32,bk,ac⟩:=h;exact⟨S32,c32,B32,m32,n32,bk,ac.tr0 t1⟩
  | 17,h=>
   obtain⟨S33,c33,B33,m33,n33,bj,ab⟩:=h;exact⟨S33,c33,B33,m33,n33,bj,ab.tr0 t1⟩
  | 18,h=>
   obtain⟨S34,c34,B34,m34,n34,bi,a9⟩:=h;exact⟨S34,c34,B34,m34,n34,bi,a9.tr0 t1⟩
  | 19,h=>
   obtain⟨S35,c35,B35,m35,n35,bh,a8⟩:=h;exact⟨S35,c35,B35,m35,n35,bh,a8.tr0 t1⟩
  | 20,h=>
   obtain⟨S36,c36,B36,m36,n36,bg,a5⟩:=h;exact⟨S36,c36,B36,m36,n36,bg,a5.tr0 t1⟩
  | 21,h=>
   obtain⟨S37,c37,B37,m37,n37,bf,a4⟩:=h;exact⟨S37,c37,B37,m37,n37,bf,a4.tr0 t1⟩
  | 22,h=>
   obtain⟨bz,bx,c0,bc,n38,be,a2⟩:=h;exact⟨bz,bx,c0,bc,n38,be,a2.tr0 t1⟩
  | 23,h=>
   obtain⟨bb,bw,a3,a1⟩:=h;exact⟨bb,bw,a3,a1.tr0 t1⟩
  | _+24,h=>exact trivial
 ·intro ix o hix hoq gg wx t2 hd bd
  match ix,hix,hoq with
  | 0,_,hoq=>
   cases sI hoq;exact oVq (x6 (v:= .string _) rfl) rfl
  | 1,_,hoq=>
   cases sI hoq;exact oVq (qw U31 rfl rfl hb9.u.range0 vx) rfl
  | 2,_,hoq=>
   cases sI hoq;exact oVq (qw U31 rfl rfl ba.u.range0 vx) rfl
  | 3,_,hoq=>
   cases sI hoq;refine aZ 17 (hd 1 a6) (aZ 18 (hd 2 a6) ?_);replace b6:=b6.tr0 t2;refine vw KZ (Qk [] (Ts.f (Ts.b false) (Ts.b true)) (Ts.b true) _ _ _ _ _ _ wx (by simp) b6 (Fz.triv _ _ TS (fun _=>SimsIn.nil))) rfl (fun e' w2 hr=>?_);obtain⟨⟨_,rfl,hd⟩,t3⟩:=hr;exact⟨_,rfl,sB t3,hd,y6⟩
  | 4,_,hoq=>
   cases sI hoq;obtain⟨A19,c19,n19,bv,b5⟩:=hd 3 (zj kR);refine aZ 16 (hd 0 a6) (zq 19 _ bv nu ?_);refine vw VZ (Z9 [] s1 (qN19 s1 s2) _ _ _ wx b5) rfl (fun e' w2 hr=>?_);obtain⟨⟨_,rfl,hd⟩,t4⟩:=hr;exact⟨_,rfl,sB t4,hd,y6⟩
  | 5,_,hoq=>
   cases sI hoq;exact oVq (qw U31 rfl rfl hb7.u.range0 vx) rfl
  | 6,_,hoq=>
   cases sI hoq;exact oVq (x6 (v:= .string _) rfl) rfl
  | 7,_,hoq=>
   cases sI hoq;exact oVq (qw U31 rfl rfl ba.u.range0 vx) rfl
  | 8,_,hoq=>
   cases sI hoq;exact oVq (qw U31 rfl rfl ba.u.range0 vx) rfl
  | 9,_,hoq=>
   cases sI hoq;exact oVq (qw U31 rfl rfl ba.u.range0 vx) rfl
  | 10,_,hoq=>
   cases sI hoq;refine aZ 24 (hd 8 a6) (aZ 25 (hd 9 a6) ?_);refine vw KZ (Qk [] (Ts.b true) (Ts.b true) _ _ _ _ _ _ wx (by simp) (Fz.triv _ _ TS (fun _=>SimsIn.nil)) (Fz.triv _ _ TS (fun _=>SimsIn.nil))) rfl (fun e' w2 hr=>?_);obtain⟨⟨_,rfl,hd⟩,t5⟩:=hr;exact⟨_,rfl,sB t5,hd,y6⟩
  | 11,_,hoq=>
   cases sI hoq;obtain⟨A26,c26,n26,bt,b3⟩:=hd 10 (zj kR);refine aZ 23 (hd 7 a6) (zq 26 _ bt nu ?_);refine vw KZ (Qk [] (Ts.b true) (qN26 s1 s2) _ _ _ _ _ _ wx (by simp) (Fz.triv _ _ TS (fun _=>SimsIn.nil)) b3) rfl (fun e' w2 hr=>?_);obtain⟨⟨_,rfl,hd⟩,t6⟩:=hr;exact⟨_,rfl,sB t6,hd,y6⟩
  | 12,_,hoq=>
   cases sI hoq;obtain⟨A27,c27,n27,br,b2⟩:=hd 11 (zj kR);refine aZ 22 (hd 6 a6) (zq 27 _ br nu ?_);refine vw VZ (Z9 [] s2 (qN27 s1 s2) _ _ _ wx b2) rfl (fun e' w2 hr=>?_);obtain⟨⟨_,rfl,hd⟩,t7⟩:=hr;exact⟨_,rfl,sB t7,hd,y6⟩
  | 13,_,hoq=>
   cases sI hoq;refine vw YQ (jw [] 2 wx) rfl (fun e' w2 hr=>?_);obtain⟨⟨_,rfl,hd⟩,t8⟩:=hr;exact⟨_,rfl,sB t8,hd,y6⟩
  | 14,_,hoq=>
   cases sI hoq;refine vw YQ (jw [] 0 wx) rfl (fun e' w2 hr=>?_);obtain⟨⟨_,rfl,hd⟩,t9⟩:=hr;exact⟨_,rfl,sB t9,hd,y6⟩
  | 15,_,hoq=>
   cases sI hoq;obtain⟨S29,c29,B29,m29,n29,bo,ao⟩:=hd 13 (zj kR);obtain⟨S30,c30,B30,m30,n30,bn,an⟩:=hd 14 (zj kR);refine zq 29 _ bo nu (zq 30 _ bn nu ?_);refine vw K5 (Qx [] (qN29 s1 s2) (qN30 s1 s2) _ _ _ _ _ _ _ _ _ _ wx (by simp) ao an) rfl (fun e' w2 hr=>?_);obtain⟨⟨_,rfl,hd⟩,t10⟩:=hr;exact⟨_,rfl,sB t10,hd,y6⟩
  | 16,_,hoq=>
   cases sI hoq;obtain⟨S28,c28,B28,m28,n28,bq,b1⟩:=hd 12 (zj kR);obtain⟨S31,c31,B31,m31,n31,bm,ad⟩:=hd 15 (zj kR);refine zq 28 _ bq nu (zq 31 _ bm nu ?_);refine vw K5 (Qx [] (qN28 s1 s2) (qN31 s1 s2) _ _ _ _ _ _ _ _ _ _ wx (by simp) b1 ad) rfl (fun e' w2 hr=>?_);obtain⟨⟨_,rfl,hd⟩,t11⟩:=hr;exact⟨_,rfl,sB t11,hd,y6⟩
  | 17,_,hoq=>
   cases sI hoq;refine vw YQ (jw [] 1 wx) rfl (fun e' w2 hr=>?_);obtain⟨⟨_,rfl,hd⟩,t12⟩:=hr;exact⟨_,rfl,sB t12,hd,y6⟩
  | 18,_,hoq=>
   cases sI hoq;refine vw YQ (jw [] 0 wx) rfl (fun e' w2 hr=>?_);obtain⟨⟨_,rfl,hd⟩,t13⟩:=hr;exact⟨_,rfl,sB t13,hd,y6⟩
  | 19,_,hoq=>
   cases sI hoq;obtain⟨S33,c33,B33,m33,n33,bj,ab⟩:=hd 17 (zj kR);obtain⟨S34,c34,B34,m34,n34,bi,a9⟩:=hd 18 (zj kR);refine zq 33 _ bj nu (zq 34 _ bi nu ?_);refine vw K5 (Qx [] (qN33 s1 s2) (qN34 s1 s2) _ _ _ _ _ _ _ _ _ _ wx (by simp) ab a9) rfl (fun e' w2 hr=>?_);obtain⟨⟨_,rfl,hd⟩,t14⟩:=hr;exact⟨_,rfl,sB t14,hd,y6⟩
  | 20,_,hoq=>
   cases sI hoq;obtain⟨S32,c32,B32,m32,n32,bk,ac⟩:=hd 16 (zj kR);obtain⟨S35,c35,B35,m35,n35,bh,a8⟩:=hd 19 (zj kR);refine zq 32 _ bk nu (zq 35 _ bh nu ?_);refine vw K5 (Qx [] (qN32 s1 s2) (qN35 s1 s2) _ _ _ _ _ _ _ _ _ _ wx (by simp) ac a8) rfl (fun e' w2 hr=>?_);obtain⟨⟨_,rfl,hd⟩,t15⟩:=hr;exact⟨_,rfl,sB t15,hd,y6⟩
  | 21,_,hoq=>
   cases sI hoq;obtain⟨S36,c36,B36,m36,n36,bg,a5⟩:=hd 20 (zj kR);refine aZ 21 (hd 5 a6) (zq 36 _ bg nu ?_);refine vw YX (gw [] (Ts.b false) (qN36 s1 s2) _ _ _ _ _ _ _ _ wx (by simp) (Fz.triv _ _ TS (fun _=>SimsIn.nil)) a5) rfl (fun e' w2 hr=>?_);obtain⟨⟨_,rfl,hd⟩,t16⟩:=hr;exact⟨_,rfl,sB t16,hd,y6⟩
  | 22,_,hoq=>
   cases sI hoq;obtain⟨S20,c20,B20,m20,n20,bu,b4⟩:=hd 4 (zj kR);obtain⟨S37,c37,B37,m37,n37,bf,a4⟩:=hd 21 (zj kR);refine zq 20 _ bu nu (zq 37 _ bf nu ?_);refine vw K5 (Qx [] (qN20 s1 s2) (qN37 s1 s2) _ _ _ _ _ _ _ _ _ _ wx (by simp) b4 a4) rfl (fun e' w2 hr=>?_);obtain⟨⟨_,rfl,hd⟩,t17⟩:=hr;exact⟨_,rfl,sB t17,hd,y6⟩
  | 23,_,hoq=>
   cases sI hoq;have hs0:=t2;refine jq (fun ops Q K=>?_);refine qQ (cs:=cG) Z4 rfl (fun bb w1 a1 t18 hr=>?_);exact K _ _ ⟨t18,⟨_,rfl,nLT hs0.size hr,a1⟩,fRq hr a1.lt⟩
  | _+24,hix,_=>exact absurd hix oG
 intro gg w2 t19 hR bd;obtain⟨bz,bx,c0,bc,n38,be,a2⟩:=hR 22 dE;obtain⟨bb,bw,a3,a1⟩:=hR 23 dE;refine x8 38 _ be nu (x8 10 _ bw nu ?_);refine zV a1 (fun w3 hq t20=>?_);replace hZ:=hZ.trans t19;replace hZ:=hZ.new10 t20 a3;replace a2:=a2.free t20 a1 sp_tm;replace a1:=hq;refine qY ?_;refine e_R ⟨agA,?_⟩;exact⟨hZ,bb,bz,bx,c0,bc,_,rfl,a3,a1,a2⟩
theorem quN_d(s1 s2:ByteArray)(w:World):Calls prog 20 #[.string s1,.string s2,.bool false] w fun e w'=>(∃ z,e= .returned z/\TmD [] (quN s1 s2) w' z)/\Bel w w':=by
 refine enT func20 ntmps20 rfl rfl fun hB=>?_;refine zn2 ?_;refine qQ (cs:=cG) Z4 rfl (fun b6 w1 a3 t1 hr=>?_);have lo6:=hB.ob hr;refine zn4 ?_;refine zW kR (ZJ _ _) rfl (fun e' w2 hr=>?_);obtain⟨rfl,t2⟩:=hr;replace t2:=sB t2;refine⟨_,rfl,?_⟩;refine zW kR (ZJ _ _) rfl (fun e' w3 hr=>?_);obtain⟨rfl,t3⟩:=hr;replace t3:=sB t3;refine⟨_,rfl,?_⟩;refine qQ (cs:=#[.string ⟨#[]⟩,.slice none 0 0]) jk rfl (fun b7 w4 a9 t4 hr=>?_);have:=a3.u.ob hr;have lo7:=hB.u.ob hr;refine qQ (cs:=#[.string ⟨#[]⟩,.slice none 0 0]) jk rfl (fun b8 w5 ac t5 hr=>?_);have:=a3.u.ob hr;have:=a9.ob hr;have lo8:=hB.u.ob hr;refine zV a9.u (fun w6 hq t6=>?_);replace a9:=hq;refine zV ac.u (fun w7 hq t7=>?_);replace ac:=hq;refine zn6 ?_;refine zW KZ (Qk [] (Ts.b false) (Ts.b true) none none 0 0 _ _ _ (by simp) (Fz.triv _ _ TS (fun _=>SimsIn.nil)) (Fz.triv _ _ TS (fun _=>SimsIn.nil))) rfl (fun e' w8 hr=>?_);obtain⟨⟨_,rfl,A15,c15,n15,rfl,a1⟩,t8⟩:=hr;replace t8:=sB t8;refine⟨_,rfl,?_⟩;refine y8 (cs:=#[.string ⟨#[]⟩,.slice none 0 0]) jk rfl (fun _=>rfl) (fun _=>rfl) vx rfl xW (fun b9 w10 hb9 t9 hr=>?_);refine zn3 ?_;replace a1:=a1.tr0 t9;refine xv (rg [10] 16 23) (fun g w'=>Same [] w10 w'/\QuR s1 s2 w10 (g 10) w') ?_ (fun g3 w11 hI=>?_)
 ·replace a9:=(a9.tr1 t7 oG).tr0 (t8.t t9);replace ac:=ac.tr0 (t8.t t9);have hh:=fun f Q k0 k1 k2 k3 k4 kq=>qu_r3 s1 s2 a9 ac hb9 a1 f Q k0 k1 k2 k3 k4 kq
  exact hh _ _ (by rfl) (by rfl) (by rfl) (by rfl) (by rfl) (by intro d;cases d<;>exact fun _ _ _ _ h=>h)
 obtain⟨t10,ad,S38,c38,B38,m38,n38,e10,a4,a2,a8⟩:=hI;have q15:=a1.le;replace hB:=(((hB.tr0 (t1.t (t2.t (t3.t (t4.t t5))))).tr1 t6 lo7).tr1 t7 lo8).tr0 (t8.t t9);have ab:=nLT (Bel.size hB) a4;replace a1:=a1.tr0 t10;replace a1:=a1.addX (Y:=[ad]) (fun y hy=> .inr (by rw[List.mem_singleton.1 hy];exact nLT q15 a4));replace a4:=ab;refine vZ 10 _ e10 nu (zn7 ?_);refine jv rfl (fun c39=>?_) (fun c39=>?_)
 ·exact absurd c39 dE
 refine zn3 ?_;refine gY [] [5] [0,1,2,3,4,5] rfl (fun w12 an=>?_);refine zn3 ?_;replace a1:=a1.tr0 an;replace a2:=a2.tr0 an;replace a8:=a8.tr0 an;refine hcl (fun v wv=>TmD [ad] (qM49 s1 s2) wv (v)) rfl YX (gw [ad] (Ts.f (Ts.b false) (Ts.b true)) (P9 s1 s2) _ _ _ _ _ _ _ _ w12 (fun x hx=>by rw[List.mem_singleton.1 hx];exact a2.lt) a1 a8) rfl (fun e' w2 hr=>?_) (fun v49 w13 ao d49=>?_)
 ·obtain⟨⟨_,rfl,hd⟩,t13⟩:=hr;exact⟨_,rfl,sB t13,hd⟩
 obtain⟨S49,c49,B49,m49,n49,e49,b1⟩:=d49;subst e49;replace a1:=a1.tr0 ao;replace a2:=a2.tr0 ao;refine hcl (fun v wv=>TmD [ad] (qM50 s1 s2) wv (v)) rfl YX (gw [ad] (Ts.f (Ts.b false) (Ts.b true)) (qM49 s1 s2) _ _ _ _ _ _ _ _ w13 (fun x hx=>by rw[List.mem_singleton.1 hx];exact a2.lt) a1 b1) rfl (fun e' w2 hr=>?_) (fun v50 w14 t14 d50=>?_)
 ·obtain⟨⟨_,rfl,hd⟩,t15⟩:=hr;exact⟨_,rfl,sB t15,hd⟩
 obtain⟨S50,c50,B50,m50,n50,e50,a5⟩:=d50;subst e50;refine h1 rfl ?_;refine zV a3.u (fun w15 hq t16=>?_);have hsH5:=t16;replace a3:=(((a3.tr0 (t2.t (t3.t (t4.t t5)))).tr1 t6 oG).tr1 t7 oG).tr0 (t8.t (t9.t (t10.t (an.t (ao.t t14)))));replace a5:=a5.sp1 t16 a3 sp_tm;replace a3:=hq;refine qY (O9 [] (zn3 ?_));refine xK (.inl rfl) rfl (zX U34 rfl rfl a3.range0 ZY) ?_;exact⟨⟨_,rfl,_,_,_,_,_,rfl,a5.nil⟩,hB.u⟩
theorem quY_d(s1 s2:ByteArray)(w:World):Calls prog 20 #[.string s1,.string s2,.bool true] w fun e w'=>(∃ z,e= .returned z/\TmD [] (quY s1 s2) w' z)/\Bel w w':=by
 refine enT func20 ntmps20 rfl rfl fun hB=>?_;refine zn2 ?_;refine qQ (cs:=cG) Z4 rfl (fun b6 w1 a8 t1 hr=>?_);have lo6:=hB.ob hr;refine zn4 ?_;refine zW kR (ZJ _ _) rfl (fun e' w2 hr=>?_);obtain⟨rfl,t2⟩:=hr;replace t2:=sB t2;refine⟨_,rfl,?_⟩;refine zW kR (ZJ _ _) rfl (fun e' w3 hr=>?_);obtain⟨rfl,t3⟩:=hr;replace t3:=sB t3;refine⟨_,rfl,?_⟩;refine qQ (cs:=#[.string ⟨#[]⟩,.slice none 0 0]) jk rfl (fun b7 w4 ac t4 hr=>?_);have:=a8.u.ob hr;have lo7:=hB.u.ob hr;refine qQ (cs:=#[.string ⟨#[]⟩,.slice none 0 0]) jk rfl (fun b8 w5 an t5 hr=>?_);have:=a8.u.ob hr;have:=ac.ob hr;have lo8:=hB.u.ob hr;refine zV ac.u (fun w6 hq t6=>?_);replace ac:=hq;refine zV an.u (fun w7 hq t7=>?_);replace an:=hq;refine zn6 ?_;refine zW KZ (Qk [] (Ts.b false) (Ts.b true) none none 0 0 _ _ _ (by simp) (Fz.triv _ _ TS (fun _=>SimsIn.nil)) (Fz.triv _ _ TS (fun _=>SimsIn.nil))) rfl (fun e' w8 hr=>?_);obtain⟨⟨_,rfl,A15,c15,n15,rfl,a1⟩,t8⟩:=hr;replace t8:=sB t8;refine⟨_,rfl,?_⟩;refine y8 (cs:=#[.string ⟨#[]⟩,.slice none 0 0]) jk rfl (fun _=>rfl) (fun _=>rfl) vx rfl xW (fun b9 w10 hb9 t9 hr=>?_);refine zn3 ?_;replace a1:=a1.tr0 t9;refine xv (rg [10] 16 23) (fun g w'=>Same [] w10 w'/\QuR s1 s2 w10 (g 10) w') ?_ (fun g3 w11 hI=>?_)
 ·replace ac:=(ac.tr1 t7 oG).tr0 (t8.t t9);replace an:=an.tr0 (t8.t t9);have hh:=fun f Q k0 k1 k2 k3 k4 kq=>qu_r3 s1 s2 ac an hb9 a1 f Q k0 k1 k2 k3 k4 kq
  exact hh _ _ (by rfl) (by rfl) (by rfl) (by rfl) (by rfl) (by intro d;cases d<;>exact fun _ _ _ _ h=>h)
 obtain⟨t10,a5,S38,c38,B38,m38,n38,e10,a3,a2,ab⟩:=hI;have:=nLL a8.u.lt a3;have:=nLL hb9.lt a3;have q15:=a1.le;replace hB:=(((hB.tr0 (t1.t (t2.t (t3.t (t4.t t5))))).tr1 t6 lo7).tr1 t7 lo8).tr0 (t8.t t9);have ad:=nLT (Bel.size hB) a3;replace a1:=a1.tr0 t10;replace a1:=a1.addX (Y:=[a5]) (fun y hy=> .inr (by rw[List.mem_singleton.1 hy];exact nLT q15 a3));replace a3:=ad;refine vZ 10 _ e10 nu (zn7 ?_);refine jv rfl (fun c39=>?_) (fun c39=>?_)
 ·refine gY [] [6] [0,1,4,2,3,5,6] rfl (fun w12 b4=>?_);refine zn3 ?_;replace a2:=a2.tr0 b4;refine hcl (fun v wv=>SmD [a5] (qY42 s1 s2) wv (v)) rfl KZ (Qk [a5] (Ts.b true) (Ts.b true) _ _ _ _ _ _ w12 (fun x hx=>by rw[List.mem_singleton.1 hx];exact a2.lt) (Fz.triv _ _ TS (fun _=>SimsIn.nil)) (Fz.triv _ _ TS (fun _=>SimsIn.nil))) rfl (fun e' w2 hr=>?_) (fun v42 w13 b3 d42=>?_)
  ·obtain⟨⟨_,rfl,hd⟩,t13⟩:=hr;exact⟨_,rfl,sB t13,hd⟩
  obtain⟨A42,c42,n42,e42,bc⟩:=d42;subst e42;refine hcl (fun v wv=>TmD [a5] (qY43 s1 s2) wv (v)) rfl VZ (Z9 [a5] ⟨#[110,111,116]⟩ (qY42 s1 s2) _ _ _ w13 bc) rfl (fun e' w2 hr=>?_) (fun v43 w14 b2 d43=>?_)
  ·obtain⟨⟨_,rfl,hd⟩,t15⟩:=hr;exact⟨_,rfl,sB t15,hd⟩
  obtain⟨S43,c43,B43,m43,n43,e43,bb⟩:=d43;subst e43;replace ab:=ab.tr0 (b4.t (b3.t b2));replace a2:=a2.tr0 (b3.t b2);refine hcl (fun v wv=>TmD [a5] (qY45 s1 s2) wv (v)) rfl K5 (Qx [a5] (qY43 s1 s2) (P9 s1 s2) _ _ _ _ _ _ _ _ _ _ w14 (fun x hx=>by rw[List.mem_singleton.1 hx];exact a2.lt) bb ab) rfl (fun e' w2 hr=>?_) (fun v45 w15 t16 d45=>?_)
  ·obtain⟨⟨_,rfl,hd⟩,t17⟩:=hr;exact⟨_,rfl,sB t17,hd⟩
  obtain⟨S45,c45,B45,m45,n45,e45,a4⟩:=d45;subst e45;refine h1 rfl ?_;refine zV a2.u (fun w16 hq b1=>?_);have hsH6:=b1;replace a1:=a1.tr0 (b4.t (b3.t (b2.t t16)));replace a1:=a1.in1 b1 (by simp);replace a4:=a4.in1 b1 (by simp);replace a2:=hq;refine qY (O9 [] (zn3 ?_));refine gY [] [5] [0,1,2,3,4,5] rfl (fun w17 ao=>?_);refine zn3 ?_;replace a1:=a1.tr0 ao;replace a2:=a2.tr0 ao;replace a4:=a4.tr0 ao;refine hcl (fun v wv=>TmD [a5] (qY49 s1 s2) wv (v)) rfl YX (gw [a5] (Ts.f (Ts.b false) (Ts.b true)) (qY45 s1 s2) _ _ _ _ _ _ _ _ w17 (fun x hx=>by rw[List.mem_singleton.1 hx];exact a2.lt) a1 a4) rfl (fun e' w2 hr=>?_) (fun v49 w18 b5 d49=>?_)
  ·obtain⟨⟨_,rfl,hd⟩,t21⟩:=hr;exact⟨_,rfl,sB t21,hd⟩
  obtain⟨S49,c49,B49,m49,n49,e49,ba⟩:=d49;subst e49;replace a1:=a1.tr0 b5;replace a2:=a2.tr0 b5;refine hcl (fun v wv=>TmD [a5] (qY50 s1 s2) wv (v)) rfl YX (gw [a5] (Ts.f (Ts.b false) (Ts.b true)) (qY49 s1 s2) _ _ _ _ _ _ _ _ w18 (fun x hx=>by rw[List.mem_singleton.1 hx];exact a2.lt) a1 ba) rfl (fun e' w2 hr=>?_) (fun v50 w19 t22 d50=>?_)
  ·obtain⟨⟨_,rfl,hd⟩,t23⟩:=hr;exact⟨_,rfl,sB t23,hd⟩
  obtain⟨S50,c50,B50,m50,n50,e50,a9⟩:=d50;subst e50;refine h1 rfl ?_;refine zV a8.u (fun w20 hq t24=>?_);have hsH5:=t24;replace a8:=(((((a8.tr0 (t2.t (t3.t (t4.t t5)))).tr1 t6 oG).tr1 t7 oG).tr0 (t8.t (t9.t (t10.t (b4.t (b3.t (b2.t t16))))))).tr1 b1 oG).tr0 (ao.t (b5.t t22));replace a9:=a9.sp1 t24 a8 sp_tm;replace a8:=hq;refine qY (O9 [] (zn3 ?_));refine xK (.inl rfl) rfl (zX U34 rfl rfl a8.range0 ZY) ?_;exact⟨⟨_,rfl,_,_,_,_,_,rfl,a9.nil⟩,hB.u⟩
 exact absurd c39 dE
end Go.Proofs.YtndbjnkilegebaaGreatDoor
