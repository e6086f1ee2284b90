/- What these functions compute, at every world: lexrule.Step, , lexrule.Mother, grammar.Join; and plain laws. -/
import Derived.Test.YtgcgnkmmbecfmaaGreatDoorU
import Derived.Test.YtgcgnkmmbecfmaaGreatDoorZst
import Derived.Test.YtgcgnkmmbecfmaaGreatDoorEng3
import Derived.Test.YtgcgnkmmbecfmaaGreatDoorOrd
import Derived.Test.YtgcgnkmmbecfmaaGreatDoorTrm
import Derived.Test.YtgcgnkmmbecfmaaGreatDoorGro
namespace Go.Proofs.YtgcgnkmmbecfmaaGreatDoor
open Go.RowKit Go.Proofs.Tryz
set_option maxRecDepth 100000
set_option maxHeartbeats 4000000
variable {A A1 A2 G1 S:Option Addr}{B b c1 c2 cap cb k n t:Nat}{X ga gb:List Nd}{cs:Array Value}{f m:Int}{fs:List Ft}{l:List Ty}{ok:Bool}{vs:List Value}{w:World}
def StepS(l:List Ty)(ga gb:List Nd)(f:Int)(ok:Bool)(X:List Nd):Prop:=
 (ok=true/\Vj l (vX ga gb) [((plc ga f).toNat,ga.length)] X/\X.length<=60)\/(ok=false/\BadU l (vX ga gb) [((plc ga f).toNat,ga.length)])
def kJ(l:List Ty)(U:List Nd)(J:List (Nat×Nat))(ok:Bool)(X:List Nd):Prop:=(ok=true/\Vj l U J X)\/(ok=false/\X= []/\¬EY l U J)
theorem Gq{j:Nat}(hga:GX l ga)(hgb:GX l gb)(hj:j<ga.length):∃ ok X,∀ a1 X',kJ l (vX ga gb) [(j,ga.length)] a1 X'->a1=ok/\X'=X/\kJ l (vX ga gb) [(j,ga.length)] ok X:=by
 by_cases h:∃ X,Vj l (vX ga gb) [(j,ga.length)] X
 ·obtain⟨X,hX⟩:=h
  refine⟨true,X,fun a1 X' h'=>?_⟩;rcases h' with ⟨rfl,k⟩|⟨_,_,k⟩
  ·exact⟨rfl,C9 hga hgb hj k hX,.inl ⟨rfl,hX⟩⟩
  ·exact absurd (T5 hga hgb hj hX) k
 ·refine⟨false,[],fun a1 X' h'=>?_⟩
  rcases h' with ⟨_,k⟩|⟨rfl,rfl,k⟩
  ·exact absurd ⟨_,k⟩ h
  ·exact⟨rfl,rfl,.inr ⟨rfl,rfl,k⟩⟩
theorem D4(hga:GX l ga)(hgb:GX l gb)(hj:(plc ga f).toNat<ga.length)(h:kJ l (vX ga gb) [((plc ga f).toNat,ga.length)] ok X):StepS l ga gb f (ok&&decide (((X.length:Nat):Int)<=60)) X:=by
 rcases h with ⟨rfl,h⟩|⟨rfl,_,h⟩
 ·by_cases e:X.length<=60
  ·exact .inl ⟨by simp;omega,h,e⟩
  ·exact .inr ⟨by simp;omega,.inr ⟨X,h,by omega⟩⟩
 ·exact .inr ⟨rfl,.inl h⟩
theorem Fv{g:List Nd}(h:Jok l fs m g)(h0:0<=f)(hm:f<=m):(tgt (g[0]'h.v.gx.pos).ln f)=(((plc g f).toNat:Nat):Int):=by
 have:=h.p f h0 hm;rw[<- vx h.v.gx.pos];unfold plc at this ⊢;omega
theorem V4{lo hi:Nat}{p:World->Prop}(h:Kept lo hi w p)(hb:B<=lo):∀ w2,FrSame B w w2->p w2:=fun w2 hf=>h.2 w2 (nLT h.1 hf.1) (fun b h1 h2=>hf.2 b (nLT hb h1) (nLL h2 h.1))
theorem Q7{p:World->Prop}(h:∀ w2,FrSame B w w2->p w2):Kept B w.heap.size w p:=⟨ah _,fun w2 hs hb=>h w2 ⟨hs,fun k h1 h2=>hb k h1 h2⟩⟩
theorem HY(h:StepS l ga gb f ok X)(hk:ok=true):Vj l (vX ga gb) [((plc ga f).toNat,ga.length)] X/\X.length<=60:=by
 rcases h with ⟨_,a,b⟩|⟨e,_⟩
 ·exact⟨a,b⟩
 ·rw[hk]at e;cases e
theorem step_no(h:StepS l ga gb f ok X)(hk:ok=false):BadU l (vX ga gb) [((plc ga f).toNat,ga.length)]:=by
 rcases h with ⟨e,_⟩|⟨_,a⟩
 ·rw[hk]at e;cases e
 ·exact a
set_option maxRecDepth 100000 in
set_option maxHeartbeats 4000000 in
theorem step_any{bu bd:Nat}{G2:Option Addr}(w:World)(bx:TabIn w)(hTI:TableIn w l bu bd)(hG1:NodesIn w G1 ga)(hG2:NodesIn w G2 gb)(ha:Jok l fs m ga)(hb:GV l fs gb)(hf0:0<=f)(hfm:f<=m):Calls Tryz.prog 45 #[.agg #[.slice (some ⟨bu,0,none⟩) l.length l.length,.slice (some ⟨bd,0,none⟩) l.length l.length],.agg #[.slice G1 ga.length c1],.int .i64 f,.agg #[.slice G2 gb.length c2]] w fun e w'=>(∃ A X ok,e= .returned (.tuple #[.agg #[.slice A (List.length X) X.length],.bool ok])/\(∀ w2,FrSame w.heap.size w' w2->NodesIn w2 A X)/\StepS l ga gb f ok X)/\Bel w w':=by
 have br:=ha.lt hf0 hfm;have bz:=ha.v.gx.pos;obtain⟨a5,XI,bw⟩:=Gq ha.v.gx hb.gx br;have hpa:=Fv ha hf0 hfm;refine enT Tryz.func45 Tryz.ntmps45 rfl rfl fun hB=>?_;refine zn2 ?_;refine xy (v:= .agg #[_,_]) (cs:=#[_,_]) rfl rfl (fun b4 w1 bh s1 hr=>?_);have lo4:=hB.ob hr;refine xy (v:= .agg #[_]) (cs:=#[_]) rfl rfl (fun b5 w2 bg s2 hr=>?_);have:=bh.ob hr;have lo5:=hB.u.ob hr;refine xy (v:= .agg #[_]) (cs:=#[_]) rfl rfl (fun b7 w3 bm s3 hr=>?_);have:=bh.u.ob hr;have:=bg.ob hr;have lo7:=hB.u.ob hr;refine qW (cs:=#[.slice none 0 0]) yz rfl (fun b8 w4 ab s4 hr=>?_);have:=bh.u.ob hr;have:=bg.u.ob hr;have:=bm.ob hr;have lo8:=hB.u.ob hr;refine zn4 ?_;replace hB:=hB.tr0 (s1.t (s2.t (s3.t s4)));have hsz:=Bel.size hB;replace bh:=bh.tr0 (s2.t (s3.t s4));have z4:=bh.lt;replace bg:=bg.tr0 (s3.t s4);have z5:=bg.lt;replace bm:=bm.tr0 s4;have z7:=bm.lt;have z8:=ab.lt;refine y9 (rg [] 10 12) (fun g w'=>∃(ac:Nat) (AZ:Option Addr) (lz hz:Nat),g 10= .pointer (some ⟨ac,0,none⟩)/\g 11= .bool a5/\Bel w w'/\Blk w' ac 30 #[.slice AZ (List.length XI) XI.length]/\(∃ z,Blk w' b8 30 #[z])/\b8≠ac/\Kept lz hz w' (fun wq=>NodesIn wq AZ XI)/\w.heap.size<=lz/\b8<lz/\kJ l (vX ga gb) [((plc ga f).toNat,ga.length)] a5 XI) ?_ (fun g1 w5 hI=>?_)
 ·refine BZ 11 [13,14,15,16,17,18,19,12,20,21,10] [9] (fun ix=>bif Nat.beq ix 7 then 6 else bif Nat.beq ix 8 then 6 else ix) (fun ix v la ha wv=>match ix with|0=>v= .agg #[.slice (some ⟨bu,0,none⟩) l.length l.length,.slice (some ⟨bd,0,none⟩) l.length l.length]|1=>v= .agg #[.slice G1 ga.length c1]|2=>v= .agg #[.slice G1 ga.length c1]|3=>v= .int .i64 f|4=>v= .int .i64 (((plc ga f).toNat:Nat):Int)|5=>v= .agg #[.slice G2 gb.length c2]|6=>∃ AZ,v= .tuple #[.agg #[.slice AZ (List.length XI) XI.length],.bool a5]/\Kept la ha wv (fun wq=>NodesIn wq AZ XI)/\w4.heap.size<=la/\kJ l (vX ga gb) [((plc ga f).toNat,ga.length)] a5 XI|7=>∃ AZ,v= .tuple #[.agg #[.slice AZ (List.length XI) XI.length],.bool a5]/\Kept la ha wv (fun wq=>NodesIn wq AZ XI)/\w4.heap.size<=la/\kJ l (vX ga gb) [((plc ga f).toNat,ga.length)] a5 XI|8=>∃ AZ,v= .agg #[.slice AZ (List.length XI) XI.length]/\Kept la ha wv (fun wq=>NodesIn wq AZ XI)/\w4.heap.size<=la/\kJ l (vX ga gb) [((plc ga f).toNat,ga.length)] a5 XI|9=>v= .bool a5|10=>∃ b,v= .pointer (some ⟨b,0,none⟩)/\w4.heap.size<=b/\Blk wv b 30 #[.slice none 0 0]/\la<=b/\b<ha|_=>True) kR kR kR kR ?_ ?_ ?_
  ·intro ix v la ha wv bq h hle s5
   match ix,h with
   | 0,h=>exact h
   | 1,h=>exact h
   | 2,h=>exact h
   | 3,h=>exact h
   | 4,h=>exact h
   | 5,h=>exact h
   | 6,h=>
    obtain⟨AZ,c5,a3,b2,b1⟩:=(show ∃ AZ,v= .tuple #[.agg #[.slice AZ (List.length XI) XI.length],.bool a5]/\Kept la ha wv (fun wq=>NodesIn wq AZ XI)/\w4.heap.size<=la/\kJ l (vX ga gb) [((plc ga f).toNat,ga.length)] a5 XI from h)
    exact⟨AZ,c5,a3.tr0 s5,b2,b1⟩
   | 7,h=>
    obtain⟨bj,bc,bk,an,ao⟩:=(show ∃ AZ,v= .tuple #[.agg #[.slice AZ (List.length XI) XI.length],.bool a5]/\Kept la ha wv (fun wq=>NodesIn wq AZ XI)/\w4.heap.size<=la/\kJ l (vX ga gb) [((plc ga f).toNat,ga.length)] a5 XI from h)
    exact⟨bj,bc,bk.tr0 s5,an,ao⟩
   | 8,h=>
    obtain⟨AZ,bn,a3,b2,b1⟩:=(show ∃ AZ,v= .agg #[.slice AZ (List.length XI) XI.length]/\Kept la ha wv (fun wq=>NodesIn wq AZ XI)/\w4.heap.size<=la/\kJ l (vX ga gb) [((plc ga f).toNat,ga.length)] a5 XI from h)
    exact⟨AZ,bn,a3.tr0 s5,b2,b1⟩
   | 9,h=>exact h
   | 10,h=>
    obtain⟨ac,bo,a4,a2,bf,bi⟩:=(show ∃ b,v= .pointer (some ⟨b,0,none⟩)/\w4.heap.size<=b/\Blk wv b 30 #[.slice none 0 0]/\la<=b/\b<ha from h)
    exact⟨ac,bo,a4,a2.tr0 s5,bf,bi⟩
   | _+11,h=>exact trivial
  ·intro ix o hix a1 gg wx lo hi s6 hd bb
   match ix,hix,a1 with
   | 0,_,a1=>
    cases sI a1;refine gdA ?_;refine qZ (qw U74 rfl rfl bh.u.range0 MZ) ⟨Same.refl _ _,?_⟩;exact rfl
   | 1,_,a1=>
    cases sI a1;refine gdA ?_;refine qZ (qw U30 rfl rfl bg.u.range0 zY) ⟨Same.refl _ _,?_⟩;exact rfl
   | 2,_,a1=>
    cases sI a1;refine gdA ?_;refine qZ (qw U30 rfl rfl bg.u.range0 zY) ⟨Same.refl _ _,?_⟩;exact rfl
   | 3,_,a1=>
    cases sI a1;refine gdA ?_;refine qZ (xz (v:= .int _ _) rfl) ⟨Same.refl _ _,?_⟩;exact rfl
   | 4,_,a1=>
    cases sI a1;have d2:gg 15= .agg #[.slice G1 ga.length c1]:=(hd 2 (zk kR)).1;have e15:=d2;have d3:gg 16= .int .i64 f:=(hd 3 (zk kR)).1;have e16:=d3;refine gdA (zq 15 _ e15 nu (zq 16 _ e16 nu ?_));replace hB:=hB.tr0 s6;refine vZ kR (Mw G1 c1 fs.length ga 0 f wx (hG1.mono hB) bz (Ix ha.v.lo 0 bz) (by have:=ha.v.gok.few 0 bz;have:=ha.v.few;omega)) rfl (fun e' w2 hr=>?_);obtain⟨rfl,s7⟩:=hr;exact⟨_,rfl,sB s7,(congrArg (Value.int .i64) hpa)⟩
   | 5,_,a1=>
    cases sI a1;refine gdA ?_;refine qZ (qw U30 rfl rfl bm.u.range0 zY) ⟨Same.refl _ _,?_⟩;exact rfl
   | 6,_,a1=>
    cases sI a1;have bt:=s6;have d0:gg 13= .agg #[.slice (some ⟨bu,0,none⟩) l.length l.length,.slice (some ⟨bd,0,none⟩) l.length l.length]:=(hd 0 (zk kR)).1;have e13:=d0;have d1:gg 14= .agg #[.slice G1 ga.length c1]:=(hd 1 (zk kR)).1;have e14:=d1;have d4:gg 17= .int .i64 (((plc ga f).toNat:Nat):Int):=(hd 4 (zk kR)).1;have e17:=d4;have d5:gg 18= .agg #[.slice G2 gb.length c2]:=(hd 5 (zk kR)).1;have e18:=d5;refine gdA (zq 13 _ e13 nu (zq 14 _ e14 nu (zq 17 _ e17 nu (zq 18 _ e18 nu ?_))));replace hB:=hB.tr0 s6;refine vZ kR (into_any (nf:=fs.length) wx (bx.mono hB) (hTI.mono hB) ha.v.s (hG1.mono hB) (hG2.mono hB) ha.v.gok hb.gok ha.v.gx.toGY hb.gx.toGY (by have:=ha.v.few;omega) br) rfl (fun e' w2 hr=>?_);obtain⟨⟨A9,X9,ok9,rfl,hN9,hI9⟩,s8⟩:=hr;exact⟨_,rfl,sB s8,(by obtain⟨e1,e2,e3⟩:=bw ok9 X9 hI9;subst e1 e2;exact⟨A9,rfl,Q7 hN9,bt.size,e3⟩)⟩
   | 7,_,a1=>
    cases sI a1;have d6:∃ AZ,gg 19= .tuple #[.agg #[.slice AZ (List.length XI) XI.length],.bool a5]/\Kept (lo 6) (hi 6) wx (fun wq=>NodesIn wq AZ XI)/\w4.heap.size<=(lo 6)/\kJ l (vX ga gb) [((plc ga f).toNat,ga.length)] a5 XI:=(hd 6 (zk kR)).1;obtain⟨AZ,c5,a3,b2,b1⟩:=d6;refine gdA (zq 19 _ c5 nu ?_);refine qZ (xz (v:= .tuple _) rfl) ⟨Same.refl _ _,?_⟩;exact⟨_,rfl,a3,b2,b1⟩
   | 8,_,a1=>
    cases sI a1;have d7:∃ AZ,gg 12= .tuple #[.agg #[.slice AZ (List.length XI) XI.length],.bool a5]/\Kept (lo 6) (hi 6) wx (fun wq=>NodesIn wq AZ XI)/\w4.heap.size<=(lo 6)/\kJ l (vX ga gb) [((plc ga f).toNat,ga.length)] a5 XI:=(hd 7 (zk kR)).1;obtain⟨bj,bc,bk,an,ao⟩:=d7;refine gdA (zq 12 _ bc nu ?_);refine qZ (vY (v:=_) rfl rfl) ⟨Same.refl _ _,?_⟩;exact⟨_,rfl,bk,an,ao⟩
   | 9,_,a1=>
    cases sI a1;have d7:∃ AZ,gg 12= .tuple #[.agg #[.slice AZ (List.length XI) XI.length],.bool a5]/\Kept (lo 6) (hi 6) wx (fun wq=>NodesIn wq AZ XI)/\w4.heap.size<=(lo 6)/\kJ l (vX ga gb) [((plc ga f).toNat,ga.length)] a5 XI:=(hd 7 (zk kR)).1;obtain⟨bj,bc,bk,an,ao⟩:=d7;refine gdA (zq 12 _ bc nu ?_);refine qZ (vY (v:=_) rfl rfl) ⟨Same.refl _ _,?_⟩;exact rfl
   | 10,_,a1=>
    cases sI a1;have bt:=s6;refine gdA ?_;refine jK (fun ops Q K=>?_);refine qW (cs:=#[.slice none 0 0]) yz rfl (fun ac w6 a2 s9 hr=>?_);exact K _ _ ⟨s9,⟨_,rfl,nLT bt.size hr,a2,hr,a2.lt⟩⟩
   | _+11,hix,_=>exact absurd hix oG
  refine⟨?_,?_,trivial⟩
  ·intro _ gg w7 lo hi s10 hR bb;have d7:∃ AZ,gg 12= .tuple #[.agg #[.slice AZ (List.length XI) XI.length],.bool a5]/\Kept (lo 6) (hi 6) w7 (fun wq=>NodesIn wq AZ XI)/\w4.heap.size<=(lo 6)/\kJ l (vX ga gb) [((plc ga f).toNat,ga.length)] a5 XI:=(hR 7 dE dE).1;obtain⟨bj,bc,bk,an,ao⟩:=d7;have d8:∃ AZ,gg 20= .agg #[.slice AZ (List.length XI) XI.length]/\Kept (lo 6) (hi 6) w7 (fun wq=>NodesIn wq AZ XI)/\w4.heap.size<=(lo 6)/\kJ l (vX ga gb) [((plc ga f).toNat,ga.length)] a5 XI:=(hR 8 dE dE).1;obtain⟨AZ,bn,a3,b2,b1⟩:=d8;have d9:gg 21= .bool a5:=(hR 9 dE dE).1;have e21:=d9;have c6:∃ b,gg 10= .pointer (some ⟨b,0,none⟩)/\w4.heap.size<=b/\Blk w7 b 30 #[.slice none 0 0]/\(lo 10)<=b/\b<(hi 10):=(hR 10 dE dE).1;obtain⟨ac,bo,a4,a2,bf,bi⟩:=c6;have b3:(hi 6)<=(lo 10)\/(hi 10)<=(lo 6):=bb 6 10 dE dE dE dE dE;have:=nLL z4 a4;have:=nLL z5 a4;have:=nLL z7 a4;have:=nLL z8 a4;replace a4:=nLT hsz a4;have b6:b8<(lo 6):=nLL z8 b2;refine yk 12 (.tuple #[.agg #[.slice bj (List.length XI) XI.length],.bool a5]) bc nu (yk 20 (.agg #[.slice AZ (List.length XI) XI.length]) bn nu (yk 21 (.bool a5) e21 nu (yk 10 (.pointer (some ⟨ac,0,none⟩)) bo nu (Ij (k':=2) kR (Pw (listed':=#[true,true,true,true,true,true,true,true,true,true,true,false,false]) kR ?_)))));refine X2 [11] kR rfl ⟨fun o a1=>?_,trivial⟩;cases sI a1;refine zZ a2 rfl rfl zY rfl qz (fun w8 hq s11=>?_);replace a2:=hq;refine zJ (e_A (listed':=#[true,true,true,true,true,true,true,true,true,true,true,true,false]) (by rfl) (EW 12 rfl (fun _=>uK (v:= .bool _) rfl) (PJ kR ?_)));refine e_R ⟨agA,?_⟩;replace a3:=a3.tr1 s11 oG;exact⟨ac,AZ,_,_,rfl,rfl,hB.u,a2,⟨_,ab.u⟩,by omega,a3,nLT hsz b2,b6,b1⟩
  intro _ gg w9 lo hi s12 hR bb;have d7:∃ AZ,gg 12= .tuple #[.agg #[.slice AZ (List.length XI) XI.length],.bool a5]/\Kept (lo 6) (hi 6) w9 (fun wq=>NodesIn wq AZ XI)/\w4.heap.size<=(lo 6)/\kJ l (vX ga gb) [((plc ga f).toNat,ga.length)] a5 XI:=(hR 7 dE dE).1;obtain⟨bj,bc,bk,an,ao⟩:=d7;have d8:∃ AZ,gg 20= .agg #[.slice AZ (List.length XI) XI.length]/\Kept (lo 6) (hi 6) w9 (fun wq=>NodesIn wq AZ XI)/\w4.heap.size<=(lo 6)/\kJ l (vX ga gb) [((plc ga f).toNat,ga.length)] a5 XI:=(hR 8 dE dE).1;obtain⟨AZ,bn,a3,b2,b1⟩:=d8;have c6:∃ b,gg 10= .pointer (some ⟨b,0,none⟩)/\w4.heap.size<=b/\Blk w9 b 30 #[.slice none 0 0]/\(lo 10)<=b/\b<(hi 10):=(hR 10 dE dE).1;obtain⟨ac,bo,a4,a2,bf,bi⟩:=c6;have b3:(hi 6)<=(lo 10)\/(hi 10)<=(lo 6):=bb 6 10 dE dE dE dE dE;have:=nLL z4 a4;have:=nLL z5 a4;have:=nLL z7 a4;have:=nLL z8 a4;replace a4:=nLT hsz a4;have b6:b8<(lo 6):=nLL z8 b2;refine yk 12 (.tuple #[.agg #[.slice bj (List.length XI) XI.length],.bool a5]) bc nu (yk 20 (.agg #[.slice AZ (List.length XI) XI.length]) bn nu (yk 10 (.pointer (some ⟨ac,0,none⟩)) bo nu (Ij (k':=3) kR (Pw (listed':=#[true,true,true,true,true,true,true,true,true,false,true,false,false]) kR (EW 9 rfl (fun _=>vY (v:=_) rfl rfl) ?_)))));refine X2 [11] kR rfl ⟨fun o a1=>?_,trivial⟩;cases sI a1;refine zZ a2 rfl rfl zY rfl qz (fun w10 hq s13=>?_);replace a2:=hq;refine zJ (e_A (listed':=#[true,true,true,true,true,true,true,true,true,true,true,true,false]) (by rfl) (EW 12 rfl (fun _=>uK (v:= .bool _) rfl) (PJ kR ?_)));refine e_R ⟨agA,?_⟩;replace a3:=a3.tr1 s13 oG;exact⟨ac,AZ,_,_,rfl,rfl,hB.u,a2,⟨_,ab.u⟩,by omega,a3,nLT hsz b2,b6,b1⟩
 obtain⟨ac,AZ,lz,hz,h10,h11,hB,a2,⟨z8v,ab⟩,be,a3,hlz,b6,b1⟩:=hI;refine jj 10 _ h10 nu (jj 11 _ h11 nu (e_S (xV ?_)));rcases Bool.eq_false_or_eq_true (a5)with hok|hok
 ·refine zX 11 _ (ae hok) nu ?_;refine M9 10 [22,23,24,25,26,27,28,29,9] [b8] (fun ix v wv=>match ix with|0=>v= .agg #[.slice AZ (List.length XI) XI.length]|1=>v= .bool true|2=>v= .bool true|3=>v= .pointer (some ⟨ac,0,none⟩)|4=>v= .slice AZ (List.length XI) XI.length|5=>v= .int .i64 ((XI.length:Nat):Int)|6=>v= .bool (decide (((XI.length:Nat):Int)<=60))|7=>v= .bool (decide (((XI.length:Nat):Int)<=60))|8=>Blk wv b8 30 #[.slice AZ (List.length XI) XI.length]|9=>v= .bool (decide (((XI.length:Nat):Int)<=60))|_=>True) (fun wq=>(∃ z,Blk wq b8 30 #[z])/\Kept lz hz wq (fun w3=>NodesIn w3 AZ XI)) kR kR ?_ ?_ ⟨⟨_,ab⟩,(by first|exact a3|exact a3.tr0 s4|exact a3.tr1 b9 (.inl b6))⟩ ?_ ?_
  ·intro ix v wv bq h s14
   match ix,h with
   | 0,h=>exact h
   | 1,h=>exact h
   | 2,h=>exact h
   | 3,h=>exact h
   | 4,h=>exact h
   | 5,h=>exact h
   | 6,h=>exact h
   | 7,h=>exact h
   | 8,h=>exact(show Blk wv b8 30 #[.slice AZ (List.length XI) XI.length]from h).tr0 s14
   | 9,h=>exact h
   | _+10,h=>exact trivial
  ·intro wv bq h s15;obtain⟨⟨z1,ab⟩,a3⟩:=h;exact⟨⟨_,ab.u⟩,(by first|exact a3|exact a3.tr0 s15|exact a3.tr1 b9 (.inl b6))⟩
  ·intro ix o hix a1 gg wx s16 hJ hd
   match ix,hix,a1 with
   | 0,_,a1=>
    cases sI a1;replace a2:=a2.tr s16 (fun hx=>by simp only[List.mem_cons,List.not_mem_nil,or_false]at hx;omega);refine gdA ?_;show OS _ _ _ _ _ _;exact oVq (qw U30 rfl rfl a2.range0 zY) rfl
   | 1,_,a1=>
    cases sI a1;refine gdA ?_;show OS _ _ _ _ _ _;exact oVq (xz (v:= .bool _) rfl) rfl
   | 2,_,a1=>
    cases sI a1;have d1:gg 23= .bool true:=hd 1 _ (zk kR) rfl;have c3:=d1;refine gdA ?_;show OS _ _ _ _ _ _;refine zq 23 _ c3 nu ?_;exact oVq (xz (v:= .bool _) rfl) rfl
   | 3,_,a1=>
    cases sI a1;have d2:gg 24= .bool true:=hd 2 _ (zk kR) rfl;have a9:=d2;refine vV 24 true rfl a9 (fun _=>?_) (fun h=>absurd h dE);show OS _ _ _ _ _ _;refine zq 24 _ a9 nu ?_;exact oVq (u6 U30 O4 dE rfl rfl rfl) rfl
   | 4,_,a1=>
    cases sI a1;replace a2:=a2.tr s16 (fun hx=>by simp only[List.mem_cons,List.not_mem_nil,or_false]at hx;omega);have d2:gg 24= .bool true:=hd 2 _ (zk kR) rfl;have a9:=d2;have d3:gg 25= .pointer (some ⟨ac,0,none⟩):=hd 3 _ (zk kR) rfl;have e25:=d3;refine vV 24 true rfl a9 (fun _=>?_) (fun h=>absurd h dE);show OS _ _ _ _ _ _;refine zq 24 _ a9 nu (zq 25 _ e25 nu ?_);exact oVq (qy (v:= .slice _ _ _) U28 rfl rfl (a2.cell rfl)) rfl
   | 5,_,a1=>
    cases sI a1;have d2:gg 24= .bool true:=hd 2 _ (zk kR) rfl;have a9:=d2;have d4:gg 26= .slice AZ (List.length XI) XI.length:=hd 4 _ (zk kR) rfl;have e26:=d4;refine vV 24 true rfl a9 (fun _=>?_) (fun h=>absurd h dE);show OS _ _ _ _ _ _;refine zq 24 _ a9 nu (zq 26 _ e26 nu ?_);exact oVq (E1 U28 rfl) rfl
   | 6,_,a1=>
    cases sI a1;have d2:gg 24= .bool true:=hd 2 _ (zk kR) rfl;have a9:=d2;have d5:gg 27= .int .i64 ((XI.length:Nat):Int):=hd 5 _ (zk kR) rfl;have e27:=d5;refine vV 24 true rfl a9 (fun _=>?_) (fun h=>absurd h dE);show OS _ _ _ _ _ _;refine zq 24 _ a9 nu (zq 27 _ e27 nu ?_);exact oVq (r_leq rfl rfl) rfl
   | 7,_,a1=>
    cases sI a1;have d2:gg 24= .bool true:=hd 2 _ (zk kR) rfl;have a9:=d2;have d6:gg 28= .bool (decide (((XI.length:Nat):Int)<=60)):=hd 6 _ (zk kR) rfl;have e28:=d6;refine gdA ?_;show OS _ _ _ _ _ _;refine zq 24 _ a9 nu (zq 28 _ e28 nu ?_);exact oVq (Fq (v:= .bool _) rfl rfl) rfl
   | 8,_,a1=>
    cases sI a1;have d0:gg 22= .agg #[.slice AZ (List.length XI) XI.length]:=hd 0 _ (zk kR) rfl;have c4:=d0;refine gdA ?_;show OS _ _ _ _ _ _;refine zq 22 _ c4 nu ?_;obtain⟨⟨z1,ab⟩,a3⟩:=hJ;refine I8 (fun ops Q K=>?_);refine zZ ab rfl rfl zY rfl qz (fun w2 hq b9=>?_);have K2:=K w2;refine K2 ⟨b9.weak (by simp),?_,hq,fun kx v be h=>?_⟩
    ·replace ab:=hq;exact⟨⟨_,ab⟩,(by first|exact a3|exact a3.tr0 s16|exact a3.tr1 b9 (.inl b6))⟩
    match kx,be,h with
    | 0,_,h=>exact h
    | 1,_,h=>exact h
    | 2,_,h=>exact h
    | 3,_,h=>exact h
    | 4,_,h=>exact h
    | 5,_,h=>exact h
    | 6,_,h=>exact h
    | 7,_,h=>exact h
    | 8,be,_=>exact absurd rfl be
    | 9,_,h=>exact h
    | _+10,_,_=>exact trivial
   | 9,_,a1=>
    cases sI a1;have d7:gg 29= .bool (decide (((XI.length:Nat):Int)<=60)):=hd 7 _ (zk kR) rfl;have c0:=d7;refine gdA ?_;show OS _ _ _ _ _ _;refine zq 29 _ c0 nu ?_;exact oVq (uK (v:= .bool _) rfl) rfl
   | _+10,hix,_=>exact absurd hix oG
  intro gg w11 s17 hJ hR;replace hB:=hB.tr s17 (fun q hx=>by simp only[List.mem_cons,List.not_mem_nil,or_false]at hx;omega);have bv:Blk w11 b8 30 #[.slice AZ (List.length XI) XI.length]:=hR 8 _ rfl;replace ab:=bv;have d9:gg 9= .bool (decide (((XI.length:Nat):Int)<=60)):=hR 9 _ rfl;have e9:=d9;refine xj 9 _ e9 nu (zn3 ?_);refine QK (.inl rfl) rfl (zW U30 rfl rfl ab.range0 zY) rfl ?_;obtain⟨_,a3⟩:=hJ;refine⟨⟨AZ,XI,_,rfl,V4 a3 hlz,?_⟩,hB⟩;have hst:=D4 ha.v.gx hb.gx br b1;rw[hok]at hst;exact hst
 refine zX 11 _ (ae hok) nu ?_;refine M9 10 [22,23,24,25,26,27,28,29,9] [b8] (fun ix v wv=>match ix with|0=>v= .agg #[.slice AZ (List.length XI) XI.length]|1=>v= .bool false|2=>v= .bool false|3=>v=undef|4=>v=undef|5=>v=undef|6=>v=undef|7=>v= .bool false|8=>Blk wv b8 30 #[.slice AZ (List.length XI) XI.length]|9=>v= .bool false|_=>True) (fun wq=>(∃ z,Blk wq b8 30 #[z])/\Kept lz hz wq (fun w3=>NodesIn w3 AZ XI)) kR kR ?_ ?_ ⟨⟨_,ab⟩,(by first|exact a3|exact a3.tr0 s4|exact a3.tr1 b9 (.inl b6))⟩ ?_ ?_
 ·intro ix v wv bq h s18
  match ix,h with
  | 0,h=>exact h
  | 1,h=>exact h
  | 2,h=>exact h
  | 3,h=>exact h
  | 4,h=>exact h
  | 5,h=>exact h
  | 6,h=>exact h
  | 7,h=>exact h
  | 8,h=>exact(show Blk wv b8 30 #[.slice AZ (List.length XI) XI.length]from h).tr0 s18
  | 9,h=>exact h
  | _+10,h=>exact trivial
 ·intro wv bq h s19;obtain⟨⟨z1,ab⟩,a3⟩:=h;exact⟨⟨_,ab.u⟩,(by first|exact a3|exact a3.tr0 s19|exact a3.tr1 b9 (.inl b6))⟩
 ·intro ix o hix a1 gg wx s20 hJ hd
  match ix,hix,a1 with
  | 0,_,a1=>
   cases sI a1;replace a2:=a2.tr s20 (fun hx=>by simp only[List.mem_cons,List.not_mem_nil,or_false]at hx;omega);refine gdA ?_;show OS _ _ _ _ _ _;exact oVq (qw U30 rfl rfl a2.range0 zY) rfl
  | 1,_,a1=>
   cases sI a1;refine gdA ?_;show OS _ _ _ _ _ _;exact oVq (xz (v:= .bool _) rfl) rfl
  | 2,_,a1=>
   cases sI a1;have d1:gg 23= .bool false:=hd 1 _ (zk kR) rfl;have c3:=d1;refine gdA ?_;show OS _ _ _ _ _ _;refine zq 23 _ c3 nu ?_;exact oVq (xz (v:= .bool _) rfl) rfl
  | 3,_,a1=>
   cases sI a1;have d2:gg 24= .bool false:=hd 2 _ (zk kR) rfl;have a9:=d2;exact vV 24 false rfl a9 (fun h=>absurd h dE) (fun _=>rfl)
  | 4,_,a1=>
   cases sI a1;have d2:gg 24= .bool false:=hd 2 _ (zk kR) rfl;have a9:=d2;have d3:gg 25=undef:=hd 3 _ (zk kR) rfl;have e25:=d3;exact vV 24 false rfl a9 (fun h=>absurd h dE) (fun _=>rfl)
  | 5,_,a1=>
   cases sI a1;have d2:gg 24= .bool false:=hd 2 _ (zk kR) rfl;have a9:=d2;have d4:gg 26=undef:=hd 4 _ (zk kR) rfl;have e26:=d4;exact vV 24 false rfl a9 (fun h=>absurd h dE) (fun _=>rfl)
  | 6,_,a1=>
   cases sI a1;have d2:gg 24= .bool false:=hd 2 _ (zk kR) rfl;have a9:=d2;have d5:gg 27=undef:=hd 5 _ (zk kR) rfl;have e27:=d5;exact vV 24 false rfl a9 (fun h=>absurd h dE) (fun _=>rfl)
  | 7,_,a1=>
   cases sI a1;have d2:gg 24= .bool false:=hd 2 _ (zk kR) rfl;have a9:=d2;have d6:gg 28=undef:=hd 6 _ (zk kR) rfl;have e28:=d6;refine gdA ?_;show OS _ _ _ _ _ _;refine zq 24 _ a9 nu ?_;exact oVq (Fx (v:= .bool _) rfl rfl) rfl
  | 8,_,a1=>
   cases sI a1;have d0:gg 22= .agg #[.slice AZ (List.length XI) XI.length]:=hd 0 _ (zk kR) rfl;have c4:=d0;refine gdA ?_;show OS _ _ _ _ _ _;refine zq 22 _ c4 nu ?_;obtain⟨⟨z1,ab⟩,a3⟩:=hJ;refine I8 (fun ops Q K=>?_);refine zZ ab rfl rfl zY rfl qz (fun w2 hq b9=>?_);have K2:=K w2;refine K2 ⟨b9.weak (by simp),?_,hq,fun kx v be h=>?_⟩
   ·replace ab:=hq;exact⟨⟨_,ab⟩,(by first|exact a3|exact a3.tr0 s20|exact a3.tr1 b9 (.inl b6))⟩
   match kx,be,h with
   | 0,_,h=>exact h
   | 1,_,h=>exact h
   | 2,_,h=>exact h
   | 3,_,h=>exact h
   | 4,_,h=>exact h
   | 5,_,h=>exact h
   | 6,_,h=>exact h
   | 7,_,h=>exact h
   | 8,be,_=>exact absurd rfl be
   | 9,_,h=>exact h
   | _+10,_,_=>exact trivial
  | 9,_,a1=>
   cases sI a1;have d7:gg 29= .bool false:=hd 7 _ (zk kR) rfl;have c0:=d7;refine gdA ?_;show OS _ _ _ _ _ _;refine zq 29 _ c0 nu ?_;exact oVq (uK (v:= .bool _) rfl) rfl
  | _+10,hix,_=>exact absurd hix oG
 intro gg w12 s21 hJ hR;replace hB:=hB.tr s21 (fun q hx=>by simp only[List.mem_cons,List.not_mem_nil,or_false]at hx;omega);have bv:Blk w12 b8 30 #[.slice AZ (List.length XI) XI.length]:=hR 8 _ rfl;replace ab:=bv;have d9:gg 9= .bool false:=hR 9 _ rfl;have e9:=d9;refine xj 9 _ e9 nu (zn3 ?_);refine QK (.inl rfl) rfl (zW U30 rfl rfl ab.range0 zY) rfl ?_;obtain⟨_,a3⟩:=hJ;refine⟨⟨AZ,XI,_,rfl,V4 a3 hlz,?_⟩,hB⟩;have hst:=D4 ha.v.gx hb.gx br b1;rw[hok]at hst;exact hst
section
def D1(U g:List Nd):List Nd:=U++g.map (shN U.length)
section all
variable {l:List Ty} {fs:List Ft} {gs:List (List Nd)}
theorem add_gy{U g:List Nd}(hU:GY l U)(hg:GY l g):GY l (D1 U g):=by
 have a3:(D1 U g).length=U.length+g.length:=by simp[D1]
 have hp:=hU.pos;have a2:∀ i,i<U.length+g.length->¬i<U.length->nd (D1 U g) i=shN U.length (nd g (i-U.length))/\i-U.length<g.length:=fun i hi hn=>by
  have hl:i-U.length<g.length:=by omega
  have h:=VW (U:=U) hl;rw[show U.length+(i-U.length)=i by omega]at h;exact⟨h,hl⟩
 have a1:∀ i,i<U.length->nd (D1 U g) i=nd U i:=fun i hi=>Zz hi
 refine⟨hU.vt,by omega,fun i hi=>?_,fun i hi=>?_,fun i hi x hx=>?_⟩<;>rw[a3]at hi<;>by_cases e:i<U.length
 ·rw[a1 i e];exact hU.tr i e
 ·rw[(a2 i hi e).1];exact hg.tr _ (a2 i hi e).2
 ·rw[a1 i e];exact hU.srt i e
 ·rw[(a2 i hi e).1]
  exact List.Pairwise.map _ (fun a b h=>h) (hg.srt _ (a2 i hi e).2)
 ·rw[a1 i e]at hx
  have:=hU.lr i e x hx;omega
 ·rw[(a2 i hi e).1]at hx
  obtain⟨y,hy,rfl⟩:=av.1 hx;have:=hg.lr _ (a2 i hi e).2 y hy;show 0<=y.2+(U.length:Int)/\(y.2+(U.length:Int)).toNat<_;omega
structure LubL(l:List Ty)(gs:List (List Nd))(X:List Nd):Prop where
 gx:GX l X
 maps:∀ i (hi:i<gs.length),Maps l gs[i] X
 least:∀ c,GY l c->(∀ i (hi:i<gs.length),Maps l gs[i] c)->Maps l X c
 can:∃ o,DL X [0] [] o/\yK X o=X
theorem LubL.uniq{hs:List (List Nd)}{Y:List Nd}(h:LubL l gs X)(k:LubL l hs Y)(e1:∀ i (hi:i<gs.length),∃ j,∃ hj:j<hs.length,gs[i]=hs[j])(e2:∀ i (hi:i<hs.length),∃ j,∃ hj:j<gs.length,hs[i]=gs[j]):X=Y:=by
 obtain⟨o,ho,e⟩:=h.can;obtain⟨p,hp,e3⟩:=k.can;have:=can_eq h.gx k.gx (h.least Y k.gx.toGY (fun i hi=>by obtain⟨j,hj,e⟩:=e1 i hi;rw[e];exact k.maps j hj)) (k.least X h.gx.toGY (fun i hi=>by obtain⟨j,hj,e⟩:=e2 i hi;rw[e];exact h.maps j hj)) ho hp;rw[e,e3]at this;exact this.symm
end all
end
def GrsIn(w:World)(A:Option Addr)(L:List (List Nd)):Prop:=
 L.length<=vJ/\(L≠[]->∃ b o,A=some ⟨b,o,none⟩/\b<w.heap.size/\∀ k (hk:k<L.length),∃ A' c,w.rangeAt b (o+k*1) [.slice A' (L[k]).length c]/\NodesIn w A' L[k])
theorem GrsIn.mono{w w':World}{A:Option Addr}{L:List (List Nd)}(h:GrsIn w A L)(hb:Bel w w'):GrsIn w' A L:=
 ⟨h.1,fun hn=>by
  obtain⟨b,o,e,hl,hc⟩:=h.2 hn
  refine⟨b,o,e,nLL hl hb.size,fun k hk=>?_⟩
  obtain⟨A',c,h1,h2⟩:=hc k hk
  exact⟨A',c,hb.range hl h1,h2.mono hb⟩⟩
theorem GrsIn.at_{w':World}{L:List (List Nd)}(h:GrsIn w A L)(hb:Bel w w')(hk:k<L.length):
  ∃ b o A' c,A=some ⟨b,o,none⟩/\w'.rangeAt b (o+k*1) [.slice A' (L[k]).length c]/\NodesIn w A' L[k]:=by
 obtain⟨b,o,e,hl,hc⟩:=h.2 (by rintro rfl;simp at hk);obtain⟨A',c,h1,h2⟩:=hc k hk;exact⟨b,o,A',c,e,hb.range hl h1,h2⟩
theorem PoolAt.fr{w w2:World}{ob bp:Nat}{c0 c1:Value}{n:Nat}{PA TA LA:Option Addr}{cp ct cl:Nat}{P:Nat->Nat}{T:Nat->Int}{V:Nat->Value}{L:Nat->List (Int×Int)}(h:PoolAt w ob bp c0 c1 n PA TA LA cp ct cl P T V L)(hf:FrSame bp w w2)(hbo:bp<ob):PoolAt w2 ob bp c0 c1 n PA TA LA cp ct cl P T V L:=
 have a1:FrSame ob w w2:=⟨hf.size,fun b hb hl=>hf.blk b oG hl⟩
 ⟨hf.at_ h.bp (ah _),h.pa.fr (ah _) a1,h.ta.fr (ah _) a1,h.la.fr (ah _) a1,fun x hx=>((h.rows x hx).fr a1).up hf.size,h.dis⟩
theorem grs_two{G2:Option Addr}(h:Blk w b t #[.slice G1 ga.length c1,.slice G2 gb.length c2])(h1:NodesIn w G1 ga)(h2:NodesIn w G2 gb):GrsIn w (some ⟨b,0,none⟩) [ga,gb]:=
 ⟨by show 2<=vJ;decide,fun _=>⟨b,0,rfl,h.lt,fun k hk=>by
  match k,hk with
  | 0,_=>exact⟨G1,c1,(fun j v hj=>by match j,hj with|0,hj=>cases hj;exact h.cell rfl|_+1,hj=>cases hj),h1⟩
  | 1,_=>exact⟨G2,c2,(fun j v hj=>by match j,hj with|0,hj=>cases hj;exact h.cell rfl|_+1,hj=>cases hj),h2⟩⟩⟩
theorem mother_any(w:World)(hG1:NodesIn w G1 ga)(ha:Jok l fs m ga)(hm0:0<=m):Calls prog 46 #[.agg #[.slice G1 ga.length c1]] w fun e w'=>(∃ A o,DL ga [(plc ga 0).toNat] [] o/\e= .returned (.agg #[.slice A o.length o.length])/\∀ w2,FrSame w.heap.size w' w2->NodesIn w2 A (yK ga o))/\Bel w w':=by
 have hjl:=ha.lt (aM _) hm0;have a4:=ha.v.gx.pos;obtain⟨oM,hoM⟩:=ha.v.gx.toGY.dl hjl;have hpa:=Fv ha (aM _) hm0;refine enT func46 ntmps46 rfl rfl fun hB=>?_;refine zn2 ?_;refine xy (v:= .agg #[_]) (cs:=#[_]) rfl rfl (fun b1 w1 hb1 s1 hr=>?_);have lo1:=hB.ob hr;refine qW (cs:=#[.slice none 0 0]) yz rfl (fun b2 w2 a1 s2 hr=>?_);have:=hb1.ob hr;have lo2:=hB.u.ob hr;refine zn3 ?_;replace hB:=hB.tr0 (s1.t s2);have hsz:=Bel.size hB;have z2:=a1.lt;refine Qz [] [4] [0,1,2,3,4] rfl (fun w3 s3=>?_);have a2:=s3;refine zn2 ?_;replace hB:=hB.tr0 s3;refine hcl (fun v wv=>v= .int .i64 (((plc ga 0).toNat:Nat):Int)) rfl kR (Mw G1 c1 fs.length ga 0 0 w3 (hG1.mono hB) a4 (Ix ha.v.lo 0 a4) (by have:=ha.v.gok.few 0 a4;have:=ha.v.few;omega)) rfl (fun e' w2 hr=>?_) (fun v5 w4 s4 d5=>?_)
 ·obtain⟨rfl,s5⟩:=hr;exact⟨_,rfl,sB s5,(congrArg (Value.int .i64) hpa)⟩
 have e5:=d5;subst e5;replace hB:=hB.tr0 s4;refine hcl (fun v wv=>∃ AZ lz hz,v= .agg #[.slice AZ oM.length oM.length]/\Kept lz hz wv (fun wq=>NodesIn wq AZ (yK ga oM))/\w2.heap.size<=lz) rfl kR (from_any G1 c1 l.length fs.length ga (plc ga 0).toNat w4 (hG1.mono hB) ha.v.gok (by have:=ha.v.few;omega) hjl) rfl (fun e' w2 hr=>?_) (fun v6 w5 s6 d6=>?_)
 ·obtain⟨⟨o9,A9,hd9,_,rfl,hN9⟩,s7⟩:=hr;replace a2:=a2.t s4;exact⟨_,rfl,sB s7,(by obtain rfl:=DL.det hd9 hoM;exact⟨A9,_,_,rfl,Q7 hN9,a2.size⟩)⟩
 obtain⟨AZ,lz,hz,e6,a3,hlz⟩:=d6;subst e6;refine h1 rfl ?_;refine zZ a1.u rfl rfl zY rfl qz (fun w6 hq s8=>?_);have hsH4:=s8;replace a1:=hq;refine zJ (D0 [] (zn3 ?_));refine xK (.inl rfl) rfl (zW U30 rfl rfl a1.range0 zY) ?_;replace a3:=a3.tr1 s8 oG;exact⟨⟨AZ,oM,hoM,rfl,V4 a3 (nLT hsz hlz)⟩,hB.u⟩
theorem join_any(AT AF AR AX AS:Option Addr)(ct cf cr cx cst:Nat)(l:List Ty)(fs:List Ft)(rs:List Rl)(xs:List Lx)(st:List Nd){bu bd kc ri:Nat}{KA:Option Addr}{ks:List (List Nd)}(w:World)(bg:TabIn w)(hTI:TableIn w l bu bd)(hRu:RulesIn w AR rs)(hri:ri<rs.length)(hJ:Jok l fs (rs[ri]).kids (rs[ri]).gr)(hK:GrsIn w KA ks)(hkv:∀ k∈ks,GV l fs k)(hkl:(ks.length:Int)=(rs[ri]).kids):Calls prog 25 #[.agg #[.slice AT l.length ct,.slice AF fs.length cf,.slice AR rs.length cr,.slice AX xs.length cx,.slice AS st.length cst],.agg #[.slice (some ⟨bu,0,none⟩) l.length l.length,.slice (some ⟨bd,0,none⟩) l.length l.length],.int .i64 (ri:Nat),.slice KA ks.length kc] w fun e w'=>(∃ A Y ok c,e= .returned (.tuple #[.agg #[.slice A (List.length Y) c],.bool ok])/\(∀ w2,FrSame w.heap.size w' w2->NodesIn w2 A Y)/\J3 l (rs[ri]).gr 0 ks ok Y)/\Bel w w':=by
 have hrx:=hRu.1;have hkx:=hK.1;unfold vJ at hrx hkx;obtain⟨rb,ro,Gk,cgk,Sk,csk,Bk,mk,hAR,hrb,bc,hGk,_,_⟩:=hRu.at_ (Below.refl _ _) hri;have hk0:0<=(rs[ri]).kids:=by omega
 refine enT func25 ntmps25 rfl rfl fun hB=>?_;refine zn2 ?_;refine xy (v:= .agg #[_,_,_,_,_]) (cs:=#[_,_,_,_,_]) rfl rfl (fun b4 w1 bf s1 hr=>?_);have lo4:=hB.ob hr;refine xy (v:= .agg #[_,_]) (cs:=#[_,_]) rfl rfl (fun b5 w2 a9 s2 hr=>?_);have:=bf.ob hr;have lo5:=hB.u.ob hr;refine qW (cs:=#[.slice none 0 0]) yz rfl (fun b8 w3 a3 s3 hr=>?_);have:=bf.u.ob hr;have:=a9.ob hr;have lo8:=hB.u.ob hr;refine zn4 ?_;subst hAR;refine zn6 ?_;replace hB:=hB.tr0 (s1.t (s2.t s3));refine wl (qw U30 rfl rfl (hB.range hrb (xs:=[.slice Gk (rs[ri]).gr.length cgk]) (fun j v hj=>by match j,hj with|0,hj=>cases hj;exact bc 1 _ rfl|_+1,hj=>cases hj)) zY) ?_;refine yx (cs:=#[.slice none 0 0]) yz rfl (fun _=>rfl) (fun _=>rfl) zY rfl qz (fun ab w5 a1 s4 hr=>?_);have:=bf.u.ob hr;have:=a9.u.ob hr;have:=a3.ob hr;have ac:=hB.ob hr;refine jq ?_;refine qx (rg [9,11,12,13] 22 18) (fun m g w'=>∃(i:Nat) (x:List Nd) (Ax:Option Addr) (cq:Nat) (wX:World),i<=ks.length/\m=ks.length-i/\g 22= .int .i64 i/\Bel w w'/\Blk w' b5 74 #[.slice (some ⟨bu,0,none⟩) l.length l.length,.slice (some ⟨bd,0,none⟩) l.length l.length]/\Blk w' b8 30 #[.slice none 0 0]/\Blk w' ab 30 #[.slice Ax (List.length x) cq]/\ChG (fun g=>g=ab) wX w'/\(∀ w2,ChG (fun g=>g=ab) wX w2->NodesIn w2 Ax x)/\Jok l fs (rs[ri]).kids x/\(∀ ok Y,J3 l x i (ks.drop i) ok Y->J3 l (rs[ri]).gr 0 ks ok Y)) (ks.length) ?_ (fun m g3 w6 hI=>?_)
 ·replace a9:=a9.tr0 (s3.t s4);replace hB:=hB.tr0 s4;replace a3:=a3.tr0 s4;exact⟨0,_,Gk,cgk,_,ag _,rfl,rfl,hB,a9,a3,a1,ChG.refl _ _,fun w2 h=>hGk.mono (hB.chG h (fun g hg=>by rw[show g=ab from hg];exact ac)),hJ,fun ok Y h=>h⟩
 obtain⟨i,x,Ax,cq,wX,hi,hm,h22,hB,a9,a3,a1,a5,hNX,bi,be⟩:=hI;refine zX 22 _ h22 nu (zn6 ?_);refine zQ rfl (fun c23=>?_) (fun c23=>?_)
 ·have b3:i<ks.length:=by omega
  obtain⟨gb,go,GA,gc,rfl,hgr,hgn⟩:=hK.at_ hB b3;have hdr:ks.drop i=ks[i]::ks.drop (i+1):=List.drop_eq_getElem_cons b3;refine zn7 ?_;refine wl (x9 (i:=i) U33 zY rfl rfl b3 rfl) (wl (qw U30 rfl rfl hgr zY) ?_);refine qW (cs:=#[.slice none 0 0]) yz rfl (fun b12 w7 b6 s5 hr=>?_);have:=a9.ob hr;have:=a3.ob hr;have:=a1.ob hr;have a4:=(nLT a5.size hr)
  have b1:=hB.ob hr;replace a5:=a5.st s5 (by simp);refine waI rfl ?_;refine zZ b6 rfl rfl zY rfl qz (fun w8 hq s6=>?_);replace a5:=a5.st s6 (fun g hg=>by rw[List.mem_singleton.1 hg];first|exact .inl rfl|exact .inr a4);replace b6:=hq;refine ZV ?_;replace a1:=(a1.tr0 s5).tr1 s6 oG;have z10:=a1.lt;refine qq kR (step_any (m:=(rs[ri]).kids) _ (bg.mono hB.u) (hTI.mono hB.u) (hNX _ a5) (hgn.mono hB.u) bi (hkv _ (am b3)) oG oG) rfl (fun e' w9 hr=>?_);obtain⟨⟨A3,X3,ok3,rfl,hN3,hS3⟩,s7⟩:=hr;replace s7:=sB s7;replace a5:=a5.st s7 (by simp);have b7:∀ w2,ChG (fun g=>g=ab) w9 w2->NodesIn w2 A3 X3:=fun w2 h=>hN3 w2 ⟨h.size,fun k h1 h2=>h.blk k h2 (fun e=>by rw[show k=ab from e]at h1;omega)⟩
  obtain⟨wX3,b2⟩:∃ z,z=w9:=⟨_,rfl⟩
  have ao:ChG (fun g=>g=ab) wX3 w9:=by rw[b2];exact ChG.refl _ _
  rw[<- b2]at b7;have a2:ab=ab:=rfl;refine⟨_,rfl,?_⟩;refine wmT rfl (wl (vY (v:=_) rfl rfl) (wl (vY (v:=_) rfl rfl) ?_));refine zZ a1.u rfl rfl zY rfl qz (fun w10 hq s8=>?_);replace ao:=ao.st s8 (fun g hg=>by rw[List.mem_singleton.1 hg];first|exact .inl rfl|exact .inr a2);replace a1:=hq;refine zn9 ?_;refine jQ rfl (fun bj=>?_) (fun bj=>?_)
  ·have an:ok3=false:=by simpa using bj
   have hZ:=step_no hS3 an;refine zn2 ?_;refine wl (gQ (vs:=#[]) (cs:=#[.slice none 0 0]) (by simp) kR) ?_;refine zZ a3.u rfl rfl zY rfl qz (fun w11 hq s9=>?_);replace a3:=hq;refine zn9 ?_;refine QK (.inl rfl) rfl (zW U30 rfl rfl a3.range0 zY) rfl ?_;replace hB:=((((hB.tr0 s5).tr1 s6 b1).tr0 s7).tr1 s8 ac).tr1 s9 lo8;exact⟨⟨none,[],false,0,rfl,fun w2 _=>ZX w2 none,be false [] (by rw[hdr];exact join_no hZ)⟩,hB⟩
  have an:ok3=true:=by simpa using bj
  obtain⟨hU3,h60⟩:=HY hS3 an;refine zn7 ?_;refine x8 (ks.length-(i+1)) oG agA ?_;replace hB:=(((hB.tr0 s5).tr1 s6 b1).tr0 s7).tr1 s8 ac;replace a9:=(((a9.tr0 s5).tr1 s6 oG).tr0 s7).tr1 s8 oG;replace a3:=(((a3.tr0 s5).tr1 s6 oG).tr0 s7).tr1 s8 oG;exact⟨i+1,X3,A3,_,wX3,by omega,rfl,rfl,hB,a9,a3,a1,ao,b7,bi.step (hkv _ (am b3)) oG oG hU3 h60,fun ok Y h=>be ok Y (by rw[hdr];exact .inl ⟨X3,hU3,h60,h⟩)⟩
 have hie:i=ks.length:=by omega
 have hdn:ks.drop i= []:=List.drop_eq_nil_of_le oG;refine zn8 ?_;have z8:=a3.lt;have bb:=Bel.size hB;refine qq kR (mother_any _ (hNX _ a5) bi hk0) rfl (fun e' w12 hr=>?_);obtain⟨⟨AY,oY,hdY,rfl,hNY⟩,b9⟩:=hr;replace b9:=sB b9;replace a5:=a5.st b9 (by simp);have bh:=Q7 hNY;refine⟨_,rfl,?_⟩;refine zZ a3.u rfl rfl zY rfl qz (fun w13 hq s11=>?_);replace a3:=hq;refine zn4 ?_;refine QK (.inl rfl) rfl (zW U30 rfl rfl a3.range0 zY) rfl ?_;replace hB:=(hB.tr0 b9).tr1 s11 lo8;replace bh:=bh.tr1 s11 oG;exact⟨⟨AY,yK x oY,true,_,by rw[uY];rfl,V4 bh bb,be true _ (by rw[hdn];exact⟨rfl,oY,hdY,rfl⟩)⟩,hB⟩
section
def zSm:Array Value:=#[.string ⟨#[]⟩,.slice none 0 0]
def zTm:Array Value:=cD
def Sp(ts:List Nat)(t:Nat)(cs:Array Value):Prop:=t∈ts\/(t=41/\cs=zSm)\/(t=44/\cs=zTm)
def Kp(X:List Nat)(n:Nat)(ts:List Nat)(w w2:World):Prop:=w.heap.size<=w2.heap.size/\∀ k,k<n->w2.heap[k]? =w.heap[k]?\/k∈X\/∃ t cs,Blk w k t cs/\Sp ts t cs
section kp
variable {X Y:List Nat} {n m:Nat} {ts us:List Nat} {w w1 w2:World} {P Q:World->Prop}
theorem Kp.refl(X:List Nat)(n:Nat)(ts:List Nat)(w:World):Kp X n ts w w:=⟨ah _,fun _ _=> .inl rfl⟩
theorem Kp.trans(h:Kp X n ts w w1)(g:Kp X n ts w1 w2):Kp X n ts w w2:=⟨nLT h.1 g.1,fun k hk=>by
 rcases h.2 k hk with e|e
 ·rcases g.2 k hk with e2|e2|⟨t,cs,e2,hs⟩
  ·exact .inl (e2.trans e)
  ·exact .inr (.inl e2)
  ·exact .inr (.inr ⟨t,cs,e.symm.trans e2,hs⟩)
 ·exact .inr e⟩
theorem Kp.of{Z:List Nat}(hs:Same Z w w1)(hn:n<=w.heap.size)(hx:∀ g∈Z,n<=g\/g∈X\/∃ t cs,Blk w g t cs/\Sp ts t cs):Kp X n ts w w1:=⟨hs.size,fun k hk=>by
 by_cases e:k∈Z
 ·rcases hx k e with h|h
  ·omega
  ·exact .inr h
 ·exact .inl (hs.blk k oG e)⟩
structure Fz(X:List Nat)(n:Nat)(ts:List Nat)(w:World)(P:World->Prop):Prop where
 le:n<=w.heap.size
 all:∀ w2,Kp X n ts w w2->P w2
theorem Fz.step(h:Fz X n ts w P)(hk:Kp X n ts w w1):Fz X n ts w1 P:=⟨nLT h.le hk.1,fun w2 h2=>h.all w2 (hk.trans h2)⟩
theorem Fz.now(h:Fz X n ts w P):P w:=h.all w (Kp.refl _ _ _ _)
theorem Fz.trX{Z:List Nat}(h:Fz X n ts w P)(hs:Same Z w w1)(hx:∀ g∈Z,n<=g\/g∈X\/∃ t cs,Blk w g t cs/\Sp ts t cs):Fz X n ts w1 P:=h.step (Kp.of hs h.le hx)
theorem Fz.tr0(h:Fz X n ts w P)(hs:Same [] w w1):Fz X n ts w1 P:=h.trX hs (by simp)
theorem Fz.bel(h:Fz X n ts w P)(hb:Bel w w1):Fz X n ts w1 P:=h.tr0 (sB hb)
theorem Fz.in1(h:Fz X n ts w P)(hs:Same [b] w w1)(hb:b∈X):Fz X n ts w1 P:=h.trX hs (fun g hg=> .inr (.inl (by rw[List.mem_singleton.1 hg];exact hb)))
theorem Fz.sp1(h:Fz X n ts w P)(hs:Same [b] w w1)(hb:Blk w b t cs)(ht:Sp ts t cs):Fz X n ts w1 P:=h.trX hs (fun g hg=> .inr (.inr ⟨t,cs,by rw[List.mem_singleton.1 hg];exact hb,ht⟩))
theorem sp_tm{ts:List Nat}:Sp ts 44 cD:= .inr (.inr ⟨rfl,rfl⟩)
theorem Fz.free(h:Fz X n ts w P)(hs:Same [b] w w1)(hb:Blk w b t cs)(ht:Sp ts t cs):Fz (b::X) n ts w1 P:=⟨nLT h.le hs.size,fun w2 h2=>h.all w2 ⟨nLT hs.size h2.1,fun k hk=>by
 by_cases e:k=b
 ·grind
 have e1:=hs.blk k (nLL hk h.le) (by simpa using e)
 rcases h2.2 k hk with e2|e2|⟨t',cs',e2,hs2⟩
 ·grind
 ·grind
 ·exact .inr (.inr ⟨t',cs',e1.symm.trans e2,hs2⟩)⟩⟩
theorem Fz.mono(h:Fz X n ts w P)(hm:n<=m)(hw:m<=w.heap.size):Fz X m ts w P:=⟨hw,fun w2 h2=>h.all w2 ⟨h2.1,fun k hk=>h2.2 k oG⟩⟩
theorem Fz.up(h:Fz X n ts w P):Fz X w.heap.size ts w P:=h.mono h.le (ah _)
theorem Fz.less(h:Fz Y n ts w P)(hs:∀ x∈X,x∈Y):Fz X n ts w P:=⟨h.le,fun w2 h2=>h.all w2 ⟨h2.1,fun k hk=>by
 rcases h2.2 k hk with e|e|e
 ·exact .inl e
 ·exact .inr (.inl (hs k e))
 ·exact .inr (.inr e)⟩⟩
theorem Fz.addX(h:Fz X n ts w P)(hy:∀ y∈Y,y∈X\/n<=y):Fz Y n ts w P:=⟨h.le,fun w2 h2=>h.all w2 ⟨h2.1,fun k hk=>by
 rcases h2.2 k hk with e|e|e
 ·exact .inl e
 ·rcases hy k e with h3|h3
  ·exact .inr (.inl h3)
  ·omega
 ·exact .inr (.inr e)⟩⟩
theorem Fz.nil(h:Fz X n ts w P):Fz [] n ts w P:=h.less (by simp)
theorem Fz.sub(h:Fz X n us w P)(hs:∀ t∈ts,t∈us):Fz X n ts w P:=⟨h.le,fun w2 h2=>h.all w2 ⟨h2.1,fun k hk=>by
 rcases h2.2 k hk with e|e|⟨t,cs,r,q⟩
 ·exact .inl e
 ·grind
 ·refine .inr (.inr ⟨t,cs,r,?_⟩)
  rcases q with q|q
  ·exact .inl (hs t q)
  ·exact .inr q⟩⟩
theorem Fz.imp(h:Fz X n ts w P)(hi:∀ w,P w->Q w):Fz X n ts w Q:=⟨h.le,fun w2 h2=>hi w2 (h.all w2 h2)⟩
theorem Fz.and(h:Fz X n ts w P)(g:Fz X m ts w Q):Fz X w.heap.size ts w (fun w=>P w/\Q w):=⟨ah _,fun w2 h2=>⟨h.up.all w2 h2,g.up.all w2 h2⟩⟩
theorem Fz.triv(X:List Nat)(w:World)(ts:List Nat)(h:∀ w,P w):Fz X w.heap.size ts w P:=⟨ah _,fun w2 _=>h w2⟩
theorem Fz.blk(h:Blk w b t cs)(hx:b∉X)(ht:¬Sp ts t cs):Fz X w.heap.size ts w (fun w=>Blk w b t cs):=⟨ah _,fun w2 h2=>by
 rcases h2.2 b h.lt with e|e|⟨t',cs',e,hs⟩
 ·exact e.trans h
 ·exact absurd e hx
 ·have he:(some (Obj.cells cs t (0,0)))=some (.cells cs' t' (0,0)):=h.symm.trans e
  injection he with he
  injection he with e1 e2
  subst e1;subst e2
  exact absurd hs ht⟩
end kp
def TS:List Nat:=[50,46,32]
def SmD(X:List Nat)(τ:Ts)(w:World)(v:Value):Prop:=∃ A c n,v= .agg #[.string τ.sm.base,.slice A τ.sm.args.length c]/\Fz X n TS w (fun w=>SimsIn w A τ.sm.args)
def TmD(X:List Nat)(x:Tv)(w:World)(v:Value):Prop:=∃ S cs B cb n,v= .agg #[.int .i64 x.tm.kind,.string x.tm.name,.int .i64 x.tm.index,.string x.tm.type.base,.slice S x.tm.type.args.length cs,.slice B x.tm.args.length cb]/\Fz X n TS w (fun w=>SimsIn w S x.tm.type.args/\TmsIn w B x.tm.args)
theorem SmD.tr0{X:List Nat}{τ:Ts}{w w1:World}{v:Value}(h:SmD X τ w v)(hs:Same [] w w1):SmD X τ w1 v:=by
 obtain⟨A,c,n,e,hz⟩:=h;exact⟨A,c,n,e,hz.tr0 hs⟩
theorem TmD.tr0{X:List Nat}{x:Tv}{w w1:World}{v:Value}(h:TmD X x w v)(hs:Same [] w w1):TmD X x w1 v:=by
 obtain⟨A,c,B,m,n,e,hz⟩:=h;exact⟨A,c,B,m,n,e,hz.tr0 hs⟩
theorem sims_two{s1 s2:Sm}(h:Blk w b t #[.string s1.base,.slice A1 s1.args.length c1,.string s2.base,.slice A2 s2.args.length c2])(h1:SimsIn w A1 s1.args)(h2:SimsIn w A2 s2.args):SimsIn w (some ⟨b,0,none⟩) [s1,s2]:=by
 cases s1 with
 | mk b1 a1=>
  cases s2 with
  | mk b2 a2=>
   refine .more (by show 2<=vJ;decide) h.lt (fun k hk=>?_)
   match k,hk with
   | 0,_=>exact SimAt.mk (A:=A1) (c:=c1) h.lt (h.range (fun j v hj=>by match j,hj with|0,hj=>cases hj;rfl|1,hj=>cases hj;rfl|_+2,hj=>cases hj)) h1
   | 1,_=>exact SimAt.mk (A:=A2) (c:=c2) h.lt (h.range (fun j v hj=>by match j,hj with|0,hj=>cases hj;rfl|1,hj=>cases hj;rfl|_+2,hj=>cases hj)) h2
def tmC(t:Tm)(S B:Option Addr)(cs cb:Nat):List Value:=[.int .i64 t.kind,.string t.name,.int .i64 t.index,.string t.type.base,.slice S t.type.args.length cs,.slice B t.args.length cb]
theorem tm_at{o:Nat}{t:Tm}{B:Option Addr}{cs:Nat}(hb:b<w.heap.size)(h:w.rangeAt b o (tmC t S B cs cb))(h1:SimsIn w S t.type.args)(h2:TmsIn w B t.args):TmAt w b o t:=by
 cases t with
 | mk k nm i s a=>exact .mk hb h h1 h2
theorem Iv{o:Nat}{l:List Value}(h:Blk w b t cs)(ho:∀ j v,l[j]? =some v->cs[o+j]? =some v):w.rangeAt b o l:=h.range (fun j v hj=>ho j v hj)
theorem tms_one{x:Tm}{B:Option Addr}{cs:Nat}(h:Blk w b t (tmC x S B cs cb).toArray)(h1:SimsIn w S x.type.args)(h2:TmsIn w B x.args):TmsIn w (some ⟨b,0,none⟩) [x]:=
 .more (by show 1<=vJ;decide) h.lt (fun k hk=>by
  match k,hk with
  | 0,_=>exact tm_at h.lt (Iv h (fun j v hj=>by simpa using hj)) h1 h2)
theorem tms_two{x y:Tm}{B S' B':Option Addr}{cs cs' cb':Nat}(h:Blk w b t (tmC x S B cs cb++tmC y S' B' cs' cb').toArray)(h1:SimsIn w S x.type.args)(h2:TmsIn w B x.args)(h3:SimsIn w S' y.type.args)(h4:TmsIn w B' y.args):TmsIn w (some ⟨b,0,none⟩) [x,y]:=
 .more (by show 2<=vJ;decide) h.lt (fun k hk=>by
  match k,hk with
  | 0,_=>exact tm_at h.lt (Iv h (fun j v hj=>by
   have hl:j<6:=(au.1 hj).1
   rw[List.getElem?_toArray,List.getElem?_append_left (by show 0+j<6;omega),Nat.zero_add];exact hj)) h1 h2
  | 1,_=>exact tm_at h.lt (Iv h (fun j v hj=>by
   rw[List.getElem?_toArray,List.getElem?_append_right (by show 6<=0+1*6+j;omega),show 0+1*6+j-(tmC x S B cs cb).length=j by show 0+1*6+j-6=j;omega];exact hj)) h3 h4)
theorem tv_kind(x:Tv):x.tm.kind≠0:=by cases x<;>simp[Tv.tm,Tm.kind]
theorem nsp_sm{s1 s2:Sm}{m1 m2:Nat}:¬Sp TS 41 #[.string s1.base,.slice A1 m1 c1,.string s2.base,.slice A2 m2 c2]:=by
 rintro (h|⟨_,h⟩|⟨h,_⟩)
 ·revert h;decide
 ·exact absurd (show (4:Nat)=2 from congrArg Array.size h) dE
 ·revert h;decide
theorem nsp_tm{x:Tv}{l:List Value}:¬Sp TS 44 (Value.int .i64 x.tm.kind::l).toArray:=by
 rintro (h|⟨h,_⟩|⟨_,h⟩)
 ·revert h;decide
 ·revert h;decide
 ·have h2:=congrArg (fun a:Array Value=>a[0]?) h
  simp[zTm]at h2;exact tv_kind x h2
section mk
variable {X:List Nat} {w:World}
theorem SmD.two{a b:Ts}{g:Nat}{n1 n2:Nat}(h:Blk w g 41 #[.string a.sm.base,.slice A1 a.sm.args.length c1,.string b.sm.base,.slice A2 b.sm.args.length c2])(hg:g∉X)(h1:Fz X n1 TS w (fun w=>SimsIn w A1 a.sm.args))(h2:Fz X n2 TS w (fun w=>SimsIn w A2 b.sm.args)):SmD X (.f a b) w (.agg #[.string ⟨#[]⟩,.slice (some ⟨g,0,none⟩) 2 2]):=
 ⟨_,2,_,rfl,((Fz.blk h hg nsp_sm).and (h1.and h2)).imp (fun _ h=>sims_two h.1 h.2.1 h.2.2)⟩
theorem TmD.con(nm:ByteArray){τ:Ts}{A:Option Addr}{c n:Nat}(h:Fz X n TS w (fun w=>SimsIn w A τ.sm.args)):TmD X (.con nm τ) w (.agg #[.int .i64 1,.string nm,.int .i64 0,.string τ.sm.base,.slice A τ.sm.args.length c,.slice none 0 0]):=
 ⟨A,c,none,0,n,rfl,h.imp (fun _ h=>⟨h,.nil⟩)⟩
theorem TmD.var(i:Nat):TmD X (.var i) w (.agg #[.int .i64 2,.string ⟨#[]⟩,.int .i64 i,.string ⟨#[]⟩,.slice none 0 0,.slice none 0 0]):=
 ⟨none,0,none,0,w.heap.size,rfl,Fz.triv X w TS (fun _=>⟨.nil,.nil⟩)⟩
theorem TmD.abs{τ:Ts}{x:Tv}{g:Nat}{A S B:Option Addr}{c n cs cb m:Nat}(h:Fz X n TS w (fun w=>SimsIn w A τ.sm.args))(hg:Blk w g 44 #[.int .i64 x.tm.kind,.string x.tm.name,.int .i64 x.tm.index,.string x.tm.type.base,.slice S x.tm.type.args.length cs,.slice B x.tm.args.length cb])(hgx:g∉X)(hx:Fz X m TS w (fun w=>SimsIn w S x.tm.type.args/\TmsIn w B x.tm.args)):TmD X (.abs τ x) w (.agg #[.int .i64 3,.string ⟨#[]⟩,.int .i64 0,.string τ.sm.base,.slice A τ.sm.args.length c,.slice (some ⟨g,0,none⟩) 1 1]):=
 ⟨A,c,_,1,_,rfl,((Fz.blk hg hgx nsp_tm).and (h.and hx)).imp (fun _ h=>⟨h.2.1,tms_one h.1 h.2.2.1 h.2.2.2⟩)⟩
theorem TmD.app{x y:Tv}{g:Nat}{S B S' B':Option Addr}{cs cb m cs' cb' m':Nat}(hg:Blk w g 44 #[.int .i64 x.tm.kind,.string x.tm.name,.int .i64 x.tm.index,.string x.tm.type.base,.slice S x.tm.type.args.length cs,.slice B x.tm.args.length cb,.int .i64 y.tm.kind,.string y.tm.name,.int .i64 y.tm.index,.string y.tm.type.base,.slice S' y.tm.type.args.length cs',.slice B' y.tm.args.length cb'])(hgx:g∉X)(hx:Fz X m TS w (fun w=>SimsIn w S x.tm.type.args/\TmsIn w B x.tm.args))(hy:Fz X m' TS w (fun w=>SimsIn w S' y.tm.type.args/\TmsIn w B' y.tm.args)):TmD X (.app x y) w (.agg #[.int .i64 4,.string ⟨#[]⟩,.int .i64 0,.string ⟨#[]⟩,.slice none 0 0,.slice (some ⟨g,0,none⟩) 2 2]):=
 ⟨none,0,_,2,_,rfl,((Fz.blk hg hgx nsp_tm).and (hx.and hy)).imp (fun _ h=>⟨.nil,tms_two h.1 h.2.1.1 h.2.1.2 h.2.2.1 h.2.2.2⟩)⟩
end mk
inductive TmCs(n:Nat)(w:World):List Tv->List Value->Prop
 | nil:TmCs n w [] []
 | cons {x:Tv} {S B:Option Addr} {cs cb:Nat} {l:List Tv} {vs:List Value} (h:Fz [] n TS w (fun w=>SimsIn w S x.tm.type.args/\TmsIn w B x.tm.args)) (t:TmCs n w l vs):TmCs n w (x::l) (.int .i64 x.tm.kind:: .string x.tm.name:: .int .i64 x.tm.index:: .string x.tm.type.base:: .slice S x.tm.type.args.length cs:: .slice B x.tm.args.length cb::vs)
theorem TmCs.tr0{n:Nat}{w w1:World}{l:List Tv}{vs:List Value}(h:TmCs n w l vs)(hs:Same [] w w1):TmCs n w1 l vs:=by
 induction h with
 | nil=>exact .nil
 | cons h _ ih=>exact .cons (h.tr0 hs) ih
theorem TmCs.get{l:List Tv}(h:TmCs n w l vs):∀ k (hk:k<l.length),∃ S B cs cb,(∀ j v,(tmC (l[k]).tm S B cs cb)[j]? =some v->vs[k*6+j]? =some v)/\Fz [] n TS w (fun w=>SimsIn w S (l[k]).tm.type.args/\TmsIn w B (l[k]).tm.args):=by
 induction h with
 | nil=>intro k hk;simp at hk
 | @cons x S B cs cb l vs h t ih=>
  intro k hk
  match k,hk with
  | 0,_=>
   refine⟨S,B,cs,cb,fun j v hj=>?_,h⟩
   match j,hj with
   | 0,hj=>exact hj
   | 1,hj=>exact hj
   | 2,hj=>exact hj
   | 3,hj=>exact hj
   | 4,hj=>exact hj
   | 5,hj=>exact hj
   | _+6,hj=>cases hj
  | k+1,hk=>
   obtain⟨S',B',cs',cb',h1,h2⟩:=ih k (by simpa using hk);refine⟨S',B',cs',cb',fun j v hj=>?_,h2⟩
   grind
theorem TmCs.at_{l:List Tv}(h:TmCs n w l vs)(hb:Blk w b t vs.toArray)(hk:k<l.length):∃ S B cs cb,w.rangeAt b (0+k*6) [.int .i64 (l[k]).tm.kind,.string (l[k]).tm.name,.int .i64 (l[k]).tm.index,.string (l[k]).tm.type.base,.slice S (l[k]).tm.type.args.length cs,.slice B (l[k]).tm.args.length cb]/\Fz [] n TS w (fun w=>SimsIn w S (l[k]).tm.type.args/\TmsIn w B (l[k]).tm.args):=by
 obtain⟨S,B,cs,cb,h1,h2⟩:=h.get k hk;exact⟨S,B,cs,cb,Iv hb (fun j v hj=>by rw[List.getElem?_toArray,Nat.zero_add];exact h1 j v hj),h2⟩
end
def RowsIn(w:World)(A:Option Addr)(rs:List (List Int)):Prop:=
 rs.length<=1000/\(∀ r∈rs,0<r.length/\r.length<=1000)/\(rs≠[]->∃ b o,A=some ⟨b,o,none⟩/\b<w.heap.size/\∀ k (h:k<rs.length),∃ A' c,w.cell? ⟨b,o+k*1,none⟩=some (.slice A' (rs[k]).length c)/\IntsIn w A' rs[k])
theorem RowsIn.at_{w':World}{rs:List (List Int)}(h:RowsIn w A rs)(hb:Bel w w')(hk:k<rs.length):
  ∃ b o A' c,A=some ⟨b,o,none⟩/\w'.cell? ⟨b,o+k*1,none⟩=some (.slice A' (rs[k]).length c)/\IntsIn w A' rs[k]:=by
 obtain⟨b,o,e,hl,hc⟩:=h.2.2 (by rintro rfl;simp at hk);obtain⟨A',c,h1,h2⟩:=hc k hk;exact⟨b,o,A',c,e,hb.cell hl h1,h2⟩
theorem RowsIn.mono{w w':World}{A:Option Addr}{rs:List (List Int)}(h:RowsIn w A rs)(hb:Bel w w'):RowsIn w' A rs:=
 ⟨h.1,h.2.1,fun hn=>by
  obtain⟨b,o,e,hl,hc⟩:=h.2.2 hn
  refine⟨b,o,e,nLL hl hb.size,fun k hk=>?_⟩
  obtain⟨A',c,h1,h2⟩:=hc k hk
  exact⟨A',c,hb.cell hl h1,h2.mono hb⟩⟩
def V7:List Int->List (Int×Int)
 | a::b::t=>(a,b)::V7 t
 | _=>[]
def K5(r:List Int):Nd:=⟨r.getD 0 0,V7 (r.drop 1)⟩
theorem pairs_end{r:List Int}{i:Nat}(h:r.length<=i+1):V7 (r.drop i)= []:=by
 have hl:(r.drop i).length<=1:=by simp;omega
 match e:r.drop i with
 | []=>rfl
 | [a]=>rfl
 | a::b::t=>rw[e]at hl;simp at hl
theorem pairs_step{r:List Int}{i:Nat}(h:i+1<r.length):V7 (r.drop i)=(r[i],r[i+1])::V7 (r.drop (i+2)):=by
 rw[List.drop_eq_getElem_cons (show i<r.length by omega),List.drop_eq_getElem_cons h];rfl
def lnC(ls:List (Int×Int)):List Value:=ls.flatMap (fun x=>[.int .i64 x.1,.int .i64 x.2])
theorem lnC_snoc(ls:List (Int×Int))(a b:Int):lnC ls++[.int .i64 a,.int .i64 b]=lnC (ls++[(a,b)]):=by simp[lnC]
theorem W3(ls:List (Int×Int)):(lnC ls).length=ls.length*2:=by
 induction ls with
 | nil=>rfl
 | cons a r ih=>rw[show lnC (a::r)= .int .i64 a.1:: .int .i64 a.2::lnC r from rfl];simp only[List.length_cons,ih];omega
theorem lnC_get:∀ {ls:List (Int×Int)} {k:Nat} (hk:k<ls.length),(lnC ls)[k*2]? =some (.int .i64 (ls[k]).1)/\(lnC ls)[k*2+1]? =some (.int .i64 (ls[k]).2)
 | a::r,0,_=>⟨rfl,rfl⟩
 | a::r,k+1,hk=>by
  have:=lnC_get (ls:=r) (k:=k) (by simpa using hk)
  rw[show (k+1)*2=k*2+1+1 by omega];exact this
theorem gof_links{ls:List (Int×Int)}(ho:Own w B 83 2 A k cap (lnC ls)):LinksIn w A ls:=by
 have hlk:ls.length=k:=by have h1:=ho.len;rw[W3]at h1;omega
 refine⟨by rw[hlk];exact ho.max,fun hn=>?_⟩;obtain⟨g,e,hb,hg,hc⟩:=ho.cell (by intro h0;have:=W3 ls;rw[h0]at this;cases ls with|nil=>exact hn rfl|cons a r=>simp only[List.length_nil,List.length_cons]at this;omega);refine⟨g,0,e,hg,fun j hj=>?_⟩;obtain⟨h1,h2⟩:=lnC_get hj;intro i v hi
 match i,hi with
 | 0,hi=>cases hi;have:=hc _ _ h1;simpa using this
 | 1,hi=>cases hi;have:=hc _ _ h2;simpa using this
 | _+2,hi=>cases hi
theorem Own.fz{e sz:Nat}{ts:List Nat}{xs:List Value}(ho:Own w B e sz A k cap xs)(ht:∀ cs,¬Sp ts e cs):Fz [] w.heap.size ts w (fun w=>Own w B e sz A k cap xs):=⟨ah _,fun w2 h2=>by
 refine⟨ho.1,?_⟩
 rcases ho.2 with hn|⟨g,c,cur,hv,hb,hg,r⟩
 ·exact .inl hn
 ·refine .inr ⟨g,c,cur,hv,hb,?_,r⟩
  exact(Fz.blk (X:=[]) (ts:=ts) (show Blk w g e cur from hg) (by simp) (ht _)).all w2 h2⟩
theorem YX{base:Nat}{e:TypeId}{sz:Nat}{xs:List Value}(h:Own w base e sz A k cap xs):∀ g∈aL A,∃ cs,Blk w g e cs:=fun g hg=>by
 rcases h.2 with ⟨hn,_⟩|⟨g',c,cur,hv,hb,hgg,r⟩
 ·cases hn;cases hg
 ·cases hv
  simp only[aL,List.mem_singleton]at hg
  subst hg;exact⟨cur,hgg⟩
theorem Ok{ts:List Nat}(h:t∉ts)(h1:t≠41)(h2:t≠44)(cs:Array Value):¬Sp ts t cs:=by
 rintro (h3|⟨h3,_⟩|⟨h3,_⟩)
 ·exact h h3
 ·exact h1 h3
 ·exact h2 h3
def TS1:List Nat:=80::30::TS
inductive NdData(w:World):List Nd->List Value->Prop
 | nil:NdData w [] []
 | snoc {l:List Nd} {vs:List Value} {x:Nd} {A:Option Addr} {c:Nat} (h:NdData w l vs) (hl:LinksIn w A x.ln):NdData w (l++[x]) (vs++[.int .i64 x.ty,.slice A x.ln.length c])
theorem NdData.len{l:List Nd}(h:NdData w l vs):vs.length=l.length*2:=by
 induction h with
 | nil=>rfl
 | snoc h hl ih=>simp only[List.length_append,List.length_cons,List.length_nil,ih];omega
theorem NdData.get{l:List Nd}(h:NdData w l vs):∀ k (hk:k<l.length),∃ A c,vs[k*2]? =some (.int .i64 (l[k]).ty)/\vs[k*2+1]? =some (.slice A (l[k]).ln.length c)/\LinksIn w A (l[k]).ln:=by
 induction h with
 | nil=>intro k hk;simp at hk
 | @snoc l cs t A c h hp ih=>
  intro k hk;have a1:=h.len;by_cases e:k<l.length
  ·obtain⟨A',c',h1,h2,h3⟩:=ih k e
   refine⟨A',c',?_,?_,?_⟩
   ·rw[List.getElem?_append_left oG,h1,List.getElem_append_left e]
   ·rw[List.getElem?_append_left oG,h2,List.getElem_append_left e]
   ·rw[List.getElem_append_left e];exact h3
  ·simp only[List.length_append,List.length_cons,List.length_nil]at hk
   have ek:k=l.length:=by omega
   subst ek;have eg:(l++[t])[l.length]'(by simp)=t:=by simp
   rw[eg];refine⟨A,c,?_,?_,hp⟩
   ·rw[List.getElem?_append_right oG,a1];simp
   ·rw[List.getElem?_append_right oG,a1];simp
theorem gof_nodes{cs:List Value}{l:List Nd}(ho:Own w B 80 2 A k cap cs)(ht:NdData w l cs):NodesIn w A l:=by
 have hlk:l.length=k:=by have h1:=ho.len;have h2:=ht.len;omega
 refine⟨by rw[hlk];exact ho.max,fun hn=>?_⟩
 obtain⟨g,e,hb,hg,hc⟩:=ho.cell (by
  intro h0;have:=ht.len;rw[h0]at this;cases l with
  | nil=>exact hn rfl
  | cons a r=>simp only[List.length_nil,List.length_cons]at this;omega)
 refine⟨g,0,e,hg,fun j hj=>?_⟩;obtain⟨A',c,h1,h2,h3⟩:=ht.get j hj;refine⟨A',c,?_,h3⟩;intro i v hi
 match i,hi with
 | 0,hi=>cases hi;have:=hc _ _ h1;simpa using this
 | 1,hi=>cases hi;have:=hc _ _ h2;simpa using this
 | _+2,hi=>cases hi
theorem gof_end{cs:List Value}{l:List Nd}(ho:Own w B 80 2 A k cap cs)(ht:Fz [] n TS1 w (fun w=>NdData w l cs)):Fz [] w.heap.size TS w (fun w=>NodesIn w A l):=
 ((ho.fz (ts:=TS) (Ok dE dE dE)).and ((ht.up).sub dE)).imp (fun _ h=>gof_nodes h.1 h.2)
theorem gof_more{j:Nat}{l:List Nd}{ls:List (Int×Int)}{z:Int}(ho:Own w B 83 2 A j cap (lnC ls))(ht:Fz [] n TS1 w (fun w=>NdData w l vs)):Fz [] w.heap.size TS1 w (fun w=>NdData w (l++[⟨z,ls⟩]) (vs++[.int .i64 z,.slice A j cap])):=by
 have hlk:ls.length=j:=by have h1:=ho.len;rw[W3]at h1;omega
 subst hlk;exact((ho.fz (ts:=TS1) (Ok dE dE dE)).and ht).imp (fun _ h=> .snoc h.2 (gof_links h.1))
inductive LxData(w:World):List Lx->List Value->Prop
 | nil:LxData w [] []
 | snoc {l:List Lx} {vs:List Value} {x:Lx} {G S B:Option Addr} {gn cg cs cb:Nat} (h:LxData w l vs) (hw:x.word.size<9223372036854775807) (hn:gn=x.gr.length) (hG:NodesIn w G x.gr) (hS:SimsIn w S x.mean.type.args) (hT:TmsIn w B x.mean.args):LxData w (l++[x]) (vs++[.string x.word,.slice G gn cg,.int .i64 x.wt,.int .i64 x.mean.kind,.string x.mean.name,.int .i64 x.mean.index,.string x.mean.type.base,.slice S x.mean.type.args.length cs,.slice B x.mean.args.length cb])
def lxC(x:Lx)(G S B:Option Addr)(cg cs cb:Nat):List Value:=[.string x.word,.slice G x.gr.length cg,.int .i64 x.wt,.int .i64 x.mean.kind,.string x.mean.name,.int .i64 x.mean.index,.string x.mean.type.base,.slice S x.mean.type.args.length cs,.slice B x.mean.args.length cb]
theorem LxData.len{l:List Lx}(h:LxData w l vs):vs.length=l.length*9:=by
 induction h with
 | nil=>rfl
 | snoc h _ _ _ _ _ ih=>simp only[List.length_append,List.length_cons,List.length_nil,ih];omega
theorem LxData.get{l:List Lx}(h:LxData w l vs):∀ k (hk:k<l.length),(l[k]).word.size<9223372036854775807/\∃ G cg S cs B cb,(∀ j v,(lxC (l[k]) G S B cg cs cb)[j]? =some v->vs[k*9+j]? =some v)/\NodesIn w G (l[k]).gr/\SimsIn w S (l[k]).mean.type.args/\TmsIn w B (l[k]).mean.args:=by
 induction h with
 | nil=>intro k hk;simp at hk
 | @snoc l vs x G S B gn cg cs cb h hw hn hG hS hT ih=>
  intro k hk;have a1:=h.len;by_cases e:k<l.length
  ·rw[List.getElem_append_left e]
   obtain⟨h0,G',cg',S',cs',B',cb',h1,h2⟩:=ih k e;refine⟨h0,G',cg',S',cs',B',cb',fun j v hj=>?_,h2⟩;have hj9:j<9:=(au.1 hj).1;rw[List.getElem?_append_left oG];exact h1 j v hj
  ·simp only[List.length_append,List.length_cons,List.length_nil]at hk
   have ek:k=l.length:=by omega
   subst ek;have eg:(l++[x])[l.length]'(by simp)=x:=by simp
   rw[eg];subst hn;refine⟨hw,G,cg,S,cs,B,cb,fun j v hj=>?_,hG,hS,hT⟩;rw[List.getElem?_append_right oG,a1,Nat.add_sub_cancel_left];exact hj
theorem gof_lexes{cs:List Value}{l:List Lx}(ho:Own w B 46 9 A k cap cs)(ht:LxData w l cs):LexesIn w A l:=by
 have hlk:l.length=k:=by have h1:=ho.len;have h2:=ht.len;omega
 refine⟨by rw[hlk];exact ho.max,fun hn=>?_⟩
 obtain⟨g,e,hb,hg,hc⟩:=ho.cell (by
  intro h0;have:=ht.len;rw[h0]at this;cases l with
  | nil=>exact hn rfl
  | cons a r=>simp only[List.length_nil,List.length_cons]at this;omega)
 refine⟨g,0,e,hg,fun j hj=>?_⟩;obtain⟨h0,G,cg,S,cs',B',cb,h1,h2⟩:=ht.get j hj;refine⟨h0,G,cg,S,cs',B',cb,fun i v hi=>?_,h2⟩;have:=hc _ _ (h1 i v hi)
 simpa using this
end Go.Proofs.YtgcgnkmmbecfmaaGreatDoor
