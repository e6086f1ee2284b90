/- What these functions compute, at every world: lexrule.Step, , lexrule.Mother, lexrule.apply, lexrule.Apply, law3.plural; and plain laws. -/
import Derived.Test.YtiofaflajkgiaaaGreatDoorU
import Derived.Test.YtiofaflajkgiaaaGreatDoorZst
import Derived.Test.YtiofaflajkgiaaaGreatDoorLxd
import Derived.Test.YtiofaflajkgiaaaGreatDoorComp
import Derived.Test.YtiofaflajkgiaaaGreatDoorEng9
import Derived.Test.YtiofaflajkgiaaaGreatDoorNSw
import Derived.Test.YtiofaflajkgiaaaGreatDoorPInto
import Derived.Test.YtiofaflajkgiaaaGreatDoorDHo
import Derived.Test.YtiofaflajkgiaaaGreatDoorGro
import Derived.Test.YtiofaflajkgiaaaGreatDoorStk
namespace Go.Proofs.YtiofaflajkgiaaaGreatDoor
open Go.RowKit Go.Proofs.Tryz
set_option maxRecDepth 100000
set_option maxHeartbeats 8000000
def StepS(l:List Ty)(ga gb:List Nd)(f:Int)(ok:Bool)(X:List Nd):Prop:=
 (ok=true/\QV l (vQ ga gb) [((plc ga f).toNat,ga.length)] X/\X.length<=60)\/(ok=false/\BadU l (vQ ga gb) [((plc ga f).toNat,ga.length)])
def QX(l:List Ty)(U:List Nd)(J:List (Nat×Nat))(ok:Bool)(X:List Nd):Prop:=(ok=true/\QV l U J X)\/(ok=false/\X= []/\¬M1 l U J)
theorem into_det{l:List Ty}{ga gb:List Nd}{j:Nat}(hga:GX l ga)(hgb:GX l gb)(hj:j<ga.length):∃ ok X,∀ a1 X',QX l (vQ ga gb) [(j,ga.length)] a1 X'->a1=ok/\X'=X/\QX l (vQ ga gb) [(j,ga.length)] ok X:=by
 by_cases h:∃ X,QV l (vQ ga gb) [(j,ga.length)] X
 ·obtain⟨X,hX⟩:=h
  refine⟨true,X,fun a1 X' h'=>?_⟩;rcases h' with ⟨rfl,k⟩|⟨_,_,k⟩
  ·exact⟨rfl,stp_uniq hga hgb hj k hX,.inl ⟨rfl,hX⟩⟩
  ·exact absurd (stp_bound hga hgb hj hX) k
 ·refine⟨false,[],fun a1 X' h'=>?_⟩
  rcases h' with ⟨_,k⟩|⟨rfl,rfl,k⟩
  ·exact absurd ⟨_,k⟩ h
  ·exact⟨rfl,rfl,.inr ⟨rfl,rfl,k⟩⟩
theorem step_of{l:List Ty}{ga gb X:List Nd}{f:Int}{ok:Bool}(hga:GX l ga)(hgb:GX l gb)(hj:(plc ga f).toNat<ga.length)(h:QX l (vQ ga gb) [((plc ga f).toNat,ga.length)] ok X):StepS l ga gb f (ok&&decide (((X.length:Nat):Int)<=60)) X:=by
 rcases h with ⟨rfl,h⟩|⟨rfl,_,h⟩
 ·by_cases e:X.length<=60
  ·exact .inl ⟨by simp;omega,h,e⟩
  ·exact .inr ⟨by simp;omega,.inr ⟨X,h,by omega⟩⟩
 ·exact .inr ⟨rfl,.inl h⟩
theorem plc_at{l:List Ty}{fs:List Ft}{m f:Int}{g:List Nd}(h:Jok l fs m g)(h0:0<=f)(hm:f<=m):(tgt (g[0]'h.v.gx.pos).ln f)=(((plc g f).toNat:Nat):Int):=by
 have:=h.p f h0 hm;rw[<- yV h.v.gx.pos];unfold plc at this ⊢;omega
theorem R7{lo hi B:Nat}{w:World}{p:World->Prop}(h:Kept lo hi w p)(hb:B<=lo):∀ w2,FrSame B w w2->p w2:=fun w2 hf=>h.2 w2 (nLT h.1 hf.1) (fun b h1 h2=>hf.2 b (nLT hb h1) (nLL h2 h.1))
theorem WK{B:Nat}{w:World}{p:World->Prop}(h:∀ w2,FrSame B w w2->p w2):Kept B w.heap.size w p:=⟨ae _,fun w2 hs hb=>h w2 ⟨hs,fun k h1 h2=>hb k h1 h2⟩⟩
theorem step_yes{l:List Ty}{ga gb X:List Nd}{f:Int}{ok:Bool}(h:StepS l ga gb f ok X)(hk:ok=true):QV l (vQ ga gb) [((plc ga f).toNat,ga.length)] X/\X.length<=60:=by
 rcases h with ⟨_,a,b⟩|⟨e,_⟩
 ·exact⟨a,b⟩
 ·rw[hk]at e;cases e
theorem step_no{l:List Ty}{ga gb X:List Nd}{f:Int}{ok:Bool}(h:StepS l ga gb f ok X)(hk:ok=false):BadU l (vQ ga gb) [((plc ga f).toNat,ga.length)]:=by
 rcases h with ⟨e,_⟩|⟨_,a⟩
 ·rw[hk]at e;cases e
 ·exact a
set_option maxRecDepth 100000 in
set_option maxHeartbeats 4000000 in
theorem step_any{bu bd c1 c2:Nat}{G1 G2:Option Addr}{l:List Ty}{fs:List Ft}{ga gb:List Nd}{f m:Int}(w:World)(bv:TabIn w)(hTI:TableIn w l bu bd)(hG1:NodesIn w G1 ga)(hG2:NodesIn w G2 gb)(ha:Jok l fs m ga)(hb:GV l fs gb)(hf0:0<=f)(hfm:f<=m):Calls Tryz.prog 56 #[.agg #[.slice (some ⟨bu,0,none⟩) l.length l.length,.slice (some ⟨bd,0,none⟩) l.length l.length],.agg #[.slice G1 ga.length c1],.int .i64 f,.agg #[.slice G2 gb.length c2]] w fun e w'=>(∃ A X ok,e= .returned (.tuple #[.agg #[.slice A (List.length X) X.length],.bool ok])/\(∀ w2,FrSame w.heap.size w' w2->NodesIn w2 A X)/\StepS l ga gb f ok X)/\Bel w w':=by
 have bo:=ha.lt hf0 hfm;have bw:=ha.v.gx.pos;obtain⟨a5,XI,bt⟩:=into_det ha.v.gx hb.gx bo;have hpa:=plc_at ha hf0 hfm;refine enT Tryz.func56 Tryz.ntmps56 rfl rfl fun hB=>?_;refine zn2 ?_;refine qY (v:= .agg #[_,_]) (cs:=#[_,_]) rfl rfl (fun b4 w1 bf s1 hr=>?_);have lo4:=nLT (Bel.size hB) hr;refine qY (v:= .agg #[_]) (cs:=#[_]) rfl rfl (fun b5 w2 be s2 hr=>?_);have:=nLL bf.lt hr;have lo5:=nLT (Bel.size hB.u) hr;refine qY (v:= .agg #[_]) (cs:=#[_]) rfl rfl (fun b7 w3 bj s3 hr=>?_);have:=nLL bf.u.lt hr;have:=nLL be.lt hr;have lo7:=nLT (Bel.size hB.u) hr;refine qk (cs:=#[.slice none 0 0]) jY rfl (fun b8 w4 a7 s4 hr=>?_);have:=nLL bf.u.lt hr;have:=nLL be.u.lt hr;have:=nLL bj.lt hr;have lo8:=nLT (Bel.size hB.u) hr;refine zn4 ?_;replace hB:=hB.tr0 (s1.t (s2.t (s3.t s4)));have hsz:=Bel.size hB;replace bf:=bf.tr0 (s2.t (s3.t s4));have z4:=bf.lt;replace be:=be.tr0 (s3.t s4);have z5:=be.lt;replace bj:=bj.tr0 s4;have z7:=bj.lt;have z8:=a7.lt;refine y7 (rg [] 10 12) (fun g w'=>∃(a8:Nat) (AZ:Option Addr) (lz hz:Nat),g 10= .pointer (some ⟨a8,0,none⟩)/\g 11= .bool a5/\Bel w w'/\Blk w' a8 28 #[.slice AZ (List.length XI) XI.length]/\(∃ z,Blk w' b8 28 #[z])/\b8≠a8/\Kept lz hz w' (fun wq=>NodesIn wq AZ XI)/\w.heap.size<=lz/\b8<lz/\QX l (vQ ga gb) [((plc ga f).toNat,ga.length)] a5 XI) ?_ (fun g1 w5 hI=>?_)
 ·refine HX 11 [13,14,15,16,17,18,19,12,20,21,10] [9] (fun ix=>bif Nat.beq ix 7 then 6 else bif Nat.beq ix 8 then 6 else ix) (fun ix v la ha wv=>match ix with|0=>v= .agg #[.slice (some ⟨bu,0,none⟩) l.length l.length,.slice (some ⟨bd,0,none⟩) l.length l.length]|1=>v= .agg #[.slice G1 ga.length c1]|2=>v= .agg #[.slice G1 ga.length c1]|3=>v= .int .i64 f|4=>v= .int .i64 (((plc ga f).toNat:Nat):Int)|5=>v= .agg #[.slice G2 gb.length c2]|6=>∃ AZ,v= .tuple #[.agg #[.slice AZ (List.length XI) XI.length],.bool a5]/\Kept la ha wv (fun wq=>NodesIn wq AZ XI)/\w4.heap.size<=la/\QX l (vQ ga gb) [((plc ga f).toNat,ga.length)] a5 XI|7=>∃ AZ,v= .tuple #[.agg #[.slice AZ (List.length XI) XI.length],.bool a5]/\Kept la ha wv (fun wq=>NodesIn wq AZ XI)/\w4.heap.size<=la/\QX l (vQ ga gb) [((plc ga f).toNat,ga.length)] a5 XI|8=>∃ AZ,v= .agg #[.slice AZ (List.length XI) XI.length]/\Kept la ha wv (fun wq=>NodesIn wq AZ XI)/\w4.heap.size<=la/\QX l (vQ ga gb) [((plc ga f).toNat,ga.length)] a5 XI|9=>v= .bool a5|10=>∃ b,v= .pointer (some ⟨b,0,none⟩)/\w4.heap.size<=b/\Blk wv b 28 #[.slice none 0 0]/\la<=b/\b<ha|_=>True) kR kR kR kR ?_ ?_ ?_
  ·intro ix v la ha wv bn h hle s5
   match ix,h with
   | 0,h=>exact h
   | 1,h=>exact h
   | 2,h=>exact h
   | 3,h=>exact h
   | 4,h=>exact h
   | 5,h=>exact h
   | 6,h=>
    obtain⟨AZ,c3,a3,b1,an⟩:=(show ∃ AZ,v= .tuple #[.agg #[.slice AZ (List.length XI) XI.length],.bool a5]/\Kept la ha wv (fun wq=>NodesIn wq AZ XI)/\w4.heap.size<=la/\QX l (vQ ga gb) [((plc ga f).toNat,ga.length)] a5 XI from h)
    exact⟨AZ,c3,a3.tr0 s5,b1,an⟩
   | 7,h=>
    obtain⟨bh,ba,bi,a9,ad⟩:=(show ∃ AZ,v= .tuple #[.agg #[.slice AZ (List.length XI) XI.length],.bool a5]/\Kept la ha wv (fun wq=>NodesIn wq AZ XI)/\w4.heap.size<=la/\QX l (vQ ga gb) [((plc ga f).toNat,ga.length)] a5 XI from h)
    exact⟨bh,ba,bi.tr0 s5,a9,ad⟩
   | 8,h=>
    obtain⟨AZ,bk,a3,b1,an⟩:=(show ∃ AZ,v= .agg #[.slice AZ (List.length XI) XI.length]/\Kept la ha wv (fun wq=>NodesIn wq AZ XI)/\w4.heap.size<=la/\QX l (vQ ga gb) [((plc ga f).toNat,ga.length)] a5 XI from h)
    exact⟨AZ,bk,a3.tr0 s5,b1,an⟩
   | 9,h=>exact h
   | 10,h=>
    obtain⟨a8,bm,a4,a2,bc,bg⟩:=(show ∃ b,v= .pointer (some ⟨b,0,none⟩)/\w4.heap.size<=b/\Blk wv b 28 #[.slice none 0 0]/\la<=b/\b<ha from h)
    exact⟨a8,bm,a4,a2.tr0 s5,bc,bg⟩
   | _+11,h=>exact trivial
  ·intro ix o hix a1 gg wx lo hi s6 hd b9
   match ix,hix,a1 with
   | 0,_,a1=>
    cases sI a1;refine gdA ?_;refine qQ (qZ U84 rfl rfl bf.u.range0 yv) ⟨Same.refl _ _,?_⟩;exact rfl
   | 1,_,a1=>
    cases sI a1;refine gdA ?_;refine qQ (qZ U28 rfl rfl be.u.range0 qX) ⟨Same.refl _ _,?_⟩;exact rfl
   | 2,_,a1=>
    cases sI a1;refine gdA ?_;refine qQ (qZ U28 rfl rfl be.u.range0 qX) ⟨Same.refl _ _,?_⟩;exact rfl
   | 3,_,a1=>
    cases sI a1;refine gdA ?_;refine qQ (xz (v:= .int _ _) rfl) ⟨Same.refl _ _,?_⟩;exact rfl
   | 4,_,a1=>
    cases sI a1;have d2:gg 15= .agg #[.slice G1 ga.length c1]:=(hd 2 (zj kR)).1;have e15:=d2;have d3:gg 16= .int .i64 f:=(hd 3 (zj kR)).1;have e16:=d3;refine gdA (zz 15 _ e15 nu (zz 16 _ e16 nu ?_));replace hB:=hB.tr0 s6;refine vw kR (Vj G1 c1 fs.length ga 0 f wx (hG1.mono hB) bw (V6 ha.v.lo 0 bw) (by have:=ha.v.gok.few 0 bw;have:=ha.v.few;omega)) rfl (fun e' w2 hr=>?_);obtain⟨rfl,s7⟩:=hr;exact⟨_,rfl,sB s7,(congrArg (Value.int .i64) hpa)⟩
   | 5,_,a1=>
    cases sI a1;refine gdA ?_;refine qQ (qZ U28 rfl rfl bj.u.range0 qX) ⟨Same.refl _ _,?_⟩;exact rfl
   | 6,_,a1=>
    cases sI a1;have bq:=s6;have d0:gg 13= .agg #[.slice (some ⟨bu,0,none⟩) l.length l.length,.slice (some ⟨bd,0,none⟩) l.length l.length]:=(hd 0 (zj kR)).1;have e13:=d0;have d1:gg 14= .agg #[.slice G1 ga.length c1]:=(hd 1 (zj kR)).1;have e14:=d1;have d4:gg 17= .int .i64 (((plc ga f).toNat:Nat):Int):=(hd 4 (zj kR)).1;have e17:=d4;have d5:gg 18= .agg #[.slice G2 gb.length c2]:=(hd 5 (zj kR)).1;have e18:=d5;refine gdA (zz 13 _ e13 nu (zz 14 _ e14 nu (zz 17 _ e17 nu (zz 18 _ e18 nu ?_))));replace hB:=hB.tr0 s6;refine vw kR (WY (nf:=fs.length) wx (bv.mono hB) (hTI.mono hB) ha.v.s (hG1.mono hB) (hG2.mono hB) ha.v.gok hb.gok ha.v.gx.toGY hb.gx.toGY (by have:=ha.v.few;omega) bo) rfl (fun e' w2 hr=>?_);obtain⟨⟨A9,X9,ok9,rfl,hN9,hI9⟩,s8⟩:=hr;exact⟨_,rfl,sB s8,(by obtain⟨e1,e2,e3⟩:=bt ok9 X9 hI9;subst e1 e2;exact⟨A9,rfl,WK hN9,bq.size,e3⟩)⟩
   | 7,_,a1=>
    cases sI a1;have d6:∃ AZ,gg 19= .tuple #[.agg #[.slice AZ (List.length XI) XI.length],.bool a5]/\Kept (lo 6) (hi 6) wx (fun wq=>NodesIn wq AZ XI)/\w4.heap.size<=(lo 6)/\QX l (vQ ga gb) [((plc ga f).toNat,ga.length)] a5 XI:=(hd 6 (zj kR)).1;obtain⟨AZ,c3,a3,b1,an⟩:=d6;refine gdA (zz 19 _ c3 nu ?_);refine qQ (xz (v:= .tuple _) rfl) ⟨Same.refl _ _,?_⟩;exact⟨_,rfl,a3,b1,an⟩
   | 8,_,a1=>
    cases sI a1;have d7:∃ AZ,gg 12= .tuple #[.agg #[.slice AZ (List.length XI) XI.length],.bool a5]/\Kept (lo 6) (hi 6) wx (fun wq=>NodesIn wq AZ XI)/\w4.heap.size<=(lo 6)/\QX l (vQ ga gb) [((plc ga f).toNat,ga.length)] a5 XI:=(hd 7 (zj kR)).1;obtain⟨bh,ba,bi,a9,ad⟩:=d7;refine gdA (zz 12 _ ba nu ?_);refine qQ (y8 (v:=_) rfl rfl) ⟨Same.refl _ _,?_⟩;exact⟨_,rfl,bi,a9,ad⟩
   | 9,_,a1=>
    cases sI a1;have d7:∃ AZ,gg 12= .tuple #[.agg #[.slice AZ (List.length XI) XI.length],.bool a5]/\Kept (lo 6) (hi 6) wx (fun wq=>NodesIn wq AZ XI)/\w4.heap.size<=(lo 6)/\QX l (vQ ga gb) [((plc ga f).toNat,ga.length)] a5 XI:=(hd 7 (zj kR)).1;obtain⟨bh,ba,bi,a9,ad⟩:=d7;refine gdA (zz 12 _ ba nu ?_);refine qQ (y8 (v:=_) rfl rfl) ⟨Same.refl _ _,?_⟩;exact rfl
   | 10,_,a1=>
    cases sI a1;have bq:=s6;refine gdA ?_;refine jZ (fun ops Q K=>?_);refine qk (cs:=#[.slice none 0 0]) jY rfl (fun a8 w6 a2 s9 hr=>?_);exact K _ _ ⟨s9,⟨_,rfl,nLT bq.size hr,a2,hr,a2.lt⟩⟩
   | _+11,hix,_=>exact absurd hix oG
  refine⟨?_,?_,trivial⟩
  ·intro x gg w7 lo hi s10 hR b9;have d7:∃ AZ,gg 12= .tuple #[.agg #[.slice AZ (List.length XI) XI.length],.bool a5]/\Kept (lo 6) (hi 6) w7 (fun wq=>NodesIn wq AZ XI)/\w4.heap.size<=(lo 6)/\QX l (vQ ga gb) [((plc ga f).toNat,ga.length)] a5 XI:=(hR 7 dE dE).1;obtain⟨bh,ba,bi,a9,ad⟩:=d7;have d8:∃ AZ,gg 20= .agg #[.slice AZ (List.length XI) XI.length]/\Kept (lo 6) (hi 6) w7 (fun wq=>NodesIn wq AZ XI)/\w4.heap.size<=(lo 6)/\QX l (vQ ga gb) [((plc ga f).toNat,ga.length)] a5 XI:=(hR 8 dE dE).1;obtain⟨AZ,bk,a3,b1,an⟩:=d8;have d9:gg 21= .bool a5:=(hR 9 dE dE).1;have e21:=d9;have c4:∃ b,gg 10= .pointer (some ⟨b,0,none⟩)/\w4.heap.size<=b/\Blk w7 b 28 #[.slice none 0 0]/\(lo 10)<=b/\b<(hi 10):=(hR 10 dE dE).1;obtain⟨a8,bm,a4,a2,bc,bg⟩:=c4;have b2:(hi 6)<=(lo 10)\/(hi 10)<=(lo 6):=b9 6 10 dE dE dE dE dE;have:=nLL z4 a4;have:=nLL z5 a4;have:=nLL z7 a4;have:=nLL z8 a4;replace a4:=nLT hsz a4;have b3:b8<(lo 6):=nLL z8 b1;refine yY 12 (.tuple #[.agg #[.slice bh (List.length XI) XI.length],.bool a5]) ba nu (yY 20 (.agg #[.slice AZ (List.length XI) XI.length]) bk nu (yY 21 (.bool a5) e21 nu (yY 10 (.pointer (some ⟨a8,0,none⟩)) bm nu (O6 (k':=2) kR (Sv (listed':=#[true,true,true,true,true,true,true,true,true,true,true,false,false]) kR ?_)))));refine xJ [11] kR rfl ⟨fun o a1=>?_,trivial⟩;cases sI a1;refine zk a2 rfl rfl qX rfl zJ (fun w8 hq s11=>?_);replace a2:=hq;refine zQ (e_A (listed':=#[true,true,true,true,true,true,true,true,true,true,true,true,false]) (by rfl) (C7 12 rfl (fun _=>gk (v:= .bool _) rfl) (Q1 kR ?_)));refine e_R ⟨agA,?_⟩;replace a3:=a3.tr1 s11 oG;exact⟨a8,AZ,_,_,rfl,rfl,hB.u,a2,⟨_,a7.u⟩,by omega,a3,nLT hsz b1,b3,an⟩
  intro x gg w9 lo hi s12 hR b9;have d7:∃ AZ,gg 12= .tuple #[.agg #[.slice AZ (List.length XI) XI.length],.bool a5]/\Kept (lo 6) (hi 6) w9 (fun wq=>NodesIn wq AZ XI)/\w4.heap.size<=(lo 6)/\QX l (vQ ga gb) [((plc ga f).toNat,ga.length)] a5 XI:=(hR 7 dE dE).1;obtain⟨bh,ba,bi,a9,ad⟩:=d7;have d8:∃ AZ,gg 20= .agg #[.slice AZ (List.length XI) XI.length]/\Kept (lo 6) (hi 6) w9 (fun wq=>NodesIn wq AZ XI)/\w4.heap.size<=(lo 6)/\QX l (vQ ga gb) [((plc ga f).toNat,ga.length)] a5 XI:=(hR 8 dE dE).1;obtain⟨AZ,bk,a3,b1,an⟩:=d8;have c4:∃ b,gg 10= .pointer (some ⟨b,0,none⟩)/\w4.heap.size<=b/\Blk w9 b 28 #[.slice none 0 0]/\(lo 10)<=b/\b<(hi 10):=(hR 10 dE dE).1;obtain⟨a8,bm,a4,a2,bc,bg⟩:=c4;have b2:(hi 6)<=(lo 10)\/(hi 10)<=(lo 6):=b9 6 10 dE dE dE dE dE;have:=nLL z4 a4;have:=nLL z5 a4;have:=nLL z7 a4;have:=nLL z8 a4;replace a4:=nLT hsz a4;have b3:b8<(lo 6):=nLL z8 b1;refine yY 12 (.tuple #[.agg #[.slice bh (List.length XI) XI.length],.bool a5]) ba nu (yY 20 (.agg #[.slice AZ (List.length XI) XI.length]) bk nu (yY 10 (.pointer (some ⟨a8,0,none⟩)) bm nu (O6 (k':=3) kR (Sv (listed':=#[true,true,true,true,true,true,true,true,true,false,true,false,false]) kR (C7 9 rfl (fun _=>y8 (v:=_) rfl rfl) ?_)))));refine xJ [11] kR rfl ⟨fun o a1=>?_,trivial⟩;cases sI a1;refine zk a2 rfl rfl qX rfl zJ (fun w10 hq s13=>?_);replace a2:=hq;refine zQ (e_A (listed':=#[true,true,true,true,true,true,true,true,true,true,true,true,false]) (by rfl) (C7 12 rfl (fun _=>gk (v:= .bool _) rfl) (Q1 kR ?_)));refine e_R ⟨agA,?_⟩;replace a3:=a3.tr1 s13 oG;exact⟨a8,AZ,_,_,rfl,rfl,hB.u,a2,⟨_,a7.u⟩,by omega,a3,nLT hsz b1,b3,an⟩
 obtain⟨a8,AZ,lz,hz,h10,h11,hB,a2,⟨z8v,a7⟩,bb,a3,hlz,b3,an⟩:=hI;refine jK 10 _ h10 nu (jK 11 _ h11 nu (e_S (xy ?_)));rcases Bool.eq_false_or_eq_true (a5)with hok|hok
 ·refine zK 11 _ (ac hok) nu ?_;refine SZ 10 [22,23,24,25,26,27,28,29,9] [b8] (fun ix v wv=>match ix with|0=>v= .agg #[.slice AZ (List.length XI) XI.length]|1=>v= .bool true|2=>v= .bool true|3=>v= .pointer (some ⟨a8,0,none⟩)|4=>v= .slice AZ (List.length XI) XI.length|5=>v= .int .i64 ((XI.length:Nat):Int)|6=>v= .bool (decide (((XI.length:Nat):Int)<=60))|7=>v= .bool (decide (((XI.length:Nat):Int)<=60))|8=>Blk wv b8 28 #[.slice AZ (List.length XI) XI.length]|9=>v= .bool (decide (((XI.length:Nat):Int)<=60))|_=>True) (fun wq=>(∃ z,Blk wq b8 28 #[z])/\Kept lz hz wq (fun w3=>NodesIn w3 AZ XI)) kR kR ?_ ?_ ⟨⟨_,a7⟩,(by first|exact a3|exact a3.tr0 s4|exact a3.tr1 b6 (.inl b3))⟩ ?_ ?_
  ·intro ix v wv bn h s14
   match ix,h with
   | 0,h=>exact h
   | 1,h=>exact h
   | 2,h=>exact h
   | 3,h=>exact h
   | 4,h=>exact h
   | 5,h=>exact h
   | 6,h=>exact h
   | 7,h=>exact h
   | 8,h=>exact(show Blk wv b8 28 #[.slice AZ (List.length XI) XI.length]from h).tr0 s14
   | 9,h=>exact h
   | _+10,h=>exact trivial
  ·intro wv bn h s15;obtain⟨⟨z1,a7⟩,a3⟩:=h;exact⟨⟨_,a7.u⟩,(by first|exact a3|exact a3.tr0 s15|exact a3.tr1 b6 (.inl b3))⟩
  ·intro ix o hix a1 gg wx s16 hJ hd
   match ix,hix,a1 with
   | 0,_,a1=>
    cases sI a1;replace a2:=a2.tr s16 (fun hx=>by simp only[List.mem_cons,List.not_mem_nil,or_false]at hx;omega);refine gdA ?_;show OS _ _ _ _ _ _;exact oVq (qZ U28 rfl rfl a2.range0 qX) rfl
   | 1,_,a1=>
    cases sI a1;refine gdA ?_;show OS _ _ _ _ _ _;exact oVq (xz (v:= .bool _) rfl) rfl
   | 2,_,a1=>
    cases sI a1;have d1:gg 23= .bool true:=hd 1 _ (zj kR) rfl;have bz:=d1;refine gdA ?_;show OS _ _ _ _ _ _;refine zz 23 _ bz nu ?_;exact oVq (xz (v:= .bool _) rfl) rfl
   | 3,_,a1=>
    cases sI a1;have d2:gg 24= .bool true:=hd 2 _ (zj kR) rfl;have a6:=d2;refine oq 24 true rfl a6 (fun _=>?_) (fun h=>absurd h dE);show OS _ _ _ _ _ _;refine zz 24 _ a6 nu ?_;exact oVq (uK U28 Ej dE rfl rfl rfl) rfl
   | 4,_,a1=>
    cases sI a1;replace a2:=a2.tr s16 (fun hx=>by simp only[List.mem_cons,List.not_mem_nil,or_false]at hx;omega);have d2:gg 24= .bool true:=hd 2 _ (zj kR) rfl;have a6:=d2;have d3:gg 25= .pointer (some ⟨a8,0,none⟩):=hd 3 _ (zj kR) rfl;have e25:=d3;refine oq 24 true rfl a6 (fun _=>?_) (fun h=>absurd h dE);show OS _ _ _ _ _ _;refine zz 24 _ a6 nu (zz 25 _ e25 nu ?_);exact oVq (qW (v:= .slice _ _ _) U26 rfl rfl (a2.cell rfl)) rfl
   | 5,_,a1=>
    cases sI a1;have d2:gg 24= .bool true:=hd 2 _ (zj kR) rfl;have a6:=d2;have d4:gg 26= .slice AZ (List.length XI) XI.length:=hd 4 _ (zj kR) rfl;have e26:=d4;refine oq 24 true rfl a6 (fun _=>?_) (fun h=>absurd h dE);show OS _ _ _ _ _ _;refine zz 24 _ a6 nu (zz 26 _ e26 nu ?_);exact oVq (Oj U26 rfl) rfl
   | 6,_,a1=>
    cases sI a1;have d2:gg 24= .bool true:=hd 2 _ (zj kR) rfl;have a6:=d2;have d5:gg 27= .int .i64 ((XI.length:Nat):Int):=hd 5 _ (zj kR) rfl;have e27:=d5;refine oq 24 true rfl a6 (fun _=>?_) (fun h=>absurd h dE);show OS _ _ _ _ _ _;refine zz 24 _ a6 nu (zz 27 _ e27 nu ?_);exact oVq (r_leq rfl rfl) rfl
   | 7,_,a1=>
    cases sI a1;have d2:gg 24= .bool true:=hd 2 _ (zj kR) rfl;have a6:=d2;have d6:gg 28= .bool (decide (((XI.length:Nat):Int)<=60)):=hd 6 _ (zj kR) rfl;have e28:=d6;refine gdA ?_;show OS _ _ _ _ _ _;refine zz 24 _ a6 nu (zz 28 _ e28 nu ?_);exact oVq (W5 (v:= .bool _) rfl rfl) rfl
   | 8,_,a1=>
    cases sI a1;have d0:gg 22= .agg #[.slice AZ (List.length XI) XI.length]:=hd 0 _ (zj kR) rfl;have c0:=d0;refine gdA ?_;show OS _ _ _ _ _ _;refine zz 22 _ c0 nu ?_;obtain⟨⟨z1,a7⟩,a3⟩:=hJ;refine TX (fun ops Q K=>?_);refine zk a7 rfl rfl qX rfl zJ (fun w2 hq b6=>?_);have K2:=K w2;refine K2 ⟨b6.weak (by simp),?_,hq,fun kx v bb h=>?_⟩
    ·replace a7:=hq;exact⟨⟨_,a7⟩,(by first|exact a3|exact a3.tr0 s16|exact a3.tr1 b6 (.inl b3))⟩
    match kx,bb,h with
    | 0,_,h=>exact h
    | 1,_,h=>exact h
    | 2,_,h=>exact h
    | 3,_,h=>exact h
    | 4,_,h=>exact h
    | 5,_,h=>exact h
    | 6,_,h=>exact h
    | 7,_,h=>exact h
    | 8,bb,_=>exact absurd rfl bb
    | 9,_,h=>exact h
    | _+10,_,_=>exact trivial
   | 9,_,a1=>
    cases sI a1;have d7:gg 29= .bool (decide (((XI.length:Nat):Int)<=60)):=hd 7 _ (zj kR) rfl;have bx:=d7;refine gdA ?_;show OS _ _ _ _ _ _;refine zz 29 _ bx nu ?_;exact oVq (gk (v:= .bool _) rfl) rfl
   | _+10,hix,_=>exact absurd hix oG
  intro gg w11 s17 hJ hR;replace hB:=hB.tr s17 (fun q hx=>by simp only[List.mem_cons,List.not_mem_nil,or_false]at hx;omega);have br:Blk w11 b8 28 #[.slice AZ (List.length XI) XI.length]:=hR 8 _ rfl;replace a7:=br;have d9:gg 9= .bool (decide (((XI.length:Nat):Int)<=60)):=hR 9 _ rfl;have e9:=d9;refine x9 9 _ e9 nu (zn3 ?_);refine kY (.inl rfl) rfl (zZ U28 rfl rfl a7.range0 qX) rfl ?_;obtain⟨_,a3⟩:=hJ;refine⟨⟨AZ,XI,_,rfl,R7 a3 hlz,?_⟩,hB⟩;have hst:=step_of ha.v.gx hb.gx bo an;rw[hok]at hst;exact hst
 refine zK 11 _ (ac hok) nu ?_;refine SZ 10 [22,23,24,25,26,27,28,29,9] [b8] (fun ix v wv=>match ix with|0=>v= .agg #[.slice AZ (List.length XI) XI.length]|1=>v= .bool false|2=>v= .bool false|3=>v=undef|4=>v=undef|5=>v=undef|6=>v=undef|7=>v= .bool false|8=>Blk wv b8 28 #[.slice AZ (List.length XI) XI.length]|9=>v= .bool false|_=>True) (fun wq=>(∃ z,Blk wq b8 28 #[z])/\Kept lz hz wq (fun w3=>NodesIn w3 AZ XI)) kR kR ?_ ?_ ⟨⟨_,a7⟩,(by first|exact a3|exact a3.tr0 s4|exact a3.tr1 b6 (.inl b3))⟩ ?_ ?_
 ·intro ix v wv bn h s18
  match ix,h with
  | 0,h=>exact h
  | 1,h=>exact h
  | 2,h=>exact h
  | 3,h=>exact h
  | 4,h=>exact h
  | 5,h=>exact h
  | 6,h=>exact h
  | 7,h=>exact h
  | 8,h=>exact(show Blk wv b8 28 #[.slice AZ (List.length XI) XI.length]from h).tr0 s18
  | 9,h=>exact h
  | _+10,h=>exact trivial
 ·intro wv bn h s19;obtain⟨⟨z1,a7⟩,a3⟩:=h;exact⟨⟨_,a7.u⟩,(by first|exact a3|exact a3.tr0 s19|exact a3.tr1 b6 (.inl b3))⟩
 ·intro ix o hix a1 gg wx s20 hJ hd
  match ix,hix,a1 with
  | 0,_,a1=>
   cases sI a1;replace a2:=a2.tr s20 (fun hx=>by simp only[List.mem_cons,List.not_mem_nil,or_false]at hx;omega);refine gdA ?_;show OS _ _ _ _ _ _;exact oVq (qZ U28 rfl rfl a2.range0 qX) rfl
  | 1,_,a1=>
   cases sI a1;refine gdA ?_;show OS _ _ _ _ _ _;exact oVq (xz (v:= .bool _) rfl) rfl
  | 2,_,a1=>
   cases sI a1;have d1:gg 23= .bool false:=hd 1 _ (zj kR) rfl;have bz:=d1;refine gdA ?_;show OS _ _ _ _ _ _;refine zz 23 _ bz nu ?_;exact oVq (xz (v:= .bool _) rfl) rfl
  | 3,_,a1=>
   cases sI a1;have d2:gg 24= .bool false:=hd 2 _ (zj kR) rfl;have a6:=d2;exact oq 24 false rfl a6 (fun h=>absurd h dE) (fun _=>rfl)
  | 4,_,a1=>
   cases sI a1;have d2:gg 24= .bool false:=hd 2 _ (zj kR) rfl;have a6:=d2;have d3:gg 25=undef:=hd 3 _ (zj kR) rfl;have e25:=d3;exact oq 24 false rfl a6 (fun h=>absurd h dE) (fun _=>rfl)
  | 5,_,a1=>
   cases sI a1;have d2:gg 24= .bool false:=hd 2 _ (zj kR) rfl;have a6:=d2;have d4:gg 26=undef:=hd 4 _ (zj kR) rfl;have e26:=d4;exact oq 24 false rfl a6 (fun h=>absurd h dE) (fun _=>rfl)
  | 6,_,a1=>
   cases sI a1;have d2:gg 24= .bool false:=hd 2 _ (zj kR) rfl;have a6:=d2;have d5:gg 27=undef:=hd 5 _ (zj kR) rfl;have e27:=d5;exact oq 24 false rfl a6 (fun h=>absurd h dE) (fun _=>rfl)
  | 7,_,a1=>
   cases sI a1;have d2:gg 24= .bool false:=hd 2 _ (zj kR) rfl;have a6:=d2;have d6:gg 28=undef:=hd 6 _ (zj kR) rfl;have e28:=d6;refine gdA ?_;show OS _ _ _ _ _ _;refine zz 24 _ a6 nu ?_;exact oVq (W6 (v:= .bool _) rfl rfl) rfl
  | 8,_,a1=>
   cases sI a1;have d0:gg 22= .agg #[.slice AZ (List.length XI) XI.length]:=hd 0 _ (zj kR) rfl;have c0:=d0;refine gdA ?_;show OS _ _ _ _ _ _;refine zz 22 _ c0 nu ?_;obtain⟨⟨z1,a7⟩,a3⟩:=hJ;refine TX (fun ops Q K=>?_);refine zk a7 rfl rfl qX rfl zJ (fun w2 hq b6=>?_);have K2:=K w2;refine K2 ⟨b6.weak (by simp),?_,hq,fun kx v bb h=>?_⟩
   ·replace a7:=hq;exact⟨⟨_,a7⟩,(by first|exact a3|exact a3.tr0 s20|exact a3.tr1 b6 (.inl b3))⟩
   match kx,bb,h with
   | 0,_,h=>exact h
   | 1,_,h=>exact h
   | 2,_,h=>exact h
   | 3,_,h=>exact h
   | 4,_,h=>exact h
   | 5,_,h=>exact h
   | 6,_,h=>exact h
   | 7,_,h=>exact h
   | 8,bb,_=>exact absurd rfl bb
   | 9,_,h=>exact h
   | _+10,_,_=>exact trivial
  | 9,_,a1=>
   cases sI a1;have d7:gg 29= .bool false:=hd 7 _ (zj kR) rfl;have bx:=d7;refine gdA ?_;show OS _ _ _ _ _ _;refine zz 29 _ bx nu ?_;exact oVq (gk (v:= .bool _) rfl) rfl
  | _+10,hix,_=>exact absurd hix oG
 intro gg w12 s21 hJ hR;replace hB:=hB.tr s21 (fun q hx=>by simp only[List.mem_cons,List.not_mem_nil,or_false]at hx;omega);have br:Blk w12 b8 28 #[.slice AZ (List.length XI) XI.length]:=hR 8 _ rfl;replace a7:=br;have d9:gg 9= .bool false:=hR 9 _ rfl;have e9:=d9;refine x9 9 _ e9 nu (zn3 ?_);refine kY (.inl rfl) rfl (zZ U28 rfl rfl a7.range0 qX) rfl ?_;obtain⟨_,a3⟩:=hJ;refine⟨⟨AZ,XI,_,rfl,R7 a3 hlz,?_⟩,hB⟩;have hst:=step_of ha.v.gx hb.gx bo an;rw[hok]at hst;exact hst
def GrsIn(w:World)(A:Option Addr)(L:List (List Nd)):Prop:=
 L.length<=jx/\(L≠[]->∃ b o,A=some ⟨b,o,none⟩/\b<w.heap.size/\∀ k (hk:k<L.length),∃ A' c,w.rangeAt b (o+k*1) [.slice A' (L[k]).length c]/\NodesIn w A' L[k])
theorem GrsIn.mono{w w':World}{A:Option Addr}{L:List (List Nd)}(h:GrsIn w A L)(hb:Bel w w'):GrsIn w' A L:=
 ⟨h.1,fun hn=>by
  obtain⟨b,o,e,hl,hc⟩:=h.2 hn
  refine⟨b,o,e,nLL hl hb.size,fun k hk=>?_⟩
  obtain⟨A',c,h1,h2⟩:=hc k hk
  exact⟨A',c,hb.range hl h1,h2.mono hb⟩⟩
theorem GrsIn.at_{w w':World}{A:Option Addr}{L:List (List Nd)}(h:GrsIn w A L)(hb:Bel w w'){k:Nat}(hk:k<L.length):
  ∃ b o A' c,A=some ⟨b,o,none⟩/\w'.rangeAt b (o+k*1) [.slice A' (L[k]).length c]/\NodesIn w A' L[k]:=by
 obtain⟨b,o,e,hl,hc⟩:=h.2 (by rintro rfl;simp at hk);obtain⟨A',c,h1,h2⟩:=hc k hk;exact⟨b,o,A',c,e,hb.range hl h1,h2⟩
theorem PoolAt.fr{w w2:World}{ob bp:Nat}{c0 c1:Value}{n:Nat}{PA TA LA:Option Addr}{cp ct cl:Nat}{P:Nat->Nat}{T:Nat->Int}{V:Nat->Value}{L:Nat->List (Int×Int)}(h:PoolAt w ob bp c0 c1 n PA TA LA cp ct cl P T V L)(hf:FrSame bp w w2)(hbo:bp<ob):PoolAt w2 ob bp c0 c1 n PA TA LA cp ct cl P T V L:=
 have a1:FrSame ob w w2:=⟨hf.size,fun b hb hl=>hf.blk b oG hl⟩
 ⟨hf.at_ h.bp (ae _),h.pa.fr (ae _) a1,h.ta.fr (ae _) a1,h.la.fr (ae _) a1,fun x hx=>((h.rows x hx).fr a1).up hf.size,h.dis⟩
set_option maxRecDepth 100000 in
set_option maxHeartbeats 2000000 in
theorem Gj{c1:Nat}{G1:Option Addr}{l:List Ty}{fs:List Ft}{ga:List Nd}{m:Int}(w:World)(hG1:NodesIn w G1 ga)(ha:Jok l fs m ga)(hm0:0<=m):Calls Tryz.prog 58 #[.agg #[.slice G1 ga.length c1]] w fun e w'=>(∃ A o,DL ga [(plc ga 0).toNat] [] o/\e= .returned (.agg #[.slice A o.length o.length])/\∀ w2,FrSame w.heap.size w' w2->NodesIn w2 A (yQ ga o))/\Bel w w':=by
 have hjl:=ha.lt (aK _) hm0;have a4:=ha.v.gx.pos;obtain⟨oM,hoM⟩:=ha.v.gx.toGY.dl hjl;have hpa:=plc_at ha (aK _) hm0;refine enT Tryz.func58 Tryz.ntmps58 rfl rfl fun hB=>?_;refine zn2 ?_;refine qY (v:= .agg #[_]) (cs:=#[_]) rfl rfl (fun b1 w1 hb1 s1 hr=>?_);have lo1:=nLT (Bel.size hB) hr;refine qk (cs:=#[.slice none 0 0]) jY rfl (fun b2 w2 a1 s2 hr=>?_);have:=nLL hb1.lt hr;have lo2:=nLT (Bel.size hB.u) hr;refine zn3 ?_;replace hB:=hB.tr0 (s1.t s2);have hsz:=Bel.size hB;have z2:=a1.lt;refine X6 [] [4] [0,1,2,3,4] rfl (fun w3 s3=>?_);have a2:=s3;refine zn2 ?_;replace hB:=hB.tr0 s3;refine hcl (fun v wv=>v= .int .i64 (((plc ga 0).toNat:Nat):Int)) rfl kR (Vj G1 c1 fs.length ga 0 0 w3 (hG1.mono hB) a4 (V6 ha.v.lo 0 a4) (by have:=ha.v.gok.few 0 a4;have:=ha.v.few;omega)) rfl (fun e' w2 hr=>?_) (fun v5 w4 s4 d5=>?_)
 ·obtain⟨rfl,s5⟩:=hr;exact⟨_,rfl,sB s5,(congrArg (Value.int .i64) hpa)⟩
 have e5:=d5;subst e5;replace hB:=hB.tr0 s4;refine hcl (fun v wv=>∃ AZ lz hz,v= .agg #[.slice AZ oM.length oM.length]/\Kept lz hz wv (fun wq=>NodesIn wq AZ (yQ ga oM))/\w2.heap.size<=lz) rfl kR (from_any G1 c1 l.length fs.length ga (plc ga 0).toNat w4 (hG1.mono hB) ha.v.gok (by have:=ha.v.few;omega) hjl) rfl (fun e' w2 hr=>?_) (fun v6 w5 s6 d6=>?_)
 ·obtain⟨⟨o9,A9,hd9,_,rfl,hN9⟩,s7⟩:=hr;replace a2:=a2.t s4;exact⟨_,rfl,sB s7,(by obtain rfl:=DL.det hd9 hoM;exact⟨A9,_,_,rfl,WK hN9,a2.size⟩)⟩
 obtain⟨AZ,lz,hz,e6,a3,hlz⟩:=d6;subst e6;refine h1 rfl ?_;refine zk a1.u rfl rfl qX rfl zJ (fun w6 hq s8=>?_);have hsH4:=s8;replace a1:=hq;refine zQ (Hj [] (zn3 ?_));refine yx (.inl rfl) rfl (zZ U28 rfl rfl a1.range0 qX) ?_;replace a3:=a3.tr1 s8 oG;exact⟨⟨AZ,oM,hoM,rfl,R7 a3 (nLT hsz hlz)⟩,hB.u⟩
theorem R1{l:List Ty}{fs:List Ft}{x:Lx}(h:KK l fs x=0):yX x.word=true/\¬IY x/\(x7 l fs x.gr).1=0:=by
 cases h0:yX x.word with
 | false=>rw[TV h0]at h;cases h
 | true=>
  by_cases h1:IY x
  ·rw[GZ h0 h1]at h;cases h
  ·by_cases h2:(x7 l fs x.gr).1=0
   ·exact⟨rfl,h1,h2⟩
   ·rw[lx_gr h0 h1 h2]at h;exact absurd h h2
theorem add_size{r:Lr}(h:¬IQ r):r.add.size<=120:=by
 by_cases e:r.add=⟨#[]⟩
 ·rw[e];exact ag _
 ·cases k:yX r.add with
  | true=>exact E9 k
  | false=>exact absurd (.inr (.inr ⟨e,k⟩)) h
theorem j6:(prog.info? 38).map (·.size)=some 9:=by kernel_rfl
theorem YQ:(prog.info? 38).map (·.zero)=some (some (.agg #[.string ⟨#[]⟩,.slice none 0 0,.int .i64 0,.int .i64 0,.string ⟨#[]⟩,.int .i64 0,.string ⟨#[]⟩,.slice none 0 0,.slice none 0 0])):=by kernel_rfl
theorem lapply_any(l:List Ty)(fs:List Ft)(r:Lr)(x:Lx)(G SA BA Gx Sx Bx:Option Addr)(cg cs cb cgx bv bw:Nat)(bu bd:Nat)(w:World)(br:TabIn w)(hU:U8In w)(hTI:TableIn w l bu bd)(h0:(zY l fs).1=0)(hr:lrF l fs r=0)(hx:KK l fs x=0)(hP:LrP w r G SA BA)(hGx:NodesIn w Gx x.gr)(hSx:SimsIn w Sx x.mean.type.args)(hTx:TmsIn w Bx x.mean.args):Calls prog 32 #[Lv l.length bu bd,.agg #[.string r.name,.string r.cut,.string r.add,.slice G r.gr.length cg,.int .i64 r.wt,.int .i64 (r.mean).kind,.string (r.mean).name,.int .i64 (r.mean).index,.string (r.mean).type.base,.slice SA (r.mean).type.args.length cs,.slice BA (r.mean).args.length cb],.agg #[.string x.word,.slice Gx x.gr.length cgx,.int .i64 x.wt,.int .i64 (x.mean).kind,.string (x.mean).name,.int .i64 (x.mean).index,.string (x.mean).type.base,.slice Sx (x.mean).type.args.length bv,.slice Bx (x.mean).args.length bw]] w fun e w'=>(∃(ok:Bool) (Y:List Nd) (A5:Option Addr) (c5:Nat) (wd:ByteArray) (wt k6 i6:Int) (m6 s6:ByteArray) (A6 B6:Option Addr) (n6 c6 o6 d6:Nat),e= .returned (.tuple #[.agg #[.string wd,.slice A5 (List.length Y) c5,.int .i64 wt,.int .i64 k6,.string m6,.int .i64 i6,.string s6,.slice A6 n6 c6,.slice B6 o6 d6],.bool ok])/\Hv w.heap.size [] w'.heap.size w' (fun w=>NodesIn w A5 Y)/\LrS l r x ok Y/\(ok=true->wd=wdL r x/\wt=x.wt+r.wt))/\Bel w w':=by
 obtain⟨hnm,hbd,hin,hpl,htm⟩:=WZ hr;obtain⟨hxw,hxb,hxi⟩:=R1 hx;have hJ:=lxr_jok h0 hin hpl;have hgx:=(Xq h0 hxi).1;have hwz:=E9 hxw;have haz:=add_size hnm;have hsz:=sfxC_size x.word r.cut;have hwl:(wdL r x).size=(Tk x.word r.cut).size+r.add.size:=by unfold wdL;rw[ByteArray.size_append]
 unfold Jq at hbd;unfold IY at hxb;refine enT func32 ntmps32 rfl rfl fun hB=>?_;refine zn2 ?_;refine qY (v:= .agg #[_,_]) (cs:=#[_,_]) rfl rfl (fun b3 w1 a8 t1 hr=>?_);clear hr;refine qY (v:= .agg #[_,_,_,_,_,_,_,_,_,_,_]) (cs:=#[_,_,_,_,_,_,_,_,_,_,_]) rfl rfl (fun b4 w2 a7 t2 hr=>?_);clear hr;refine qY (v:= .agg #[_,_,_,_,_,_,_,_,_]) (cs:=#[_,_,_,_,_,_,_,_,_]) rfl rfl (fun b5 w3 a6 t3 hr=>?_);clear hr;refine qk (cs:=#[.string ⟨#[]⟩,.slice none 0 0,.int .i64 0,.int .i64 0,.string ⟨#[]⟩,.int .i64 0,.string ⟨#[]⟩,.slice none 0 0,.slice none 0 0]) YQ rfl (fun b6 w4 a1 t4 hr=>?_);have bi:=nLT (Bel.size hB.u) hr;clear hr;refine zn9 ?_;refine zW kR (cutss_any x.word r.cut _ oG hP.c) rfl (fun e' w5 hr=>?_);obtain⟨rfl,rfl⟩:=hr;refine⟨_,rfl,?_⟩;refine wmT rfl (wl (y8 (v:= .string _) rfl rfl) (wl (y8 (v:= .bool _) rfl rfl) (vy ?_)));refine wl (Dv rfl rfl (by show (Tk x.word r.cut).size+r.add.size<=_;omega)) (zn4 ?_);refine y7 (rg [] 25 15) (fun g w'=>g 39= .bool (decide (¬C8 r x))/\Bel w w'/\Blk w' b3 84 #[.slice (some ⟨bu,0,none⟩) l.length l.length,.slice (some ⟨bd,0,none⟩) l.length l.length]/\Blk w' b4 36 #[.string r.name,.string r.cut,.string r.add,.slice G r.gr.length cg,.int .i64 r.wt,.int .i64 (r.mean).kind,.string (r.mean).name,.int .i64 (r.mean).index,.string (r.mean).type.base,.slice SA (r.mean).type.args.length cs,.slice BA (r.mean).args.length cb]/\Blk w' b5 38 #[.string x.word,.slice Gx x.gr.length cgx,.int .i64 x.wt,.int .i64 (x.mean).kind,.string (x.mean).name,.int .i64 (x.mean).index,.string (x.mean).type.base,.slice Sx (x.mean).type.args.length bv,.slice Bx (x.mean).args.length bw]/\Blk w' b6 38 #[.string ⟨#[]⟩,.slice none 0 0,.int .i64 0,.int .i64 0,.string ⟨#[]⟩,.int .i64 0,.string ⟨#[]⟩,.slice none 0 0,.slice none 0 0]) ?_ (fun g3 w6 hI=>?_)
 ·refine zn4 ?_;refine Qk 27 rfl (fun g27=>?_) (fun g27=>?_)
  ·refine oJ ?_;refine e_R ⟨agA,?_⟩;replace hB:=hB.tr0 (t1.t (t2.t (t3.t t4)));replace a8:=a8.tr0 (t2.t (t3.t t4));replace a7:=a7.tr0 (t3.t t4);replace a6:=a6.tr0 t4
   exact⟨by
     first
     | exact ac (wdo1 (by grind[Jk]))
     | exact ac (wdo2 b7)
     | exact ac (wdo3 (by grind[Jk]) b7),hB,a8,a7,a6,a1⟩
  refine zn3 ?_;refine zW kR (PJ (wdL r x) _ (hU.mono hB.u) oG) rfl (fun e' w7 hr=>?_);obtain⟨rfl,t5⟩:=hr;replace t5:=sB t5;refine⟨_,rfl,?_⟩;refine zn4 ?_;refine Qk 32 rfl (fun b7=>?_) (fun b7=>?_)
  ·refine zn8 ?_;refine e_R ⟨agA,?_⟩;replace hB:=hB.tr0 (t1.t (t2.t (t3.t (t4.t t5))));replace a8:=a8.tr0 (t2.t (t3.t (t4.t t5)));replace a7:=a7.tr0 (t3.t (t4.t t5));replace a6:=a6.tr0 (t4.t t5);replace a1:=a1.tr0 t5
   exact⟨by
     first
     | exact ac (wdo1 (by grind[Jk]))
     | exact ac (wdo2 b7)
     | exact ac (wdo3 (by grind[Jk]) b7),hB,a8,a7,a6,a1⟩
  refine zn9 ?_;refine wl (QZ (c:=(x.wt+r.wt)) rfl rfl rfl oG) (zn4 ?_);refine e_R ⟨agA,?_⟩;replace hB:=hB.tr0 (t1.t (t2.t (t3.t (t4.t t5))));replace a8:=a8.tr0 (t2.t (t3.t (t4.t t5)));replace a7:=a7.tr0 (t3.t (t4.t t5));replace a6:=a6.tr0 (t4.t t5);replace a1:=a1.tr0 t5
  exact⟨by
    first
    | exact ac (wdo1 (by grind[Jk]))
    | exact ac (wdo2 b7)
    | exact ac (wdo3 (by grind[Jk]) b7),hB,a8,a7,a6,a1⟩
 obtain⟨h39,hB,a8,a7,a6,a1⟩:=hI;refine jK 39 _ h39 nu (e_S ?_);refine zV rfl (fun c0=>?_) (fun c0=>?_)
 ·refine zn2 ?_;refine wl (kK (vs:=#[]) (cs:=#[.string ⟨#[]⟩,.slice none 0 0,.int .i64 0,.int .i64 0,.string ⟨#[]⟩,.int .i64 0,.string ⟨#[]⟩,.slice none 0 0,.slice none 0 0]) (by simp) kR) ?_;refine zk a1 rfl rfl j6 rfl zJ (fun w8 hq t6=>?_);replace a1:=hq;refine zn5 ?_;refine kY (.inl rfl) rfl (zZ U38 rfl rfl a1.range0 j6) rfl ?_;replace hB:=hB.tr1 t6 bi;exact⟨⟨false,[],none,0,⟨#[]⟩,0,0,0,⟨#[]⟩,⟨#[]⟩,none,none,0,0,0,0,rfl,Hv.triv _ _ _ (fun w=>uZ w none),GJ (.inl (fun k=>c0 k.1)),fun h=>by cases h⟩,hB⟩
 have hwd:=am.1 c0;refine zn6 ?_;refine wl (qZ U28 rfl rfl (a7.sub (n:=1) (xs:=[_]) rfl) M8) (zn1 ?_);refine wl (qZ U28 rfl rfl (a6.sub (n:=1) (xs:=[_]) rfl) M8) ?_;obtain⟨l3,bo⟩:∃ z,z=w6.heap.size:=⟨_,rfl⟩
 have l36:b6<l3:=by rw[bo];exact a1.lt
 refine zW kR (step_any (m:=1) (f:=1) _ (br.mono hB) (hTI.mono hB) (hP.g.mono hB) (hGx.mono hB) hJ hgx dE dE) rfl (fun e' w9 hr=>?_);obtain⟨⟨A3,X3,ok3,rfl,bt,hS3⟩,t7⟩:=hr;replace t7:=sB t7;rw[<- bo]at bt;clear bo;have a2:=Hv.fr bt;clear bt;refine⟨_,rfl,?_⟩;refine wmT rfl (wl (y8 (v:= .agg _) rfl rfl) (wl (y8 (v:= .bool _) rfl rfl) ?_));refine qk (cs:=#[.slice none 0 0]) jY rfl (fun b10 w10 ad t8 hr=>?_);have:=nLL a8.u.lt hr;have:=nLL a7.u.lt hr;have:=nLL a6.u.lt hr;have:=nLL a1.u.lt hr;have a5:=(nLT a2.le hr)
 have an:=nLT (Bel.size hB.u) hr;clear hr;refine zk ad rfl rfl M8 rfl zJ (fun w11 hq t9=>?_);replace a2:=a2.tr0 t8;replace a2:=a2.tr t9 (fun g hg=> .inr (.inr (by rw[List.mem_singleton.1 hg];exact a5)));replace ad:=hq;refine vy ?_;refine ky rfl (fun bz=>?_) (fun bz=>?_)
 ·have b1:ok3=false:=by simpa using bz
  refine zn2 ?_;refine wl (kK (vs:=#[]) (cs:=#[.string ⟨#[]⟩,.slice none 0 0,.int .i64 0,.int .i64 0,.string ⟨#[]⟩,.int .i64 0,.string ⟨#[]⟩,.slice none 0 0,.slice none 0 0]) (by simp) kR) ?_;refine zk a1.u rfl rfl j6 rfl zJ (fun w12 hq t10=>?_);replace a1:=hq;refine zn5 ?_;refine kY (.inl rfl) rfl (zZ U38 rfl rfl a1.range0 j6) rfl ?_;replace hB:=((hB.tr0 (t7.t t8)).tr1 t9 an).tr1 t10 bi;exact⟨⟨false,[],none,0,⟨#[]⟩,0,0,0,⟨#[]⟩,⟨#[]⟩,none,none,0,0,0,0,rfl,Hv.triv _ _ _ (fun w=>uZ w none),GJ (.inr (join_no (step_no hS3 b1))),fun h=>by cases h⟩,hB⟩
 have b1:ok3=true:=by simpa using bz
 obtain⟨hU3,h60⟩:=step_yes hS3 b1;have hJ3:Jok l fs 1 X3:=hJ.step hgx dE dE hU3 h60;refine zn5 ?_;refine wl (qZ U34 rfl rfl (a7.u.sub (n:=6) (xs:=[_,_,_,_,_,_]) rfl) gQ) (zn1 ?_);refine wl (qZ U34 rfl rfl (a6.u.sub (n:=6) (xs:=[_,_,_,_,_,_]) rfl) gQ) ?_;refine zW kR (Lj r.mean x.mean SA BA Sx Bx cs cb bv bw _ (hP.s.mono hB.u) (hP.t.mono hB.u) (hSx.mono hB.u) (hTx.mono hB.u)) rfl (fun e' w13 hr=>?_);obtain⟨⟨k6,i6,m6,s6,A6,B6,n6,c6,o6,d6,fc,fi,rfl,hap⟩,b8⟩:=hr;replace b8:=sB b8;refine⟨_,rfl,?_⟩;refine wmT rfl (wl (y8 (v:= .agg _) rfl rfl) (wl (y8 (v:= .agg _) rfl rfl) ?_));refine qk (cs:=#[.int .i64 0,.string ⟨#[]⟩,.int .i64 0,.string ⟨#[]⟩,.slice none 0 0,.slice none 0 0]) gv rfl (fun b11 w14 b2 bh hr=>?_);have:=nLL a7.u.lt hr;have:=nLL a6.u.lt hr;have:=nLL a1.u.lt hr;replace a2:=a2.tr0 b8;have a4:=(nLT a2.le hr)
 have:=nLL ad.u.lt hr;have ba:=nLT (Bel.size hB.u) hr;clear hr;refine qk (cs:=#[.int .i64 0,.int .i64 0]) qK rfl (fun b12 w15 bb bg hr=>?_);have:=nLL a7.u.lt hr;have:=nLL a6.u.lt hr;have:=nLL a1.u.lt hr;replace a2:=a2.tr0 bh;have a3:=(nLT a2.le hr)
 have:=nLL ad.u.lt hr;have:=nLL b2.lt hr;have b9:=nLT (Bel.size hB.u) hr;clear hr;refine zk b2.u rfl rfl gQ rfl zJ (fun w16 hq bf=>?_);replace a2:=a2.tr0 bg;replace a2:=a2.tr bf (fun g hg=> .inr (.inr (by rw[List.mem_singleton.1 hg];exact a4)));replace b2:=hq;refine zk bb.u rfl rfl zq rfl zJ (fun w17 hq be=>?_);replace a2:=a2.tr be (fun g hg=> .inr (.inr (by rw[List.mem_singleton.1 hg];exact a3)));replace bb:=hq;refine vy ?_;refine zV rfl (fun bx=>?_) (fun bx=>?_)
 ·have hno:¬Rv r.mean x.mean:=fun k=>bx (hap.2 k)
  refine zn2 ?_;refine wl (kK (vs:=#[]) (cs:=#[.string ⟨#[]⟩,.slice none 0 0,.int .i64 0,.int .i64 0,.string ⟨#[]⟩,.int .i64 0,.string ⟨#[]⟩,.slice none 0 0,.slice none 0 0]) (by simp) kR) ?_;refine zk a1.u rfl rfl j6 rfl zJ (fun w18 hq t16=>?_);replace a1:=hq;refine zn5 ?_;refine kY (.inl rfl) rfl (zZ U38 rfl rfl a1.range0 j6) rfl ?_;replace hB:=(((((hB.tr0 (t7.t t8)).tr1 t9 an).tr0 (b8.t (bh.t bg))).tr1 bf ba).tr1 be b9).tr1 t16 bi;exact⟨⟨false,[],none,0,⟨#[]⟩,0,0,0,⟨#[]⟩,⟨#[]⟩,none,none,0,0,0,0,rfl,Hv.triv _ _ _ (fun w=>uZ w none),GJ (.inl (fun k=>hno k.2)),fun h=>by cases h⟩,hB⟩
 have bm:=hap.1 (ak.1 bx);refine zn3 ?_;replace a1:=((((a1.tr0 (t7.t t8)).tr1 t9 oG).tr0 (b8.t (bh.t bg))).tr1 bf oG).tr1 be oG;have z6:=a1.lt;replace hB:=((((hB.tr0 (t7.t t8)).tr1 t9 an).tr0 (b8.t (bh.t bg))).tr1 bf ba).tr1 be b9;have bn:=Bel.size hB;refine X6 [] [10] [0,1,3,4,5,6,7,8,2,9,10,11] rfl (fun w19 bj=>?_);have hs0:=bj;refine zn6 ?_;refine hl rfl (fun _=>QZ (c:=(x.wt+r.wt)) rfl rfl rfl oG) (zn1 ?_);replace a2:=a2.tr0 bj;refine hcl (fun v wv=>∃ A o n,v= .agg #[.slice A o.length o.length]/\DL X3 [(plc X3 0).toNat] [] o/\Hv w17.heap.size [] n wv (fun w=>NodesIn w A (yQ X3 o))) rfl kR (Gj (m:=1) w19 a2.now hJ3 dE) rfl (fun e' w2 hr=>?_) (fun v67 w20 t18 d67=>?_)
 ·obtain⟨⟨A9,o9,hd9,rfl,hN9⟩,t19⟩:=hr;exact⟨_,rfl,sB t19,⟨A9,o9,_,rfl,hd9,(Hv.fr hN9).mono hs0.size (ae _) (ae _)⟩⟩
 obtain⟨A67,bk,n67,e67,bq,a9⟩:=d67;subst e67;refine hl rfl (fun _=>r_bd4 (v0:= .string _) (v1:= .agg _) (v2:= .int _ _) (v3:= .agg _) (fun v0 v1 v2 v3=>#[v0,(qz v1 0),v2,(qz v3 0),(qz v3 1),(qz v3 2),(qz v3 3),(qz v3 4),(qz v3 5)]) rfl rfl rfl rfl kR) (h1 rfl ?_);refine zk a1.u rfl rfl j6 rfl zJ (fun w21 hq bc=>?_);have hsH10:=bc;replace a2:=a2.tr0 t18;replace a2:=a2.lo1 bc l36;replace a9:=a9.lo1 bc z6;replace a1:=hq;refine zQ (Hj [] (zn4 ?_));refine kY (.inl rfl) rfl (zZ U38 rfl rfl a1.range0 j6) rfl ?_;replace hB:=(hB.tr0 (bj.t t18)).tr1 bc bi;exact⟨⟨true,yQ X3 bk,A67,bk.length,wdL r x,x.wt+r.wt,k6,i6,m6,s6,A6,B6,n6,c6,o6,d6,by rw[oQ];rfl,a9.mono bn a9.le (ae _),lrs_yes hwd bm (.inl ⟨X3,hU3,h60,rfl,bk,bq,rfl⟩),fun _=>⟨rfl,rfl⟩⟩,hB⟩
theorem O8(AT AF:Option Addr)(ct cf:Nat)(l:List Ty)(fs:List Ft)(r:Lr)(x:Lx)(G SA BA Gx Sx Bx:Option Addr)(cg cs cb b1 an b2:Nat)(w:World)(a7:TabIn w)(hU:U8In w)(hr:(lrV l fs r).1=0)(hx:KK l fs x=0)(hTy:TypesIn w AT l)(hF:FeatsIn w AF fs)(hP:LrP w r G SA BA)(hGx:NodesIn w Gx x.gr)(hSx:SimsIn w Sx x.mean.type.args)(hTx:TmsIn w Bx x.mean.args):Calls prog 6 #[.agg #[.slice AT l.length ct,.slice AF fs.length cf],.agg #[.string r.name,.string r.cut,.string r.add,.slice G r.gr.length cg,.int .i64 r.wt,.int .i64 (r.mean).kind,.string (r.mean).name,.int .i64 (r.mean).index,.string (r.mean).type.base,.slice SA (r.mean).type.args.length cs,.slice BA (r.mean).args.length cb],.agg #[.string x.word,.slice Gx x.gr.length b1,.int .i64 x.wt,.int .i64 (x.mean).kind,.string (x.mean).name,.int .i64 (x.mean).index,.string (x.mean).type.base,.slice Sx (x.mean).type.args.length an,.slice Bx (x.mean).args.length b2]] w fun e w'=>(∃(ok:Bool) (Y:List Nd) (A5:Option Addr) (c5:Nat) (wd:ByteArray) (wt k6 i6:Int) (m6 s6:ByteArray) (A6 B6:Option Addr) (n6 c6 o6 d6:Nat),e= .returned (.tuple #[.agg #[.string wd,.slice A5 (List.length Y) c5,.int .i64 wt,.int .i64 k6,.string m6,.int .i64 i6,.string s6,.slice A6 n6 c6,.slice B6 o6 d6],.bool ok,.agg #[.int .i64 0,.int .i64 0]])/\Hv w.heap.size [] w'.heap.size w' (fun w=>NodesIn w A5 Y)/\LrS l r x ok Y/\(ok=true->wd=wdL r x/\wt=x.wt+r.wt))/\Bel w w':=by
 obtain⟨hrd,hrf⟩:=O0 hr;obtain⟨h0,hf3⟩:=Iz hrd;have hS:=Qy h0;have hwz:=E9 (R1 hx).1;refine enT func6 ntmps6 rfl rfl fun hB=>?_;refine zn2 ?_;refine qY (v:= .agg #[_,_]) (cs:=#[_,_]) rfl rfl (fun b3 w1 hb3 t1 hr=>?_);clear hr;refine qY (v:= .agg #[_,_,_,_,_,_,_,_,_,_,_]) (cs:=#[_,_,_,_,_,_,_,_,_,_,_]) rfl rfl (fun b4 w2 hb4 t2 hr=>?_);clear hr;refine qY (v:= .agg #[_,_,_,_,_,_,_,_,_]) (cs:=#[_,_,_,_,_,_,_,_,_]) rfl rfl (fun b5 w3 hb5 t3 hr=>?_);clear hr;refine qk (cs:=#[.string ⟨#[]⟩,.slice none 0 0,.int .i64 0,.int .i64 0,.string ⟨#[]⟩,.int .i64 0,.string ⟨#[]⟩,.slice none 0 0,.slice none 0 0]) YQ rfl (fun b6 w4 a3 t4 hr=>?_);have lo6:=nLT (Bel.size hB.u) hr;clear hr;refine waB rfl ?_;refine qk (cs:=#[.int .i64 0,.int .i64 0]) qK rfl (fun b8 w5 a4 t5 hr=>?_);have:=nLL a3.lt hr;have lo8:=nLT (Bel.size hB.u) hr;clear hr;refine zn7 ?_;refine zW kR (DQ AT AF ct cf l fs r G SA BA cg cs cb _ (a7.mono hB.u) (hU.mono hB.u) (hTy.mono hB.u) (hF.mono hB.u) (hP.mono hB.u)) rfl (fun e' w6 hr=>?_);obtain⟨rfl,t6⟩:=hr;replace t6:=sB t6;refine⟨_,rfl,?_⟩;refine yj (cs:=#[.int .i64 0,.int .i64 0]) qK rfl (fun _=>rfl) (fun _=>rfl) zq rfl zJ (fun b9 w8 hb9 t7 hr=>?_);clear hr;refine zn9 ?_;refine zV rfl (fun c19=>?_) (fun c19=>?_)
 ·exact absurd hr c19
 refine zn6 ?_;refine zW Hz (Vk AT ct l _ (hTy.mono hB.u) hS.vt hS.le) rfl (fun e' w9 hr=>?_);obtain⟨bu,bd,rfl,ad,t8⟩:=hr;replace t8:=sB t8;obtain⟨wT,a8⟩:∃ x,x=w9:=⟨_,rfl⟩
 have hBT:Bel wT w9:=by rw[a8];exact Below.refl _ _
 rw[<- a8]at ad;clear a8;refine⟨_,rfl,?_⟩;refine yj (cs:=#[.slice none 0 0,.slice none 0 0]) Py rfl (fun _=>rfl) (fun _=>rfl) Z7 rfl zJ (fun b10 w11 hb10 t9 hr=>?_);clear hr;refine zn8 ?_;refine zW kR (entry_any AT AF Gx Sx Bx ct cf b1 an b2 bu bd l fs x _ (hU.mono hB.u) (ad.mono hBT.u) hS.le (hF.mono hB.u) (O5 h0) (hGx.mono hB.u) (hSx.mono hB.u) (hTx.mono hB.u) oG) rfl (fun e' w12 hr=>?_);obtain⟨rfl,a5⟩:=hr;replace a5:=sB a5;refine⟨_,rfl,?_⟩;refine zn9 ?_;refine zV rfl (fun c30=>?_) (fun c30=>?_)
 ·exact absurd hx c30
 refine zn7 ?_;replace a3:=a3.tr0 (t5.t (t6.t (t7.t (t8.t (t9.t a5)))));have z6:=a3.lt;replace a4:=a4.tr0 (t6.t (t7.t (t8.t (t9.t a5))));have z8:=a4.lt;replace hB:=hB.tr0 (t1.t (t2.t (t3.t (t4.t (t5.t (t6.t (t7.t (t8.t (t9.t a5)))))))));have a9:=Bel.size hB;refine zW kR (lapply_any l fs r x G SA BA Gx Sx Bx cg cs cb b1 an b2 bu bd _ (a7.mono hB) (hU.mono hB) (ad.mono hBT.u) h0 hrf hx (hP.mono hB) (hGx.mono hB) (hSx.mono hB) (hTx.mono hB)) rfl (fun e' w13 hr=>?_);obtain⟨⟨ok,Y,A5,c5,wd,wt,k6,i6,m6,s6,A6,B6,n6,c6,o6,d6,rfl,a2,hLS,hwt⟩,t11⟩:=hr;replace t11:=sB t11;refine⟨_,rfl,?_⟩;refine wmT rfl (wl (y8 (v:= .agg _) rfl rfl) (wl (y8 (v:= .bool _) rfl rfl) ?_));refine qk (cs:=#[.string ⟨#[]⟩,.slice none 0 0,.int .i64 0,.int .i64 0,.string ⟨#[]⟩,.int .i64 0,.string ⟨#[]⟩,.slice none 0 0,.slice none 0 0]) YQ rfl (fun b12 w14 a6 t12 hr=>?_);have:=nLL a3.u.lt hr;have:=nLL a4.u.lt hr;have a1:=(nLT a2.le hr)
 have lo12:=nLT (Bel.size hB.u) hr;clear hr;refine zk a6 rfl rfl j6 rfl zJ (fun w15 hq t13=>?_);replace a2:=a2.tr0 t12;replace a2:=a2.tr t13 (fun g hg=> .inr (.inr (by rw[List.mem_singleton.1 hg];exact a1)));replace a6:=hq;refine zn7 ?_;refine wl (kK (vs:=#[]) (cs:=#[.int .i64 0,.int .i64 0]) (by simp) kR) ?_;refine zk a3.u rfl rfl j6 rfl zJ (fun w16 hq t14=>?_);replace a2:=a2.lo1 t14 z6;replace a3:=hq;refine waB rfl ?_;refine zk a4.u rfl rfl zq rfl zJ (fun w17 hq t15=>?_);replace a2:=a2.lo1 t15 z8;replace a4:=hq;refine zn3 ?_;refine P4 (.inl rfl) rfl (zZ U38 rfl rfl a3.u.range0 j6) rfl (zZ U45 rfl rfl a4.range0 zq) ?_;exact⟨⟨ok,Y,A5,c5,wd,wt,k6,i6,m6,s6,A6,B6,n6,c6,o6,d6,rfl,a2.mono a9 a2.le (ae _),hLS,hwt⟩,hB.u⟩
theorem lk_two{w:World}{b t:Nat}{a c d e:Int}(h:Blk w b t #[.int .i64 a,.int .i64 c,.int .i64 d,.int .i64 e]):LinksIn w (some ⟨b,0,none⟩) [(a,c),(d,e)]:=
 ⟨by show 2<=jx;decide,fun _=>⟨b,0,rfl,h.lt,fun k hk=>by
  match k,hk with
  | 0,_=>exact h.range (fun j v hj=>by
   match j,hj with
   | 0,hj=>exact hj
   | 1,hj=>exact hj
   | j+2,hj=>simp at hj)
  | 1,_=>exact h.range (fun j v hj=>by
   match j,hj with
   | 0,hj=>exact hj
   | 1,hj=>exact hj
   | j+2,hj=>simp at hj)⟩⟩
theorem lk_one{w:World}{b t:Nat}{a c:Int}(h:Blk w b t #[.int .i64 a,.int .i64 c]):LinksIn w (some ⟨b,0,none⟩) [(a,c)]:=
 ⟨by show 1<=jx;decide,fun _=>⟨b,0,rfl,h.lt,fun k hk=>by
  match k,hk with
  | 0,_=>exact h.range (fun j v hj=>by
   match j,hj with
   | 0,hj=>exact hj
   | 1,hj=>exact hj
   | j+2,hj=>simp at hj)⟩⟩
theorem lk_nil{w:World}:LinksIn w none []:=⟨ag _,fun h=>absurd rfl h⟩
theorem nd_five{w:World}{b t c0 c1 c2 c3 c4:Nat}{t0 t1 t2 t3 t4:Int}{A0 A1 A2 A3 A4:Option Addr}{l0 l1 l2 l3 l4:List (Int×Int)}(h:Blk w b t #[.int .i64 t0,.slice A0 l0.length c0,.int .i64 t1,.slice A1 l1.length c1,.int .i64 t2,.slice A2 l2.length c2,.int .i64 t3,.slice A3 l3.length c3,.int .i64 t4,.slice A4 l4.length c4])(h0:LinksIn w A0 l0)(h1:LinksIn w A1 l1)(h2:LinksIn w A2 l2)(h3:LinksIn w A3 l3)(h4:LinksIn w A4 l4):NodesIn w (some ⟨b,0,none⟩) [⟨t0,l0⟩,⟨t1,l1⟩,⟨t2,l2⟩,⟨t3,l3⟩,⟨t4,l4⟩]:=
 ⟨by show 5<=jx;decide,fun _=>⟨b,0,rfl,h.lt,fun k hk=>by
  have r:∀ {o:Nat} {A:Option Addr} {n c:Nat} {ty:Int},(#[Value.int .i64 t0,.slice A0 l0.length c0,.int .i64 t1,.slice A1 l1.length c1,.int .i64 t2,.slice A2 l2.length c2,.int .i64 t3,.slice A3 l3.length c3,.int .i64 t4,.slice A4 l4.length c4]:Array Value)[o]? =some (.int .i64 ty)->(#[Value.int .i64 t0,.slice A0 l0.length c0,.int .i64 t1,.slice A1 l1.length c1,.int .i64 t2,.slice A2 l2.length c2,.int .i64 t3,.slice A3 l3.length c3,.int .i64 t4,.slice A4 l4.length c4]:Array Value)[o+1]? =some (.slice A n c)->w.rangeAt b o [.int .i64 ty,.slice A n c]:=fun e1 e2=>h.range (fun j v hj=>by
   match j,hj with
   | 0,hj=>cases hj;exact e1
   | 1,hj=>cases hj;exact e2
   | j+2,hj=>simp at hj)
  match k,hk with
  | 0,_=>exact⟨A0,c0,r rfl rfl,h0⟩
  | 1,_=>exact⟨A1,c1,r rfl rfl,h1⟩
  | 2,_=>exact⟨A2,c2,r rfl rfl,h2⟩
  | 3,_=>exact⟨A3,c3,r rfl rfl,h3⟩
  | 4,_=>exact⟨A4,c4,r rfl rfl,h4⟩⟩⟩
theorem ze36:(Tryz.prog.info? 36).map (·.zero)=some (some (.agg #[.string ⟨#[]⟩,.string ⟨#[]⟩,.string ⟨#[]⟩,.slice none 0 0,.int .i64 0,.int .i64 0,.string ⟨#[]⟩,.int .i64 0,.string ⟨#[]⟩,.slice none 0 0,.slice none 0 0])):=by kernel_rfl
set_option maxHeartbeats 2000000 in
theorem G6(w:World):Calls Tryz.prog 7 #[] w fun e w'=>(∃ G SA BA cg cs cb,e= .returned (.agg #[.string pluralR.name,.string pluralR.cut,.string pluralR.add,.slice G pluralR.gr.length cg,.int .i64 pluralR.wt,.int .i64 (pluralR.mean).kind,.string (pluralR.mean).name,.int .i64 (pluralR.mean).index,.string (pluralR.mean).type.base,.slice SA (pluralR.mean).type.args.length cs,.slice BA (pluralR.mean).args.length cb])/\LrP w' pluralR G SA BA)/\Bel w w':=by
 refine enT Tryz.func7 Tryz.ntmps7 rfl rfl fun hB=>?_;refine zn2 ?_;refine qk (cs:=#[.string ⟨#[]⟩,.string ⟨#[]⟩,.string ⟨#[]⟩,.slice none 0 0,.int .i64 0,.int .i64 0,.string ⟨#[]⟩,.int .i64 0,.string ⟨#[]⟩,.slice none 0 0,.slice none 0 0]) ze36 rfl (fun b0 w1 a1 t1 hr=>?_);have lo0:=nLT (Bel.size hB) hr;refine zn4 ?_;refine wl (ZY (v0:= .string _) (fun v0=>#[v0,.slice none 0 0]) rfl kR) (wl (ZY (v0:= .string _) (fun v0=>#[v0,.slice none 0 0]) rfl kR) ?_);refine qv (cs:=#[_,_,_,_]) [(0,.agg _),(1,.agg _)] rfl U29 xY JQ dE dE kR rfl (fun b4 w2 hb4 t2 hr=>?_);have:=nLL a1.lt hr;refine wl (ZY (v0:= .slice _ _ _) (fun v0=>#[.string ⟨#[]⟩,v0]) rfl kR) ?_;refine yj (cs:=#[.string ⟨#[]⟩,.slice none 0 0]) JQ rfl (fun _=>rfl) (fun _=>rfl) xY rfl zJ (fun b1 w4 hb1 t3 hr=>?_);refine zn4 ?_;refine wl (jk (v0:= .int _ _) (v1:= .int _ _) (fun v0 v1=>#[v0,v1]) rfl rfl kR) (wl (jk (v0:= .int _ _) (v1:= .int _ _) (fun v0 v1=>#[v0,v1]) rfl rfl kR) ?_);refine qv (cs:=#[_,_,_,_]) [(0,.agg _),(1,.agg _)] rfl U91 Yj OK dE dE kR rfl (fun b8 w5 hb8 t4 hr=>?_);have:=nLL a1.u.lt hr;refine wl (jk (v0:= .int _ _) (v1:= .slice _ _ _) (fun v0 v1=>#[v0,v1]) rfl rfl kR) (wl (jk (v0:= .int _ _) (v1:= .int _ _) (fun v0 v1=>#[v0,v1]) rfl rfl kR) ?_);refine qv (cs:=#[_,_]) [(0,.agg _)] rfl U91 Yj OK dE dE kR rfl (fun b11 w6 a5 t5 hr=>?_);have:=nLL a1.u.lt hr;refine wl (jk (v0:= .int _ _) (v1:= .slice _ _ _) (fun v0 v1=>#[v0,v1]) rfl rfl kR) (wl (ZY (v0:= .int _ _) (fun v0=>#[v0,.slice none 0 0]) rfl kR) (wl (jk (v0:= .int _ _) (v1:= .int _ _) (fun v0 v1=>#[v0,v1]) rfl rfl kR) ?_));refine qv (cs:=#[_,_]) [(0,.agg _)] rfl U91 Yj OK dE dE kR rfl (fun b15 w7 a4 t6 hr=>?_);have:=nLL a1.u.lt hr;refine wl (jk (v0:= .int _ _) (v1:= .slice _ _ _) (fun v0 v1=>#[v0,v1]) rfl rfl kR) (wl (ZY (v0:= .int _ _) (fun v0=>#[v0,.slice none 0 0]) rfl kR) ?_);refine qv (cs:=#[_,_,_,_,_,_,_,_,_,_]) [(0,.agg _),(1,.agg _),(2,.agg _),(3,.agg _),(4,.agg _)] rfl U26 JW ze93 dE dE kR rfl (fun b18 w8 a3 t7 hr=>?_);have:=nLL a1.u.lt hr;refine wl (ZY (v0:= .slice _ _ _) (fun v0=>#[v0]) rfl kR) (zn1 ?_);refine wl (ZY (v0:= .int _ _) (fun v0=>#[v0,.string ⟨#[]⟩,.int .i64 0,.string ⟨#[]⟩,.slice none 0 0,.slice none 0 0]) rfl kR) ?_;refine qv (cs:=#[_,_,_,_,_,_]) [(0,.agg _)] rfl U32 gQ gv dE dE kR rfl (fun b22 w9 a2 t8 hr=>?_);have:=nLL a1.u.lt hr;refine wl (IV (v0:= .int _ _) (v1:= .agg _) (v2:= .slice _ _ _) (fun v0 v1 v2=>#[v0,.string ⟨#[]⟩,.int .i64 0,(qz v1 0),(qz v1 1),v2]) rfl rfl rfl kR) (wl (BW (v0:= .string _) (v1:= .string _) (v2:= .int _ _) (v3:= .agg _) (v4:= .agg _) (fun v0 v1 v2 v3 v4=>#[v0,.string ⟨#[]⟩,v1,(qz v3 0),v2,(qz v4 0),(qz v4 1),(qz v4 2),(qz v4 3),(qz v4 4),(qz v4 5)]) rfl rfl rfl rfl rfl kR) ?_)
 refine zk a1.u rfl rfl sz36 rfl zJ (fun w10 hq t9=>?_);replace a1:=hq;refine zn3 ?_;refine yx (.inl rfl) rfl (zZ U36 rfl rfl a1.range0 sz36) ?_;exact⟨⟨some ⟨b18,0,none⟩,some ⟨b4,0,none⟩,some ⟨b22,0,none⟩,5,2,1,rfl,nd_five (l0:=[(0,1),(1,3)]) (l1:=[(4,2)]) (l2:=[]) (l3:=[(4,4)]) (l4:=[]) a3.u (lk_two hb8.u) (lk_one a5.u) lk_nil (lk_one a4.u) lk_nil,FX (s1:=(Ts.b false).sm) (s2:=(Ts.b true).sm) hb4.u .nil .nil,tms_one (x:=(Tv.var 0).tm) (S:=none) (B:=none) (cs:=0) (cb:=0) a2.u .nil .nil,by decide,by decide⟩,hB.u⟩
end Go.Proofs.YtiofaflajkgiaaaGreatDoor
