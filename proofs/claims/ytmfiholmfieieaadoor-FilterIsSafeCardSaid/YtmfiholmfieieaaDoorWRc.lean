/- What these functions compute, at every world: lexrule.Step, , lexrule.Mother, grammar.Join, unicode/utf8.RuneCountInString, unicode/utf8.word[string]; and plain laws. -/
import Derived.Test.YtmfiholmfieieaaDoorU
import Derived.Test.YtmfiholmfieieaaDoorZst
import Derived.Test.YtmfiholmfieieaaDoorCmt
import Derived.Test.YtmfiholmfieieaaDoorComp
import Derived.Test.YtmfiholmfieieaaDoorEng3
import Derived.Test.YtmfiholmfieieaaDoorTxt
import Derived.Test.YtmfiholmfieieaaDoorUni
import Derived.Test.YtmfiholmfieieaaDoorGro
namespace Go.Proofs.YtmfiholmfieieaaDoor
open Go.RowKit
set_option maxRecDepth 100000
set_option maxHeartbeats 4000000
variable {A:Option Addr}{B b cap k n t:Nat}{X g ga gb:List Nd}{cs vs:List Value}{f m:Int}{fs:List Ft}{l:List Ty}{ns:List ByteArray}{ok:Bool}{ps:List Int}{w w1:World}
def StepS(l:List Ty)(ga gb:List Nd)(f:Int)(ok:Bool)(X:List Nd):Prop:=
 (ok=true/\Xx l (yZ ga gb) [((plc ga f).toNat,ga.length)] X/\X.length<=60)\/(ok=false/\BadU l (yZ ga gb) [((plc ga f).toNat,ga.length)])
def Q8(l:List Ty)(U:List Nd)(J:List (Nat×Nat))(ok:Bool)(X:List Nd):Prop:=(ok=true/\Xx l U J X)\/(ok=false/\X= []/\¬K9 l U J)
theorem into_det{j:Nat}(hga:GX l ga)(hgb:GX l gb)(hj:j<ga.length):∃ ok X,∀ a1 X',Q8 l (yZ ga gb) [(j,ga.length)] a1 X'->a1=ok/\X'=X/\Q8 l (yZ ga gb) [(j,ga.length)] ok X:=by
 by_cases h:∃ X,Xx l (yZ ga gb) [(j,ga.length)] X
 ·obtain⟨X,hX⟩:=h
  refine⟨true,X,fun a1 X' h'=>?_⟩;rcases h' with ⟨rfl,k⟩|⟨_,_,k⟩
  ·exact⟨rfl,Pw hga hgb hj k hX,.inl ⟨rfl,hX⟩⟩
  ·exact absurd (NJ hga hgb hj hX) k
 ·refine⟨false,[],fun a1 X' h'=>?_⟩
  rcases h' with ⟨_,k⟩|⟨rfl,rfl,k⟩
  ·exact absurd ⟨_,k⟩ h
  ·exact⟨rfl,rfl,.inr ⟨rfl,rfl,k⟩⟩
theorem step_of(_hga:GX l ga)(_hgb:GX l gb)(_hj:(plc ga f).toNat<ga.length)(h:Q8 l (yZ ga gb) [((plc ga f).toNat,ga.length)] ok X):StepS l ga gb f (ok&&decide (((X.length:Nat):Int)<=60)) X:=by
 rcases h with ⟨rfl,h⟩|⟨rfl,_,h⟩
 ·by_cases e:X.length<=60
  ·exact .inl ⟨by simp;omega,h,e⟩
  ·exact .inr ⟨by simp;omega,.inr ⟨X,h,by omega⟩⟩
 ·exact .inr ⟨rfl,.inl h⟩
theorem G3(h:Jok l fs m g)(h0:0<=f)(hm:f<=m):(tgt (g[0]'h.v.gx.pos).ln f)=(((plc g f).toNat:Nat):Int):=by
 have:=h.p f h0 hm;rw[<- yv h.v.gx.pos];unfold plc at this ⊢;omega
theorem XJ{lo hi:Nat}{p:World->Prop}(h:Kept lo hi w p)(hb:B<=lo):∀ w2,FrSame B w w2->p w2:=fun w2 hf=>h.2 w2 (nLT h.1 hf.1) (fun b h1 h2=>hf.2 b (nLT hb h1) (nLL h2 h.1))
theorem u7{p:World->Prop}(h:∀ w2,FrSame B w w2->p w2):Kept B w.heap.size w p:=⟨ae _,fun w2 hs hb=>h w2 ⟨hs,fun k h1 h2=>hb k h1 h2⟩⟩
theorem step_yes(h:StepS l ga gb f ok X)(hk:ok=true):Xx l (yZ ga gb) [((plc ga f).toNat,ga.length)] X/\X.length<=60:=by
 rcases h with ⟨_,a,b⟩|⟨e,_⟩
 ·exact⟨a,b⟩
 ·rw[hk]at e;cases e
theorem step_no(h:StepS l ga gb f ok X)(hk:ok=false):BadU l (yZ ga gb) [((plc ga f).toNat,ga.length)]:=by
 rcases h with ⟨e,_⟩|⟨_,a⟩
 ·rw[hk]at e;cases e
 ·exact a
theorem WW:zk Tryd.prog 53=true:=by kernel_rfl
set_option maxRecDepth 100000 in
set_option maxHeartbeats 4000000 in
theorem step_any{bu bd c1 c2:Nat}{G1 G2:Option Addr}(w:World)(bt:TabIn w)(hTI:TableIn w l bu bd)(hG1:NodesIn w G1 ga)(hG2:NodesIn w G2 gb)(ha:Jok l fs m ga)(hb:GV l fs gb)(hf0:0<=f)(hfm:f<=m):Calls Tryd.prog 80 #[.agg #[.slice (some ⟨bu,0,none⟩) l.length l.length,.slice (some ⟨bd,0,none⟩) l.length l.length],.agg #[.slice G1 ga.length c1],.int .i64 f,.agg #[.slice G2 gb.length c2]] w fun e w'=>(∃ A X ok,e= .returned (.tuple #[.agg #[.slice A (List.length X) X.length],.bool ok])/\(∀ w2,FrSame w.heap.size w' w2->NodesIn w2 A X)/\StepS l ga gb f ok X)/\Bel w w':=by
 have bn:=ha.lt hf0 hfm;have bv:=ha.v.gx.pos;obtain⟨a5,XI,br⟩:=into_det ha.v.gx hb.gx bn;have hpa:=G3 ha hf0 hfm;refine enT Tryd.func80 Tryd.ntmps80 rfl rfl fun hB=>?_;refine zn2 ?_;refine qZ (cs:=#[_,_]) rfl (fun b4 w1 be s1 hr=>?_);have lo4:=hB.ob hr;refine qZ (cs:=#[_]) rfl (fun b5 w2 bc s2 hr=>?_);have:=be.ob hr;have lo5:=hB.u.ob hr;refine qZ (cs:=#[_]) rfl (fun b7 w3 bi s3 hr=>?_);have:=be.u.ob hr;have:=bc.ob hr;have lo7:=hB.u.ob hr;refine qw (cs:=#[.slice none 0 0]) kJ rfl (fun b8 w4 a7 s4 hr=>?_);have:=be.u.ob hr;have:=bc.u.ob hr;have:=bi.ob hr;have lo8:=hB.u.ob hr;refine zn4 ?_;replace hB:=hB.tr0 (s1.t (s2.t (s3.t s4)));have hsz:=Bel.size hB;replace be:=be.tr0 (s2.t (s3.t s4));have z4:=be.lt;replace bc:=bc.tr0 (s3.t s4);have z5:=bc.lt;replace bi:=bi.tr0 s4;have z7:=bi.lt;have z8:=a7.lt;refine yX (rgq [] 10 12) (fun g w'=>∃(a8:Nat) (AZ:Option Addr) (lz hz:Nat),g 10= .pointer (some ⟨a8,0,none⟩)/\g 11= .bool a5/\Bel w w'/\Blk w' a8 30 #[.slice AZ (List.length XI) XI.length]/\(∃ z,Blk w' b8 30 #[z])/\b8≠a8/\Kept lz hz w' (fun wq=>NodesIn wq AZ XI)/\w.heap.size<=lz/\b8<lz/\Q8 l (yZ ga gb) [((plc ga f).toNat,ga.length)] a5 XI) ?_ (fun g1 w5 hI=>?_)
 ·refine H8 11 [13,14,15,16,17,18,19,12,20,21,10] [9] (fun ix=>bif Nat.beq ix 7 then 6 else bif Nat.beq ix 8 then 6 else ix) (fun ix v la ha wv=>match ix with|0=>v= .agg #[.slice (some ⟨bu,0,none⟩) l.length l.length,.slice (some ⟨bd,0,none⟩) l.length l.length]|1=>v= .agg #[.slice G1 ga.length c1]|2=>v= .agg #[.slice G1 ga.length c1]|3=>v= .int .i64 f|4=>v= .int .i64 (((plc ga f).toNat:Nat):Int)|5=>v= .agg #[.slice G2 gb.length c2]|6=>∃ AZ,v= .tuple #[.agg #[.slice AZ (List.length XI) XI.length],.bool a5]/\Kept la ha wv (fun wq=>NodesIn wq AZ XI)/\w4.heap.size<=la/\Q8 l (yZ ga gb) [((plc ga f).toNat,ga.length)] a5 XI|7=>∃ AZ,v= .tuple #[.agg #[.slice AZ (List.length XI) XI.length],.bool a5]/\Kept la ha wv (fun wq=>NodesIn wq AZ XI)/\w4.heap.size<=la/\Q8 l (yZ ga gb) [((plc ga f).toNat,ga.length)] a5 XI|8=>∃ AZ,v= .agg #[.slice AZ (List.length XI) XI.length]/\Kept la ha wv (fun wq=>NodesIn wq AZ XI)/\w4.heap.size<=la/\Q8 l (yZ ga gb) [((plc ga f).toNat,ga.length)] a5 XI|9=>v= .bool a5|10=>∃ b,v= .pointer (some ⟨b,0,none⟩)/\w4.heap.size<=b/\Blk wv b 30 #[.slice none 0 0]/\la<=b/\b<ha|_=>True) kR kR kR kR ?_ ?_ ?_
  ·intro ix v la ha wv bm h hle s5
   match ix,h with
   | 0,h=>exact h
   | 1,h=>exact h
   | 2,h=>exact h
   | 3,h=>exact h
   | 4,h=>exact h
   | 5,h=>exact h
   | 6,h=>
    obtain⟨AZ,c0,a3,ao,an⟩:=(show ∃ AZ,v= .tuple #[.agg #[.slice AZ (List.length XI) XI.length],.bool a5]/\Kept la ha wv (fun wq=>NodesIn wq AZ XI)/\w4.heap.size<=la/\Q8 l (yZ ga gb) [((plc ga f).toNat,ga.length)] a5 XI from h)
    exact⟨AZ,c0,a3.tr0 s5,ao,an⟩
   | 7,h=>
    obtain⟨bg,b9,bh,a9,ab⟩:=(show ∃ AZ,v= .tuple #[.agg #[.slice AZ (List.length XI) XI.length],.bool a5]/\Kept la ha wv (fun wq=>NodesIn wq AZ XI)/\w4.heap.size<=la/\Q8 l (yZ ga gb) [((plc ga f).toNat,ga.length)] a5 XI from h)
    exact⟨bg,b9,bh.tr0 s5,a9,ab⟩
   | 8,h=>
    obtain⟨AZ,bj,a3,ao,an⟩:=(show ∃ AZ,v= .agg #[.slice AZ (List.length XI) XI.length]/\Kept la ha wv (fun wq=>NodesIn wq AZ XI)/\w4.heap.size<=la/\Q8 l (yZ ga gb) [((plc ga f).toNat,ga.length)] a5 XI from h)
    exact⟨AZ,bj,a3.tr0 s5,ao,an⟩
   | 9,h=>exact h
   | 10,h=>
    obtain⟨a8,bk,a4,a2,bb,bf⟩:=(show ∃ b,v= .pointer (some ⟨b,0,none⟩)/\w4.heap.size<=b/\Blk wv b 30 #[.slice none 0 0]/\la<=b/\b<ha from h)
    exact⟨a8,bk,a4,a2.tr0 s5,bb,bf⟩
   | _+11,h=>exact trivial
  ·intro ix o hix a1 gg wx lo hi s6 hd b6
   match ix,hix,a1 with
   | 0,_,a1=>
    cases sI a1;refine gdA ?_;refine qV (qK U76 rfl rfl be.u.range0 Pk) ⟨Same.refl _ _,?_⟩;exact rfl
   | 1,_,a1=>
    cases sI a1;refine gdA ?_;refine qV (qK U30 rfl rfl bc.u.range0 yj) ⟨Same.refl _ _,?_⟩;exact rfl
   | 2,_,a1=>
    cases sI a1;refine gdA ?_;refine qV (qK U30 rfl rfl bc.u.range0 yj) ⟨Same.refl _ _,?_⟩;exact rfl
   | 3,_,a1=>
    cases sI a1;refine gdA ?_;refine qV (x7 (v:= .int _ _) rfl) ⟨Same.refl _ _,?_⟩;exact rfl
   | 4,_,a1=>
    cases sI a1;have d2:gg 15= .agg #[.slice G1 ga.length c1]:=(hd 2 (zq kR)).1;have e15:=d2;have d3:gg 16= .int .i64 f:=(hd 3 (zq kR)).1;have e16:=d3;refine gdA (zz 15 _ e15 nu (zz 16 _ e16 nu ?_));replace hB:=hB.tr0 s6;refine yK WW (YZ G1 c1 fs.length ga 0 f wx (hG1.mono hB) bv (Yx ha.v.lo 0 bv) (by have:=ha.v.gok.few 0 bv;have:=ha.v.few;omega)) rfl (fun e' w2 hr=>?_);obtain⟨rfl,s7⟩:=hr;exact⟨_,rfl,sB s7,(congrArg (Value.int .i64) hpa)⟩
   | 5,_,a1=>
    cases sI a1;refine gdA ?_;refine qV (qK U30 rfl rfl bi.u.range0 yj) ⟨Same.refl _ _,?_⟩;exact rfl
   | 6,_,a1=>
    cases sI a1;have bo:=s6;have d0:gg 13= .agg #[.slice (some ⟨bu,0,none⟩) l.length l.length,.slice (some ⟨bd,0,none⟩) l.length l.length]:=(hd 0 (zq kR)).1;have e13:=d0;have d1:gg 14= .agg #[.slice G1 ga.length c1]:=(hd 1 (zq kR)).1;have e14:=d1;have d4:gg 17= .int .i64 (((plc ga f).toNat:Nat):Int):=(hd 4 (zq kR)).1;have e17:=d4;have d5:gg 18= .agg #[.slice G2 gb.length c2]:=(hd 5 (zq kR)).1;have e18:=d5;refine gdA (zz 13 _ e13 nu (zz 14 _ e14 nu (zz 17 _ e17 nu (zz 18 _ e18 nu ?_))));replace hB:=hB.tr0 s6;refine yK kR (Dk (nf:=fs.length) wx (bt.mono hB) (hTI.mono hB) ha.v.s (hG1.mono hB) (hG2.mono hB) ha.v.gok hb.gok ha.v.gx.toGY hb.gx.toGY (by have:=ha.v.few;omega) bn) rfl (fun e' w2 hr=>?_);obtain⟨⟨A9,X9,ok9,rfl,hN9,hI9⟩,s8⟩:=hr;exact⟨_,rfl,sB s8,(by obtain⟨e1,e2,e3⟩:=br ok9 X9 hI9;subst e1 e2;exact⟨A9,rfl,u7 hN9,bo.size,e3⟩)⟩
   | 7,_,a1=>
    cases sI a1;have d6:∃ AZ,gg 19= .tuple #[.agg #[.slice AZ (List.length XI) XI.length],.bool a5]/\Kept (lo 6) (hi 6) wx (fun wq=>NodesIn wq AZ XI)/\w4.heap.size<=(lo 6)/\Q8 l (yZ ga gb) [((plc ga f).toNat,ga.length)] a5 XI:=(hd 6 (zq kR)).1;obtain⟨AZ,c0,a3,ao,an⟩:=d6;refine gdA (zz 19 _ c0 nu ?_);refine qV (x7 (v:= .tuple _) rfl) ⟨Same.refl _ _,?_⟩;exact⟨_,rfl,a3,ao,an⟩
   | 8,_,a1=>
    cases sI a1;have d7:∃ AZ,gg 12= .tuple #[.agg #[.slice AZ (List.length XI) XI.length],.bool a5]/\Kept (lo 6) (hi 6) wx (fun wq=>NodesIn wq AZ XI)/\w4.heap.size<=(lo 6)/\Q8 l (yZ ga gb) [((plc ga f).toNat,ga.length)] a5 XI:=(hd 7 (zq kR)).1;obtain⟨bg,b9,bh,a9,ab⟩:=d7;refine gdA (zz 12 _ b9 nu ?_);refine qV (yV (v:=_) rfl rfl) ⟨Same.refl _ _,?_⟩;exact⟨_,rfl,bh,a9,ab⟩
   | 9,_,a1=>
    cases sI a1;have d7:∃ AZ,gg 12= .tuple #[.agg #[.slice AZ (List.length XI) XI.length],.bool a5]/\Kept (lo 6) (hi 6) wx (fun wq=>NodesIn wq AZ XI)/\w4.heap.size<=(lo 6)/\Q8 l (yZ ga gb) [((plc ga f).toNat,ga.length)] a5 XI:=(hd 7 (zq kR)).1;obtain⟨bg,b9,bh,a9,ab⟩:=d7;refine gdA (zz 12 _ b9 nu ?_);refine qV (yV (v:=_) rfl rfl) ⟨Same.refl _ _,?_⟩;exact rfl
   | 10,_,a1=>
    cases sI a1;have bo:=s6;refine gdA ?_;refine jK (fun ops Q K=>?_);refine qw (cs:=#[.slice none 0 0]) kJ rfl (fun a8 w6 a2 s9 hr=>?_);exact K _ _ ⟨s9,⟨_,rfl,nLT bo.size hr,a2,hr,a2.lt⟩⟩
   | _+11,hix,_=>exact absurd hix oG
  refine⟨?_,?_,trivial⟩
  ·intro _ gg w7 lo hi s10 hR b6;have d7:∃ AZ,gg 12= .tuple #[.agg #[.slice AZ (List.length XI) XI.length],.bool a5]/\Kept (lo 6) (hi 6) w7 (fun wq=>NodesIn wq AZ XI)/\w4.heap.size<=(lo 6)/\Q8 l (yZ ga gb) [((plc ga f).toNat,ga.length)] a5 XI:=(hR 7 dE dE).1;obtain⟨bg,b9,bh,a9,ab⟩:=d7;have d8:∃ AZ,gg 20= .agg #[.slice AZ (List.length XI) XI.length]/\Kept (lo 6) (hi 6) w7 (fun wq=>NodesIn wq AZ XI)/\w4.heap.size<=(lo 6)/\Q8 l (yZ ga gb) [((plc ga f).toNat,ga.length)] a5 XI:=(hR 8 dE dE).1;obtain⟨AZ,bj,a3,ao,an⟩:=d8;have d9:gg 21= .bool a5:=(hR 9 dE dE).1;have e21:=d9;have c3:∃ b,gg 10= .pointer (some ⟨b,0,none⟩)/\w4.heap.size<=b/\Blk w7 b 30 #[.slice none 0 0]/\(lo 10)<=b/\b<(hi 10):=(hR 10 dE dE).1;obtain⟨a8,bk,a4,a2,bb,bf⟩:=c3;have b1:(hi 6)<=(lo 10)\/(hi 10)<=(lo 6):=b6 6 10 dE dE dE dE dE;have:=nLL z4 a4;have:=nLL z5 a4;have:=nLL z7 a4;have:=nLL z8 a4;replace a4:=nLT hsz a4;have b2:b8<(lo 6):=nLL z8 ao;refine u9 12 (.tuple #[.agg #[.slice bg (List.length XI) XI.length],.bool a5]) b9 nu (u9 20 (.agg #[.slice AZ (List.length XI) XI.length]) bj nu (u9 21 (.bool a5) e21 nu (u9 10 (.pointer (some ⟨a8,0,none⟩)) bk nu (TX (k':=2) kR (e_lst (listed':=#[true,true,true,true,true,true,true,true,true,true,true,false,false]) kR ?_)))));refine R4 [11] kR rfl ⟨fun o a1=>?_,trivial⟩;cases sI a1;refine zJ a2 (fun w8 hq s11=>?_);replace a2:=hq;refine x6 (e_A (listed':=#[true,true,true,true,true,true,true,true,true,true,true,true,false]) (by rfl) (a_tk 12 rfl (fun _=>uJ (v:= .bool _) rfl) (a_end kR ?_)));refine e_R ⟨agA,?_⟩;replace a3:=a3.tr1 s11 oG;exact⟨a8,AZ,_,_,rfl,rfl,hB.u,a2,⟨_,a7.u⟩,by omega,a3,nLT hsz ao,b2,an⟩
  intro _ gg w9 lo hi s12 hR b6;have d7:∃ AZ,gg 12= .tuple #[.agg #[.slice AZ (List.length XI) XI.length],.bool a5]/\Kept (lo 6) (hi 6) w9 (fun wq=>NodesIn wq AZ XI)/\w4.heap.size<=(lo 6)/\Q8 l (yZ ga gb) [((plc ga f).toNat,ga.length)] a5 XI:=(hR 7 dE dE).1;obtain⟨bg,b9,bh,a9,ab⟩:=d7;have d8:∃ AZ,gg 20= .agg #[.slice AZ (List.length XI) XI.length]/\Kept (lo 6) (hi 6) w9 (fun wq=>NodesIn wq AZ XI)/\w4.heap.size<=(lo 6)/\Q8 l (yZ ga gb) [((plc ga f).toNat,ga.length)] a5 XI:=(hR 8 dE dE).1;obtain⟨AZ,bj,a3,ao,an⟩:=d8;have c3:∃ b,gg 10= .pointer (some ⟨b,0,none⟩)/\w4.heap.size<=b/\Blk w9 b 30 #[.slice none 0 0]/\(lo 10)<=b/\b<(hi 10):=(hR 10 dE dE).1;obtain⟨a8,bk,a4,a2,bb,bf⟩:=c3;have b1:(hi 6)<=(lo 10)\/(hi 10)<=(lo 6):=b6 6 10 dE dE dE dE dE;have:=nLL z4 a4;have:=nLL z5 a4;have:=nLL z7 a4;have:=nLL z8 a4;replace a4:=nLT hsz a4;have b2:b8<(lo 6):=nLL z8 ao;refine u9 12 (.tuple #[.agg #[.slice bg (List.length XI) XI.length],.bool a5]) b9 nu (u9 20 (.agg #[.slice AZ (List.length XI) XI.length]) bj nu (u9 10 (.pointer (some ⟨a8,0,none⟩)) bk nu (TX (k':=3) kR (e_lst (listed':=#[true,true,true,true,true,true,true,true,true,false,true,false,false]) kR (a_tk 9 rfl (fun _=>yV (v:=_) rfl rfl) ?_)))));refine R4 [11] kR rfl ⟨fun o a1=>?_,trivial⟩;cases sI a1;refine zJ a2 (fun w10 hq s13=>?_);replace a2:=hq;refine x6 (e_A (listed':=#[true,true,true,true,true,true,true,true,true,true,true,true,false]) (by rfl) (a_tk 12 rfl (fun _=>uJ (v:= .bool _) rfl) (a_end kR ?_)));refine e_R ⟨agA,?_⟩;replace a3:=a3.tr1 s13 oG;exact⟨a8,AZ,_,_,rfl,rfl,hB.u,a2,⟨_,a7.u⟩,by omega,a3,nLT hsz ao,b2,an⟩
 obtain⟨a8,AZ,lz,hz,h10,h11,hB,a2,⟨z8v,a7⟩,ba,a3,hlz,b2,an⟩:=hI;refine Zq 10 _ h10 nu (Zq 11 _ h11 nu (e_S (yz ?_)));rcases Bool.eq_false_or_eq_true (a5)with hok|hok
 ·refine zZ 11 _ (ac hok) nu ?_;refine EQ 10 [22,23,24,25,26,27,28,29,9] [b8] (fun ix v wv=>match ix with|0=>v= .agg #[.slice AZ (List.length XI) XI.length]|1=>v= .bool true|2=>v= .bool true|3=>v= .pointer (some ⟨a8,0,none⟩)|4=>v= .slice AZ (List.length XI) XI.length|5=>v= .int .i64 ((XI.length:Nat):Int)|6=>v= .bool (decide (((XI.length:Nat):Int)<=60))|7=>v= .bool (decide (((XI.length:Nat):Int)<=60))|8=>Blk wv b8 30 #[.slice AZ (List.length XI) XI.length]|9=>v= .bool (decide (((XI.length:Nat):Int)<=60))|_=>True) (fun wq=>(∃ z,Blk wq b8 30 #[z])/\Kept lz hz wq (fun w3=>NodesIn w3 AZ XI)) kR kR ?_ ?_ ⟨⟨_,a7⟩,(by first|exact a3|exact a3.tr0 s4|exact a3.tr1 b3 (.inl b2))⟩ ?_ ?_
  ·intro ix v wv bm h s14
   match ix,h with
   | 0,h=>exact h
   | 1,h=>exact h
   | 2,h=>exact h
   | 3,h=>exact h
   | 4,h=>exact h
   | 5,h=>exact h
   | 6,h=>exact h
   | 7,h=>exact h
   | 8,h=>exact(show Blk wv b8 30 #[.slice AZ (List.length XI) XI.length]from h).tr0 s14
   | 9,h=>exact h
   | _+10,h=>exact trivial
  ·intro wv bm h s15;obtain⟨⟨z1,a7⟩,a3⟩:=h;exact⟨⟨_,a7.u⟩,(by first|exact a3|exact a3.tr0 s15|exact a3.tr1 b3 (.inl b2))⟩
  ·intro ix o hix a1 gg wx s16 hJ hd
   match ix,hix,a1 with
   | 0,_,a1=>
    cases sI a1;replace a2:=a2.tr s16 (fun hx=>by simp only[List.mem_cons,List.not_mem_nil,or_false]at hx;omega);refine gdA ?_;show OS _ _ _ _ _ _;exact oVq (qK U30 rfl rfl a2.range0 yj) rfl
   | 1,_,a1=>
    cases sI a1;refine gdA ?_;show OS _ _ _ _ _ _;exact oVq (x7 (v:= .bool _) rfl) rfl
   | 2,_,a1=>
    cases sI a1;have d1:gg 23= .bool true:=hd 1 _ (zq kR) rfl;have bx:=d1;refine gdA ?_;show OS _ _ _ _ _ _;refine zz 23 _ bx nu ?_;exact oVq (x7 (v:= .bool _) rfl) rfl
   | 3,_,a1=>
    cases sI a1;have d2:gg 24= .bool true:=hd 2 _ (zq kR) rfl;have a6:=d2;refine uv 24 true rfl a6 (fun _=>?_) (fun h=>absurd h dE);show OS _ _ _ _ _ _;refine zz 24 _ a6 nu ?_;exact oVq (Z5 U30 NQ dE rfl rfl rfl) rfl
   | 4,_,a1=>
    cases sI a1;replace a2:=a2.tr s16 (fun hx=>by simp only[List.mem_cons,List.not_mem_nil,or_false]at hx;omega);have d2:gg 24= .bool true:=hd 2 _ (zq kR) rfl;have a6:=d2;have d3:gg 25= .pointer (some ⟨a8,0,none⟩):=hd 3 _ (zq kR) rfl;have e25:=d3;refine uv 24 true rfl a6 (fun _=>?_) (fun h=>absurd h dE);show OS _ _ _ _ _ _;refine zz 24 _ a6 nu (zz 25 _ e25 nu ?_);exact oVq (qW (v:= .slice _ _ _) U28 rfl rfl (a2.cell rfl)) rfl
   | 5,_,a1=>
    cases sI a1;have d2:gg 24= .bool true:=hd 2 _ (zq kR) rfl;have a6:=d2;have d4:gg 26= .slice AZ (List.length XI) XI.length:=hd 4 _ (zq kR) rfl;have e26:=d4;refine uv 24 true rfl a6 (fun _=>?_) (fun h=>absurd h dE);show OS _ _ _ _ _ _;refine zz 24 _ a6 nu (zz 26 _ e26 nu ?_);exact oVq (O0 U28 rfl) rfl
   | 6,_,a1=>
    cases sI a1;have d2:gg 24= .bool true:=hd 2 _ (zq kR) rfl;have a6:=d2;have d5:gg 27= .int .i64 ((XI.length:Nat):Int):=hd 5 _ (zq kR) rfl;have e27:=d5;refine uv 24 true rfl a6 (fun _=>?_) (fun h=>absurd h dE);show OS _ _ _ _ _ _;refine zz 24 _ a6 nu (zz 27 _ e27 nu ?_);exact oVq (r_leq rfl rfl) rfl
   | 7,_,a1=>
    cases sI a1;have d2:gg 24= .bool true:=hd 2 _ (zq kR) rfl;have a6:=d2;have d6:gg 28= .bool (decide (((XI.length:Nat):Int)<=60)):=hd 6 _ (zq kR) rfl;have e28:=d6;refine gdA ?_;show OS _ _ _ _ _ _;refine zz 24 _ a6 nu (zz 28 _ e28 nu ?_);exact oVq (FJ (v:= .bool _) rfl rfl) rfl
   | 8,_,a1=>
    cases sI a1;have d0:gg 22= .agg #[.slice AZ (List.length XI) XI.length]:=hd 0 _ (zq kR) rfl;have bz:=d0;refine gdA ?_;show OS _ _ _ _ _ _;refine zz 22 _ bz nu ?_;obtain⟨⟨z1,a7⟩,a3⟩:=hJ;refine JW (fun ops Q K=>?_);refine zJ a7 (fun w2 hq b3=>?_);have K2:=K w2;refine K2 ⟨b3.weak (by simp),?_,hq,fun kx v ba h=>?_⟩
    ·replace a7:=hq;exact⟨⟨_,a7⟩,(by first|exact a3|exact a3.tr0 s16|exact a3.tr1 b3 (.inl b2))⟩
    match kx,ba,h with
    | 0,_,h=>exact h
    | 1,_,h=>exact h
    | 2,_,h=>exact h
    | 3,_,h=>exact h
    | 4,_,h=>exact h
    | 5,_,h=>exact h
    | 6,_,h=>exact h
    | 7,_,h=>exact h
    | 8,ba,_=>exact absurd rfl ba
    | 9,_,h=>exact h
    | _+10,_,_=>exact trivial
   | 9,_,a1=>
    cases sI a1;have d7:gg 29= .bool (decide (((XI.length:Nat):Int)<=60)):=hd 7 _ (zq kR) rfl;have bw:=d7;refine gdA ?_;show OS _ _ _ _ _ _;refine zz 29 _ bw nu ?_;exact oVq (uJ (v:= .bool _) rfl) rfl
   | _+10,hix,_=>exact absurd hix oG
  intro gg w11 s17 hJ hR;replace hB:=hB.tr s17 (fun q hx=>by simp only[List.mem_cons,List.not_mem_nil,or_false]at hx;omega);have bq:Blk w11 b8 30 #[.slice AZ (List.length XI) XI.length]:=hR 8 _ rfl;replace a7:=bq;have d9:gg 9= .bool (decide (((XI.length:Nat):Int)<=60)):=hR 9 _ rfl;have e9:=d9;refine xz 9 _ e9 nu (zn3 ?_);refine Qq (.inl rfl) rfl (zw U30 rfl rfl a7.range0 yj) rfl ?_;obtain⟨_,a3⟩:=hJ;refine⟨⟨AZ,XI,_,rfl,XJ a3 hlz,?_⟩,hB⟩;have hst:=step_of ha.v.gx hb.gx bn an;rw[hok]at hst;exact hst
 refine zZ 11 _ (ac hok) nu ?_;refine EQ 10 [22,23,24,25,26,27,28,29,9] [b8] (fun ix v wv=>match ix with|0=>v= .agg #[.slice AZ (List.length XI) XI.length]|1=>v= .bool false|2=>v= .bool false|3=>v=undef|4=>v=undef|5=>v=undef|6=>v=undef|7=>v= .bool false|8=>Blk wv b8 30 #[.slice AZ (List.length XI) XI.length]|9=>v= .bool false|_=>True) (fun wq=>(∃ z,Blk wq b8 30 #[z])/\Kept lz hz wq (fun w3=>NodesIn w3 AZ XI)) kR kR ?_ ?_ ⟨⟨_,a7⟩,(by first|exact a3|exact a3.tr0 s4|exact a3.tr1 b3 (.inl b2))⟩ ?_ ?_
 ·intro ix v wv bm h s18
  match ix,h with
  | 0,h=>exact h
  | 1,h=>exact h
  | 2,h=>exact h
  | 3,h=>exact h
  | 4,h=>exact h
  | 5,h=>exact h
  | 6,h=>exact h
  | 7,h=>exact h
  | 8,h=>exact(show Blk wv b8 30 #[.slice AZ (List.length XI) XI.length]from h).tr0 s18
  | 9,h=>exact h
  | _+10,h=>exact trivial
 ·intro wv bm h s19;obtain⟨⟨z1,a7⟩,a3⟩:=h;exact⟨⟨_,a7.u⟩,(by first|exact a3|exact a3.tr0 s19|exact a3.tr1 b3 (.inl b2))⟩
 ·intro ix o hix a1 gg wx s20 hJ hd
  match ix,hix,a1 with
  | 0,_,a1=>
   cases sI a1;replace a2:=a2.tr s20 (fun hx=>by simp only[List.mem_cons,List.not_mem_nil,or_false]at hx;omega);refine gdA ?_;show OS _ _ _ _ _ _;exact oVq (qK U30 rfl rfl a2.range0 yj) rfl
  | 1,_,a1=>
   cases sI a1;refine gdA ?_;show OS _ _ _ _ _ _;exact oVq (x7 (v:= .bool _) rfl) rfl
  | 2,_,a1=>
   cases sI a1;have d1:gg 23= .bool false:=hd 1 _ (zq kR) rfl;have bx:=d1;refine gdA ?_;show OS _ _ _ _ _ _;refine zz 23 _ bx nu ?_;exact oVq (x7 (v:= .bool _) rfl) rfl
  | 3,_,a1=>
   cases sI a1;have d2:gg 24= .bool false:=hd 2 _ (zq kR) rfl;have a6:=d2;exact uv 24 false rfl a6 (fun h=>absurd h dE) (fun _=>rfl)
  | 4,_,a1=>
   cases sI a1;have d2:gg 24= .bool false:=hd 2 _ (zq kR) rfl;have a6:=d2;have d3:gg 25=undef:=hd 3 _ (zq kR) rfl;have e25:=d3;exact uv 24 false rfl a6 (fun h=>absurd h dE) (fun _=>rfl)
  | 5,_,a1=>
   cases sI a1;have d2:gg 24= .bool false:=hd 2 _ (zq kR) rfl;have a6:=d2;have d4:gg 26=undef:=hd 4 _ (zq kR) rfl;have e26:=d4;exact uv 24 false rfl a6 (fun h=>absurd h dE) (fun _=>rfl)
  | 6,_,a1=>
   cases sI a1;have d2:gg 24= .bool false:=hd 2 _ (zq kR) rfl;have a6:=d2;have d5:gg 27=undef:=hd 5 _ (zq kR) rfl;have e27:=d5;exact uv 24 false rfl a6 (fun h=>absurd h dE) (fun _=>rfl)
  | 7,_,a1=>
   cases sI a1;have d2:gg 24= .bool false:=hd 2 _ (zq kR) rfl;have a6:=d2;have d6:gg 28=undef:=hd 6 _ (zq kR) rfl;have e28:=d6;refine gdA ?_;show OS _ _ _ _ _ _;refine zz 24 _ a6 nu ?_;exact oVq (FK (v:= .bool _) rfl rfl) rfl
  | 8,_,a1=>
   cases sI a1;have d0:gg 22= .agg #[.slice AZ (List.length XI) XI.length]:=hd 0 _ (zq kR) rfl;have bz:=d0;refine gdA ?_;show OS _ _ _ _ _ _;refine zz 22 _ bz nu ?_;obtain⟨⟨z1,a7⟩,a3⟩:=hJ;refine JW (fun ops Q K=>?_);refine zJ a7 (fun w2 hq b3=>?_);have K2:=K w2;refine K2 ⟨b3.weak (by simp),?_,hq,fun kx v ba h=>?_⟩
   ·replace a7:=hq;exact⟨⟨_,a7⟩,(by first|exact a3|exact a3.tr0 s20|exact a3.tr1 b3 (.inl b2))⟩
   match kx,ba,h with
   | 0,_,h=>exact h
   | 1,_,h=>exact h
   | 2,_,h=>exact h
   | 3,_,h=>exact h
   | 4,_,h=>exact h
   | 5,_,h=>exact h
   | 6,_,h=>exact h
   | 7,_,h=>exact h
   | 8,ba,_=>exact absurd rfl ba
   | 9,_,h=>exact h
   | _+10,_,_=>exact trivial
  | 9,_,a1=>
   cases sI a1;have d7:gg 29= .bool false:=hd 7 _ (zq kR) rfl;have bw:=d7;refine gdA ?_;show OS _ _ _ _ _ _;refine zz 29 _ bw nu ?_;exact oVq (uJ (v:= .bool _) rfl) rfl
  | _+10,hix,_=>exact absurd hix oG
 intro gg w12 s21 hJ hR;replace hB:=hB.tr s21 (fun q hx=>by simp only[List.mem_cons,List.not_mem_nil,or_false]at hx;omega);have bq:Blk w12 b8 30 #[.slice AZ (List.length XI) XI.length]:=hR 8 _ rfl;replace a7:=bq;have d9:gg 9= .bool false:=hR 9 _ rfl;have e9:=d9;refine xz 9 _ e9 nu (zn3 ?_);refine Qq (.inl rfl) rfl (zw U30 rfl rfl a7.range0 yj) rfl ?_;obtain⟨_,a3⟩:=hJ;refine⟨⟨AZ,XI,_,rfl,XJ a3 hlz,?_⟩,hB⟩;have hst:=step_of ha.v.gx hb.gx bn an;rw[hok]at hst;exact hst
section
section all
variable {l:List Ty} {fs:List Ft} {gs:List (List Nd)}
structure LubL(l:List Ty)(gs:List (List Nd))(X:List Nd):Prop where
 gx:GX l X
 maps:∀ i (hi:i<gs.length),Maps l gs[i] X
 least:∀ c,GY l c->(∀ i (hi:i<gs.length),Maps l gs[i] c)->Maps l X c
 can:∃ o,DL X [0] [] o/\xJ X o=X
theorem LubL.uniq{hs:List (List Nd)}{Y:List Nd}(h:LubL l gs X)(k:LubL l hs Y)(e1:∀ i (hi:i<gs.length),∃ j,∃ hj:j<hs.length,gs[i]=hs[j])(e2:∀ i (hi:i<hs.length),∃ j,∃ hj:j<gs.length,hs[i]=gs[j]):X=Y:=by
 obtain⟨o,ho,e⟩:=h.can;obtain⟨p,hp,e3⟩:=k.can;have:=can_eq h.gx k.gx (h.least Y k.gx.toGY (fun i hi=>by obtain⟨j,hj,e⟩:=e1 i hi;rw[e];exact k.maps j hj)) (k.least X h.gx.toGY (fun i hi=>by obtain⟨j,hj,e⟩:=e2 i hi;rw[e];exact h.maps j hj)) ho hp;rw[e,e3]at this;exact this.symm
end all
end
def GrsIn(w:World)(A:Option Addr)(L:List (List Nd)):Prop:=
 L.length<=vJ/\(L≠[]->∃ b o,A=some ⟨b,o,none⟩/\b<w.heap.size/\∀ k (hk:k<L.length),∃ A' c,w.rangeAt b (o+k*1) [.slice A' (L[k]).length c]/\NodesIn w A' L[k])
theorem GrsIn.mono{w w':World}{A:Option Addr}{L:List (List Nd)}(h:GrsIn w A L)(hb:Bel w w'):GrsIn w' A L:=
 ⟨h.1,fun hn=>by
  obtain⟨b,o,e,hl,hc⟩:=h.2 hn
  refine⟨b,o,e,nLL hl hb.size,fun k hk=>?_⟩
  obtain⟨A',c,h1,h2⟩:=hc k hk
  exact⟨A',c,hb.range hl h1,h2.mono hb⟩⟩
theorem GrsIn.at_{w':World}{L:List (List Nd)}(h:GrsIn w A L)(hb:Bel w w')(hk:k<L.length):
  ∃ b o A' c,A=some ⟨b,o,none⟩/\w'.rangeAt b (o+k*1) [.slice A' (L[k]).length c]/\NodesIn w A' L[k]:=by
 obtain⟨b,o,e,hl,hc⟩:=h.2 (by rintro rfl;simp at hk);obtain⟨A',c,h1,h2⟩:=hc k hk;exact⟨b,o,A',c,e,hb.range hl h1,h2⟩
theorem PoolAt.fr{w w2:World}{ob bp:Nat}{c0 c1:Value}{n:Nat}{PA TA LA:Option Addr}{cp ct cl:Nat}{P:Nat->Nat}{T:Nat->Int}{V:Nat->Value}{L:Nat->List (Int×Int)}(h:PoolAt w ob bp c0 c1 n PA TA LA cp ct cl P T V L)(hf:FrSame bp w w2)(hbo:bp<ob):PoolAt w2 ob bp c0 c1 n PA TA LA cp ct cl P T V L:=
 have a1:FrSame ob w w2:=⟨hf.size,fun b hb hl=>hf.blk b oG hl⟩
 ⟨hf.at_ h.bp (ae _),h.pa.fr (ae _) a1,h.ta.fr (ae _) a1,h.la.fr (ae _) a1,fun x hx=>((h.rows x hx).fr a1).up hf.size,h.dis⟩
theorem D5{c1:Nat}{G1:Option Addr}(w:World)(hG1:NodesIn w G1 ga)(ha:Jok l fs m ga)(hm0:0<=m):Calls Tryd.prog 50 #[.agg #[.slice G1 ga.length c1]] w fun e w'=>(∃ A o,DL ga [(plc ga 0).toNat] [] o/\e= .returned (.agg #[.slice A o.length o.length])/\∀ w2,FrSame w.heap.size w' w2->NodesIn w2 A (xJ ga o))/\Bel w w':=by
 have hjl:=ha.lt (aH _) hm0;have a4:=ha.v.gx.pos;obtain⟨oM,hoM⟩:=ha.v.gx.toGY.dl hjl;have hpa:=G3 ha (aH _) hm0;refine enT Tryd.func50 Tryd.ntmps50 rfl rfl fun hB=>?_;refine zn2 ?_;refine qZ (cs:=#[_]) rfl (fun b1 w1 hb1 s1 hr=>?_);have lo1:=hB.ob hr;refine qw (cs:=#[.slice none 0 0]) kJ rfl (fun b2 w2 a1 s2 hr=>?_);have:=hb1.ob hr;have lo2:=hB.u.ob hr;refine zn3 ?_;replace hB:=hB.tr0 (s1.t s2);have hsz:=Bel.size hB;have z2:=a1.lt;refine Qy [] [4] [0,1,2,3,4] rfl (fun w3 s3=>?_);have a2:=s3;refine zn2 ?_;replace hB:=hB.tr0 s3;refine hcl (fun v wv=>v= .int .i64 (((plc ga 0).toNat:Nat):Int)) rfl WW (YZ G1 c1 fs.length ga 0 0 w3 (hG1.mono hB) a4 (Yx ha.v.lo 0 a4) (by have:=ha.v.gok.few 0 a4;have:=ha.v.few;omega)) rfl (fun e' w2 hr=>?_) (fun v5 w4 s4 d5=>?_)
 ·obtain⟨rfl,s5⟩:=hr;exact⟨_,rfl,sB s5,(congrArg (Value.int .i64) hpa)⟩
 have e5:=d5;subst e5;replace hB:=hB.tr0 s4;refine hcl (fun v wv=>∃ AZ lz hz,v= .agg #[.slice AZ oM.length oM.length]/\Kept lz hz wv (fun wq=>NodesIn wq AZ (xJ ga oM))/\w2.heap.size<=lz) rfl kR (from_any G1 c1 l.length fs.length ga (plc ga 0).toNat w4 (hG1.mono hB) ha.v.gok (by have:=ha.v.few;omega) hjl) rfl (fun e' w2 hr=>?_) (fun v6 w5 s6 d6=>?_)
 ·obtain⟨⟨o9,A9,hd9,_,rfl,hN9⟩,s7⟩:=hr;replace a2:=a2.t s4;exact⟨_,rfl,sB s7,(by obtain rfl:=DL.det hd9 hoM;exact⟨A9,_,_,rfl,u7 hN9,a2.size⟩)⟩
 obtain⟨AZ,lz,hz,e6,a3,hlz⟩:=d6;subst e6;refine h1 rfl ?_;refine zJ a1.u (fun w6 hq s8=>?_);have hsH4:=s8;replace a1:=hq;refine x6 (CQ [] (zn3 ?_));refine xX (.inl rfl) rfl (zw U30 rfl rfl a1.range0 yj) ?_;replace a3:=a3.tr1 s8 oG;exact⟨⟨AZ,oM,hoM,rfl,XJ a3 (nLT hsz hlz)⟩,hB.u⟩
theorem join_any(AT AF AR AX AS:Option Addr)(ct cf cr cx cst:Nat)(l:List Ty)(fs:List Ft)(rs:List Rl)(xs:List Lx)(st:List Nd){bu bd kc ri:Nat}{KA:Option Addr}{ks:List (List Nd)}(w:World)(bc:TabIn w)(hTI:TableIn w l bu bd)(hRu:RulesIn w AR rs)(hri:ri<rs.length)(hJ:Jok l fs (rs[ri]).kids (rs[ri]).gr)(hK:GrsIn w KA ks)(hkv:∀ k∈ks,GV l fs k)(hkl:(ks.length:Int)=(rs[ri]).kids):Calls Tryd.prog 56 #[.agg #[.slice AT l.length ct,.slice AF fs.length cf,.slice AR rs.length cr,.slice AX xs.length cx,.slice AS st.length cst],.agg #[.slice (some ⟨bu,0,none⟩) l.length l.length,.slice (some ⟨bd,0,none⟩) l.length l.length],.int .i64 (ri:Nat),.slice KA ks.length kc] w fun e w'=>(∃ A Y ok c,e= .returned (.tuple #[.agg #[.slice A (List.length Y) c],.bool ok])/\(∀ w2,FrSame w.heap.size w' w2->NodesIn w2 A Y)/\Yv l (rs[ri]).gr 0 ks ok Y)/\Bel w w':=by
 have hrx:=hRu.1;have hkx:=hK.1;unfold vJ at hrx hkx;obtain⟨rb,ro,Gk,cgk,Sk,csk,Bk,mk,hAR,hrb,b9,hGk,_,_⟩:=hRu.at_ (Below.refl _ _) hri;have hk0:0<=(rs[ri]).kids:=by omega
 refine enT Tryd.func56 Tryd.ntmps56 rfl rfl fun hB=>?_;refine zn2 ?_;refine qZ (cs:=#[_,_,_,_,_]) rfl (fun b4 w1 bb s1 hr=>?_);have lo4:=hB.ob hr;refine qZ (cs:=#[_,_]) rfl (fun b5 w2 a6 s2 hr=>?_);have:=bb.ob hr;have lo5:=hB.u.ob hr;refine qw (cs:=#[.slice none 0 0]) kJ rfl (fun b8 w3 a3 s3 hr=>?_);have:=bb.u.ob hr;have:=a6.ob hr;have lo8:=hB.u.ob hr;refine zn4 ?_;subst hAR;refine zn6 ?_;replace hB:=hB.tr0 (s1.t (s2.t s3));refine wl (qK U30 rfl rfl (hB.range hrb (xs:=[.slice Gk (rs[ri]).gr.length cgk]) (fun j v hj=>by match j,hj with|0,hj=>cases hj;exact b9 1 _ rfl|_+1,hj=>cases hj)) yj) ?_;refine yx (cs:=#[.slice none 0 0]) kJ rfl (fun _=>rfl) (fun _=>rfl) yj rfl y5 (fun a7 w5 a1 s4 hr=>?_);have:=bb.u.ob hr;have:=a6.u.ob hr;have:=a3.ob hr;have a8:=hB.ob hr;refine gX ?_;refine qk (rgq [9,11,12,13] 22 18) (fun m g w'=>∃(i:Nat) (x:List Nd) (Ax:Option Addr) (cq:Nat) (wX:World),i<=ks.length/\m=ks.length-i/\g 22= .int .i64 i/\Bel w w'/\Blk w' b5 76 #[.slice (some ⟨bu,0,none⟩) l.length l.length,.slice (some ⟨bd,0,none⟩) l.length l.length]/\Blk w' b8 30 #[.slice none 0 0]/\Blk w' a7 30 #[.slice Ax (List.length x) cq]/\ChG (fun g=>g=a7) wX w'/\(∀ w2,ChG (fun g=>g=a7) wX w2->NodesIn w2 Ax x)/\Jok l fs (rs[ri]).kids x/\(∀ ok Y,Yv l x i (ks.drop i) ok Y->Yv l (rs[ri]).gr 0 ks ok Y)) (ks.length) ?_ (fun m g3 w6 hI=>?_)
 ·replace a6:=a6.tr0 (s3.t s4);replace hB:=hB.tr0 s4;replace a3:=a3.tr0 s4;exact⟨0,_,Gk,cgk,_,ad _,rfl,rfl,hB,a6,a3,a1,ChG.refl _ _,fun w2 h=>hGk.mono (hB.chG h (fun g hg=>by rw[show g=a7 from hg];exact a8)),hJ,fun ok Y h=>h⟩
 obtain⟨i,x,Ax,cq,wX,hi,hm,h22,hB,a6,a3,a1,a5,hNX,bf,ba⟩:=hI;refine zZ 22 _ h22 nu (zn6 ?_);refine zK rfl (fun c23=>?_) (fun c23=>?_)
 ·have b1:i<ks.length:=by omega
  obtain⟨gb,go,GA,gc,rfl,hgr,hgn⟩:=hK.at_ hB b1;have hdr:ks.drop i=ks[i]::ks.drop (i+1):=List.drop_eq_getElem_cons b1;refine zn7 ?_;refine wl (xW (i:=i) U69 yj rfl rfl b1 rfl) (wl (qK U30 rfl rfl hgr yj) ?_);refine qw (cs:=#[.slice none 0 0]) kJ rfl (fun b12 w7 b2 s5 hr=>?_);have:=a6.ob hr;have:=a3.ob hr;have:=a1.ob hr;have a4:=(nLT a5.size hr)
  have an:=hB.ob hr;replace a5:=a5.st s5 (by simp);refine waI rfl ?_;refine zJ b2 (fun w8 hq s6=>?_);replace a5:=a5.st s6 (fun g hg=>by rw[List.mem_singleton.1 hg];first|exact .inl rfl|exact .inr a4);replace b2:=hq;refine VQ ?_;replace a1:=(a1.tr0 s5).tr1 s6 oG;have z10:=a1.lt;refine zX kR (step_any (m:=(rs[ri]).kids) _ (bc.mono hB.u) (hTI.mono hB.u) (hNX _ a5) (hgn.mono hB.u) bf (hkv _ (ap b1)) oG oG) rfl (fun e' w9 hr=>?_);obtain⟨⟨A3,X3,ok3,rfl,hN3,hS3⟩,s7⟩:=hr;replace s7:=sB s7;replace a5:=a5.st s7 (by simp);have b3:∀ w2,ChG (fun g=>g=a7) w9 w2->NodesIn w2 A3 X3:=fun w2 h=>hN3 w2 ⟨h.size,fun k h1 h2=>h.blk k h2 (fun e=>by rw[show k=a7 from e]at h1;omega)⟩
  obtain⟨wX3,ao⟩:∃ z,z=w9:=⟨_,rfl⟩
  have ab:ChG (fun g=>g=a7) wX3 w9:=by rw[ao];exact ChG.refl _ _
  rw[<- ao]at b3;have a2:a7=a7:=rfl;refine⟨_,rfl,?_⟩;refine wmT rfl (wl (yV (v:=_) rfl rfl) (wl (yV (v:=_) rfl rfl) ?_));refine zJ a1.u (fun w10 hq s8=>?_);replace ab:=ab.st s8 (fun g hg=>by rw[List.mem_singleton.1 hg];first|exact .inl rfl|exact .inr a2);replace a1:=hq;refine zn9 ?_;refine jW rfl (fun bg=>?_) (fun bg=>?_)
  ·have a9:ok3=false:=by simpa using bg
   have hZ:=step_no hS3 a9;refine zn2 ?_;refine uW (cs:=#[.slice none 0 0]) ?_;refine zJ a3.u (fun w11 hq s9=>?_);replace a3:=hq;refine zn9 ?_;refine Qq (.inl rfl) rfl (zw U30 rfl rfl a3.range0 yj) rfl ?_;replace hB:=((((hB.tr0 s5).tr1 s6 an).tr0 s7).tr1 s8 a8).tr1 s9 lo8;exact⟨⟨none,[],false,0,rfl,fun w2 _=>KJ w2 none,ba false [] (by rw[hdr];exact join_no hZ)⟩,hB⟩
  have a9:ok3=true:=by simpa using bg
  obtain⟨hU3,h60⟩:=step_yes hS3 a9;refine zn7 ?_;refine xY (ks.length-(i+1)) oG agA ?_;replace hB:=(((hB.tr0 s5).tr1 s6 an).tr0 s7).tr1 s8 a8;replace a6:=(((a6.tr0 s5).tr1 s6 oG).tr0 s7).tr1 s8 oG;replace a3:=(((a3.tr0 s5).tr1 s6 oG).tr0 s7).tr1 s8 oG;exact⟨i+1,X3,A3,_,wX3,by omega,rfl,rfl,hB,a6,a3,a1,ab,b3,bf.step (hkv _ (ap b1)) oG oG hU3 h60,fun ok Y h=>ba ok Y (by rw[hdr];exact .inl ⟨X3,hU3,h60,h⟩)⟩
 have hie:i=ks.length:=by omega
 have hdn:ks.drop i= []:=List.drop_eq_nil_of_le oG;refine zn8 ?_;have z8:=a3.lt;have b7:=Bel.size hB;refine zX kR (D5 _ (hNX _ a5) bf hk0) rfl (fun e' w12 hr=>?_);obtain⟨⟨AY,oY,hdY,rfl,hNY⟩,b6⟩:=hr;replace b6:=sB b6;replace a5:=a5.st b6 (by simp);have be:=u7 hNY;refine⟨_,rfl,?_⟩;refine zJ a3.u (fun w13 hq s11=>?_);replace a3:=hq;refine zn4 ?_;refine Qq (.inl rfl) rfl (zw U30 rfl rfl a3.range0 yj) rfl ?_;replace hB:=(hB.tr0 b6).tr1 s11 lo8;replace be:=be.tr1 s11 oG;exact⟨⟨AY,xJ x oY,true,_,by rw[kw];rfl,XJ be b7,ba true _ (by rw[hdn];exact⟨rfl,oY,hdY,rfl⟩)⟩,hB⟩
def StrsD(w:World)(A:Option Addr)(ss:List ByteArray):Prop:=
 ss≠[]->∃ b o,A=some ⟨b,o,none⟩/\b<w.heap.size/\∀ k (h:k<ss.length),w.cell? ⟨b,o+k*1,none⟩=some (.string ss[k])
theorem StrsD.at_{w':World}{ss:List ByteArray}(h:StrsD w A ss)(hb:Bel w w')(hk:k<ss.length):
  ∃ b o,A=some ⟨b,o,none⟩/\w'.cell? ⟨b,o+k*1,none⟩=some (.string ss[k]):=by
 obtain⟨b,o,e,hl,hc⟩:=h (by rintro rfl;simp at hk);exact⟨b,o,e,hb.cell hl (hc k hk)⟩
def Ev(ns:List ByteArray)(ps:List Int)(i:Nat):Ty:=⟨ns.getD i ⟨#[]⟩,if 0<i then [ps.getD i 0]else []⟩
def Vy(ns:List ByteArray)(ps:List Int)(k:Nat):List Ty:=(List.range k).map (Ev ns ps)
theorem Dv(ns:List ByteArray)(ps:List Int)(k:Nat):Vy ns ps (k+1)=Vy ns ps k++[Ev ns ps k]:=by
 grind[Vy,List.range_succ]
theorem WX(hk:k<ns.length)(h:¬0<k):Ev ns ps k=⟨ns[k],[]⟩:=by
 simp[Ev,h,List.getD,List.getElem?_eq_getElem hk]
theorem hierAt_pos(hk:k<ns.length)(hk2:k<ps.length)(h:0<k):Ev ns ps k=⟨ns[k],[ps[k]]⟩:=by
 simp[Ev,h,List.getD,List.getElem?_eq_getElem hk,List.getElem?_eq_getElem hk2]
def TS2:List Nat:=126::25::TS
inductive TyData(w:World):List Ty->List Value->Prop
 | nil:TyData w [] []
 | snoc {l:List Ty} {vs:List Value} {x:Ty} {A:Option Addr} {c:Nat} (h:TyData w l vs) (hp:IntsIn w A x.par):TyData w (l++[x]) (vs++[.string x.name,.slice A x.par.length c])
theorem TyData.len(h:TyData w l vs):vs.length=l.length*2:=by
 induction h with
 | nil=>rfl
 | snoc h hl ih=>simp only[List.length_append,List.length_cons,List.length_nil,ih];omega
theorem TyData.get(h:TyData w l vs):∀ k (hk:k<l.length),∃ A c,vs[k*2]? =some (.string (l[k]).name)/\vs[k*2+1]? =some (.slice A (l[k]).par.length c)/\IntsIn w A (l[k]).par:=by
 induction h with
 | nil=>intro k hk;simp at hk
 | @snoc l cs t A c h hp ih=>
  intro k hk;have hlen:=h.len;by_cases e:k<l.length
  ·grind
  ·simp only[List.length_append,List.length_cons,List.length_nil]at hk
   have ek:k=l.length:=by omega
   subst ek;have eg:(l++[t])[l.length]'(by simp)=t:=by simp
   rw[eg];refine⟨A,c,?_,?_,hp⟩
   ·grind
   ·grind
theorem gof_types(ho:Own w B 126 2 A k cap cs)(ht:TyData w l cs):TypesIn w A l:=by
 have hlk:l.length=k:=by have h1:=ho.len;have h2:=ht.len;omega
 refine⟨by rw[hlk];exact ho.max,fun hn=>?_⟩
 obtain⟨g,e,hb,hg,hc⟩:=ho.cell (by
  intro h0;have:=ht.len;rw[h0]at this;cases l with
  | nil=>exact hn rfl
  | cons a r=>simp only[List.length_nil,List.length_cons]at this;omega)
 refine⟨g,0,e,hg,fun j hj=>?_⟩;obtain⟨A',c,h1,h2,h3⟩:=ht.get j hj;refine⟨A',c,?_,h3⟩;intro i v hi
 match i,hi with
 | 0,hi=>cases hi;have:=hc _ _ h1;simpa using this
 | 1,hi=>cases hi;have:=hc _ _ h2;simpa using this
 | _+2,hi=>cases hi
theorem hof_end(ho:Own w B 126 2 A k cap cs)(ht:Fz [] n TS2 w (fun w=>TyData w l cs)):Fz [] w.heap.size TS w (fun w=>TypesIn w A l):=
 ((ho.fz (ts:=TS) (E7 dE dE dE)).and ((ht.up).sub dE)).imp (fun _ h=>gof_types h.1 h.2)
theorem WQ(h:Fz [] n TS2 w (fun w=>TyData w (Vy ns ps k) cs))(hk:k<ns.length)(h0:¬0<k):Fz [] w.heap.size TS2 w (fun w=>TyData w (Vy ns ps (k+1)) (cs++[.string ns[k],.slice none 0 0])):=by
 rw[Dv,WX hk h0];exact h.up.imp (fun _ h=> .snoc (x:=⟨ns[k],[]⟩) h ⟨ad _,fun h=>absurd rfl h⟩)
theorem hof_pos(h:Fz [] n TS2 w (fun w=>TyData w (Vy ns ps k) cs))(hk:k<ns.length)(hk2:k<ps.length)(h0:0<k)(hb:Blk w b 3 #[.int .i64 ps[k]]):Fz [] w.heap.size TS2 w (fun w=>TyData w (Vy ns ps (k+1)) (cs++[.string ns[k],.slice (some ⟨b,0,none⟩) 1 1])):=by
 rw[Dv,hierAt_pos hk hk2 h0]
 exact(h.and (Fz.blk (X:=[]) hb (by simp) (E7 dE dE dE _))).imp (fun _ h=> .snoc (x:=⟨ns[k],[ps[k]]⟩) h.1 ⟨by show 1<=vJ;decide,fun _=>⟨b,0,rfl,h.2.lt,fun j hj=>by
  have:j=0:=by simp at hj;omega
  subst this
  exact h.2.cell rfl⟩⟩)
section
abbrev cH:Array Value:=#[.slice none 0 0,.slice none 0 0,.slice none 0 0,.slice none 0 0,.slice none 0 0]
inductive RlCs(w:World):List Rl->List Value->Prop
 | nil:RlCs w [] []
 | cons {r:Rl} {G S B:Option Addr} {gn cg cs cb:Nat} {l:List Rl} {vs:List Value} (hn:gn=r.gr.length) (hG:NodesIn w G r.gr) (hS:SimsIn w S r.mean.type.args) (hT:TmsIn w B r.mean.args) (t:RlCs w l vs):RlCs w (r::l) (.string r.name:: .slice G gn cg:: .int .i64 r.kids:: .int .i64 r.wt:: .int .i64 r.mean.kind:: .string r.mean.name:: .int .i64 r.mean.index:: .string r.mean.type.base:: .slice S r.mean.type.args.length cs:: .slice B r.mean.args.length cb::vs)
def rlC(r:Rl)(G S B:Option Addr)(cg cs cb:Nat):List Value:=[.string r.name,.slice G r.gr.length cg,.int .i64 r.kids,.int .i64 r.wt,.int .i64 r.mean.kind,.string r.mean.name,.int .i64 r.mean.index,.string r.mean.type.base,.slice S r.mean.type.args.length cs,.slice B r.mean.args.length cb]
theorem RlCs.len{l:List Rl}(h:RlCs w l vs):vs.length=l.length*10:=by
 induction h with
 | nil=>rfl
 | cons _ _ _ _ _ ih=>simp only[List.length_cons,ih];omega
theorem RlCs.get{l:List Rl}(h:RlCs w l vs):∀ k (hk:k<l.length),∃ G cg S cs B cb,(∀ j v,(rlC (l[k]) G S B cg cs cb)[j]? =some v->vs[k*10+j]? =some v)/\NodesIn w G (l[k]).gr/\SimsIn w S (l[k]).mean.type.args/\TmsIn w B (l[k]).mean.args:=by
 induction h with
 | nil=>intro k hk;simp at hk
 | @cons r G S B gn cg cs cb l vs hn hG hS hT t ih=>
  intro k hk
  match k,hk with
  | 0,_=>
   subst hn;refine⟨G,cg,S,cs,B,cb,fun j v hj=>?_,hG,hS,hT⟩
   match j,hj with
   | 0,hj=>exact hj
   | 1,hj=>exact hj
   | 2,hj=>exact hj
   | 3,hj=>exact hj
   | 4,hj=>exact hj
   | 5,hj=>exact hj
   | 6,hj=>exact hj
   | 7,hj=>exact hj
   | 8,hj=>exact hj
   | 9,hj=>exact hj
   | _+10,hj=>cases hj
  | k+1,hk=>
   obtain⟨G',cg',S',cs',B',cb',h1,h2⟩:=ih k (by simpa using hk);refine⟨G',cg',S',cs',B',cb',fun j v hj=>?_,h2⟩;rw[show (k+1)*10+j=k*10+j+10 by omega];exact h1 j v hj
theorem RlCs.rules{l:List Rl}(h:RlCs w l vs)(hb:Blk w b t vs.toArray)(hl:l.length<=vJ):RulesIn w (some ⟨b,0,none⟩) l:=
 ⟨hl,fun _=>⟨b,0,rfl,hb.lt,fun k hk=>by
  obtain⟨G,cg,S,cs,B,cb,h1,h2⟩:=h.get k hk
  exact⟨G,cg,S,cs,B,cb,K7 hb (fun j v hj=>by rw[List.getElem?_toArray,Nat.zero_add];exact h1 j v hj),h2⟩⟩⟩
theorem Fq(xs:List ByteArray)(h:Blk w b t (xs.map Value.string).toArray):StrsD w (some ⟨b,0,none⟩) xs:=
 fun _=>⟨b,0,rfl,h.lt,fun k hk=>h.cell (by simp[hk])⟩
def RowV(w:World)(r:List Int)(v:Value):Prop:=∃ A c,v= .slice A r.length c/\IntsIn w A r/\0<r.length/\r.length<=1000
inductive RowVs(w:World):List (List Int)->List Value->Prop
 | nil:RowVs w [] []
 | cons {r:List Int} {rs:List (List Int)} {v:Value} {vs:List Value} (h:RowV w r v) (t:RowVs w rs vs):RowVs w (r::rs) (v::vs)
theorem RowVs.pos{rs:List (List Int)}(h:RowVs w rs vs):∀ r∈rs,0<r.length/\r.length<=1000:=by
 induction h with
 | nil=>intro r hr;cases hr
 | cons h _ ih=>
  intro r hr;rcases aq.1 hr with rfl|hr
  ·obtain⟨_,_,_,_,h3,h4⟩:=h;exact⟨h3,h4⟩
  ·exact ih r hr
theorem RowVs.get{rs:List (List Int)}(h:RowVs w rs vs):∀ k (hk:k<rs.length),∃ A c,vs[k]? =some (.slice A (rs[k]).length c)/\IntsIn w A rs[k]:=by
 induction h with
 | nil=>intro k hk;simp at hk
 | cons h _ ih=>
  intro k hk
  match k,hk with
  | 0,_=>obtain⟨A,c,h1,h2,_⟩:=h;exact⟨A,c,by rw[h1];rfl,h2⟩
  | k+1,hk=>exact ih k (by simpa using hk)
theorem qY{rs:List (List Int)}(h:Blk w b t vs.toArray)(hr:RowVs w rs vs)(hl:rs.length<=1000):RowsIn w (some ⟨b,0,none⟩) rs:=
 ⟨hl,hr.pos,fun _=>⟨b,0,rfl,h.lt,fun k hk=>by
  obtain⟨A,c,h1,h2⟩:=hr.get k hk
  exact⟨A,c,h.cell (by simpa using h1),h2⟩⟩⟩
def kidsAt:Nat->Int->List Rl->List Rl
 | _,_,[]=>[]
 | 0,z,r::l=>⟨r.name,r.gr,z,r.wt,r.mean⟩::l
 | k+1,z,r::l=>r::kidsAt k z l
theorem RlCs.kids{l:List Rl}(h:RlCs w l vs)(z:Int):∀ k,k<l.length->RlCs w (kidsAt k z l) (vs.set (k*10+2) (.int .i64 z)):=by
 induction h with
 | nil=>intro k hk;simp at hk
 | @cons r G S B gn cg cs cb l vs hn hG hS hT t ih=>
  intro k hk
  match k,hk with
  | 0,_=>exact .cons (r:=⟨r.name,r.gr,z,r.wt,r.mean⟩) hn hG hS hT t
  | k+1,hk=>
   rw[show (k+1)*10+2=k*10+2+10 by omega];exact .cons hn hG hS hT (ih k (by simpa using hk))
def GmD(T:List Ty)(F:List Ft)(R:List Rl)(L:List Lx)(S:List Nd)(w0 w:World)(v:Value):Prop:=
 ∃ At ct Bf cf br cells A cap AS cst n,v= .agg #[.slice At T.length ct,.slice Bf F.length cf,.slice (some ⟨br,0,none⟩) R.length R.length,.slice A L.length cap,.slice AS S.length cst]/\w0.heap.size<=br/\L.length<=cap/\Blk w br 66 cells/\Fz [] n [66] w (fun w=>TypesIn w At T/\FeatsIn w Bf F/\RlCs w R cells.toList/\LexesIn w A L/\NodesIn w AS S)
def IsP(xs:List Int)(w:World)(v:Value):Prop:=∃ b,v= .slice (some ⟨b,0,none⟩) xs.length xs.length/\IntsIn w (some ⟨b,0,none⟩) xs
def RsP(rs:List (List Int))(w:World)(v:Value):Prop:=∃ b,v= .slice (some ⟨b,0,none⟩) rs.length rs.length/\RowsIn w (some ⟨b,0,none⟩) rs
def GrP(rs:List (List Int))(w:World)(v:Value):Prop:=∃ G c n,v= .agg #[.slice G rs.length c]/\Fz [] n TS w (fun w=>NodesIn w G (rs.map VK))
theorem IsP.tr0{xs:List Int}{v:Value}(h:IsP xs w v)(hs:Same [] w w1):IsP xs w1 v:=by
 obtain⟨b,e,h⟩:=h;exact⟨b,e,h.mono hs.bel⟩
theorem vK{P:Program}{n:Nw}{f:Fr}(xs:List Int){len d:Nat}{t e ty:TypeId}{pos:String}{af:Array Edge}{a1:Array (Nat×Operand)}(hv:a1.toList.map (fun p=>(p.1,ev n f p.2))=xs.zipIdx.map (fun x=>(x.2,Value.int .i64 x.1)))
  (hu:P.underlying t=some (.slice e)) (hs:(P.info? e).map (·.size)=some 1) (hz:(P.info? e).map (·.zero)=some (some (.int .i64 0))) (hn:len=xs.length:=by rfl) (hl:¬len*1>2^24:=by decide) (hl0:len*1≠0:=by decide)
  (a2:Instr.fill (fun i=>some (i*1,1)) ((Array.range (len*1)).map ((Value.int .i64 0).cells[· % (Value.int .i64 0).cells.size]!)) (xs.zipIdx.map (fun x=>(x.2,Value.int .i64 x.1)))=some (flat (xs.zipIdx.map (fun x=>(x.2,Value.int .i64 x.1)))):=by kernel_rfl)
  (hcs:flat (xs.zipIdx.map (fun x=>(x.2,Value.int .i64 x.1)))=(xs.map (Value.int .i64)).toArray:=by kernel_rfl) (hm:xs.length<=vJ:=by decide):OS P n f w ⟨some d,.buildSlice t len a1,ty,pos,af,none⟩ (fun v w''=>Same [] w w''/\IsP xs w'' v/\R6 false w w'' v):=
 jK (fun _ _ K=>qj _ hv hu hs hz hl hl0 a2 hcs (fun b w1 hb hs hr=>K _ _ ⟨hs,⟨b,by rw[hn],qx xs hb hm⟩,xk⟩))
theorem RsP.tr0{xs:List (List Int)}{v:Value}(h:RsP xs w v)(hs:Same [] w w1):RsP xs w1 v:=by
 obtain⟨b,e,h⟩:=h;exact⟨b,e,h.mono hs.bel⟩
theorem GrP.tr0{xs:List (List Int)}{w w1:World}{v:Value}(h:GrP xs w v)(hs:Same [] w w1):GrP xs w1 v:=by
 obtain⟨G,c,n,e,h⟩:=h;exact⟨G,c,n,e,h.tr0 hs⟩
section fz
variable {X:List Nat} {n:Nat} {w w':World} {P:World->Prop}
theorem Fz.add{bG base:Nat}{cs:Array Value}{xs:List Value}(h:Fz X n TS w P)(hS:Same (bG::aL A) w w')(hb:Blk w bG 32 cs)(ho:Own w base 88 9 A k cap xs):Fz X n TS w' P:=
 h.trX hS (fun g hg=>by
  rcases aq.1 hg with e|hg
  ·exact .inr (.inr ⟨_,_,by rw[e];exact hb,.inl dE⟩)
  ·obtain⟨cs,h⟩:=Xk ho g hg
   exact .inr (.inr ⟨_,_,h,.inl dE⟩))
end fz
def zGr:Array Value:=cH
def tyET:Ts:= .f (.b false) (.b true)
def tyEET:Ts:= .f (.b false) tyET
section st
structure SmC(T:List Ty)(F:List Ft)(R:List Rl)(b0 b1 b2 b3 b4 b5 b23 b93 base capt c12 c15:Nat)(At A12 A15:Option Addr)(cr:Array Value)(w wc:World):Prop where
 bel:Bel w wc
 bs:base<=wc.heap.size
 k0:Blk wc b0 32 zGr
 k1:Blk wc b1 61 #[.string ⟨#[101]⟩,.slice none 0 0]
 k2:Blk wc b2 61 #[.string ⟨#[116]⟩,.slice none 0 0]
 k3:Blk wc b3 61 #[.string tyET.sm.base,.slice A12 tyET.sm.args.length c12]
 k4:Blk wc b4 61 #[.string tyEET.sm.base,.slice A15 tyEET.sm.args.length c15]
 k93:Blk wc b93 66 cr
 dt:Fz [] base TS wc (fun w=>TypesIn w At T/\FeatsIn w (some ⟨b23,0,none⟩) F/\RlCs w R cr.toList)
 p12:Fz [] base TS wc (fun w=>SimsIn w A12 tyET.sm.args)
 p15:Fz [] base TS wc (fun w=>SimsIn w A15 tyEET.sm.args)
 lo5:w.heap.size<=b5
 lo93:w.heap.size<=b93
 o:b0<b5/\b1<b5/\b2<b5/\b3<b5/\b4<b5/\b5<b93
 l:b5<base/\b93<base
variable {T F R b0 b1 b2 b3 b4 b5 b23 b93 base capt c12 c15 At A12 A15 cr}
theorem SmC.tr{w wc w1:World}{Z:List Nat}(h:SmC T F R b0 b1 b2 b3 b4 b5 b23 b93 base capt c12 c15 At A12 A15 cr w wc)(hs:Same Z wc w1)(hz:∀ x∈Z,(x=b5\/base<=x)/\∃ t cs,Blk wc x t cs/\Sp TS t cs):SmC T F R b0 b1 b2 b3 b4 b5 b23 b93 base capt c12 c15 At A12 A15 cr w w1:=by
 obtain⟨o0,o1,o2,o3,o4,o9⟩:=h.o;obtain⟨l5,l9⟩:=h.l;have hf:∀ g∈Z,base<=g\/g∈[]\/∃ t cs,Blk wc g t cs/\Sp TS t cs:=fun g hg=> .inr (.inr (hz g hg).2)
 have lo5:=h.lo5;have lo93:=h.lo93
 exact { h with
  bel:=h.bel.tr hs (fun x hx=>by rcases(hz x hx).1 with e|e<;>omega)
  bs:=nLT h.bs hs.size
  k0:=h.k0.tr hs (fun hx=>by rcases(hz _ hx).1 with e|e<;>omega)
  k1:=h.k1.tr hs (fun hx=>by rcases(hz _ hx).1 with e|e<;>omega)
  k2:=h.k2.tr hs (fun hx=>by rcases(hz _ hx).1 with e|e<;>omega)
  k3:=h.k3.tr hs (fun hx=>by rcases(hz _ hx).1 with e|e<;>omega)
  k4:=h.k4.tr hs (fun hx=>by rcases(hz _ hx).1 with e|e<;>omega)
  k93:=h.k93.tr hs (fun hx=>by rcases(hz _ hx).1 with e|e<;>omega)
  dt:=h.dt.trX hs hf
  p12:=h.p12.trX hs hf
  p15:=h.p15.trX hs hf }
theorem SmC.tr0{wc:World}(h:SmC T F R b0 b1 b2 b3 b4 b5 b23 b93 base capt c12 c15 At A12 A15 cr w wc)(hs:Same [] wc w1):SmC T F R b0 b1 b2 b3 b4 b5 b23 b93 base capt c12 c15 At A12 A15 cr w w1:=h.tr hs (by simp)
theorem SmC.add{wc:World}{cs:Array Value}{xs:List Value}(h:SmC T F R b0 b1 b2 b3 b4 b5 b23 b93 base capt c12 c15 At A12 A15 cr w wc)(hS:Same (b5::aL A) wc w1)(hb:Blk wc b5 32 cs)(ho:Own wc base 88 9 A k cap xs):SmC T F R b0 b1 b2 b3 b4 b5 b23 b93 base capt c12 c15 At A12 A15 cr w w1:=
 h.tr hS (fun g hg=>by
  rcases aq.1 hg with e|hg
  ·exact⟨.inl e,_,_,by rw[e];exact hb,.inl dE⟩
  ·obtain⟨cs,h⟩:=Xk ho g hg
   exact⟨.inr (ho.lt g hg).1,_,_,h,.inl dE⟩)
variable (T F R b0 b1 b2 b3 b4 b5 b23 b93 base capt c12 c15 At A12 A15 cr)
def SmSt(k:Nat)(lx:List Lx)(w wc:World):Prop:=SmC T F R b0 b1 b2 b3 b4 b5 b23 b93 base capt c12 c15 At A12 A15 cr w wc/\∃ A cap xs nL,Blk wc b5 32 #[.slice At 15 capt,.slice (some ⟨b23,0,none⟩) 5 5,.slice (some ⟨b93,0,none⟩) 6 6,.slice A k cap,.slice none 0 0]/\Own wc base 88 9 A k cap xs/\Fz [] nL TS wc (fun w=>LxData w lx xs)
variable {T F R b0 b1 b2 b3 b4 b5 b23 b93 base capt c12 c15 At A12 A15 cr}
theorem SmSt.tr0{k:Nat}{lx:List Lx}{w wc w1:World}(h:SmSt T F R b0 b1 b2 b3 b4 b5 b23 b93 base capt c12 c15 At A12 A15 cr k lx w wc)(hs:Same [] wc w1):SmSt T F R b0 b1 b2 b3 b4 b5 b23 b93 base capt c12 c15 At A12 A15 cr k lx w w1:=by
 obtain⟨hC,A,cap,xs,nL,hb5,ho,hL⟩:=h;exact⟨hC.tr0 hs,A,cap,xs,nL,hb5.tr0 hs,ho.tr0 hs,hL.tr0 hs⟩
end st
def starB(g:List Nd):Bool:=(List.range g.length).all (fun i=>decide (i=0)||(List.range i).any (fun j=>(E8 g (j:Int)).ln.any (fun x=>decide (x.2=(i:Int)))))
theorem unr_star(h:starB g=true):I8 g= -1:=by
 refine(Nk (.inl ⟨rfl,?_⟩)).symm;intro i
 induction i using Nat.strongRecOn with
 | ind i ih=>
  intro hi;have h1:=aB.1 h i (av.2 hi);by_cases e:i=0
  ·subst e;exact .zero
  ·simp only[e,decide_false,Bool.false_or]at h1
   obtain⟨j,hj,h2⟩:=List.any_eq_true.1 h1;obtain⟨x,hx,h3⟩:=List.any_eq_true.1 h2;have hji:=av.1 hj;have hjl:j<g.length:=by omega
   have hx2:x∈(g[j]).ln:=by
    grind[E8,List.getD]
   have hr:=Rch.step (ih j hji hjl) hjl hx2
   grind
def grB(T:List Ty)(F:List Ft)(g:List Nd):Bool:=decide ((vV T.length F.length g).1=0)&&decide (tyF T F g=(0,0))&&starB g
theorem grB_ok{T:List Ty}{F:List Ft}(h:grB T F g=true):xy T F g=(0,0):=by
 simp only[grB,Bool.and_eq_true,decide_eq_true_eq]at h
 grind[IZ,unr_star]
def tvB(x:Tv):Bool:=decide ((twk x.tm 1 0 0).2.1=0)&&(tyv [] x).isSome
theorem tvB_ok{x:Tv}(h:tvB x=true):tmF x.tm=(0,0):=by
 simp only[tvB,Bool.and_eq_true,decide_eq_true_eq]at h;obtain⟨τ,hτ⟩:=aW.1 h.2;unfold tmF;rw[if_pos h.1,if_pos ⟨x,τ,rfl,hτ⟩]
structure RlS where
 name:ByteArray
 rows:List (List Int)
 kids:Int
 wt:Int
 mean:Tv
def RlS.rl(r:RlS):Rl:=⟨r.name,r.rows.map VK,r.kids,r.wt,r.mean.tm⟩
structure LxS where
 word:ByteArray
 rows:List (List Int)
 wt:Int
 mean:Tv
def LxS.lx(r:LxS):Lx:=⟨r.word,r.rows.map VK,r.wt,r.mean.tm⟩
def RlP(r:RlS)(w:World)(v:Value):Prop:=∃ G c n S cs B cb m,v= .agg #[.string r.name,.slice G r.rows.length c,.int .i64 r.kids,.int .i64 r.wt,.int .i64 r.mean.tm.kind,.string r.mean.tm.name,.int .i64 r.mean.tm.index,.string r.mean.tm.type.base,.slice S r.mean.tm.type.args.length cs,.slice B r.mean.tm.args.length cb]/\Fz [] n TS w (fun w=>NodesIn w G (r.rows.map VK))/\Fz [] m TS w (fun w=>SimsIn w S r.mean.tm.type.args/\TmsIn w B r.mean.tm.args)
theorem RlP.tr0{r:RlS}{w w1:World}{v:Value}(h:RlP r w v)(hs:Same [] w w1):RlP r w1 v:=by
 obtain⟨G,c,n,S,cs,B,cb,m,e,h1,h2⟩:=h;exact⟨G,c,n,S,cs,B,cb,m,e,h1.tr0 hs,h2.tr0 hs⟩
theorem Fz.rcons{r:RlS}{G S B:Option Addr}{c cs cb m:Nat}{l:List Rl}(hG:Fz [] n TS w (fun w=>NodesIn w G (r.rows.map VK)))(hM:Fz [] m TS w (fun w=>SimsIn w S r.mean.tm.type.args/\TmsIn w B r.mean.tm.args))(hR:Fz [] k TS w (fun w=>RlCs w l vs)):
  Fz [] w.heap.size TS w (fun w=>RlCs w (r.rl::l) (.string r.name:: .slice G r.rows.length c:: .int .i64 r.kids:: .int .i64 r.wt:: .int .i64 r.mean.tm.kind:: .string r.mean.tm.name:: .int .i64 r.mean.tm.index:: .string r.mean.tm.type.base:: .slice S r.mean.tm.type.args.length cs:: .slice B r.mean.tm.args.length cb::vs)):=
 (hG.and (hM.and hR)).imp (fun _ h=>RlCs.cons (r:=r.rl) (by simp[RlS.rl]) h.1 h.2.1.1 h.2.1.2 h.2.2)
def rlB(T:List Ty)(F:List Ft)(r:RlS):Bool:=yQ r.name && !decide (Vv r.rl)&&grB T F r.rl.gr&&uK r.rl.gr r.kids&&tvB r.mean
def lxB(T:List Ty)(F:List Ft)(r:LxS):Bool:=oW r.word && !decide (O2 r.lx)&&grB T F r.lx.gr&&tvB r.mean
def rlsB(T:List Ty)(F:List Ft)(R:List RlS):Bool:=(List.range R.length).all (fun i=>match R[i]? with
 | none=>false
 | some r=>rlB T F r && !oX ((R.take i).map (·.name)) r.name)
def gramB(T:List Ty)(F:List Ft)(R:List RlS)(X:List LxS)(S:List Nd):Bool:=decide ((qz T F).1=0)&&decide (3<F.length)&&decide (R.length<=40)&&decide (X.length<=100)&&rlsB T F R&&X.all (lxB T F)&&grB T F S
theorem rlB_ok{T:List Ty}{F:List Ft}{r:RlS}(h:rlB T F r=true):yQ r.rl.name=true/\JZ T F r.rl=0:=by
 simp only[rlB,Bool.and_eq_true,Bool.not_eq_true',decide_eq_false_iff_not]at h;refine⟨h.1.1.1.1,?_⟩;rw[rl_ok h.1.1.1.2 (by rw[grB_ok h.1.1.2]) h.1.2];exact congrArg (·.1) (tvB_ok h.2)
theorem lxB_ok{T:List Ty}{F:List Ft}{r:LxS}(h:lxB T F r=true):D9 T F r.lx=0:=by
 simp only[lxB,Bool.and_eq_true,Bool.not_eq_true',decide_eq_false_iff_not]at h;rw[lx_ok h.1.1.1 h.1.1.2 (by rw[grB_ok h.1.2])];exact congrArg (·.1) (tvB_ok h.2)
theorem rlsB_ok{T:List Ty}{F:List Ft}{R:List RlS}(h:rlsB T F R=true){i:Nat}(hi:i<R.length):u6 T F (R.map RlS.rl) i=0:=by
 have h1:=aB.1 h i (av.2 hi);simp only[List.getElem?_eq_getElem hi,Bool.and_eq_true,Bool.not_eq_true']at h1;have hi2:i<(R.map RlS.rl).length:=by simpa using hi
 have e:(R.map RlS.rl)[i]'hi2=(R[i]).rl:=by simp
 have e2:(((R.map RlS.rl).take i).map (·.name))=(R.take i).map (·.name):=by rw[<- List.map_take,List.map_map];rfl
 obtain⟨a,b⟩:=rlB_ok h1.1;rw[rnF hi2 (by rw[e];exact a) (by rw[e,e2];exact h1.2),e];exact b
theorem N5{f:Nat->Int}:∀(m i:Nat),(∀ k,i<=k->k<i+m->f k=0)->qJ f i m=(0,0)
 | 0,_,_=>rfl
 | m+1,i,h=>by
  rw[qJ,if_neg (fun e=>e (h i (Nat.le_refl _) oG))]
  exact N5 m (i+1) (fun k h1 h2=>h k oG oG)
theorem O7{f:Nat->Int}(h:∀ i,i<n->f i=0):qJ f 0 n=(0,0):=N5 n 0 (fun k _ h2=>h k oG)
theorem gram_ok{T:List Ty}{F:List Ft}{R:List RlS}{X:List LxS}{S:List Nd}(h:gramB T F R X S=true):x5 T F (R.map RlS.rl) (X.map LxS.lx) S=(0,0):=by
 simp only[gramB,Bool.and_eq_true,decide_eq_true_eq]at h;obtain⟨⟨⟨⟨⟨⟨h1,h2⟩,h3⟩,h4⟩,h5⟩,h6⟩,h7⟩:=h;refine gr_ok h1 oG (by simp only[List.length_map];omega) (O7 (fun i hi=>rlsB_ok h5 (by simpa using hi))) (O7 (fun i hi=>?_)) (by rw[grB_ok h7]);have hi2:i<X.length:=by simpa using hi
 rw[lnF hi,show (X.map LxS.lx)[i]'hi=(X[i]).lx by simp];exact lxB_ok (aB.1 h6 _ (ap hi2))
end
theorem XK{f:Nat->Int}:∀(m i:Nat),(qJ f i m).1=0->∀ k,i<=k->k<i+m->f k=0
 | 0,i,_,k,h1,h2=>by omega
 | m+1,i,h,k,h1,h2=>by
  by_cases e:f i=0
  ·rw[qJ,if_neg (fun h=>h e)]at h
   by_cases ek:k=i
   ·rw[ek];exact e
   ·exact XK m (i+1) h k oG oG
  ·rw[qJ,if_pos e]at h
   exact absurd h e
theorem S6{f:Nat->Int}:∀(m i:Nat),(qJ f i m).1=0->qJ f i m=(0,0)
 | 0,i,_=>by rw[qJ]
 | m+1,i,h=>by
  by_cases e:f i=0
  ·rw[qJ,if_neg (fun h=>h e)]at h ⊢;exact S6 m (i+1) h
  ·rw[qJ,if_pos e]at h;exact absurd h e
theorem rc_any(s:ByteArray)(w:World)(hsz:s.size<9223372036854775807):Calls Tryd.prog 90 #[.string s] w fun e w'=>e= .returned (.int .i64 (((ch s 0).length:Nat):Int))/\Bel w w':=by
 refine enT Tryd.func90 Tryd.ntmps90 rfl rfl fun hB=>?_;refine zn9 ?_;refine wl_rg U9 rfl (fun b4 w1 a1 s1 hr=>?_);have lo4:=hB.ob hr;refine zn3 ?_;refine qk [2,5,6,7,8] (fun m g w'=>∃ p n:Nat,p<=s.size/\m=s.size-p/\n<=p/\g 2= .int .i64 n/\n+(ch s p).length=(ch s 0).length/\Bel w w'/\ItIn w' b4 s p) (s.size) ?_ (fun m g2 w2 hI=>?_)
 ·exact⟨0,0,ad _,rfl,ae _,rfl,Nat.zero_add _,hB.u,a1⟩
 obtain⟨p,n,hp,hm,hnp,h2,hc,hB,a1⟩:=hI;refine zZ 2 _ h2 nu (zn2 ?_);rcases Nat.lt_or_ge (p) (s).size with hnlt|hnge
 ·refine wl_nx a1 rfl hnlt (fun w3 hq s2=>?_);replace a1:=hq;have hwp:=Kq hnlt;have hwl:=wdt_le hnlt;rw[OY hnlt,List.length_cons]at hc;refine wl (yV (v:= .bool true) rfl rfl) (Zv ?_);refine xY (s.size-(p+wdt s p)) oG agA ?_;exact⟨p+wdt s p,n+1,hwl,rfl,by omega,rfl,by omega,hB.u,a1⟩
 refine wl (r_ne a1 rfl (Nat.not_lt.2 hnge)) ?_;rw[ch_end (Nat.not_lt.2 hnge),List.length_nil,Nat.add_zero]at hc;refine wl (yV (v:= .bool false) rfl rfl) (R7 ?_);exact⟨by rw[<- hc];rfl,hB⟩
theorem QV(s:ByteArray)(w:World)(h8:8<=s.size):Calls Tryd.prog 99 #[.string s] w fun e w'=>e= .returned (.int .u64 ((wo 7 s:Nat):Int))/\Bel w w':=by
 have q0:=Z9 s 0;have q1:=Z9 s 1;have q2:=Z9 s 2;have q3:=Z9 s 3;have q4:=Z9 s 4;have q5:=Z9 s 5;have q6:=Z9 s 6;have q7:=Z9 s 7;have r0:=kZ s (k:=0) dE;have r1:=kZ s (k:=1) dE;have r2:=kZ s (k:=2) dE;have r3:=kZ s (k:=3) dE;have r4:=kZ s (k:=4) dE;have r5:=kZ s (k:=5) dE;have r6:=kZ s (k:=6) dE;have r7:=kZ s (k:=7) dE;refine enT Tryd.func99 Tryd.ntmps99 rfl rfl fun hB=>?_;refine jZ ?_;refine Qw kR kR (fun w1 s1=>?_);refine zn1 ?_;refine ws (kQ (i:=0) U9 rfl rfl oG) (ws (Mw U5 VW rfl (EK oG)) (zn1 ?_));refine ws (kQ (i:=1) U9 rfl rfl oG) (ws (Mw U5 VW rfl (EK oG)) (ws (Iz (b:=8) rfl rfl dE oG rfl) (ws (Y7 rfl rfl r0 oG) (zn1 ?_))));refine ws (kQ (i:=2) U9 rfl rfl oG) (ws (Mw U5 VW rfl (EK oG)) (ws (Iz (b:=16) rfl rfl dE oG rfl) (ws (Y7 rfl rfl r1 oG) (zn1 ?_))));refine ws (kQ (i:=3) U9 rfl rfl oG) (ws (Mw U5 VW rfl (EK oG)) (ws (Iz (b:=24) rfl rfl dE oG rfl) (ws (Y7 rfl rfl r2 oG) (zn1 ?_))));refine ws (kQ (i:=4) U9 rfl rfl oG) (ws (Mw U5 VW rfl (EK oG)) (ws (Iz (b:=32) rfl rfl dE oG rfl) (ws (Y7 rfl rfl r3 oG) (zn1 ?_))));refine ws (kQ (i:=5) U9 rfl rfl oG) (ws (Mw U5 VW rfl (EK oG)) (ws (Iz (b:=40) rfl rfl dE oG rfl) (ws (Y7 rfl rfl r4 oG) (zn1 ?_))));refine ws (kQ (i:=6) U9 rfl rfl oG) (ws (Mw U5 VW rfl (EK oG)) (ws (Iz (b:=48) rfl rfl dE oG rfl) (ws (Y7 rfl rfl r5 oG) (zn1 ?_))));refine ws (kQ (i:=7) U9 rfl rfl oG) (ws (Mw U5 VW rfl (EK oG)) (ws (Iz (b:=56) rfl rfl dE oG rfl) (ws (Y7 rfl rfl r6 oG) (zn1 ?_))));refine o6 (zn3 ?_);exact⟨rfl,hB.u⟩
end Go.Proofs.YtmfiholmfieieaaDoor
