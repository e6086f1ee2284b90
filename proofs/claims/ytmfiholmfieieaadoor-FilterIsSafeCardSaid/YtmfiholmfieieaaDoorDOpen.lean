/- What these functions compute, at every world: derive.Complete, filter.Build, , law4.FilterIsSafe; and plain laws. -/
import Derived.Test.YtmfiholmfieieaaDoorU
import Derived.Test.YtmfiholmfieieaaDoorZst
import Derived.Test.YtmfiholmfieieaaDoorFOf
import Derived.Test.YtmfiholmfieieaaDoorYGr
import Derived.Test.YtmfiholmfieieaaDoorFOp
import Derived.Test.YtmfiholmfieieaaDoorDfs
import Derived.Test.YtmfiholmfieieaaDoorCmt
import Derived.SizedLaws
namespace Go.Proofs.YtmfiholmfieieaaDoor
open Go.RowKit Go.ChangeShapes Go.WideShapes Go.Deep Go.Joins
set_option maxRecDepth 100000
set_option maxHeartbeats 4000000
variable {a1:Nat}{cs:List Value}{e t ti:TypeId}{fs:List Ft}{l:List Ty}{p:Dt}{rs:List Rl}{st:List Nd}{v v0 v1:Value}{xs:List Lx}
theorem gr_st(h:(x5 l fs rs xs st).1=0):(xy l fs st).1=0:=by
 unfold x5 at h;by_cases a:(qz l fs).1≠0
 ·rw[if_pos a]at h;exact absurd h a
 rw[if_neg a]at h
 split at h
 ·exact absurd h dE
 split at h
 ·exact absurd h dE
 split at h
 ·rename_i c;exact absurd h c
 split at h
 ·rename_i c;exact absurd h c
 split at h
 ·rename_i c;exact absurd h c
 ·rename_i c;exact ak.1 c
theorem gr_size(h:(x5 l fs rs xs st).1=0):rs.length<=40/\xs.length<=100:=by
 have h1:=gr_h0 h;have h2:¬fs.length<=3:=fun e=>by rw[Dw h1 e]at h;cases h
 have h3:¬(40<rs.length\/100<xs.length):=fun e=>by rw[N1 h1 h2 e]at h;cases h
 omega
theorem gr_stv(h:(x5 l fs rs xs st).1=0):GV l fs st:=(Ew (gr_h0 h) (gr_st h)).1
theorem SZ{w w2:World}{bu bd b t:Nat}{cs:Array Value}(h:TableIn w l bu bd)(hb:Blk w b t cs)(hs:Same [b] w w2)(hne:127≠t):TableIn w2 l bu bd:=
 ⟨h.1.tr hs (fun hx=>by obtain rfl:=aj.1 hx;exact hne (oq h.1 hb)),h.2.tr hs (fun hx=>by obtain rfl:=aj.1 hx;exact hne (oq h.2 hb))⟩
theorem complete_d(AT AF AR AX AS:Option Addr)(ct cf cr cx cst:Nat)(l:List Ty)(fs:List Ft)(rs:List Rl)(xs:List Lx)(st:List Nd)(t:Dt)(A:Option Addr)(c:Nat)(w:World)(a2:TabIn w)(hU:U8In w)(hTy:TypesIn w AT l)(hF:FeatsIn w AF fs)(hRu:RulesIn w AR rs)(hLx:LexesIn w AX xs)(hG:NodesIn w AS st)(hT:TresIn w A t.kids):Calls Tryd.prog 12 #[.agg #[.slice AT l.length ct,.slice AF fs.length cf,.slice AR rs.length cr,.slice AX xs.length cx,.slice AS st.length cst],.agg #[.int .i64 (t).rule,.int .i64 (t).lex,.slice A (t).kids.length c]] w fun e w'=>(∃ b,e= .returned (.tuple #[.bool b,flV (if (x5 l fs rs xs st).1=0 then jw rs xs.length t else x5 l fs rs xs st)])/\(b=true->∃ X Z,TgR l rs xs t true X/\Xx l (yZ X st) [(0,X.length)] Z))/\Bel w w':=by
 refine enT Tryd.func12 Tryd.ntmps12 rfl rfl fun hB=>?_;refine zn2 ?_;refine qZ (cs:=#[_,_,_,_,_]) rfl (fun b2 w1 hb2 s1 hr=>?_);refine qZ (cs:=#[_,_,_]) rfl (fun b3 w2 hb3 s2 hr=>?_);refine waB rfl ?_;refine qw (cs:=#[.int .i64 0,.int .i64 0]) qQ rfl (fun b5 w3 a1 s3 hr=>?_);have lo5:=hB.u.ob hr;refine zn7 ?_;refine aZ kR (DJ AT AF AR AX AS ct cf cr cx cst l fs rs xs st t A c _ (a2.mono hB.u) (hU.mono hB.u) (hTy.mono hB.u) (hF.mono hB.u) (hRu.mono hB.u) (hLx.mono hB.u) (hG.mono hB.u) (hT.mono hB.u)) rfl (fun w4 s4=>?_);refine yx (cs:=#[.int .i64 0,.int .i64 0]) qQ rfl (fun _=>rfl) (fun _=>rfl) zj rfl y5 (fun b6 w6 hb6 s5 hr=>?_);refine zn9 ?_;refine zK rfl (fun c15=>?_) (fun c15=>?_)
 ·refine yz ?_;refine Qy [] [2] [0,1,2] rfl (fun w7 s6=>?_);refine zn2 ?_;refine h1 rfl ?_;refine zJ a1.u (fun w8 hq s7=>?_);have hsH2:=s7;replace a1:=hq;refine x6 (CQ [] (zn4 ?_));refine Qq (.inl rfl) rfl rfl (zw U43 rfl rfl a1.range0 zj) ?_;exact⟨⟨false,rfl,fun h=>nomatch h⟩,hB.u⟩
 have hd0:=ak.1 c15;obtain⟨hg0,ht0⟩:=TJ hd0;have H:=N3 hg0;obtain⟨hok,hnd,_⟩:=Pj ht0;have hS:=J5 H.h0;have a5:=DX hd0;refine zn7 ?_;refine zX N4 (QW AT ct l _ (hTy.mono hB.u) hS.vt hS.le) rfl (fun e' w9 hr=>?_);obtain⟨bu,bd,rfl,ab,s8⟩:=hr;replace s8:=sB s8;obtain⟨wT,hwT⟩:∃ z,z=w9:=⟨_,rfl⟩
 have a6:Bel wT w9:=by rw[hwT];exact Below.refl _ _
 rw[<- hwT]at ab;refine⟨_,rfl,?_⟩;refine yx (cs:=#[.slice none 0 0,.slice none 0 0]) R9 rfl (fun _=>rfl) (fun _=>rfl) Kk rfl y5 (fun b7 w11 hb7 s9 hr=>?_);refine zn7 ?_;refine zX kR (gof_any H t A c _ (a2.mono hB.u) (ab.mono a6.u) (hRu.mono hB.u) (hLx.mono hB.u) (hT.mono hB.u) hok) rfl (fun e' w12 hr=>?_);obtain⟨⟨AX,X,okX,cX,rfl,hNX,ao⟩,a3⟩:=hr;replace a3:=sB a3;have an:=u7 hNX;refine⟨_,rfl,?_⟩;refine wmT rfl (wl (yV (v:=_) rfl rfl) (wl (yV (v:=_) rfl rfl) ?_));refine yx (cs:=#[.slice none 0 0]) Iy rfl (fun _=>rfl) (fun _=>rfl) gY rfl y5 (fun b8 w14 hb8 a4 hr=>?_);refine zn9 ?_;refine jW rfl (fun b1=>?_) (fun b1=>?_)
 ·obtain rfl:okX=true:=by simpa using b1
  have a9:=O5 (tg_gf H hok ao);have a8:=gr_stv hg0;refine zn4 ?_;refine wl (qK U30 rfl rfl (hb2.u.sub (n:=1) (xs:=[_]) rfl) gY) ?_;replace hB:=hB.tr0 (s1.t (s2.t (s3.t (s4.t (s5.t (s8.t (s9.t (a3.t a4))))))));replace a6:=a6.tr0 (s9.t (a3.t a4));replace an:=an.tr0 a4;refine zX kR (Dk (nt:=l.length) (nf:=fs.length) _ (a2.mono hB) (ab.mono a6) hS an.now (hG.mono hB) a9.gok a8.gok a9.gx.toGY a8.gx.toGY (by have:=a8.few;omega) a9.gx.pos) rfl (fun e' w15 hr=>?_);obtain⟨⟨A9,X9,ok9,rfl,_,hI9⟩,a7⟩:=hr;replace a7:=sB a7;refine⟨_,rfl,?_⟩;refine wmT rfl (wl (yV (v:=_) rfl rfl) (wl (yV (v:=_) rfl rfl) (zn6 ?_)));refine uW (cs:=#[.int .i64 0,.int .i64 0]) (waB rfl ?_);refine zJ a1.u (fun w16 hq s13=>?_);replace a1:=hq;refine zn3 ?_;refine Qq (.inl rfl) rfl rfl (zw U43 rfl rfl a1.range0 zj) ?_;replace hB:=(hB.tr0 a7).tr1 s13 lo5
  first
    | exact⟨⟨ok9,by rw[a5];rfl,fun h=>by
      rcases hI9 with ⟨_,hU⟩|⟨h2,_⟩
      · exact⟨X,X9,ao,hU⟩
      · rw[h]at h2;cases h2⟩,hB⟩
    | exact⟨⟨false,by rw[a5];rfl,fun h=>nomatch h⟩,hB⟩
 obtain rfl:okX=false:=by simpa using b1
 refine zn5 ?_;refine uW (cs:=#[.int .i64 0,.int .i64 0]) (waB rfl ?_);refine zJ a1.u (fun w17 hq s14=>?_);replace a1:=hq;refine zn3 ?_;refine Qq (.inl rfl) rfl rfl (zw U43 rfl rfl a1.range0 zj) ?_;replace hB:=(hB.tr0 (s1.t (s2.t (s3.t (s4.t (s5.t (s8.t (s9.t (a3.t a4))))))))).tr1 s14 lo5
 first
   | exact⟨⟨ok9,by rw[a5];rfl,fun h=>by
     rcases hI9 with ⟨_,hU⟩|⟨h2,_⟩
     · exact⟨X,X9,ao,hU⟩
     · rw[h]at h2;cases h2⟩,hB⟩
   | exact⟨⟨false,by rw[a5];rfl,fun h=>nomatch h⟩,hB⟩
theorem build_d(AT AF AR AX AS:Option Addr)(ct cf cr cx cst:Nat)(l:List Ty)(fs:List Ft)(rs:List Rl)(xs:List Lx)(st:List Nd)(w:World)(b7:TabIn w)(hU:U8In w)(hTy:TypesIn w AT l)(hF:FeatsIn w AF fs)(hRu:RulesIn w AR rs)(hLx:LexesIn w AX xs)(hG:NodesIn w AS st):Calls Tryd.prog 5 #[.agg #[.slice AT l.length ct,.slice AF fs.length cf,.slice AR rs.length cr,.slice AX xs.length cx,.slice AS st.length cst]] w fun e w'=>((∃ FV,e= .returned (.tuple #[.agg FV,flV (x5 l fs rs xs st)])/\¬(x5 l fs rs xs st).1=0)\/((x5 l fs rs xs st).1=0/\∃ KA AA SA FA ck ca cs cv,e= .returned (.tuple #[.agg (filC rs.length xs.length KA AA SA FA ck ca cs cv),.agg #[.int .i64 0,.int .i64 0]])/\∀ w2,FrSame w.heap.size w' w2->FilIn l rs xs st KA AA SA FA w2))/\Bel w w':=by
 refine enT Tryd.func5 Tryd.ntmps5 rfl rfl fun hB=>?_;refine zn2 ?_;refine qZ (cs:=#[_,_,_,_,_]) rfl (fun b1 w1 a9 s1 hr=>?_);refine qw (cs:=cA) ze41 rfl (fun b2 w2 a1 s2 hr=>?_);have:=a9.ob hr;refine qw (cs:=#[.int .i64 0,.int .i64 0]) qQ rfl (fun b3 w3 a2 s3 hr=>?_);have:=a9.u.ob hr;have:=a1.ob hr;refine zn6 ?_;refine aZ kR (O6 AT AF AR AX AS ct cf cr cx cst l fs rs xs st _ (b7.mono hB.u) (hU.mono hB.u) (hTy.mono hB.u) (hF.mono hB.u) (hRu.mono hB.u) (hLx.mono hB.u) (hG.mono hB.u)) rfl (fun w4 s4=>?_);refine yx (cs:=#[.int .i64 0,.int .i64 0]) qQ rfl (fun _=>rfl) (fun _=>rfl) zj rfl y5 (fun b4 w6 bc s5 hr=>?_);have:=a1.u.ob hr;have:=a2.u.ob hr;refine zn9 ?_;refine zK rfl (fun c9=>?_) (fun c9=>?_)
 ·refine yz ?_;refine DK 4 [10,11] [b2,b3] (fun ix v wv=>match ix with|0=>v= .agg cA|1=>v= .agg #[.int .i64 (x5 l fs rs xs st).1,.int .i64 (x5 l fs rs xs st).2]|2=>Blk wv b2 41 cA|3=>Blk wv b3 43 #[.int .i64 (x5 l fs rs xs st).1,.int .i64 (x5 l fs rs xs st).2]|_=>True) (fun wq=>(∃ c0 c1 c2 c3 c4 c5,Blk wq b2 41 #[c0,c1,c2,c3,c4,c5])/\∃ z y,Blk wq b3 43 #[z,y]) kR kR ?_ ?_ ⟨⟨_,_,_,_,_,_,a1.u⟩,_,_,a2.u⟩ ?_ ?_
  ·intro ix v wv b9 h s6
   match ix,h with
   | 0,h=>exact h
   | 1,h=>exact h
   | 2,h=>exact(show Blk wv b2 41 cA from h).tr0 s6
   | 3,h=>exact(show Blk wv b3 43 #[.int .i64 (x5 l fs rs xs st).1,.int .i64 (x5 l fs rs xs st).2]from h).tr0 s6
   | _+4,h=>exact trivial
  ·intro wv b9 h s7;obtain⟨⟨c0,c1,c2,c3,c4,c5,a1⟩,z2,z3,a2⟩:=h;exact⟨⟨_,_,_,_,_,_,a1.u⟩,_,_,a2.u⟩
  ·intro ix o ab a3 gg wx s8 hJ hd
   match ix,ab,a3 with
   | 0,_,a3=>
    cases sI a3;show OS _ _ _ _ _ _;exact oVq (T7 (vs:=#[]) (cs:=cA) (by simp) kR) rfl
   | 1,_,a3=>
    cases sI a3;replace bc:=bc.tr s8 (fun hx=>by simp only[List.mem_cons,List.not_mem_nil,or_false]at hx;omega);show OS _ _ _ _ _ _;exact oVq (qK U43 rfl rfl bc.range0 zj) rfl
   | 2,_,a3=>
    cases sI a3;show OS _ _ _ _ _ _;refine aX 10 (hd 0 _ aY rfl) ?_;obtain⟨⟨c0,c1,c2,c3,c4,c5,a1⟩,z2,z3,a2⟩:=hJ;refine JW (fun ops Q K=>?_);refine zJ a1 (fun w2 hq a4=>?_);have K2:=K w2;refine K2 ⟨a4.weak (by simp),?_,hq,fun kx v a5 h=>?_⟩
    ·replace a2:=a2.tr a4 (by simp;omega);replace a1:=hq;exact⟨⟨_,_,_,_,_,_,a1⟩,_,_,a2⟩
    match kx,a5,h with
    | 0,_,h=>exact h
    | 1,_,h=>exact h
    | 2,a5,_=>exact absurd rfl a5
    | 3,_,h=>exact(show Blk wx b3 43 #[.int .i64 (x5 l fs rs xs st).1,.int .i64 (x5 l fs rs xs st).2]from h).tr a4 (by simp;omega)
    | _+4,_,_=>exact trivial
   | 3,_,a3=>
    cases sI a3;show OS _ _ _ _ _ _;refine aX 11 (hd 1 _ aY rfl) ?_;obtain⟨⟨c0,c1,c2,c3,c4,c5,a1⟩,z2,z3,a2⟩:=hJ;refine JW (fun ops Q K=>?_);refine zJ a2 (fun w2 hq a4=>?_);have K2:=K w2;refine K2 ⟨a4.weak (by simp),?_,hq,fun kx v a5 h=>?_⟩
    ·replace a1:=a1.tr a4 (by simp;omega);replace a2:=hq;exact⟨⟨_,_,_,_,_,_,a1⟩,_,_,a2⟩
    match kx,a5,h with
    | 0,_,h=>exact h
    | 1,_,h=>exact h
    | 2,_,h=>exact(show Blk wx b2 41 cA from h).tr a4 (by simp;omega)
    | 3,a5,_=>exact absurd rfl a5
    | _+4,_,_=>exact trivial
   | _+4,ab,_=>exact absurd ab oG
  intro gg w7 s9 hJ hR;replace hB:=hB.tr0 (s1.t (s2.t (s3.t (s4.t s5))));replace hB:=hB.tr s9 (fun q hx=>by simp only[List.mem_cons,List.not_mem_nil,or_false]at hx;omega);have hq2:Blk w7 b2 41 cA:=hR 2 _ rfl;have hq3:Blk w7 b3 43 #[.int .i64 (x5 l fs rs xs st).1,.int .i64 (x5 l fs rs xs st).2]:=hR 3 _ rfl;replace a1:=hq2;replace a2:=hq3;refine zn4 ?_;refine Qq (.inl rfl) rfl (zw U41 rfl rfl a1.range0 sz41) (zw U43 rfl rfl a2.range0 zj) ?_;exact⟨.inl ⟨_,rfl,c9⟩,hB⟩
 have b8:=ak.1 c9;have H:=N3 b8;have hS:=J5 H.h0;obtain⟨bb,b6⟩:=gr_size b8;refine zn3 ?_;replace a1:=a1.tr0 (s3.t (s4.t s5));have z2:=a1.lt;replace a2:=a2.tr0 (s4.t s5);have z3:=a2.lt;replace hB:=hB.tr0 (s1.t (s2.t (s3.t (s4.t s5))));have hsz:=Bel.size hB;refine DK 9 [12,13,14,15,16,17,18] [b2,b3] (fun ix v wv=>match ix with|0=>v= .agg #[.slice AT l.length ct,.slice AF fs.length cf,.slice AR rs.length cr,.slice AX xs.length cx,.slice AS st.length cst]|1=>v= .pointer (some ⟨b1,0,none⟩)|2=>v= .pointer (some ⟨b1,0,none⟩)|3=>v= .slice AT l.length ct|4=>∃ bu bd:Nat,v= .agg #[.slice (some ⟨bu,0,none⟩) l.length l.length,.slice (some ⟨bd,0,none⟩) l.length l.length]/\TableIn wv l bu bd|5=>∃ KA AA SA FA ck ca cs cv lz hz,v= .agg (filC rs.length xs.length KA AA SA FA ck ca cs cv)/\Kept lz hz wv (fun wq=>FilIn l rs xs st KA AA SA FA wq)/\w6.heap.size<=lz|6=>v= .agg #[.int .i64 0,.int .i64 0]|7=>∃ KA AA SA FA ck ca cs cv lz hz,Blk wv b2 41 (filC rs.length xs.length KA AA SA FA ck ca cs cv)/\Kept lz hz wv (fun wq=>FilIn l rs xs st KA AA SA FA wq)/\w6.heap.size<=lz|8=>Blk wv b3 43 #[.int .i64 0,.int .i64 0]|_=>True) (fun wq=>(∃ c0 c1 c2 c3 c4 c5,Blk wq b2 41 #[c0,c1,c2,c3,c4,c5])/\∃ z y,Blk wq b3 43 #[z,y]) kR kR ?_ ?_ ⟨⟨_,_,_,_,_,_,a1⟩,_,_,a2⟩ ?_ ?_
 ·intro ix v wv b9 h s10
  match ix,h with
  | 0,h=>exact h
  | 1,h=>exact h
  | 2,h=>exact h
  | 3,h=>exact h
  | 4,h=>
   obtain⟨bu,bd,ao,a8⟩:=h;exact⟨bu,bd,ao,a8.mono s10.bel⟩
  | 5,h=>
   obtain⟨KA,AA,SA,FA,ck,ca,cs,cv,lz,hz,an,a7,a6⟩:=h;exact⟨KA,AA,SA,FA,ck,ca,cs,cv,lz,hz,an,a7.tr0 s10,a6⟩
  | 6,h=>exact h
  | 7,h=>
   obtain⟨KA,AA,SA,FA,ck,ca,cs,cv,lz,hz,a1,a7,a6⟩:=h;exact⟨KA,AA,SA,FA,ck,ca,cs,cv,lz,hz,a1.tr0 s10,a7.tr0 s10,a6⟩
  | 8,h=>exact(show Blk wv b3 43 #[.int .i64 0,.int .i64 0]from h).tr0 s10
  | _+9,h=>exact trivial
 ·intro wv b9 h s11;obtain⟨⟨c0,c1,c2,c3,c4,c5,a1⟩,z2,z3,a2⟩:=h;exact⟨⟨_,_,_,_,_,_,a1.u⟩,_,_,a2.u⟩
 ·intro ix o ab a3 gg wx b5 hJ hd;replace a9:=a9.tr0 (s2.t (s3.t (s4.t s5)))
  match ix,ab,a3 with
  | 0,_,a3=>
   cases sI a3;replace a9:=a9.tr b5 (fun hx=>by simp only[List.mem_cons,List.not_mem_nil,or_false]at hx;omega);show OS _ _ _ _ _ _;exact oVq (qK U32 rfl rfl a9.range0 sz32) rfl
  | 1,_,a3=>
   cases sI a3;show OS _ _ _ _ _ _;exact oVq (Z5 U32 IJ dE rfl rfl rfl) rfl
  | 2,_,a3=>
   cases sI a3;show OS _ _ _ _ _ _;refine aX 13 (hd 1 _ aY rfl) ?_;exact oVq (Z5 U25 EW dE rfl rfl rfl) rfl
  | 3,_,a3=>
   cases sI a3;replace a9:=a9.tr b5 (fun hx=>by simp only[List.mem_cons,List.not_mem_nil,or_false]at hx;omega);show OS _ _ _ _ _ _;refine aX 14 (hd 2 _ aY rfl) ?_;exact oVq (qW (v:= .slice _ _ _) U22 rfl rfl (a9.cell rfl)) rfl
  | 4,_,a3=>
   cases sI a3;replace hB:=hB.tr b5 (fun q hx=>by simp only[List.mem_cons,List.not_mem_nil,or_false]at hx;omega);show OS _ _ _ _ _ _;refine aX 15 (hd 3 _ aY rfl) ?_;refine yK N4 (QW AT ct l wx (hTy.mono hB) hS.vt hS.le) rfl (fun e' w2 hr=>?_);obtain⟨bu,bd,rfl,a8,ba⟩:=hr;exact⟨_,rfl,sB ba,⟨_,_,rfl,a8⟩,xk⟩
  | 5,_,a3=>
   cases sI a3;replace hB:=hB.tr b5 (fun q hx=>by simp only[List.mem_cons,List.not_mem_nil,or_false]at hx;omega);obtain⟨bu,bd,ao,a8⟩:=hd 4 _ (zq kR) rfl;show OS _ _ _ _ _ _;refine aX 12 (hd 0 _ aY rfl) (zz 16 _ ao nu ?_);refine yK kR (of_any H hS (gr_stv b8) bb b6 wx (b7.mono hB) a8 (hRu.mono hB) (hLx.mono hB) (hG.mono hB)) rfl (fun e' w2 hr=>?_);obtain⟨⟨KA,AA,SA,FA,ck,ca,cs,cv,rfl,hFi⟩,ba⟩:=hr;exact⟨_,rfl,sB ba,⟨KA,AA,SA,FA,ck,ca,cs,cv,_,_,rfl,u7 hFi,b5.size⟩,xk⟩
  | 6,_,a3=>
   cases sI a3;show OS _ _ _ _ _ _;exact oVq (T7 (vs:=#[]) (cs:=#[.int .i64 0,.int .i64 0]) (by simp) kR) rfl
  | 7,_,a3=>
   cases sI a3;obtain⟨KA,AA,SA,FA,ck,ca,cs,cv,lz,hz,an,a7,a6⟩:=hd 5 _ (zq kR) rfl;show OS _ _ _ _ _ _;refine zz 17 _ an nu ?_;obtain⟨⟨c0,c1,c2,c3,c4,c5,a1⟩,z2,z3,a2⟩:=hJ;refine JW (fun ops Q K=>?_);refine zJ a1 (fun w2 hq a4=>?_);have K2:=K w2;refine K2 ⟨a4.weak (by simp),?_,⟨KA,AA,SA,FA,ck,ca,cs,cv,lz,hz,hq,a7.tr1 a4 (.inl oG),a6⟩,fun kx v a5 h=>?_⟩
   ·replace a2:=a2.tr a4 (by simp;omega);replace a1:=hq;exact⟨⟨_,_,_,_,_,_,a1⟩,_,_,a2⟩
   match kx,a5,h with
   | 0,_,h=>exact h
   | 1,_,h=>exact h
   | 2,_,h=>exact h
   | 3,_,h=>exact h
   | 4,_,h=>
    obtain⟨bu,bd,ao,a8⟩:=h;exact⟨bu,bd,ao,by first|exact SZ a8 a1 a4 dE|exact SZ a8 a2 a4 dE⟩
   | 5,_,h=>
    obtain⟨KA,AA,SA,FA,ck,ca,cs,cv,lz,hz,an,a7,a6⟩:=h;exact⟨KA,AA,SA,FA,ck,ca,cs,cv,lz,hz,an,a7.tr1 a4 (.inl oG),a6⟩
   | 6,_,h=>exact h
   | 7,a5,_=>exact absurd rfl a5
   | 8,_,h=>exact(show Blk wx b3 43 #[.int .i64 0,.int .i64 0]from h).tr a4 (by simp;omega)
   | _+9,_,_=>exact trivial
  | 8,_,a3=>
   cases sI a3;show OS _ _ _ _ _ _;refine aX 18 (hd 6 _ aY rfl) ?_;obtain⟨⟨c0,c1,c2,c3,c4,c5,a1⟩,z2,z3,a2⟩:=hJ;refine JW (fun ops Q K=>?_);refine zJ a2 (fun w2 hq a4=>?_);have K2:=K w2;refine K2 ⟨a4.weak (by simp),?_,hq,fun kx v a5 h=>?_⟩
   ·replace a1:=a1.tr a4 (by simp;omega);replace a2:=hq;exact⟨⟨_,_,_,_,_,_,a1⟩,_,_,a2⟩
   match kx,a5,h with
   | 0,_,h=>exact h
   | 1,_,h=>exact h
   | 2,_,h=>exact h
   | 3,_,h=>exact h
   | 4,_,h=>
    obtain⟨bu,bd,ao,a8⟩:=h;exact⟨bu,bd,ao,by first|exact SZ a8 a1 a4 dE|exact SZ a8 a2 a4 dE⟩
   | 5,_,h=>
    obtain⟨KA,AA,SA,FA,ck,ca,cs,cv,lz,hz,an,a7,a6⟩:=h;exact⟨KA,AA,SA,FA,ck,ca,cs,cv,lz,hz,an,a7.tr1 a4 (.inl oG),a6⟩
   | 6,_,h=>exact h
   | 7,_,h=>
    obtain⟨KA,AA,SA,FA,ck,ca,cs,cv,lz,hz,a1,a7,a6⟩:=h;exact⟨KA,AA,SA,FA,ck,ca,cs,cv,lz,hz,a1.tr a4 (by simp;omega),a7.tr1 a4 (.inl oG),a6⟩
   | 8,a5,_=>exact absurd rfl a5
   | _+9,_,_=>exact trivial
  | _+9,ab,_=>exact absurd ab oG
 intro gg w8 s13 hJ hR;replace hB:=hB.tr s13 (fun q hx=>by simp only[List.mem_cons,List.not_mem_nil,or_false]at hx;omega);have hq7:∃ KA AA SA FA ck ca cs cv lz hz,Blk w8 b2 41 (filC rs.length xs.length KA AA SA FA ck ca cs cv)/\Kept lz hz w8 (fun wq=>FilIn l rs xs st KA AA SA FA wq)/\w6.heap.size<=lz:=hR 7 _ rfl;have hq8:Blk w8 b3 43 #[.int .i64 0,.int .i64 0]:=hR 8 _ rfl;obtain⟨KA,AA,SA,FA,ck,ca,cs,cv,lz,hz,a1,a7,a6⟩:=hq7;replace a2:=hq8;refine zn3 ?_;refine Qq (.inl rfl) rfl (zw U41 rfl rfl a1.range0 sz41) (zw U43 rfl rfl a2.range0 zj) ?_;exact⟨.inr ⟨b8,KA,AA,SA,FA,ck,ca,cs,cv,rfl,XJ a7 (nLT hsz a6)⟩,hB⟩
theorem D1{t:Dt}(hok:OkT rs xs.length t)(hr:rs.length<=40):plF rs.length xs.length (I5 t)=(plT rs t:Int):=by
 by_cases h:t.rule<0
 ·obtain⟨_,q1,q2,_⟩:=Xv hok.at_.1 h
  unfold I5 plT;rw[if_pos h,if_pos h,plf_hi oG oG];omega
 ·obtain⟨h1,h2⟩:=D0 hok h
  have e:I5 t=t.rule:=if_neg h;rw[e,plf_lo oG];exact h2
theorem GW{nx:Nat}{t:Dt}(hok:OkT rs nx t)(hn:nx<=100):-1<=t.lex/\t.lex<=1000000:=by
 by_cases h:t.rule<0
 ·obtain⟨_,q1,q2,_⟩:=Xv hok.at_.1 h;omega
 ·obtain⟨_,q,_⟩:=KX hok.at_.1 h;omega
theorem adm_p{k:Dt}{j:Nat}(a1:rs.length<=40)(hp:OkT rs xs.length p)(hk:OkT rs xs.length k)(hr:¬p.rule<0)(hj:j<p.kids.length)(h:Q7 l rs xs (plT rs p) j (plT rs k)=true):AdmP l rs xs p.rule ((j:Int)+1) (I5 k):=by
 obtain⟨h1,h2⟩:=D0 hp hr;obtain⟨_,_,q3⟩:=KX hp.at_.1 hr;rw[Dq h1 h2]at q3;have e:=D1 hk a1;have hn:p.rule.toNat=plT rs p:=by omega
 refine⟨by omega,by omega,by omega,by omega,?_,?_⟩
 ·rw[K5 oG]
  simp only[hn];omega
 ·rw[e,hn,Int.toNat_natCast,show ((j:Int)+1-1).toNat=j by omega];exact h
theorem fir_p{q:Dt}(a1:rs.length<=40)(hp:OkT rs xs.length p)(hq:OkT rs xs.length q)(hr:¬p.rule<0)(h:Fst l rs xs (plT rs p) (plT rs q)):FirP l rs xs p.rule (I5 q):=by
 obtain⟨h1,h2⟩:=D0 hp hr;have e:=D1 hq a1;have hn:p.rule.toNat=plT rs p:=by omega
 refine⟨by omega,by omega,by omega,?_⟩;rw[e,hn,Int.toNat_natCast,List.getD,fir_at h];rfl
theorem sta_p{t:Dt}(a1:rs.length<=40)(ht:OkT rs xs.length t)(h:Iv l st 0 (moT rs xs t)=true):StaP l rs xs st (I5 t):=by
 have e:=D1 ht a1;refine⟨by omega,?_⟩;unfold NK;rw[e,Int.toNat_natCast,List.getD,List.getElem?_map,mo_at ht];exact h
theorem fst_kid(G:Y3 l fs rs xs){q:Dt}(hq:TgOk l rs xs q)(h:q=p\/(¬p.rule<0/\Fst l rs xs (plT rs p) (plT rs q)))(hk:0<q.kids.length):TgOk l rs xs q.kids[0]/\¬p.rule<0/\Fst l rs xs (plT rs p) (plT rs q.kids[0]):=by
 obtain⟨h1,h2,h3⟩:=hq.kid G hk;rcases h with rfl|⟨hp,h⟩
 ·exact⟨h1,h2,.one h3⟩
 ·exact⟨h1,hp,.more h (D0 hq.1 h2).1 h3⟩
def smallB:List Nd:=((qv[1]?).map (·.gr)).getD []
def NV:List Nd:=((YK[1]?).map (·.gr)).getD []
def smallCb:List Nd:=smallB.set 2 ⟨4,[]⟩
def thB(i:Nat):Nat:=if i<5 then i else if i=5 then 3 else 2
theorem LQ:(∀ i,i<smallCb.length->0<=(nd smallCb i).ty/\(nd smallCb i).ty<smallT.length)/\(∀ i,i<(yZ smallB NV).length->thB i<smallCb.length)/\(∀ i,i<(yZ smallB NV).length->sub smallT (nd smallCb (thB i)).ty.toNat (nd (yZ smallB NV) i).ty.toNat=true)/\(∀ i,i<(yZ smallB NV).length->∀ x∈(nd (yZ smallB NV) i).ln,tgt (nd smallCb (thB i)).ln x.1=((thB x.2.toNat:Nat):Int))/\(plc smallB 1).toNat=3/\smallB.length=5:=by decide +kernel
theorem small_adm:AdmP smallT qv YK 1 1 1001:=by
 obtain⟨h1,h2,h3,h4,h5,h6⟩:=LQ;have h:Q7 smallT qv YK 1 0 7=true:=by
  rw[admB_at (r:=1) (k:=0) (M:=NV) dE (by decide +kernel) (Tz (rs:=qv) (i:=1) dE)];refine fitB_yes.2 ⟨smallCb,thB,h1,⟨h2,h3,h4⟩,fun p hp=>?_⟩;rw[List.mem_singleton.1 hp];show thB (plc smallB 1).toNat=thB smallB.length;rw[h5,h6];rfl
 exact⟨by decide,by decide,by decide,by decide,by decide +kernel,h⟩
theorem small_gr:Y3 smallT qX qv YK:=N3 (by rw[Fx])
theorem r_k3(G:Y3 l fs rs xs):∀ q∈rs,q.kids<=3:=fun q hq=>by
 obtain⟨i,hi,rfl⟩:=List.getElem_of_mem hq
 exact(G.rl i hi).2.2
theorem H9(AT AF AR AX AS:Option Addr)(ct cf cr cx cst:Nat)(l:List Ty)(fs:List Ft)(rs:List Rl)(xs:List Lx)(st:List Nd)(w:World)(a1:TabIn w)(hU:U8In w)(hTy:TypesIn w AT l)(hF:FeatsIn w AF fs)(hRu:RulesIn w AR rs)(hLx:LexesIn w AX xs)(hG:NodesIn w AS st)(hg0:(x5 l fs rs xs st).1=0):Calls Tryd.prog 5 #[.agg #[.slice AT l.length ct,.slice AF fs.length cf,.slice AR rs.length cr,.slice AX xs.length cx,.slice AS st.length cst]] w fun e w'=>(∃ KA AA SA FA ck ca cs cv,e= .returned (.tuple #[.agg #[.int .i64 (rs.length:Nat),.int .i64 (xs.length:Nat),.slice KA rs.length ck,.slice AA rs.length ca,.slice SA (rs.length+xs.length) cs,.slice FA rs.length cv],.agg #[.int .i64 0,.int .i64 0]])/\∀ w2,FrSame w.heap.size w' w2->FilIn l rs xs st KA AA SA FA w2)/\Bel w w':=
 (build_d AT AF AR AX AS ct cf cr cx cst l fs rs xs st w a1 hU hTy hF hRu hLx hG).mono fun e w' h=>by
  obtain⟨h,hB⟩:=h
  rcases h with ⟨_,_,h⟩|⟨_,KA,AA,SA,FA,ck,ca,cs,cv,h1,h2⟩
  ·exact absurd hg0 h
  ·exact⟨⟨KA,AA,SA,FA,ck,ca,cs,cv,h1,h2⟩,hB⟩
set_option maxRecDepth 100000 in
set_option maxHeartbeats 8000000 in
theorem law43_any(AT AF AR AX AS:Option Addr)(ct cf cr cx cst:Nat)(l:List Ty)(fs:List Ft)(rs:List Rl)(xs:List Lx)(st:List Nd)(t:Dt)(A:Option Addr)(c:Nat)(w:World)(b4:TabIn w)(hU:U8In w)(d6:TypesIn w AT l)(hF:FeatsIn w AF fs)(d7:RulesIn w AR rs)(d8:LexesIn w AX xs)(hG:NodesIn w AS st)(hT:TresIn w A t.kids):Calls Tryd.prog 3 #[.agg #[.slice AT l.length ct,.slice AF fs.length cf,.slice AR rs.length cr,.slice AX xs.length cx,.slice AS st.length cst],.agg #[.int .i64 (t).rule,.int .i64 (t).lex,.slice A (t).kids.length c]] w fun e w'=>e= .returned (.bool true)/\Bel w w':=by
 refine enT Tryd.func3 Tryd.ntmps3 rfl rfl fun hB=>?_;refine zn2 ?_;refine qZ (cs:=#[_,_,_,_,_]) rfl (fun b2 w1 an s1 hr=>?_);refine qZ (cs:=#[_,_,_]) rfl (fun b3 w2 ab s2 hr=>?_);refine zn5 ?_;refine zX kR (small_d _) rfl (fun e' w3 hr=>?_);obtain⟨⟨_,rfl,At1,ct1,Bf1,cf1,br,cells,A1,cap1,AS1,cst1,n1,rfl,lor,hcp,hbr,hD⟩,s3⟩:=hr;replace s3:=sB s3;refine⟨_,rfl,?_⟩;replace hB:=hB.tr0 (s1.t (s2.t s3));refine zX kR (H9 _ _ _ _ _ _ _ _ _ _ smallT qX qv YK PX _ (b4.mono hB) (hU.mono hB) hD.now.1 hD.now.2.1 (hD.now.2.2.1.rules hbr dE) hD.now.2.2.2.1 hD.now.2.2.2.2 (by rw[Fx])) rfl (fun e' w4 hr=>?_);obtain⟨⟨K1,A2,S1,F1,k1,k2,k3,k4,rfl,bx⟩,s4⟩:=hr;replace s4:=sB s4;have be:=u7 bx;clear bx;refine⟨_,rfl,?_⟩;refine wmT rfl (wl (yV (v:=_) rfl rfl) (wl (yV (v:=_) rfl rfl) ?_));refine qw (cs:=cA) ze41 rfl (fun b5 w5 a7 s5 hr=>?_);have:=an.u.ob hr;have:=ab.u.ob hr;have bh:=(nLT be.1 hr)
 have lo5:=hB.u.ob hr;refine qw (cs:=#[.int .i64 0,.int .i64 0]) qQ rfl (fun b6 w6 a6 s6 hr=>?_);have:=an.u.ob hr;have:=ab.u.ob hr;replace be:=be.tr0 s5;have bg:=(nLT be.1 hr)
 have:=a7.ob hr;have bn:=hB.u.ob hr;refine zJ a7.u (fun w7 hq s7=>?_);replace a7:=hq;refine zJ a6.u (fun w8 hq s8=>?_);replace a6:=hq;refine zn8 ?_;refine wl (x7 (v:= .bool false) (ac (ag (fun h=>h rfl)))) (zn3 ?_);replace be:=((be.tr0 s6).tr1 s7 oG).tr1 s8 oG;refine zX kR ((C0 k1 k2 k3 k4 1 1 1001 _ be.now dE dE (r_k3 small_gr)).mono (fun e w3 h=>by rw[decide_eq_true small_adm]at h;exact h)) rfl (fun e' w9 hr=>?_);obtain⟨rfl,s9⟩:=hr;replace s9:=sB s9;refine⟨_,rfl,?_⟩;refine zn5 ?_;refine jW rfl (fun c27=>?_) (fun c27=>?_)
 ·exact absurd c27 dE
 refine zn6 ?_;refine zX kR (graph_d AT AF AR AX AS ct cf cr cx cst l fs rs xs st t A c _ (b4.mono hB.u) (hU.mono hB.u) (d6.mono hB.u) (hF.mono hB.u) (d7.mono hB.u) (d8.mono hB.u) (hG.mono hB.u) (hT.mono hB.u)) rfl (fun e' w10 hr=>?_);obtain⟨⟨AX1,X,okX,cX,rfl,_,hGX⟩,cb⟩:=hr;replace cb:=sB cb;refine⟨_,rfl,?_⟩;refine wmT rfl (wl (yV (v:=_) rfl rfl) (wl (yV (v:=_) rfl rfl) (wl (yV (v:=_) rfl rfl) ?_)));refine yx (cs:=#[.slice none 0 0]) Iy rfl (fun _=>rfl) (fun _=>rfl) gY rfl y5 (fun b7 w12 hb7 s11 hr=>?_);refine waB rfl ?_;refine zJ a6.u (fun w13 hq s12=>?_);replace a6:=hq;refine zn4 ?_;replace hB:=((((hB.tr0 (s4.t (s5.t s6))).tr1 s7 lo5).tr1 s8 bn).tr0 (s9.t (cb.t s11))).tr1 s12 bn;refine yy [35,36,37,38,39,40,41] 41 (.bool (decide (¬(if (x5 l fs rs xs st).1=0 then jw rs xs.length t else x5 l fs rs xs st).1=0\/okX=false))) nu ?_ (fun gq=>?_)
 ·refine zn5 ?_;refine zQ 38 rfl (fun c0=>?_) (fun c0=>?_)
  ·refine zn3 ?_;refine kv ?_
   first
    | exact ac (ah (Or.inl c0)).symm
    | exact ac (by cases okX<;>simp[c0])
    | exact ac (by cases e:okX<;>simp_all)
  refine zn5 ?_;refine kv ?_
  first
   | exact ac (ah (Or.inl c0)).symm
   | exact ac (by cases okX<;>simp[c0])
   | exact ac (by cases e:okX<;>simp_all)
 refine e_S ?_;refine zK rfl (fun d9=>?_) (fun d9=>?_)
 ·refine zn8 ?_;exact⟨rfl,hB⟩
 have d4:(if (x5 l fs rs xs st).1=0 then jw rs xs.length t else x5 l fs rs xs st).1=0:=az (fun h=>d9 (.inl h));have cz:okX=true:=by
   cases e:okX
   · exact absurd (.inr e) d9
   · rfl
 subst cz;obtain⟨ce,ht0⟩:=TJ d4;have G:=N3 ce;obtain⟨bu,hnd,_⟩:=Pj ht0;have hdz:=DX d4;obtain⟨bc,ao⟩:=gr_size ce;have hk3:=r_k3 G;have hTX:TgR l rs xs t true X:=by
   rcases hGX with ⟨h,_⟩|⟨_,h⟩
   · exact absurd d4 h
   · exact h
 have hpl:=KQ t;have hgs:=gr_stv ce;refine zn5 ?_;replace a7:=((a7.tr1 s8 oG).tr0 (s9.t (cb.t s11))).tr1 s12 oG;have z5:=a7.lt;have z6:=a6.lt;refine zX kR (H9 AT AF AR AX AS ct cf cr cx cst l fs rs xs st _ (b4.mono hB) (hU.mono hB) (d6.mono hB) (hF.mono hB) (d7.mono hB) (d8.mono hB) (hG.mono hB) ce) rfl (fun e' w14 hr=>?_);obtain⟨⟨KA,AA,SA,FA,ck,ca,cs,cv,rfl,bx⟩,cj⟩:=hr;replace cj:=sB cj;obtain⟨lF,bz,hl5,hl6,a4⟩:∃ lF bz,b5<lF/\b6<lF/\Kept lF bz w14 (fun wq=>FilIn l rs xs st KA AA SA FA wq):=⟨_,_,z5,z6,u7 bx⟩
 clear bx;refine⟨_,rfl,?_⟩;refine wmT rfl (wl (yV (v:=_) rfl rfl) (wl (yV (v:=_) rfl rfl) ?_));refine zJ a7.u (fun w15 hq s14=>?_);replace a7:=hq;refine zJ a6.u (fun w16 hq s15=>?_);replace a6:=hq;refine jZ ?_;refine zK rfl (fun c49=>?_) (fun c49=>?_)
 ·exact absurd rfl c49
 refine zn6 ?_;refine zX kR (parts_any (w0:=w) t A c _ hB.u hT oG) rfl (fun e' w17 hr=>?_);obtain⟨⟨A9,c9,us,rfl,ho9,hd9⟩,c8⟩:=hr;replace c8:=sB c8;replace hB:=(((hB.tr0 cj).tr1 s14 lo5).tr1 s15 bn).tr0 c8;have hTP:=own_tres (l:=vv t) (by rw[hpl];exact ho9) hd9 hB;obtain⟨wP,hwP⟩:∃ z,z=w17:=⟨_,rfl⟩
 have a9:Bel wP w17:=by rw[hwP];exact Below.refl _ _
 rw[<- hwP]at hTP;refine⟨_,rfl,?_⟩;refine zn5 ?_;replace a4:=((a4.tr1 s14 oG).tr1 s15 oG).tr0 c8;refine qk (rgq [4,10,11,12,13] 53 40) (fun m g w'=>∃ k:Nat,k<=ndT t/\m=ndT t-k/\g 53= .int .i64 k/\Bel w w'/\Blk w' b2 32 #[.slice AT l.length ct,.slice AF fs.length cf,.slice AR rs.length cr,.slice AX xs.length cx,.slice AS st.length cst]/\Blk w' b3 35 #[.int .i64 t.rule,.int .i64 t.lex,.slice A t.kids.length c]/\Blk w' b5 41 #[.int .i64 (rs.length:Nat),.int .i64 (xs.length:Nat),.slice KA rs.length ck,.slice AA rs.length ca,.slice SA (rs.length+xs.length) cs,.slice FA rs.length cv]/\(∃ z y,Blk w' b6 43 #[z,y])/\Kept lF bz w' (fun wq=>FilIn l rs xs st KA AA SA FA wq)/\Bel wP w') (ndT t) ?_ (fun m g11 w18 hI=>?_)
 ·exact⟨0,ad _,rfl,rfl,hB,an.u,ab.u,a7.u,⟨_,_,a6.u⟩,a4,a9⟩
 obtain⟨k,hk,hm,h53,hB,an,ab,a7,⟨y6,z6,a6⟩,a4,a9⟩:=hI;refine zZ 53 _ h53 nu (zn6 ?_);refine zK rfl (fun c54=>?_) (fun c54=>?_)
 ·have hkl:k<ndT t:=by omega
  have a1:k<(vv t).length:=by omega
  obtain⟨pb,po,Ap,cp,hpe,hpb,hpr,cy⟩:=hTP.at_ a1;have cc:=FY G _ t (ax _) ⟨bu,X,hTX⟩ _ (ap a1);have hmp:=cy.le;unfold vJ at hmp;refine zn6 ?_;refine wl (xW (i:=k) U33 C7 (show ev _ _ _=_ from I2 _ _ hpe) rfl hkl rfl) (wl (qK U35 rfl rfl (a9.range hpb hpr) C7) ?_);refine yx (cs:=#[.int .i64 0,.int .i64 0,.slice none 0 0]) ze35 rfl (fun _=>rfl) (fun _=>rfl) C7 rfl y5 (fun c1 w20 a8 s17 hr=>?_);have:=nLT a4.1 hr;refine jJ ?_;replace a4:=a4.tr0 s17;refine qk (rgq [4,11,12] 60 15) (fun m g w'=>∃ j:Nat,j<=((vv t)[k]'a1).kids.length/\m=((vv t)[k]'a1).kids.length-j/\g 60= .int .i64 j/\Bel w w'/\Blk w' b2 32 #[.slice AT l.length ct,.slice AF fs.length cf,.slice AR rs.length cr,.slice AX xs.length cx,.slice AS st.length cst]/\Blk w' b3 35 #[.int .i64 t.rule,.int .i64 t.lex,.slice A t.kids.length c]/\Blk w' b5 41 #[.int .i64 (rs.length:Nat),.int .i64 (xs.length:Nat),.slice KA rs.length ck,.slice AA rs.length ca,.slice SA (rs.length+xs.length) cs,.slice FA rs.length cv]/\(∃ z y,Blk w' b6 43 #[z,y])/\Kept lF bz w' (fun wq=>FilIn l rs xs st KA AA SA FA wq)/\Bel wP w'/\Blk w' c1 35 #[.int .i64 ((vv t)[k]'a1).rule,.int .i64 ((vv t)[k]'a1).lex,.slice Ap ((vv t)[k]'a1).kids.length cp]) (((vv t)[k]'a1).kids.length) ?_ (fun m g14 w21 hI=>?_)
  ·exact⟨0,ad _,rfl,rfl,hB.u,an.u,ab.u,a7.u,⟨_,_,a6.u⟩,a4,a9.u,a8⟩
  obtain⟨j,hj,hmj,h60,hB,an,ab,a7,⟨y6,z6,a6⟩,a4,a9,a8⟩:=hI;refine zZ 60 _ h60 nu (zn6 ?_);refine zK rfl (fun c61=>?_) (fun c61=>?_)
  ·have cd:j<((vv t)[k]'a1).kids.length:=by omega
   obtain⟨qb,qo,Aq,cq,hqe,hqb,hqr,_⟩:=cy.at_ cd;obtain⟨bj,hrr,d2⟩:=cc.kid G cd;have d5:=adm_p bc cc.1 bj.1 hrr cd d2;have bv:=GW bj.1 ao;refine zn7 ?_;refine wl (xW (i:=j) U33 C7 (show ev _ _ _=_ from I2 _ _ hqe) rfl cd rfl) (wl (qK U35 rfl rfl (a9.range hqb hqr) C7) ?_);refine qw (cs:=#[.int .i64 0,.int .i64 0,.slice none 0 0]) ze35 rfl (fun b12 w22 bw s18 hr=>?_);have:=an.ob hr;have:=ab.ob hr;have:=a7.ob hr;have:=a6.ob hr;have b9:=(nLT a4.1 hr)
   have:=a8.ob hr;have lo12:=hB.ob hr;have ba:=a9.ob hr;refine waI rfl ?_;refine zJ bw (fun w23 hq s19=>?_);replace bw:=hq;refine zn3 ?_;refine uV [] [0,1,2,3,4,5,6,7,8] rfl (fun w24 s20=>?_);refine zn6 ?_;refine h1 rfl ?_;refine zX kR (E9 _ _ _ _ bv) rfl (fun e' w25 hr=>?_);obtain⟨rfl,c7⟩:=hr;replace c7:=sB c7;have co:=c7;refine⟨_,rfl,?_⟩;refine x6 (Y1 co (h1 rfl ?_));replace a4:=((a4.tr0 s18).tr1 s19 oG).tr0 (s20.t c7);refine zX kR (C0 ck ca cs cv _ _ _ _ a4.now oG oG hk3) rfl (fun e' w26 hr=>?_);obtain⟨rfl,c6⟩:=hr;replace c6:=sB c6;have cn:=c6;refine⟨_,rfl,?_⟩;refine x6 (Y1 cn (zn3 ?_));refine jW rfl (fun c73=>?_) (fun c73=>?_)
   ·exact absurd d5 (of_decide_eq_true c73)
   refine zn7 ?_;refine xY (((vv t)[k]'a1).kids.length-(j+1)) oG agA ?_;replace a4:=a4.tr0 c6;exact⟨j+1,by omega,rfl,rfl,hB.u,an.u,ab.u,a7.u,⟨_,_,a6.u⟩,a4,a9.u,a8.u⟩
  refine zn8 ?_;refine yx (cs:=#[.int .i64 0,.int .i64 0,.slice none 0 0]) ze35 rfl (fun _=>rfl) (fun _=>rfl) C7 rfl y5 (fun bf w28 bd s23 hr=>?_);have:=an.ob hr;have:=ab.ob hr;have:=a7.ob hr;have a5:b6<bf:=a6.ob hr;have b8:=(nLT a4.1 hr)
  have a2:c1<bf:=a8.ob hr;have bb:=hB.ob hr;have a3:=a9.ob hr;refine zn3 ?_;replace a4:=a4.tr0 s23;refine qk (rgq [4,13] 76 16) (fun m g w'=>∃(bQ:Nat) (q:Dt) (Aq:Option Addr) (cq:Nat),m=ndT q/\w.heap.size<=bQ/\wP.heap.size<=bQ/\b6<bQ/\c1<bQ/\g 13= .pointer (some ⟨bQ,0,none⟩)/\TresIn wP Aq q.kids/\TgOk l rs xs q/\(q=((vv t)[k]'a1)\/(¬((vv t)[k]'a1).rule<0/\Fst l rs xs (plT rs ((vv t)[k]'a1)) (plT rs q)))/\Bel w w'/\Blk w' b2 32 #[.slice AT l.length ct,.slice AF fs.length cf,.slice AR rs.length cr,.slice AX xs.length cx,.slice AS st.length cst]/\Blk w' b3 35 #[.int .i64 t.rule,.int .i64 t.lex,.slice A t.kids.length c]/\Blk w' b5 41 #[.int .i64 (rs.length:Nat),.int .i64 (xs.length:Nat),.slice KA rs.length ck,.slice AA rs.length ca,.slice SA (rs.length+xs.length) cs,.slice FA rs.length cv]/\(∃ z y,Blk w' b6 43 #[z,y])/\Kept lF bz w' (fun wq=>FilIn l rs xs st KA AA SA FA wq)/\Bel wP w'/\Blk w' c1 35 #[.int .i64 ((vv t)[k]'a1).rule,.int .i64 ((vv t)[k]'a1).lex,.slice Ap ((vv t)[k]'a1).kids.length cp]/\Blk w' bQ 35 #[.int .i64 q.rule,.int .i64 q.lex,.slice Aq q.kids.length cq]) (ndT ((vv t)[k]'a1)) ?_ (fun m g20 w29 hI=>?_)
  ·exact⟨bf,((vv t)[k]'a1),Ap,cp,rfl,bb,a3,a5,a2,rfl,cy,cc,.inl rfl,hB.u,an.u,ab.u,a7.u,⟨_,_,a6.u⟩,a4,a9.u,a8.u,bd⟩
  obtain⟨bQ,q,Aq,cq,hmq,loQ,bi,h6Q,h10Q,h13,hqt,hqo,hqf,hB,an,ab,a7,⟨y6,z6,a6⟩,a4,a9,a8,hbQ⟩:=hI;refine zZ 13 _ h13 nu (zn9 ?_);refine zK rfl (fun c79=>?_) (fun c79=>?_)
  ·have bt:0<q.kids.length:=by omega
   obtain⟨kb,ko,Ak,cK,hke,d2,hkr,hkT⟩:=hqt.at_ bt;obtain⟨bj,hrp,hkf⟩:=fst_kid G hqo hqf bt;have bv:=GW bj.1 ao;have hmk:=hqt.le;unfold vJ at hmk;have d3:=fir_p (l:=l) bc cc.1 bj.1 hrp hkf;refine zn8 ?_;refine wl (xW (i:=0) U33 C7 (show ev _ _ _=_ from I2 _ _ hke) rfl bt rfl) (wl (qK U35 rfl rfl (a9.range d2 hkr) C7) ?_);refine zJ hbQ (fun w30 hq s24=>?_);replace hbQ:=hq;refine zn3 ?_;refine uV [] [0,1,2,3,4,5,6] rfl (fun w31 s25=>?_);refine zn4 ?_;refine h1 rfl ?_;refine zX kR (E9 _ _ _ _ bv) rfl (fun e' w32 hr=>?_);obtain⟨rfl,c5⟩:=hr;replace c5:=sB c5;have cw:=c5;refine⟨_,rfl,?_⟩;refine x6 (Y1 cw (h1 rfl ?_));replace a4:=(a4.tr1 s24 oG).tr0 (s25.t c5);refine zX kR (first_any ck ca cs cv _ _ _ a4.now oG oG) rfl (fun e' w33 hr=>?_);obtain⟨rfl,c4⟩:=hr;replace c4:=sB c4;have cu:=c4;refine⟨_,rfl,?_⟩;refine x6 (Y1 cu (zn3 ?_));refine jW rfl (fun c90=>?_) (fun c90=>?_)
   ·exact absurd d3 (of_decide_eq_true c90)
   refine zn9 ?_;refine yx (cs:=#[.int .i64 0,.int .i64 0,.slice none 0 0]) ze35 rfl (fun _=>rfl) (fun _=>rfl) C7 rfl y5 (fun bf w35 bd s28 hr=>?_);have a5:b6<bf:=a6.u.ob hr;have a2:c1<bf:=a8.u.ob hr;have bb:=hB.u.ob hr;have a3:=a9.u.ob hr;refine x6 (xY (ndT (q.kids[0]'bt)) (by have:=ndT_kid (ap bt);omega) agA ?_);replace a4:=a4.tr0 (c4.t s28);exact⟨bf,_,Ak,cK,rfl,bb,a3,a5,a2,rfl,hkT,bj,.inr ⟨hrp,hkf⟩,hB.u,an.u,ab.u,a7.u,⟨_,_,a6.u⟩,a4,a9.u,a8.u,bd⟩
  refine jZ ?_;refine xY (ndT t-(k+1)) oG agA ?_;exact⟨k+1,by omega,rfl,rfl,hB,an,ab,a7,⟨_,_,a6⟩,a4,a9⟩
 refine zn9 ?_;refine zX kR (complete_d AT AF AR AX AS ct cf cr cx cst l fs rs xs st t A c _ (b4.mono hB) (hU.mono hB) (d6.mono hB) (hF.mono hB) (d7.mono hB) (d8.mono hB) (hG.mono hB) (hT.mono hB)) rfl (fun e' w36 hr=>?_);obtain⟨⟨bC,rfl,hCm⟩,bm⟩:=hr;replace bm:=sB bm;refine⟨_,rfl,?_⟩;refine wmT rfl (wl (yV (v:=_) rfl rfl) (wl (yV (v:=_) rfl rfl) (waB rfl ?_)));refine zJ a6.u (fun w37 hq cg=>?_);replace a6:=hq;refine zn3 ?_;have bo:bC=true->StaP l rs xs st (I5 t):=fun h=>by
   obtain⟨X2,Z2,hX2,hU2⟩:=hCm h;exact sta_p bc bu (L5 G bu hX2 hgs.gx (O5 (tg_gf G bu hX2)).gx hU2)
 have bv:=GW bu ao;refine uV [] [0,1,2,3,4,5,6,7,8,9,10,11,12,13] rfl (fun w38 c3=>?_);refine zn1 ?_;replace a6:=a6.tr0 c3;refine hl1 (v:= .int .i64 0) rfl U3 rfl rfl (by have h:=a6.cell (o:=0) rfl;rw[hdz]at h;exact h) (zn1 ?_);refine hl rfl (fun _=>x7 (v:= .bool true) (ac (ah rfl))) (zn3 ?_);refine h_cases 105 rfl (fun b1=>?_) (fun b1=>?_)
 ·refine gX ?_;replace hB:=((hB.tr0 bm).tr1 cg bn).tr0 c3
  first
    | exact⟨rfl,hB⟩
    | exact⟨by rw[decide_eq_true (bo (by simpa using b1))];rfl,hB⟩
    | exact⟨by simp[b1];rfl,hB⟩
 refine zn2 ?_;refine h1 rfl (zn1 ?_);refine zX kR (E9 _ _ _ _ bv) rfl (fun e' w39 hr=>?_);obtain⟨rfl,bk⟩:=hr;replace bk:=sB bk;have cm:=bk;refine⟨_,rfl,?_⟩;refine x6 (Y1 cm (h1 rfl (zn1 ?_)));replace a4:=((a4.tr0 bm).tr1 cg oG).tr0 (c3.t bk);refine zX kR (Lk ck ca cs cv _ _ a4.now oG oG) rfl (fun e' w40 hr=>?_);obtain⟨rfl,c2⟩:=hr;replace c2:=sB c2;have bq:=c2;refine⟨_,rfl,?_⟩;refine x6 (Y1 bq (zn7 ?_));replace hB:=((hB.tr0 bm).tr1 cg bn).tr0 (c3.t (bk.t c2))
 first
   | exact⟨rfl,hB⟩
   | exact⟨by rw[decide_eq_true (bo (by simpa using b1))];rfl,hB⟩
   | exact⟨by simp[b1];rfl,hB⟩
section
section
variable {H:Type} {enc:TypeId×Value->H} {P:Program} {w:World} {base:Nat} {spare:Nat->Bool} {held:Bool}
theorem GJ{f0 f1:Field}{x:DataW H×List MemPlace}(ht:P.underlying t=some (.slice e))(he:P.underlying e=some (.struct #[f0,f1]))(hsz:P.cellsOf e=2)(o0:f0.offset=0)(o1:f1.offset=1)(e0:f0.type=ti)(e1:f1.type=ti)
  (hi:P.underlying ti=some (.int .i64)) (hc1:P.cellsOf ti=1) (h:DataW.trod enc P w base spare held a1 t [v]=some x):
  ∃ A xs c,v= .slice A (List.length xs) c/\xs.length<=c/\LinksIn w A xs:=by
 obtain⟨A,len,c,rfl,hl,hm,hx⟩:=Mz ht hsz dE h;by_cases h0:len=0
 ·subst h0
  exact⟨A,[],c,rfl,ad _,ad _,fun h=>absurd rfl h⟩
 ·obtain⟨b,o,rfl,hlt,hc⟩:=hx h0
  obtain⟨xs,hxl,hxs⟩:=j6 (p:=fun i (z:Int×Int)=>w.rangeAt b (o+i*2) [.int .i64 z.1,.int .i64 z.2]) (n:=len) (fun i hi'=>by
   obtain⟨cs,k,y,h1,h2,h3⟩:=hc i hi';obtain⟨v0,v1,n,y0,y1,rfl,g0,g1⟩:=Nv he h1 o0 o1 (by rw[e0];exact hc1) (by rw[e1];exact hc1) h3;rw[e0]at g0;rw[e1]at g1;obtain⟨z1,h5,_,_⟩:=DataW.trod_int hi g0;obtain⟨z2,h6,_,_⟩:=DataW.trod_int hi g1;rw[vY h5,vY h6]at h2
   exact⟨(z1,z2),h2⟩)
  subst hxl;exact⟨_,xs,c,rfl,hl,nLT hl hm,fun _=>⟨b,o,rfl,hlt,hxs⟩⟩
theorem Gq{tl te:TypeId}{f0 f1 g0 g1:Field}{x:DataW H×List MemPlace}(ht:P.underlying t=some (.slice e))(he:P.underlying e=some (.struct #[f0,f1]))(hsz:P.cellsOf e=2)(o0:f0.offset=0)(o1:f1.offset=1)(e0:f0.type=ti)(e1:f1.type=tl)
  (htl:P.underlying tl=some (.slice te)) (hte:P.underlying te=some (.struct #[g0,g1])) (hst:P.cellsOf te=2) (p0:g0.offset=0) (p1:g1.offset=1) (d0:g0.type=ti) (d1:g1.type=ti) (hcl:P.cellsOf tl=1)
  (hi:P.underlying ti=some (.int .i64)) (hc1:P.cellsOf ti=1) (h:DataW.trod enc P w base spare held a1 t [v]=some x):
  ∃ A gr c,v= .slice A (List.length gr) c/\gr.length<=c/\NodesIn w A gr:=by
 obtain⟨A,len,c,rfl,hl,hm,hx⟩:=Mz ht hsz dE h;by_cases h0:len=0
 ·subst h0
  exact⟨A,[],c,rfl,ad _,ad _,fun h=>absurd rfl h⟩
 ·obtain⟨b,o,rfl,hlt,hc⟩:=hx h0
  obtain⟨gr,hxl,hxs⟩:=j6 (p:=fun i (z:Nd)=>NdIn w b (o+i*2) z) (n:=len) (fun i hi'=>by
   obtain⟨cs,k,y,h1,h2,h3⟩:=hc i hi';obtain⟨v0,v1,n,y0,y1,rfl,q0,q1⟩:=Nv he h1 o0 o1 (by rw[e0];exact hc1) (by rw[e1];exact hcl) h3;rw[e0]at q0;rw[e1]at q1;obtain⟨z1,h5,_,_⟩:=DataW.trod_int hi q0;obtain⟨A',xs,c',rfl,_,hin⟩:=GJ htl hte hst p0 p1 d0 d1 hi hc1 q1;rw[vY h5]at h2
   exact⟨⟨z1,xs⟩,A',c',h2,hin⟩)
  subst hxl;exact⟨_,gr,c,rfl,hl,nLT hl hm,fun _=>⟨b,o,rfl,hlt,hxs⟩⟩
theorem one_cell{f0:Field}{x:DataW H×List MemPlace}(he:P.underlying e=some (.struct #[f0]))(hl:cs.length=1)(o0:f0.offset=0)(c0:P.cellsOf f0.type=1)(h:DataW.trod enc P w base spare held a1 e cs=some x):
  ∃ v0 n y0,cs= [v0]/\DataW.trod enc P w base spare held n f0.type [v0]=some y0:=by
 obtain⟨y0,n,_,_,h0⟩:=trod_struct1 he h
 match cs,hl with
 | [v0],_=>
  simp[o0,c0]at h0;exact⟨v0,n,y0,rfl,h0⟩
end
end
section
section
variable {H:Type} {enc:TypeId×Value->H} {P:Program} {w:World} {base:Nat} {spare:Nat->Bool} {held:Bool}
def Lw(P:Program)(t:TypeId)(d:DataW H):Prop:=∀ n∈d.weights P t,n<=reachBytes
theorem EV{e:TypeId}:∀ {l:List (DataW H)} {d:DataW H},d∈l->∀ n∈d.weights P e,n∈DataW.weightsAll P e l
 | [],_,h,_,_=>nomatch h
 | a::r,d,h,n,hn=>by
  simp only[DataW.weightsAll,List.mem_append]
  rcases aq.1 h with rfl|h
  ·exact .inl hn
  ·exact .inr (EV h n hn)
theorem H3{fs:Array Field}{x:DataW H×List MemPlace}(ht:P.underlying t=some (.struct fs))(h:DataW.trod enc P w base spare held a1 t cs=some x):
  ∃ n,n<a1/\cs.length=P.cellsOf t/\∀(i:Nat) (f:Field),fs[i]? =some f->∃ y,DataW.trod enc P w base spare held n f.type ((cs.drop f.offset).take (P.cellsOf f.type))=some y/\(Lw P t x.1->Lw P f.type y.1):=by
 obtain⟨xs,n,rfl,rfl,hl,a2,hf⟩:=DataW.trod_struct ht h;refine⟨n,ax n,hl,fun i f hi=>?_⟩;have hil:i<xs.length:=by rw[a2];exact(Array.getElem?_eq_some_iff.1 hi).1
 have h1:=hf i f hi;rw[List.getElem?_eq_getElem hil]at h1;refine⟨xs[i],h1,fun hw m hm=>hw m ?_⟩;show m∈DataW.weights P t (.agg (xs.map (·.1)));simp only[DataW.weights,ht];refine DataW.weights_mem_each (j:=i) (t:=f.type) (d:=(xs[i]).1) ?_ ?_ m hm
 ·rw[List.getElem?_map,Array.getElem?_toList,hi];rfl
 ·rw[List.getElem?_map,List.getElem?_eq_getElem hil];rfl
theorem slF{sz:Nat}{x:DataW H×List MemPlace}(ht:P.underlying t=some (.slice e))(hsz:P.cellsOf e=sz)(a2:0<sz)(h:DataW.trod enc P w base spare held a1 t [v]=some x):
  ∃ A len c,v= .slice A len c/\len<=c/\c<=vJ/\(len≠0->∃ b o,A=some ⟨b,o,none⟩/\b<w.heap.size/\∀ i,i<len->∃ cs k y,k<a1/\cs.length=sz/\w.rangeAt b (o+i*sz) cs/\DataW.trod enc P w base spare held k e cs=some y/\(Lw P t x.1->Lw P e y.1)):=by
 rcases DataW.trod_slice ht h with ⟨hc,_⟩|⟨a,len,cap,elems,rest,n,rfl,hc,rfl,hb,hl,hm,hlen,hel,_⟩
 ·rw[vY hc]
  exact⟨none,0,0,rfl,ae _,ad _,fun h=>absurd rfl h⟩
 ·rw[vY hc]
  rw[hsz]at hel;have hi:∀ i (hi:i<len),∃ cs',w.cells? base (a.add (i*sz)) sz=some cs'/\DataW.trod enc P w base spare held n e cs'=some (elems[i]'oG):=fun i hi=>by
   have key:=hel i hi;rw[List.getElem?_eq_getElem oG]at key;exact Option.bind_eq_some_iff.1 key
  refine⟨some a,len,cap,rfl,hl,hm,fun h0=>?_⟩;obtain⟨b,o,s⟩:=a;have hsp:s=none/\b<w.heap.size:=by
   obtain⟨cs,h1,_⟩:=hi 0 oG;obtain⟨_,h3,h4⟩:=World.cells?_some h1;have h5:=h4 0 a2;have h6:cs[0]? =some (cs[0]'oG):=aQ oG;have h7:(Addr.add (Addr.add ⟨b,o,s⟩ (0*sz)) 0)=⟨b,o,s⟩:=by simp[Addr.add]
   rw[h7,h6]at h5;exact⟨World.cell?_spot h5,Go.Clock.block_lt h5⟩
  obtain⟨rfl,hlt⟩:=hsp;refine⟨b,o,rfl,hlt,fun i hil=>?_⟩;obtain⟨cs,h1,h2⟩:=hi i oG;obtain⟨_,h3,h4⟩:=World.cells?_some h1;refine⟨cs,n,_,ax n,h3,fun j v hj=>?_,h2,fun hw m hm=>hw m ?_⟩
  ·have hjl:=(aC.1 hj).1
   have h5:=h4 j oG;rw[Addr.add_mid,Addr.add_mid]at h5;rw[h5];exact hj
  ·show m∈DataW.weights P t (.slice (elems.map (·.1)) (rest.map (·.1)))
   simp only[DataW.weights,ht,List.mem_cons,List.mem_append];exact .inr (.inl (EV (ar.2 ⟨_,ap oG,rfl⟩) m hm))
theorem J4{x:DataW H×List MemPlace}(ht:P.underlying t=some .string)(h:DataW.trod enc P w base spare held a1 t [v]=some x):∃ s:ByteArray,v= .string s/\(Lw P t x.1->s.size<9223372036854775807):=by
 obtain⟨s,h1,rfl,_⟩:=DataW.trod_string ht h;refine⟨s,vY h1,fun hw=>?_⟩;have:=hw s.data.toList.length (by simp[DataW.weights]);have h2:s.data.toList.length=s.size:=Array.length_toList;unfold reachBytes at this;omega
structure SmT(P:Program)(e ts tstr:TypeId)(f0 f1:Field):Prop where
 he:P.underlying e=some (.struct #[f0,f1])
 hsz:P.cellsOf e=2
 o0:f0.offset=0
 o1:f1.offset=1
 e0:f0.type=tstr
 e1:f1.type=ts
 hts:P.underlying ts=some (.slice e)
 hs:P.underlying tstr=some .string
 cs:P.cellsOf tstr=1
 ct:P.cellsOf ts=1
theorem sims_open{ts a2:TypeId}{f0 f1:Field}(T:SmT P e ts a2 f0 f1):∀(a1:Nat) (v:Value) (x:DataW H×List MemPlace),DataW.trod enc P w base spare held a1 ts [v]=some x->∃ A l c,v= .slice A (List.length l) c/\l.length<=c/\SimsIn w A l:=by
 intro a1
 induction a1 using Nat.strongRecOn with
 | ind a1 ih=>
  intro v x h;obtain⟨A,len,c,rfl,hl,hm,hx⟩:=slF T.hts T.hsz dE h;by_cases h0:len=0
  ·subst h0
   exact⟨A,[],c,rfl,ad _,.nil⟩
  ·obtain⟨b,o,rfl,hlt,hc⟩:=hx h0
   obtain⟨l,hxl,hxs⟩:=j6 (p:=fun i (z:Sm)=>SimAt w b (o+i*2) z) (n:=len) (fun i hi=>by
    obtain⟨cs,k,y,hk,h1,h2,h3,_⟩:=hc i hi;obtain⟨n,hn,hlc,hf⟩:=H3 T.he h3;obtain⟨y0,g0,_⟩:=hf 0 f0 rfl;obtain⟨y1,g1,_⟩:=hf 1 f1 rfl
    match cs,h1 with
    | [v0,v1],_=>
     rw[T.e0,T.o0,T.cs]at g0;rw[T.e1,T.o1,T.ct]at g1;obtain⟨s,rfl,_⟩:=J4 T.hs (show DataW.trod enc P w base spare held n a2 [v0]=some y0 from g0);obtain⟨A',l',c',rfl,_,hin⟩:=ih n oG v1 y1 g1
     exact⟨.mk s l',.mk hlt h2 hin⟩)
   subst hxl;exact⟨_,l,c,rfl,hl,.more (nLT hl hm) hlt hxs⟩
theorem sim_open{ts a1:TypeId}{f0 f1:Field}(T:SmT P e ts a1 f0 f1){a2:Nat}{x:DataW H×List MemPlace}(h:DataW.trod enc P w base spare held a2 e [v0,v1]=some x):∃(s:Sm) (A:Option Addr) (c:Nat),v0= .string s.base/\v1= .slice A s.args.length c/\SimsIn w A s.args:=by
 obtain⟨n,hn,hlc,hf⟩:=H3 T.he h;obtain⟨y0,g0,_⟩:=hf 0 f0 rfl;obtain⟨y1,g1,_⟩:=hf 1 f1 rfl;rw[T.e0,T.o0,T.cs]at g0;rw[T.e1,T.o1,T.ct]at g1;obtain⟨s,rfl,_⟩:=J4 T.hs (show DataW.trod enc P w base spare held n a1 [v0]=some y0 from g0);obtain⟨A',l',c',rfl,_,hin⟩:=sims_open T n v1 y1 g1;exact⟨.mk s l',A',c',rfl,rfl,hin⟩
structure TmT(P:Program)(m tm ti tstr e ts:TypeId)(f0 f1:Field)(g0 g1 g2 g3 g4:Field):Prop where
 S:SmT P e ts tstr f0 f1
 he:P.underlying m=some (.struct #[g0,g1,g2,g3,g4])
 hsz:P.cellsOf m=6
 o0:g0.offset=0
 o1:g1.offset=1
 o2:g2.offset=2
 o3:g3.offset=3
 o4:g4.offset=5
 e0:g0.type=ti
 e1:g1.type=tstr
 e2:g2.type=ti
 e3:g3.type=e
 e4:g4.type=tm
 htm:P.underlying tm=some (.slice m)
 hi:P.underlying ti=some (.int .i64)
 ci:P.cellsOf ti=1
 ct:P.cellsOf tm=1
section tm
variable {m tm ti tstr e ts:TypeId} {f0 f1 g0 g1 g2 g3 g4:Field}
theorem RX(T:TmT P m tm ti tstr e ts f0 f1 g0 g1 g2 g3 g4){x:DataW H×List MemPlace}(hl:cs.length=6)(h:DataW.trod enc P w base spare held a1 m cs=some x):
  ∃(k i:Int) (nm:ByteArray) (s:Sm) (A:Option Addr) (c:Nat) (v:Value) (n:Nat) (y:DataW H×List MemPlace),n<a1/\cs= [.int .i64 k,.string nm,.int .i64 i,.string s.base,.slice A s.args.length c,v]/\SimsIn w A s.args/\DataW.trod enc P w base spare held n tm [v]=some y:=by
 obtain⟨n,hn,hlc,hf⟩:=H3 T.he h;obtain⟨y0,q0,_⟩:=hf 0 g0 rfl;obtain⟨y1,q1,_⟩:=hf 1 g1 rfl;obtain⟨y2,q2,_⟩:=hf 2 g2 rfl;obtain⟨y3,q3,_⟩:=hf 3 g3 rfl;obtain⟨y4,q4,_⟩:=hf 4 g4 rfl
 match cs,hl with
 | [v0,v1,v2,v3,v4,v5],_=>
  rw[T.e0,T.o0,T.ci]at q0;rw[T.e1,T.o1,T.S.cs]at q1;rw[T.e2,T.o2,T.ci]at q2;rw[T.e3,T.o3,T.S.hsz]at q3;rw[T.e4,T.o4,T.ct]at q4;obtain⟨k,h5,_,_⟩:=DataW.trod_int T.hi (show DataW.trod enc P w base spare held n ti [v0]=some y0 from q0);obtain⟨nm,rfl,_⟩:=J4 T.S.hs (show DataW.trod enc P w base spare held n tstr [v1]=some y1 from q1);obtain⟨i,h6,_,_⟩:=DataW.trod_int T.hi (show DataW.trod enc P w base spare held n ti [v2]=some y2 from q2);obtain⟨s,A,c,rfl,rfl,hS⟩:=sim_open T.S (show DataW.trod enc P w base spare held n e [v3,v4]=some y3 from q3);rw[vY h5,vY h6];exact⟨k,i,nm,s,A,c,v5,n,y4,hn,rfl,hS,q4⟩
theorem tms_open(T:TmT P m tm ti tstr e ts f0 f1 g0 g1 g2 g3 g4):∀(a1:Nat) (v:Value) (x:DataW H×List MemPlace),DataW.trod enc P w base spare held a1 tm [v]=some x->∃ A l c,v= .slice A (List.length l) c/\l.length<=c/\TmsIn w A l:=by
 intro a1
 induction a1 using Nat.strongRecOn with
 | ind a1 ih=>
  intro v x h;obtain⟨A,len,c,rfl,hl,hm,hx⟩:=slF T.htm T.hsz dE h;by_cases h0:len=0
  ·subst h0
   exact⟨A,[],c,rfl,ad _,.nil⟩
  ·obtain⟨b,o,rfl,hlt,hc⟩:=hx h0
   obtain⟨l,hxl,hxs⟩:=j6 (p:=fun i (z:Tm)=>TmAt w b (o+i*6) z) (n:=len) (fun i hi=>by
    obtain⟨cs,k,y,hk,h1,h2,h3,_⟩:=hc i hi;obtain⟨kd,ix,nm,s,A1,c1,v',n,y',hn,rfl,hS,h4⟩:=RX T h1 h3;obtain⟨A',l',c',rfl,_,hin⟩:=ih n oG v' y' h4
    exact⟨.mk kd nm ix s l',.mk hlt h2 hS hin⟩)
   subst hxl;exact⟨_,l,c,rfl,hl,.more (nLT hl hm) hlt hxs⟩
theorem tm_open(T:TmT P m tm ti tstr e ts f0 f1 g0 g1 g2 g3 g4){x:DataW H×List MemPlace}(hl:cs.length=6)(h:DataW.trod enc P w base spare held a1 m cs=some x):
  ∃(t:Tm) (A:Option Addr) (c:Nat) (B:Option Addr) (d:Nat),cs= [.int .i64 t.kind,.string t.name,.int .i64 t.index,.string t.type.base,.slice A t.type.args.length c,.slice B t.args.length d]/\SimsIn w A t.type.args/\TmsIn w B t.args:=by
 obtain⟨kd,ix,nm,s,A1,c1,v',n,y',hn,rfl,hS,h4⟩:=RX T hl h;obtain⟨A',l',c',rfl,_,hin⟩:=tms_open T n v' y' h4;exact⟨.mk kd nm ix s l',A1,c1,A',c',rfl,hS,hin⟩
end tm
structure GrfT(P:Program)(tg tn e ti tl te:TypeId)(q0 f0 f1 g0 g1:Field):Prop where
 hg:P.underlying tg=some (.struct #[q0])
 hgz:P.cellsOf tg=1
 r0:q0.offset=0
 s0:q0.type=tn
 hcn:P.cellsOf tn=1
 htn:P.underlying tn=some (.slice e)
 he:P.underlying e=some (.struct #[f0,f1])
 hsz:P.cellsOf e=2
 o0:f0.offset=0
 o1:f1.offset=1
 e0:f0.type=ti
 e1:f1.type=tl
 htl:P.underlying tl=some (.slice te)
 hte:P.underlying te=some (.struct #[g0,g1])
 hst:P.cellsOf te=2
 p0:g0.offset=0
 p1:g1.offset=1
 d0:g0.type=ti
 d1:g1.type=ti
 hcl:P.cellsOf tl=1
 hi:P.underlying ti=some (.int .i64)
 hc1:P.cellsOf ti=1
theorem TZ{tg tn tl te:TypeId}{q0 f0 f1 g0 g1:Field}(T:GrfT P tg tn e ti tl te q0 f0 f1 g0 g1){x:DataW H×List MemPlace}(h:DataW.trod enc P w base spare held a1 tg [v]=some x):∃ A gr c,v= .slice A (List.length gr) c/\NodesIn w A gr:=by
 obtain⟨v0,n,y0,h1,h2⟩:=one_cell T.hg rfl T.r0 (by rw[T.s0];exact T.hcn) h;rw[T.s0]at h2;obtain⟨A,gr,c,rfl,_,hin⟩:=Gq T.htn T.he T.hsz T.o0 T.o1 T.e0 T.e1 T.htl T.hte T.hst T.p0 T.p1 T.d0 T.d1 T.hcl T.hi T.hc1 h2;exact⟨A,gr,c,vY h1,hin⟩
section rl
variable {m tm ti tstr e ts:TypeId} {f0 f1 g0 g1 g2 g3 g4:Field} {tg tn te' tl tk:TypeId} {q0 a0 a1 b0 b1:Field}
theorem LJ{r:TypeId}{x0 x1 x2 x3 x4:Field}(T:TmT P m tm ti tstr e ts f0 f1 g0 g1 g2 g3 g4)(G:GrfT P tg tn te' ti tl tk q0 a0 a1 b0 b1)(ht:P.underlying t=some (.slice r))(hr:P.underlying r=some (.struct #[x0,x1,x2,x3,x4]))(hsz:P.cellsOf r=10)
  (o0:x0.offset=0) (o1:x1.offset=1) (o2:x2.offset=2) (o3:x3.offset=3) (o4:x4.offset=4) (t0:x0.type=tstr) (t1:x1.type=tg) (t2:x2.type=ti) (t3:x3.type=ti) (t4:x4.type=m) {a2:Nat} {v:Value} {x:DataW H×List MemPlace} (h:DataW.trod enc P w base spare held a2 t [v]=some x):
  ∃ A l c,v= .slice A (List.length l) c/\l.length<=c/\RulesIn w A l:=by
 obtain⟨A,len,c,rfl,hl,hm,hx⟩:=slF ht hsz dE h;by_cases h0:len=0
 ·subst h0
  exact⟨A,[],c,rfl,ad _,ad _,fun h=>absurd rfl h⟩
 ·obtain⟨b,o,rfl,hlt,hc⟩:=hx h0
  obtain⟨l,hxl,hxs⟩:=j6 (p:=fun i (z:Rl)=>RlIn w b (o+i*10) z) (n:=len) (fun i hi=>by
   obtain⟨cs,k,y,hk,h1,h2,h3,_⟩:=hc i hi;obtain⟨n,hn,hlc,hf⟩:=H3 hr h3;obtain⟨y0,p0,_⟩:=hf 0 x0 rfl;obtain⟨y1,p1,_⟩:=hf 1 x1 rfl;obtain⟨y2,p2,_⟩:=hf 2 x2 rfl;obtain⟨y3,p3,_⟩:=hf 3 x3 rfl;obtain⟨y4,p4,_⟩:=hf 4 x4 rfl
   match cs,h1 with
   | [v0,v1,v2,v3,v4,v5,v6,v7,v8,v9],_=>
    rw[t0,o0,T.S.cs]at p0;rw[t1,o1,G.hgz]at p1;rw[t2,o2,T.ci]at p2;rw[t3,o3,T.ci]at p3;rw[t4,o4,T.hsz]at p4;obtain⟨nm,rfl,_⟩:=J4 T.S.hs (show DataW.trod enc P w base spare held n tstr [v0]=some y0 from p0);obtain⟨B,gr,d,rfl,hG⟩:=TZ G (show DataW.trod enc P w base spare held n tg [v1]=some y1 from p1);obtain⟨kd,h5,_,_⟩:=DataW.trod_int T.hi (show DataW.trod enc P w base spare held n ti [v2]=some y2 from p2);obtain⟨wt,h6,_,_⟩:=DataW.trod_int T.hi (show DataW.trod enc P w base spare held n ti [v3]=some y3 from p3);obtain⟨tt,A2,c2,B2,d2,h7,hS,hT⟩:=tm_open T rfl (show DataW.trod enc P w base spare held n m [v4,v5,v6,v7,v8,v9]=some y4 from p4);rw[vY h5,vY h6,h7]at h2
    exact⟨⟨nm,gr,kd,wt,tt⟩,B,d,A2,c2,B2,d2,h2,hG,hS,hT⟩)
  subst hxl;exact⟨_,l,c,rfl,hl,nLT hl hm,fun _=>⟨b,o,rfl,hlt,hxs⟩⟩
theorem GK{r:TypeId}{x0 x1 x2 x3:Field}(T:TmT P m tm ti tstr e ts f0 f1 g0 g1 g2 g3 g4)(G:GrfT P tg tn te' ti tl tk q0 a0 a1 b0 b1)(ht:P.underlying t=some (.slice r))(hr:P.underlying r=some (.struct #[x0,x1,x2,x3]))(hsz:P.cellsOf r=9)
  (o0:x0.offset=0) (o1:x1.offset=1) (o2:x2.offset=2) (o3:x3.offset=3) (t0:x0.type=tstr) (t1:x1.type=tg) (t2:x2.type=ti) (t3:x3.type=m) {a2:Nat} {v:Value} {x:DataW H×List MemPlace} (hw:Lw P t x.1) (h:DataW.trod enc P w base spare held a2 t [v]=some x):
  ∃ A l c,v= .slice A (List.length l) c/\l.length<=c/\LexesIn w A l:=by
 obtain⟨A,len,c,rfl,hl,hm,hx⟩:=slF ht hsz dE h;by_cases h0:len=0
 ·subst h0
  exact⟨A,[],c,rfl,ad _,ad _,fun h=>absurd rfl h⟩
 ·obtain⟨b,o,rfl,hlt,hc⟩:=hx h0
  obtain⟨l,hxl,hxs⟩:=j6 (p:=fun i (z:Lx)=>LxIn w b (o+i*9) z) (n:=len) (fun i hi=>by
   obtain⟨cs,k,y,hk,h1,h2,h3,hwy⟩:=hc i hi;obtain⟨n,hn,hlc,hf⟩:=H3 hr h3;obtain⟨y0,p0,hw0⟩:=hf 0 x0 rfl;obtain⟨y1,p1,_⟩:=hf 1 x1 rfl;obtain⟨y2,p2,_⟩:=hf 2 x2 rfl;obtain⟨y3,p3,_⟩:=hf 3 x3 rfl
   match cs,h1 with
   | [v0,v1,v2,v3,v4,v5,v6,v7,v8],_=>
    rw[t0,o0,T.S.cs]at p0;rw[t0]at hw0;rw[t1,o1,G.hgz]at p1;rw[t2,o2,T.ci]at p2;rw[t3,o3,T.hsz]at p3;obtain⟨nm,rfl,hws⟩:=J4 T.S.hs (show DataW.trod enc P w base spare held n tstr [v0]=some y0 from p0);obtain⟨B,gr,d,rfl,hG⟩:=TZ G (show DataW.trod enc P w base spare held n tg [v1]=some y1 from p1);obtain⟨wt,h6,_,_⟩:=DataW.trod_int T.hi (show DataW.trod enc P w base spare held n ti [v2]=some y2 from p2);obtain⟨tt,A2,c2,B2,d2,h7,hS,hT⟩:=tm_open T rfl (show DataW.trod enc P w base spare held n m [v3,v4,v5,v6,v7,v8]=some y3 from p3);rw[vY h6,h7]at h2
    exact⟨⟨nm,gr,wt,tt⟩,hws (hw0 (hwy hw)),B,d,A2,c2,B2,d2,h2,hG,hS,hT⟩)
  subst hxl;exact⟨_,l,c,rfl,hl,nLT hl hm,fun _=>⟨b,o,rfl,hlt,hxs⟩⟩
end rl
theorem lw_arg{ts:List TypeId}{ds:List (DataW H)}(h:(DataW.weightsEach P ts ds).all (·<=reachBytes)=true){j:Nat}{d:DataW H}(ht:ts[j]? =some t)(hd:ds[j]? =some d):Lw P t d:=fun n hn=>by
 have:=aB.1 h _ (DataW.weights_mem_each ht hd n hn)
 simpa using this
end
end
section
section
variable {H:Type} {enc:TypeId×Value->H} {P:Program} {w:World} {base:Nat} {spare:Nat->Bool} {held:Bool}
structure DtT(P:Program)(e ts ti:TypeId)(f0 f1 f2:Field):Prop where
 he:P.underlying e=some (.struct #[f0,f1,f2])
 hsz:P.cellsOf e=3
 o0:f0.offset=0
 o1:f1.offset=1
 o2:f2.offset=2
 e0:f0.type=ti
 e1:f1.type=ti
 e2:f2.type=ts
 hts:P.underlying ts=some (.slice e)
 hi:P.underlying ti=some (.int .i64)
 ci:P.cellsOf ti=1
 ct:P.cellsOf ts=1
section
variable {e ts ti:TypeId} {f0 f1 f2:Field}
theorem H4(T:DtT P e ts ti f0 f1 f2){v2:Value}{x:DataW H×List MemPlace}(h:DataW.trod enc P w base spare held a1 e [v0,v1,v2]=some x):
  ∃(r l:Int) (n:Nat) (y:DataW H×List MemPlace),n<a1/\v0= .int .i64 r/\v1= .int .i64 l/\DataW.trod enc P w base spare held n ts [v2]=some y:=by
 obtain⟨n,hn,hlc,hf⟩:=H3 T.he h;obtain⟨y0,g0,_⟩:=hf 0 f0 rfl;obtain⟨y1,g1,_⟩:=hf 1 f1 rfl;obtain⟨y2,g2,_⟩:=hf 2 f2 rfl;rw[T.e0,T.o0,T.ci]at g0;rw[T.e1,T.o1,T.ci]at g1;rw[T.e2,T.o2,T.ct]at g2;obtain⟨r,h5,_,_⟩:=DataW.trod_int T.hi (show DataW.trod enc P w base spare held n ti [v0]=some y0 from g0);obtain⟨l,h6,_,_⟩:=DataW.trod_int T.hi (show DataW.trod enc P w base spare held n ti [v1]=some y1 from g1);exact⟨r,l,n,y2,hn,vY h5,vY h6,g2⟩
theorem dts_open(T:DtT P e ts ti f0 f1 f2):∀(a1:Nat) (v:Value) (x:DataW H×List MemPlace),DataW.trod enc P w base spare held a1 ts [v]=some x->∃ A l c,v= .slice A (List.length l) c/\l.length<=c/\TresIn w A l:=by
 intro a1
 induction a1 using Nat.strongRecOn with
 | ind a1 ih=>
  intro v x h;obtain⟨A,len,c,rfl,hl,hm,hx⟩:=slF T.hts T.hsz dE h;by_cases h0:len=0
  ·subst h0
   exact⟨A,[],c,rfl,ad _,.nil⟩
  ·obtain⟨b,o,rfl,hlt,hc⟩:=hx h0
   obtain⟨l,hxl,hxs⟩:=j6 (p:=fun i (z:Dt)=>TreAt w b (o+i*3) z) (n:=len) (fun i hi=>by
    obtain⟨cs,k,y,hk,h1,h2,h3,_⟩:=hc i hi
    match cs,h1 with
    | [v0,v1,v2],_=>
     obtain⟨r,l,n,y',hn,rfl,rfl,h4⟩:=H4 T h3;obtain⟨A',l',c',rfl,_,hin⟩:=ih n oG v2 y' h4
     exact⟨.mk r l l',.mk hlt h2 hin⟩)
   subst hxl;exact⟨_,l,c,rfl,hl,.more (nLT hl hm) hlt hxs⟩
theorem dt_open(T:DtT P e ts ti f0 f1 f2){v2:Value}{x:DataW H×List MemPlace}(h:DataW.trod enc P w base spare held a1 e [v0,v1,v2]=some x):
  ∃(t:Dt) (A:Option Addr) (c:Nat),v0= .int .i64 t.rule/\v1= .int .i64 t.lex/\v2= .slice A t.kids.length c/\TresIn w A t.kids:=by
 obtain⟨r,l,n,y',hn,rfl,rfl,h4⟩:=H4 T h;obtain⟨A',l',c',rfl,_,hin⟩:=dts_open T n v2 y' h4;exact⟨.mk r l l',A',c',rfl,rfl,rfl,hin⟩
end
end
end
end Go.Proofs.YtmfiholmfieieaaDoor
