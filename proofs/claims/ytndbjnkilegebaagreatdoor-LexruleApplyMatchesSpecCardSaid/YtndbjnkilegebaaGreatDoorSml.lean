/- What these functions compute, at every world: ref4.Applied, equal.sameSimple, equal.sameTerm, , equal.Lex; and plain laws. -/
import Derived.Test.YtndbjnkilegebaaGreatDoorU
import Derived.Test.YtndbjnkilegebaaGreatDoorZst
import Derived.Test.YtndbjnkilegebaaGreatDoorLRr
import Derived.Test.YtndbjnkilegebaaGreatDoorLAq
import Derived.Test.YtndbjnkilegebaaGreatDoorRJoin
import Derived.Test.YtndbjnkilegebaaGreatDoorGCan
import Derived.Test.YtndbjnkilegebaaGreatDoorLTa
import Derived.Test.YtndbjnkilegebaaGreatDoorTyp
import Derived.Test.YtndbjnkilegebaaGreatDoorOrd
namespace Go.Proofs.YtndbjnkilegebaaGreatDoor
open Go.RowKit Go.Proofs.Tryz
variable {A:Option Addr}{b cap k n t:Nat}{cs vs:List Value}{l:List Ty}{ns:List ByteArray}{ps:List Int}{w w1:World}
abbrev cH(a:Tm)(b:Option Addr)(c:Nat)(d:Option Addr)(e:Nat)(f:Tm)(g:Option Addr)(h:Nat)(i:Option Addr)(j:Nat):Array Value:=#[.int .i64 a.kind,.string a.name,.int .i64 a.index,.string a.type.base,.slice b a.type.args.length c,.slice d a.args.length e,.int .i64 f.kind,.string f.name,.int .i64 f.index,.string f.type.base,.slice g f.type.args.length h,.slice i f.args.length j]
theorem va2(ga gb:List Nd):VA [ga,gb] [ga,gb].length=j7 ga gb:=by
 show DQ (DQ [] ga) gb=_;have z0:∀ x:Nd,shN 0 x=x:=fun x=>Vv rfl (by simp[shN])
 have e:DQ [] ga=ga:=by
  unfold DQ;rw[List.nil_append,List.length_nil]
  conv=>rhs;rw[<- List.map_id ga]
  exact aS (fun x _=>z0 x)
 rw[e];rfl
theorem pa2(ga gb:List Nd)(j:Nat):PA [ga,gb] [j]= [(j,ga.length)]:=by
 show[(j,(VA [ga,gb] 1).length)]=_;have:(VA [ga,gb] 1).length=ga.length:=by show (DQ [] ga).length=_;simp[DQ]
 rw[this]
theorem va2_is{ga gb X:List Nd}{j:Nat}{ok:Bool}(h:(ok=true/\YY l (VA [ga,gb] [ga,gb].length) (PA [ga,gb] [j]) X)\/(ok=false/\X= []/\¬MV l (VA [ga,gb] [ga,gb].length) (PA [ga,gb] [j]))):Z2 l (j7 ga gb) [(j,ga.length)] ok X:=by
 rw[va2,pa2]at h;exact h
set_option maxRecDepth 100000 in
set_option maxHeartbeats 8000000 in
theorem applied_any(AT AF:Option Addr)(ct cf:Nat)(l:List Ty)(fs:List Ft)(r:Lr)(x:Lx)(G SA BA Gx Sx Bx:Option Addr)(cg cs cb da bm bn:Nat)(w:World)(h0:(qW l fs).1=0)(hr:lrF l fs r=0)(hx:Yy l fs x=0)(hTy:TypesIn w AT l)(_hF:FeatsIn w AF fs)(hP:LrP w r G SA BA)(hGx:NodesIn w Gx x.gr)(hSx:SimsIn w Sx x.mean.type.args)(hTx:TmsIn w Bx x.mean.args):Calls Tryz.prog 12 #[.agg #[.slice AT l.length ct,.slice AF fs.length cf],.agg (cF r G cg (r.mean) SA cs BA cb),.agg (cA x Gx da (x.mean) Sx bm Bx bn)] w fun e w'=>(∃(ok:Bool) (Y:List Nd) (z:Lx) (A5 A6 B6:Option Addr) (c5 c6 d6:Nat),e= .returned (.tuple #[.agg (cA (z) A5 c5 ((z).mean) A6 c6 B6 d6),.bool ok])/\z=lxR r x ok Y/\(NodesIn w' A5 z.gr/\SimsIn w' A6 z.mean.type.args/\TmsIn w' B6 z.mean.args)/\LrS l r x ok Y)/\Bel w w':=by
 obtain⟨hnm,hbd,hin,hpl,htm⟩:=O2 hr;obtain⟨hxw,hxb,hxi⟩:=lex_of hx;have hJ:=C5 h0 hin hpl;have c2:=(J7 h0 hxi).1;have hwz:=OQ hxw;have haz:=add_size hnm;have hsz:=RX x.word r.cut;have hwl:(wdL r x).size=(Bq x.word r.cut).size+r.add.size:=by unfold wdL;rw[ByteArray.size_append]
 unfold Yv at hbd;unfold Kj at hxb;have hcz:=hP.c;have hS:=Q0 h0;have hxm:(tmF x.mean).1=0:=by
   have e:=hx;rw[lx_ok hxw hxb hxi]at e;exact e
 have hjl:=hJ.lt (f:=1) dE dE;have h0l:=hJ.v.gx.pos;obtain⟨b7,XI,cw⟩:=into_det hJ.v.gx c2.gx hjl;have hpa:=H0 hJ (f:=1) dE dE;refine enT Tryz.func12 Tryz.ntmps12 rfl rfl fun hB=>?_;refine zn2 ?_;refine qv (cs:=#[_,_]) rfl (fun b3 w1 b2 s1 hr=>?_);have lo3:=hB.ob hr;clear hr;refine qv (cs:=#[_,_,_,_,_,_,_,_,_,_,_]) rfl (fun b4 w2 ad s2 hr=>?_);have:=b2.ob hr;have lo4:=hB.u.ob hr;clear hr;refine qv (cs:=#[_,_,_,_,_,_,_,_,_]) rfl (fun b5 w3 ao s3 hr=>?_);have:=b2.u.ob hr;have:=ad.ob hr;have lo5:=hB.u.ob hr;clear hr;refine qQ (cs:=cE) X0 rfl (fun b6 w4 a8 s4 hr=>?_);have:=b2.u.ob hr;have:=ad.u.ob hr;have:=ao.ob hr;have lo6:=hB.u.ob hr;clear hr;refine vJ ?_;refine wl (jJ (c:=((x.word.size:Int)-(r.cut.size:Int))) rfl rfl rfl oG) (zn5 ?_);refine xv (rg [] 19 11) (fun g w'=>g 29= .bool (decide (((x.word.size:Int)-(r.cut.size:Int))<0)||decide (¬sdr (x.word.size-r.cut.size) x.word=r.cut))/\Same [] w4 w') ?_ (fun g2 w5 hI=>?_)
 ·refine jY [] [0,1,2,3,4,5,6,7,8,9,10] rfl (fun w6 s5=>?_);have ba:=s5;refine zn3 ?_;refine h_casesd 21 rfl (fun d2=>?_) (fun d2=>?_)
  ·refine zn9 ?_;refine e_R ⟨agA,?_,ba⟩;show Value.bool _=Value.bool _;exact ag (by simp[d2])
  refine zn2 ?_;refine hge 21 rfl rfl rfl (fun _ _=>x6 (v:= .int _ _) rfl) (show Value.int .i64 ((x.word.size:Int)-(r.cut.size:Int))= .int .i64 (((x.word.size-r.cut.size):Nat):Int)from congrArg (Value.int .i64) oG) (hg 21 rfl rfl rfl (fun _ _=>Yx (l:=(x.word.size-r.cut.size)) U9 rfl rfl oG) (zn5 ?_));refine e_R ⟨agA,?_,ba⟩;show Value.bool _=Value.bool _;exact ag (by simp[d2])
 obtain⟨h29,s6⟩:=hI;refine vZ 29 _ h29 nu (e_S ?_);refine jv rfl (fun dc=>?_) (fun dc=>?_)
 ·have cv:¬Ow r x:=fun k=>by
    have h:=aO (show decide (r.cut.size<=x.word.size/\sdr (x.word.size-r.cut.size) x.word=r.cut)=true from k.1);rcases(Bool.or_eq_true _ _).mp dc with e|e
    · have:=aO e
      omega
    · exact aO e h.2
  refine zn2 ?_;refine jW (cs:=cE) ?_;refine zV a8.u (fun w7 hq s7=>?_);replace a8:=hq;refine zn5 ?_;refine uK (.inl rfl) rfl (zX U38 rfl rfl a8.range0 u7) rfl ?_;exact⟨⟨false,[],lx0,none,none,none,0,0,0,rfl,rfl,⟨ov _ none,.nil,.nil⟩,Pw (.inl (fun k=>cv k.1))⟩,hB.u⟩
 obtain⟨e1,e2⟩:=Bool.or_eq_false_iff.1 dc;have hle:r.cut.size<=x.word.size:=by
   have:=of_decide_eq_false e1;omega
 have hsx:sdr (x.word.size-r.cut.size) x.word=r.cut:=ak.1 (of_decide_eq_false e2);have hsb:JQ x.word r.cut=true:=aj ⟨hle,hsx⟩;have cr:wdL r x=stk (x.word.size-r.cut.size) x.word++r.add:=by unfold wdL Bq;rw[if_pos hsb]
 refine zn3 ?_;replace hB:=hB.tr0 (s1.t (s2.t (s3.t (s4.t s6))));have hsz:=Bel.size hB;replace b2:=b2.tr0 (s2.t (s3.t (s4.t s6)));have z3:=b2.lt;replace ad:=ad.tr0 (s3.t (s4.t s6));have z4:=ad.lt;replace ao:=ao.tr0 (s4.t s6);have z5:=ao.lt;replace a8:=a8.tr0 s6;have z6:=a8.lt;refine uX 20 [31,32,33,34,35,36,37,38,39,40,41,42,43,44,45,46,47,48,49,9] (fun ix=>Nat.beq ix 16||Nat.beq ix 19) (fun ix v wv=>match ix with|0=>v= .pointer (some ⟨b5,0,none⟩)|1=>v= .string x.word|2=>v= .int .i64 (((x.word.size-r.cut.size):Nat):Int)|3=>v= .string (stk (x.word.size-r.cut.size) x.word)|4=>v= .pointer (some ⟨b4,2,none⟩)|5=>v= .string r.add|6=>v= .string (wdL r x)|7=>v= .pointer (some ⟨b5,2,none⟩)|8=>v= .int .i64 x.wt|9=>v= .pointer (some ⟨b4,4,none⟩)|10=>v= .int .i64 r.wt|11=>v= .int .i64 (x.wt+r.wt)|12=>v= .pointer (some ⟨b4,5,none⟩)|13=>v= .agg (cD (r.mean) SA cs BA cb)|14=>v= .pointer (some ⟨b5,3,none⟩)|15=>v= .agg (cD (x.mean) Sx bm Bx bn)|16=>∃ a5,v= .slice (some ⟨a5,0,none⟩) 2 2/\w5.heap.size<=a5/\Blk wv a5 34 (cH (r.mean) SA cs BA cb (x.mean) Sx bm Bx bn)|17=>∃ a5,v= .agg #[.int .i64 4,.string ⟨#[]⟩,.int .i64 0,.string ⟨#[]⟩,.slice none 0 0,.slice (some ⟨a5,0,none⟩) 2 2]/\w5.heap.size<=a5/\Blk wv a5 34 (cH (r.mean) SA cs BA cb (x.mean) Sx bm Bx bn)|18=>∃ a5,v= .agg #[.string (wdL r x),.slice none 0 0,.int .i64 (x.wt+r.wt),.int .i64 4,.string ⟨#[]⟩,.int .i64 0,.string ⟨#[]⟩,.slice none 0 0,.slice (some ⟨a5,0,none⟩) 2 2]/\w5.heap.size<=a5/\Blk wv a5 34 (cH (r.mean) SA cs BA cb (x.mean) Sx bm Bx bn)|19=>∃ b9,v= .pointer (some ⟨b9,0,none⟩)/\w5.heap.size<=b9/\Blk wv b9 38 cE|_=>True) kR kR ?_ ?_ ?_
 ·intro ix v wv wv2 h s8
  match ix,h with
  | 0,h=>exact h
  | 1,h=>exact h
  | 2,h=>exact h
  | 3,h=>exact h
  | 4,h=>exact h
  | 5,h=>exact h
  | 6,h=>exact h
  | 7,h=>exact h
  | 8,h=>exact h
  | 9,h=>exact h
  | 10,h=>exact h
  | 11,h=>exact h
  | 12,h=>exact h
  | 13,h=>exact h
  | 14,h=>exact h
  | 15,h=>exact h
  | 16,h=>
   obtain⟨a5,d9,a4,a2⟩:=h;exact⟨a5,d9,a4,a2.tr0 s8⟩
  | 17,h=>
   obtain⟨a5,d8,a4,a2⟩:=h;exact⟨a5,d8,a4,a2.tr0 s8⟩
  | 18,h=>
   obtain⟨a5,d7,a4,a2⟩:=h;exact⟨a5,d7,a4,a2.tr0 s8⟩
  | 19,h=>
   obtain⟨b9,e9,bg,a9⟩:=h;exact⟨b9,e9,bg,a9.tr0 s8⟩
  | _+20,h=>exact trivial
 ·intro ix o hix a1 gg wx s9 hd bd
  match ix,hix,a1 with
  | 0,_,a1=>
   cases sI a1;exact oVq (jX U38 Rz dE rfl rfl rfl) rfl
  | 1,_,a1=>
   cases sI a1;refine aZ 31 (hd 0 a6) ?_;exact oVq (qj (v:= .string _) U9 rfl rfl (ao.u.cell rfl)) rfl
  | 2,_,a1=>
   cases sI a1;exact oVq (x6 (v:= .int _ _) rfl) ((show Value.int .i64 ((x.word.size:Int)-(r.cut.size:Int))= .int .i64 (((x.word.size-r.cut.size):Nat):Int)from congrArg (Value.int .i64) oG))
  | 3,_,a1=>
   cases sI a1;refine aZ 32 (hd 1 a6) (aZ 33 (hd 2 a6) ?_);exact oVq (r_tkS (h:=(x.word.size-r.cut.size)) U9 rfl rfl oG) rfl
  | 4,_,a1=>
   cases sI a1;exact oVq (jX U36 Rz dE rfl rfl rfl) rfl
  | 5,_,a1=>
   cases sI a1;refine aZ 35 (hd 4 a6) ?_;exact oVq (qj (v:= .string _) U9 rfl rfl (ad.u.cell rfl)) rfl
  | 6,_,a1=>
   cases sI a1;refine aZ 34 (hd 3 a6) (aZ 36 (hd 5 a6) ?_);exact oVq (P8 rfl rfl (by rw[GW oG];omega)) (congrArg Value.string cr.symm)
  | 7,_,a1=>
   cases sI a1;exact oVq (jX U38 qq dE rfl rfl rfl) rfl
  | 8,_,a1=>
   cases sI a1;refine aZ 38 (hd 7 a6) ?_;exact oVq (qj (v:= .int _ _) U3 rfl rfl (ao.u.cell rfl)) rfl
  | 9,_,a1=>
   cases sI a1;exact oVq (jX U36 qq dE rfl rfl rfl) rfl
  | 10,_,a1=>
   cases sI a1;refine aZ 40 (hd 9 a6) ?_;exact oVq (qj (v:= .int _ _) U3 rfl rfl (ad.u.cell rfl)) rfl
  | 11,_,a1=>
   cases sI a1;refine aZ 39 (hd 8 a6) (aZ 41 (hd 10 a6) ?_);exact oVq (uW (c:=(x.wt+r.wt)) rfl rfl rfl oG) rfl
  | 12,_,a1=>
   cases sI a1;exact oVq (jX U36 uw dE rfl rfl rfl) rfl
  | 13,_,a1=>
   cases sI a1;refine aZ 43 (hd 12 a6) ?_;exact oVq (qw U34 rfl rfl (ad.u.sub (n:=6) (xs:=[_,_,_,_,_,_]) rfl) uw) rfl
  | 14,_,a1=>
   cases sI a1;exact oVq (jX U38 uw dE rfl rfl rfl) rfl
  | 15,_,a1=>
   cases sI a1;refine aZ 45 (hd 14 a6) ?_;exact oVq (qw U34 rfl rfl (ao.u.sub (n:=6) (xs:=[_,_,_,_,_,_]) rfl) uw) rfl
  | 16,_,a1=>
   cases sI a1;have ba:=s9;refine aZ 44 (hd 13 a6) (aZ 46 (hd 15 a6) ?_);refine jq (fun ops Q K=>?_);refine qZ (cs:=#[_,_,_,_,_,_,_,_,_,_,_,_]) [(0,.agg _),(1,.agg _)] rfl U32 uw oK dE dE kR rfl (fun a5 w8 a2 s10 hr=>?_);exact K _ _ ⟨s10,⟨_,rfl,nLT ba.size hr,a2⟩,fRq hr a2.lt⟩
  | 17,_,a1=>
   cases sI a1;obtain⟨a5,d9,a4,a2⟩:=hd 16 (zj kR);refine zq 47 _ d9 nu ?_;exact oVq (Q5 (v0:= .int _ _) (v1:= .slice _ _ _) (fun v0 v1=>#[v0,.string ⟨#[]⟩,.int .i64 0,.string ⟨#[]⟩,.slice none 0 0,v1]) rfl rfl kR) ⟨a5,rfl,a4,a2⟩
  | 18,_,a1=>
   cases sI a1;obtain⟨a5,d8,a4,a2⟩:=hd 17 (zj kR);refine aZ 37 (hd 6 a6) (aZ 42 (hd 11 a6) (zq 48 _ d8 nu ?_));exact oVq (Ix (v0:= .string _) (v1:= .int _ _) (v2:= .agg _) (fun v0 v1 v2=>#[v0,.slice none 0 0,v1,(qy v2 0),(qy v2 1),(qy v2 2),(qy v2 3),(qy v2 4),(qy v2 5)]) rfl rfl rfl kR) ⟨a5,rfl,a4,a2⟩
  | 19,_,a1=>
   cases sI a1;have ba:=s9;refine jq (fun ops Q K=>?_);refine qQ (cs:=cE) X0 rfl (fun b9 w9 a9 s11 hr=>?_);exact K _ _ ⟨s11,⟨_,rfl,nLT ba.size hr,a9⟩,fRq hr a9.lt⟩
  | _+20,hix,_=>exact absurd hix oG
 intro gg w10 b8 hR bd;have ba:=b8;obtain⟨a5,d7,a4,a2⟩:=hR 18 dE;obtain⟨b9,e9,bg,a9⟩:=hR 19 dE;have ne47:a5≠b9:=fun h=>absurd (jz (h ▸ a2) a9) dE
 have:=nLL z3 bg;have:=nLL z4 bg;have:=nLL z5 bg;have:=nLL z6 bg;have:=nLL z3 a4;have:=nLL z4 a4;have:=nLL z5 a4;have:=nLL z6 a4;replace bg:=nLT hsz bg;replace a4:=nLT hsz a4;refine x8 49 _ d7 nu (x8 9 _ e9 nu ?_);refine zV a9 (fun w11 hq b1=>?_);replace a9:=hq;refine zn4 ?_;refine xv (rg [] 50 16) (fun g w'=>g 65= .bool (decide (¬(yV (wdL r x)=true/\x.wt+r.wt<=1000000/\(tmF (u4 r.mean x.mean)).1=0)))/\Bel w w'/\Blk w' b3 25 #[.slice AT l.length ct,.slice AF fs.length cf]/\Blk w' b4 36 (cF r G cg (r.mean) SA cs BA cb)/\Blk w' b5 38 (cA x Gx da (x.mean) Sx bm Bx bn)/\Blk w' b6 38 cE/\Blk w' b9 38 #[.string (wdL r x),.slice none 0 0,.int .i64 (x.wt+r.wt),.int .i64 4,.string ⟨#[]⟩,.int .i64 0,.string ⟨#[]⟩,.slice none 0 0,.slice (some ⟨a5,0,none⟩) 2 2]/\Blk w' a5 34 (cH (r.mean) SA cs BA cb (x.mean) Sx bm Bx bn)) ?_ (fun g5 ca hI=>?_)
 ·refine zn3 ?_;refine a7 kR (VX (wdL r x) _ oG) rfl (fun w13 ac=>?_);refine zn2 ?_;refine uv 54 rfl (fun g54=>?_) (fun g54=>?_)
  ·refine yZ ?_;refine e_R ⟨agA,?_⟩;replace hB:=((hB.tr0 b8).tr1 b1 bg).tr0 ac;replace b2:=((b2.tr0 b8).tr1 b1 oG).tr0 ac;replace ad:=((ad.tr0 b8).tr1 b1 oG).tr0 ac;replace ao:=((ao.tr0 b8).tr1 b1 oG).tr0 ac;replace a8:=((a8.tr0 b8).tr1 b1 oG).tr0 ac;replace a2:=(a2.tr1 b1 oG).tr0 ac;replace a9:=a9.tr0 ac
   exact⟨by
     first
     | exact ag (aj (by grind)).symm
     | exact ag (am.2 (by grind)),hB,b2,ad,ao,a8,a9,a2⟩
  refine zn8 ?_;refine zk 59 rfl (fun g59=>?_) (fun g59=>?_)
  ·refine zn7 ?_;refine e_R ⟨agA,?_⟩;replace hB:=((hB.tr0 b8).tr1 b1 bg).tr0 ac;replace b2:=((b2.tr0 b8).tr1 b1 oG).tr0 ac;replace ad:=((ad.tr0 b8).tr1 b1 oG).tr0 ac;replace ao:=((ao.tr0 b8).tr1 b1 oG).tr0 ac;replace a8:=((a8.tr0 b8).tr1 b1 oG).tr0 ac;replace a2:=(a2.tr1 b1 oG).tr0 ac;replace a9:=a9.tr0 ac
   exact⟨by
     first
     | exact ag (aj (by grind)).symm
     | exact ag (am.2 (by grind)),hB,b2,ad,ao,a8,a9,a2⟩
  refine zn3 ?_;refine wl (qw U34 rfl rfl (a9.u.sub (n:=6) (xs:=[_,_,_,_,_,_]) rfl) uw) (zn1 ?_);refine a7 kR (MW none (some ⟨a5,0,none⟩) 0 2 (u4 r.mean x.mean) _ .nil (DV a2.u (hP.s.mono hB.u) (hP.t.mono hB.u) (hSx.mono hB.u) (hTx.mono hB.u))) rfl (fun w14 bo=>?_);refine zn1 ?_;refine wl (BY (v:= .int _ _) U45 rfl U3 rfl rfl rfl) (zn4 ?_);refine e_R ⟨agA,?_⟩;replace hB:=((hB.tr0 b8).tr1 b1 bg).tr0 (ac.t bo);replace b2:=((b2.tr0 b8).tr1 b1 oG).tr0 (ac.t bo);replace ad:=((ad.tr0 b8).tr1 b1 oG).tr0 (ac.t bo);replace ao:=((ao.tr0 b8).tr1 b1 oG).tr0 (ac.t bo);replace a8:=((a8.tr0 b8).tr1 b1 oG).tr0 (ac.t bo);replace a2:=(a2.tr1 b1 oG).tr0 (ac.t bo);replace a9:=a9.tr0 (ac.t bo)
  exact⟨by
    first
    | exact ag (aj (by grind)).symm
    | exact ag (am.2 (by grind)),hB,b2,ad,ao,a8,a9,a2⟩
 obtain⟨h65,hB,b2,ad,ao,a8,a9,a2⟩:=hI;refine vZ 65 _ h65 nu (e_S ?_);refine zZ rfl (fun db=>?_) (fun db=>?_)
 ·have cv:¬(Ow r x/\T7 r.mean x.mean):=fun k=>db ⟨k.1.2.1,k.1.2.2,(apok_tmF htm hxm).2 k.2⟩
  refine zn2 ?_;refine jW (cs:=cE) ?_;refine zV a8 (fun w15 hq s16=>?_);replace a8:=hq;refine zn5 ?_;refine uK (.inl rfl) rfl (zX U38 rfl rfl a8.range0 u7) rfl ?_;exact⟨⟨false,[],lx0,none,none,none,0,0,0,rfl,rfl,⟨ov _ none,.nil,.nil⟩,Pw (.inl cv)⟩,hB.u⟩
 have cp:=au.1 db;have hwd:Ow r x:=⟨hsb,cp.1,cp.2.1⟩
 have cq:=(apok_tmF htm hxm).1 cp.2.2;refine zn3 ?_;have hsz:=Bel.size hB;have z3:=b2.lt;have z4:=ad.lt;have z5:=ao.lt;have z6:=a8.lt;have z9:=a9.lt;have z47:=a2.lt;refine xv (rg [10,11] 67 14) (fun g w'=>∃(bb:Nat) (AZ:Option Addr) (cZ lz hz:Nat),g 10= .pointer (some ⟨bb,0,none⟩)/\g 11= .bool b7/\Bel w w'/\Blk w' b6 38 cE/\Blk w' b9 38 #[.string (wdL r x),.slice none 0 0,.int .i64 (x.wt+r.wt),.int .i64 4,.string ⟨#[]⟩,.int .i64 0,.string ⟨#[]⟩,.slice none 0 0,.slice (some ⟨a5,0,none⟩) 2 2]/\Blk w' a5 34 (cH (r.mean) SA cs BA cb (x.mean) Sx bm Bx bn)/\Blk w' bb 28 #[.slice AZ (List.length XI) cZ]/\Kept lz hz w' (fun wq=>NodesIn wq AZ XI)/\(b6<bb/\b9<bb/\a5<bb/\b6<lz/\b9<lz)/\Z2 l (j7 r.gr x.gr) [((plc r.gr 1).toNat,r.gr.length)] b7 XI) ?_ (fun g7 w16 hI=>?_)
 ·refine SW 15 [68,69,70,71,72,73,74,75,76,77,78,67,79,80,10] [13] (fun ix=>bif Nat.beq ix 11 then 10 else bif Nat.beq ix 12 then 10 else ix) (fun ix v la ha wv=>match ix with|0=>v= .agg #[.slice AT l.length ct,.slice AF fs.length cf]|1=>v= .pointer (some ⟨b4,3,none⟩)|2=>v= .agg #[.slice G (List.length r.gr) cg]|3=>v= .pointer (some ⟨b5,1,none⟩)|4=>v= .agg #[.slice Gx (List.length x.gr) da]|5=>∃ b,v= .slice (some ⟨b,0,none⟩) 2 2/\GrsIn wv (some ⟨b,0,none⟩) [r.gr,x.gr]|6=>v= .pointer (some ⟨b4,3,none⟩)|7=>v= .agg #[.slice G (List.length r.gr) cg]|8=>v= .int .i64 (((plc r.gr 1).toNat:Nat):Int)|9=>∃ b,v= .slice (some ⟨b,0,none⟩) 1 1/\IntsIn wv (some ⟨b,0,none⟩) ([(plc r.gr 1).toNat].map (fun n=>((n:Nat):Int)))|10=>∃ AZ cZ,v= .tuple #[.agg #[.slice AZ (List.length XI) cZ],.bool b7]/\Kept la ha wv (fun wq=>NodesIn wq AZ XI)/\ca.heap.size<=la/\Z2 l (j7 r.gr x.gr) [((plc r.gr 1).toNat,r.gr.length)] b7 XI|11=>∃ AZ cZ,v= .tuple #[.agg #[.slice AZ (List.length XI) cZ],.bool b7]/\Kept la ha wv (fun wq=>NodesIn wq AZ XI)/\ca.heap.size<=la/\Z2 l (j7 r.gr x.gr) [((plc r.gr 1).toNat,r.gr.length)] b7 XI|12=>∃ AZ cZ,v= .agg #[.slice AZ (List.length XI) cZ]/\Kept la ha wv (fun wq=>NodesIn wq AZ XI)/\ca.heap.size<=la/\Z2 l (j7 r.gr x.gr) [((plc r.gr 1).toNat,r.gr.length)] b7 XI|13=>v= .bool b7|14=>∃ b,v= .pointer (some ⟨b,0,none⟩)/\ca.heap.size<=b/\Blk wv b 28 #[.slice none 0 0]/\la<=b/\b<ha|_=>True) kR kR kR kR ?_ ?_ ?_
  ·intro ix v la ha wv wv2 h hle s17
   match ix,h with
   | 0,h=>exact h
   | 1,h=>exact h
   | 2,h=>exact h
   | 3,h=>exact h
   | 4,h=>exact h
   | 5,h=>
    obtain⟨cj,d5,bj⟩:=h;exact⟨cj,d5,bj.mono s17.bel⟩
   | 6,h=>exact h
   | 7,h=>exact h
   | 8,h=>exact h
   | 9,h=>
    obtain⟨ce,d4,bi⟩:=h;exact⟨ce,d4,bi.mono s17.bel⟩
   | 10,h=>
    obtain⟨AZ,cZ,d3,an,br,bh⟩:=h;exact⟨AZ,cZ,d3,an.tr0 s17,br,bh⟩
   | 11,h=>
    obtain⟨bv,bu,bk,bw,bc,be⟩:=h;exact⟨bv,bu,bk,bw.tr0 s17,bc,be⟩
   | 12,h=>
    obtain⟨AZ,cZ,c7,an,br,bh⟩:=h;exact⟨AZ,cZ,c7,an.tr0 s17,br,bh⟩
   | 13,h=>exact h
   | 14,h=>
    obtain⟨bb,c8,a3,ab,bq,bt⟩:=h;exact⟨bb,c8,a3,ab.tr0 s17,bq,bt⟩
   | _+15,h=>exact trivial
  ·intro ix o hix a1 gg wx lo hi s18 hd bd
   match ix,hix,a1 with
   | 0,_,a1=>
    cases sI a1;refine gdA ?_;refine qk (qw U25 rfl rfl b2.u.range0 sz25) ⟨Same.refl _ _,?_⟩;exact rfl
   | 1,_,a1=>
    cases sI a1;refine gdA ?_;refine qk (jX U36 Y6 dE rfl rfl rfl) ⟨Same.refl _ _,?_⟩;exact rfl
   | 2,_,a1=>
    cases sI a1;refine gdA (zq 69 _ ((hd 1 (zj kR)).1) nu ?_);refine qk (qw U28 rfl rfl (ad.u.sub (n:=1) (xs:=[_]) rfl) Y6) ⟨Same.refl _ _,?_⟩;exact rfl
   | 3,_,a1=>
    cases sI a1;refine gdA ?_;refine qk (jX U38 Y6 dE rfl rfl rfl) ⟨Same.refl _ _,?_⟩;exact rfl
   | 4,_,a1=>
    cases sI a1;refine gdA (zq 71 _ ((hd 3 (zj kR)).1) nu ?_);refine qk (qw U28 rfl rfl (ao.u.sub (n:=1) (xs:=[_]) rfl) Y6) ⟨Same.refl _ _,?_⟩;exact rfl
   | 5,_,a1=>
    cases sI a1;refine gdA (zq 70 _ ((hd 2 (zj kR)).1) nu (zq 72 _ ((hd 4 (zj kR)).1) nu ?_));refine jq (fun ops Q K=>?_);refine qZ (cs:=#[_,_]) [(0,.agg _),(1,.agg _)] rfl Tryz.underlying98 Y6 ze28 dE dE kR rfl (fun cj w17 cy cn hr=>?_);exact K _ _ ⟨cn,⟨_,rfl,grs_two cy ((hP.g.mono hB.u).mono cn.bel) ((hGx.mono hB.u).mono cn.bel)⟩⟩
   | 6,_,a1=>
    cases sI a1;refine gdA ?_;refine qk (jX U36 Y6 dE rfl rfl rfl) ⟨Same.refl _ _,?_⟩;exact rfl
   | 7,_,a1=>
    cases sI a1;refine gdA (zq 74 _ ((hd 6 (zj kR)).1) nu ?_);refine qk (qw U28 rfl rfl (ad.u.sub (n:=1) (xs:=[_]) rfl) Y6) ⟨Same.refl _ _,?_⟩;exact rfl
   | 8,_,a1=>
    cases sI a1;refine gdA (zq 75 _ ((hd 7 (zj kR)).1) nu ?_);refine vw kR (V0 G cg r.gr 0 1 wx (hP.g.mono hB.u) h0l) rfl (fun e' w2 hr=>?_);obtain⟨rfl,s20⟩:=hr;exact⟨_,rfl,sB s20,(congrArg (Value.int .i64) hpa)⟩
   | 9,_,a1=>
    cases sI a1;refine gdA (zq 76 _ ((hd 8 (zj kR)).1) nu ?_);refine jq (fun ops Q K=>?_);refine qZ (cs:=#[_]) [(0,.int _ _)] rfl U62 qq Oy dE dE kR rfl (fun ce w18 cx s21 hr=>?_);exact K _ _ ⟨s21,⟨_,rfl,S7 (xs:=[(((plc r.gr 1).toNat:Nat):Int)]) (V6 (base:=0) (m:=1) cx (ah _) rfl dE)⟩⟩
   | 10,_,a1=>
    cases sI a1;have ba:=s18;obtain⟨cj,d5,bj⟩:=(hd 5 (zj kR)).1;obtain⟨ce,d4,bi⟩:=(hd 9 (zj kR)).1;refine gdA (zq 68 _ ((hd 0 (zj kR)).1) nu (zq 73 _ d5 nu (zq 77 _ d4 nu ?_)));replace hB:=hB.tr0 s18
    refine vw kR (joined_any (nf:=fs.length) AT AF (some ⟨cj,0,none⟩) (some ⟨ce,0,none⟩) ct cf 2 1 l fs [r.gr,x.gr] [(plc r.gr 1).toNat] wx (hTy.mono hB) bj bi hS (fun i hi=>by
       match i,hi with
       | 0,_=>exact hJ.v.gx.toGY
       | 1,_=>exact c2.gx.toGY) (fun i hi=>by
       match i,hi with
       | 0,_=>exact O7 hJ.v.gok
       | 1,_=>exact O7 c2.gok) (by have:=hJ.v.few;omega) (by show 2<=1000000;decide) (by rw[va2,NJ];have:=hJ.v.gok.le;have:=c2.gok.le;omega) (by show 0<2;decide) (by show 1<2;decide) (fun k hk=>by
       match k,hk with
       | 0,_=>exact hjl)) rfl (fun e' w2 hr=>?_)
    obtain⟨⟨A9,X9,c9,ok9,rfl,c3,hI9⟩,s22⟩:=hr;exact⟨_,rfl,sB s22,(by obtain⟨e1,e2,e3⟩:=cw ok9 X9 (va2_is hI9);subst e1 e2;exact⟨A9,c9,rfl,Iy c3,ba.size,e3⟩)⟩
   | 11,_,a1=>
    cases sI a1;obtain⟨AZ,cZ,d3,an,br,bh⟩:=(hd 10 (zj kR)).1;refine gdA (zq 78 _ d3 nu ?_);refine qk (x6 (v:= .tuple _) rfl) ⟨Same.refl _ _,?_⟩;exact⟨_,_,rfl,an,br,bh⟩
   | 12,_,a1=>
    cases sI a1;obtain⟨bv,bu,bk,bw,bc,be⟩:=(hd 11 (zj kR)).1;refine gdA (zq 67 _ bk nu ?_);refine qk (yW (v:=_) rfl rfl) ⟨Same.refl _ _,?_⟩;exact⟨_,_,rfl,bw,bc,be⟩
   | 13,_,a1=>
    cases sI a1;obtain⟨bv,bu,bk,bw,bc,be⟩:=(hd 11 (zj kR)).1;refine gdA (zq 67 _ bk nu ?_);refine qk (yW (v:=_) rfl rfl) ⟨Same.refl _ _,?_⟩;exact rfl
   | 14,_,a1=>
    cases sI a1;have ba:=s18;refine gdA ?_;refine jq (fun ops Q K=>?_);refine qQ (cs:=#[.slice none 0 0]) ze28 rfl (fun bb w19 ab s23 hr=>?_);exact K _ _ ⟨s23,⟨_,rfl,nLT ba.size hr,ab,hr,ab.lt⟩⟩
   | _+15,hix,_=>exact absurd hix oG
  refine⟨?_,?_,trivial⟩
  ·intro _ gg w20 lo hi s24 hR bd;obtain⟨bv,bu,bk,bw,bc,be⟩:=(hR 11 dE dE).1;obtain⟨AZ,cZ,c7,an,br,bh⟩:=(hR 12 dE dE).1;have an:Kept (lo 10) (hi 10) w20 _:=an;have br:_<=lo 10:=br;have e80:gg 80= .bool b7:=(hR 13 dE dE).1;obtain⟨bb,c8,a3,ab,bq,bt⟩:=(hR 14 dE dE).1;have bq:lo 14<=bb:=bq;have bt:bb<hi 14:=bt;have bf:(hi 10)<=(lo 14)\/(hi 14)<=(lo 10):=bd 10 14 dE dE dE dE dE;have:=nLL z3 a3;have:=nLL z4 a3;have:=nLL z5 a3;have:=nLL z6 a3;have:=nLL z9 a3;have:=nLL z47 a3;replace a3:=nLT hsz a3;refine yz 67 (.tuple #[.agg #[.slice bv (List.length XI) bu],.bool b7]) bk nu (yz 79 (.agg #[.slice AZ (List.length XI) cZ]) c7 nu (yz 80 (.bool b7) e80 nu (yz 10 (.pointer (some ⟨bb,0,none⟩)) c8 nu (IZ (k':=2) kR (Dz (listed':=#[true,true,true,true,true,true,true,true,true,true,true,true,true,true,true,false,false]) kR ?_)))));refine X8 [15] kR rfl ⟨fun o a1=>?_,trivial⟩;cases sI a1;refine zV ab (fun w21 hq s25=>?_);replace ab:=hq;refine qY (e_A (listed':=#[true,true,true,true,true,true,true,true,true,true,true,true,true,true,true,true,false]) (by rfl) (Ov 16 rfl (fun _=>oz (v:= .bool _) rfl) (Dj kR ?_)));refine e_R ⟨agA,?_⟩;replace an:=an.tr1 s25 oG;exact⟨bb,AZ,cZ,_,_,rfl,rfl,hB.u,a8.u,a9.u,a2.u,ab,an,⟨by omega,by omega,by omega,by omega,by omega⟩,bh⟩
  intro _ gg w22 lo hi s26 hR bd;obtain⟨bv,bu,bk,bw,bc,be⟩:=(hR 11 dE dE).1;obtain⟨AZ,cZ,c7,an,br,bh⟩:=(hR 12 dE dE).1;have an:Kept (lo 10) (hi 10) w22 _:=an;have br:_<=lo 10:=br;obtain⟨bb,c8,a3,ab,bq,bt⟩:=(hR 14 dE dE).1;have bq:lo 14<=bb:=bq;have bt:bb<hi 14:=bt;have bf:(hi 10)<=(lo 14)\/(hi 14)<=(lo 10):=bd 10 14 dE dE dE dE dE;have:=nLL z3 a3;have:=nLL z4 a3;have:=nLL z5 a3;have:=nLL z6 a3;have:=nLL z9 a3;have:=nLL z47 a3;replace a3:=nLT hsz a3;refine yz 67 (.tuple #[.agg #[.slice bv (List.length XI) bu],.bool b7]) bk nu (yz 79 (.agg #[.slice AZ (List.length XI) cZ]) c7 nu (yz 10 (.pointer (some ⟨bb,0,none⟩)) c8 nu (IZ (k':=3) kR (Dz (listed':=#[true,true,true,true,true,true,true,true,true,true,true,true,true,false,true,false,false]) kR (Ov 13 rfl (fun _=>yW (v:=_) rfl rfl) ?_)))));refine X8 [15] kR rfl ⟨fun o a1=>?_,trivial⟩;cases sI a1;refine zV ab (fun w23 hq s27=>?_);replace ab:=hq;refine qY (e_A (listed':=#[true,true,true,true,true,true,true,true,true,true,true,true,true,true,true,true,false]) (by rfl) (Ov 16 rfl (fun _=>oz (v:= .bool _) rfl) (Dj kR ?_)));refine e_R ⟨agA,?_⟩;replace an:=an.tr1 s27 oG;exact⟨bb,AZ,cZ,_,_,rfl,rfl,hB.u,a8.u,a9.u,a2.u,ab,an,⟨by omega,by omega,by omega,by omega,by omega⟩,bh⟩
 obtain⟨bb,AZ,cZ,lz,hz,h10,h11,hB,a8,a9,a2,ab,an,⟨hn6,hn9,hn47,hn6z,hn9z⟩,bh⟩:=hI;refine vZ 10 _ h10 nu (vZ 11 _ h11 nu (zn3 ?_));refine xj (rg [] 81 8) 88 (.bool (decide (b7=false\/60<XI.length))) nu ?_ (fun gq=>?_)
 ·refine zn4 ?_;refine uv 83 rfl (fun c4=>?_) (fun c4=>?_)
  ·refine zn5 ?_;refine gk ?_
   first
    | exact ag (aj (Or.inl (by simpa using c4))).symm
    | (have h5:b7=true:=by simpa using c4
       exact ag (am.2 ⟨fun h=> .inr oG,fun h=>by
         rcases h with h|h
         · rw[h5]at h;cases h
         · omega⟩))
  refine zn9 ?_;refine gk ?_
  first
   | exact ag (aj (Or.inl (by simpa using c4))).symm
   | (have h5:b7=true:=by simpa using c4
      exact ag (am.2 ⟨fun h=> .inr oG,fun h=>by
        rcases h with h|h
        · rw[h5]at h;cases h
        · omega⟩))
 refine e_S ?_;refine zZ rfl (fun cd=>?_) (fun cd=>?_)
 ·have hbu:BadU l (j7 r.gr x.gr) [((plc r.gr 1).toNat,r.gr.length)]:=by
    rcases bh with ⟨e,h⟩|⟨_,_,h⟩
    · rcases cd with k|k
      · rw[e]at k;cases k
      · exact .inr ⟨XI,h,k⟩
    · exact .inl h
  refine zn2 ?_;refine jW (cs:=cE) ?_;refine zV a8 (fun w24 hq s28=>?_);replace a8:=hq;refine zn5 ?_;refine uK (.inl rfl) rfl (zX U38 rfl rfl a8.range0 u7) rfl ?_;exact⟨⟨false,[],lx0,none,none,none,0,0,0,rfl,rfl,⟨ov _ none,.nil,.nil⟩,Pw (.inr (join_no hbu))⟩,hB.u⟩
 have hok:b7=true:=by
   cases h:b7 with
   | true=>rfl
   | false=>exact absurd (.inl h) cd
 have h60:XI.length<=60:=Nat.not_lt.1 (fun h=>cd (.inr h));have hU3:YY l (j7 r.gr x.gr) [((plc r.gr 1).toNat,r.gr.length)] XI:=(bh.resolve_right (fun k=>by rw[hok]at k;cases k.1)).2;have bx:Jok l fs 1 XI:=hJ.step c2 dE dE hU3 h60;have c1:=bx.lt (aP _) dE;have cz:=bx.v.gx.pos;obtain⟨oM,hoM⟩:=bx.v.gx.toGY.dl c1;have cu:=H0 bx (aP _) dE;refine zn3 ?_;have z6:=a8.lt;have z9:=a9.lt;have hszV:=Bel.size hB;refine gY [] [5] [0,1,2,3,4,5] rfl (fun w25 c0=>?_);have ba:=c0;refine zn2 ?_;replace an:=an.tr0 c0;refine hcl (fun v wv=>v= .int .i64 (((plc XI 0).toNat:Nat):Int)) rfl kR (V0 AZ cZ XI 0 0 w25 an.now cz) rfl (fun e' w2 hr=>?_) (fun v92 w26 bz d92=>?_)
 ·obtain⟨rfl,s31⟩:=hr;exact⟨_,rfl,sB s31,(congrArg (Value.int .i64) cu)⟩
 have e92:=d92;subst e92;replace an:=an.tr0 bz;refine hcl (fun v wv=>∃ A9 c9 co hz9,v= .agg #[.slice A9 oM.length c9]/\Kept co hz9 wv (fun wq=>NodesIn wq A9 (yq XI oM))/\w16.heap.size<=co) rfl kR (BQ AZ cZ fs.length XI (plc XI 0).toNat w26 an.now bx.v.gok.two (by have:=bx.v.few;omega) c1) rfl (fun e' w2 hr=>?_) (fun v93 w27 cm d93=>?_)
 ·obtain⟨⟨o9,A9,c9,hd9,_,rfl,hNn⟩,s33⟩:=hr;replace ba:=ba.t bz;exact⟨_,rfl,sB s33,(by obtain rfl:=DL.det hd9 hoM;exact⟨A9,c9,_,_,rfl,Iy hNn,ba.size⟩)⟩
 obtain⟨A9,c9,co,hz9,e93,c3,hlz9⟩:=d93;subst e93;refine zn1 ?_;refine h1 rfl ?_;replace a9:=a9.tr0 (c0.t (bz.t cm));refine Jj a9 rfl rfl Y6 (by first|decide|simp) xW rfl (fun w28 hq cc=>?_);have hsH5:=cc;replace a9:=hq;refine qY (O9 [] (zn5 ?_));refine zV a8.u (fun w29 hq ck=>?_);replace a8:=hq;refine zn4 ?_;refine uK (.inl rfl) rfl (zX U38 rfl rfl a8.range0 u7) rfl ?_;replace hB:=((hB.tr0 (c0.t (bz.t cm))).tr1 cc bg).tr1 ck lo6;replace a2:=((a2.tr0 (c0.t (bz.t cm))).tr1 cc oG).tr1 ck oG;replace c3:=(c3.tr1 cc oG).tr1 ck oG;exact⟨⟨true,yq XI oM,⟨wdL r x,yq XI oM,x.wt+r.wt,u4 r.mean x.mean⟩,A9,none,some ⟨a5,0,none⟩,c9,0,2,congrArg (fun n=>Ending.returned (.tuple #[.agg #[.string (wdL r x),.slice A9 n c9,.int .i64 (x.wt+r.wt),.int .i64 4,.string ⟨#[]⟩,.int .i64 0,.string ⟨#[]⟩,.slice none 0 0,.slice (some ⟨a5,0,none⟩) 2 2],.bool true])) (by rw[uQ]),rfl,⟨c3.now,.nil,(DV a2 (hP.s.mono hB) (hP.t.mono hB) (hSx.mono hB) (hTx.mono hB))⟩,lrs_yes hwd cq (.inl ⟨XI,hU3,h60,rfl,oM,hoM,rfl⟩)⟩,hB⟩
theorem E0:(prog.info? 31).map (·.size)=some 2:=by kernel_rfl
set_option maxRecDepth 100000 in
set_option maxHeartbeats 2000000 in
theorem ssm_step{s:Sm}{A1 A2:Option Addr}{c1 c2:Nat}(hK:s.args.length<=1000)(h1:SimsIn w A1 s.args)(h2:SimsIn w A2 s.args)(IH:∀ x∈s.args,∀(A1 A2:Option Addr) (c1 c2:Nat) (w:World),SimsIn w A1 x.args->SimsIn w A2 x.args->Calls prog 67 #[.agg (cK (x) A1 c1),.agg (cK (x) A2 c2)] w fun e w'=>e= .returned (.bool true)/\Bel w w'):Calls prog 67 #[.agg (cK (s) A1 c1),.agg (cK (s) A2 c2)] w fun e w'=>e= .returned (.bool true)/\Bel w w':=by
 refine enT func67 ntmps67 rfl rfl fun hB=>?_;refine zn2 ?_;refine qv (cs:=#[_,_]) rfl (fun b2 w1 a3 s1 hr=>?_);refine qv (cs:=#[_,_]) rfl (fun b3 w2 a2 s2 hr=>?_);refine vJ ?_;refine wl (x6 (v:= .bool false) (ag (ap (fun h=>h rfl)))) (Nk ?_);refine zZ rfl (fun c19=>?_) (fun c19=>?_)
 ·exact absurd rfl c19
 refine yZ ?_;refine qz (rg [4,5] 23 16) (fun m g w'=>∃ j:Nat,j<=s.args.length/\m=s.args.length-j/\g 23= .int .i64 j/\Bel w w'/\Blk w' b2 31 (cK s A1 c1)/\Blk w' b3 31 (cK s A2 c2)) (s.args.length) ?_ (fun m g4 w3 hI=>?_)
 ·exact⟨0,ah _,rfl,rfl,hB.u,a3.u,a2⟩
 obtain⟨j,hj,hmj,h23,hB,a3,a2⟩:=hI;refine zQ 23 _ h23 nu (zn6 ?_);refine zZ rfl (fun c24=>?_) (fun c24=>?_)
 ·have a1:j<s.args.length:=by omega
  obtain⟨sb,so,A3,c3,rfl,hsb,hr3,hs3⟩:=h1.at_ a1;obtain⟨tb,to,A4,c4,rfl,htb,hr4,hs4⟩:=h2.at_ a1;refine vJ ?_;refine Qz 10 kR kR (fun w4 s3=>?_);refine zn3 ?_;refine ws (x7 (i:=j) U29 E0 rfl rfl a1 rfl) (zn4 ?_);refine ws (x7 (i:=j) U29 E0 rfl rfl a1 rfl) (zn1 ?_);refine Q4 ?_;refine a7 kR (IH _ (aq a1) A3 A4 c3 c4 _ (hs3.mono hB.u) (hs4.mono hB.u)) rfl (fun w5 s4=>?_);refine zn3 ?_;refine jv rfl (fun c37=>?_) (fun c37=>?_)
  ·exact absurd c37 dE
  refine zn7 ?_;refine x9 (s.args.length-(j+1)) oG agA ?_;exact⟨j+1,by omega,rfl,rfl,hB.u,a3.u,a2.u⟩
 refine yZ ?_;exact⟨rfl,hB⟩
theorem ssm_any{s:Sm}(h:SmK s):∀(A1 A2:Option Addr) (c1 c2:Nat) (w:World),SimsIn w A1 s.args->SimsIn w A2 s.args->Calls prog 67 #[.agg (cK (s) A1 c1),.agg (cK (s) A2 c2)] w fun e w'=>e= .returned (.bool true)/\Bel w w':=by
 induction h with
 | mk hl _ ih=>exact fun A1 A2 c1 c2 w h1 h2=>ssm_step hl h1 h2 (fun x hx A1 A2 c1 c2 w h3 h4=>ih x hx A1 A2 c1 c2 w h3 h4)
theorem NY:(prog.info? 34).map (·.size)=some 6:=by kernel_rfl
set_option maxRecDepth 100000 in
set_option maxHeartbeats 2000000 in
theorem stm_step{t:Tm}{S1 S2 B1 B2:Option Addr}{s1 s2 c1 c2:Nat}(hK:t.args.length<=1000)(hKt:SmK t.type)(hS1:SimsIn w S1 t.type.args)(hS2:SimsIn w S2 t.type.args)(hT1:TmsIn w B1 t.args)(hT2:TmsIn w B2 t.args)(IH:∀ x∈t.args,∀(S1 S2 B1 B2:Option Addr) (s1 s2 c1 c2:Nat) (w:World),SimsIn w S1 x.type.args->SimsIn w S2 x.type.args->TmsIn w B1 x.args->TmsIn w B2 x.args->Calls prog 41 #[.agg (cD (x) S1 s1 B1 c1),.agg (cD (x) S2 s2 B2 c2)] w fun e w'=>e= .returned (.bool true)/\Bel w w'):Calls prog 41 #[.agg (cD (t) S1 s1 B1 c1),.agg (cD (t) S2 s2 B2 c2)] w fun e w'=>e= .returned (.bool true)/\Bel w w':=by
 refine enT func41 ntmps41 rfl rfl fun hB=>?_;refine zn2 ?_;refine qv (cs:=#[_,_,_,_,_,_]) rfl (fun b2 w1 a3 t1 hr=>?_);refine qv (cs:=#[_,_,_,_,_,_]) rfl (fun b3 w2 a2 t2 hr=>?_);refine vJ ?_;refine wl (x6 (v:= .bool false) (ag (ap (fun h=>h rfl)))) (vJ ?_);refine wl (x6 (v:= .bool false) (ag (ap (fun h=>h rfl)))) (vJ ?_);refine wl (x6 (v:= .bool false) (ag (ap (fun h=>h rfl)))) (zn3 ?_);refine wl (qw U31 rfl rfl (a3.u.sub (n:=2) (xs:=[_,_]) rfl) E0) (zn3 ?_);refine wl (qw U31 rfl rfl (a2.sub (n:=2) (xs:=[_,_]) rfl) E0) (zn1 ?_);refine zW kR (ssm_any hKt S1 S2 s1 s2 _ (hS1.mono hB.u) (hS2.mono hB.u)) rfl (fun e' w3 hr=>?_);obtain⟨rfl,t3⟩:=hr;replace t3:=sB t3;refine⟨_,rfl,?_⟩;refine zn3 ?_;refine wl (x6 (v:= .bool false) rfl) (Nk ?_);refine zZ rfl (fun c41=>?_) (fun c41=>?_)
 ·exact absurd rfl c41
 refine yZ ?_;refine qz (rg [4,5] 45 16) (fun m g w'=>∃ j:Nat,j<=t.args.length/\m=t.args.length-j/\g 45= .int .i64 j/\Bel w w'/\Blk w' b2 34 (cD (t) S1 s1 B1 c1)/\Blk w' b3 34 (cD (t) S2 s2 B2 c2)) (t.args.length) ?_ (fun m g4 w4 hI=>?_)
 ·exact⟨0,ah _,rfl,rfl,hB.u,a3.u,a2.u⟩
 obtain⟨j,hj,hmj,h45,hB,a3,a2⟩:=hI;refine zQ 45 _ h45 nu (zn6 ?_);refine zZ rfl (fun c46=>?_) (fun c46=>?_)
 ·have a1:j<t.args.length:=by omega
  obtain⟨sb,so,S3,s3,B3,c3,rfl,hsb,hr3,hs3,ht3⟩:=hT1.at_ a1;obtain⟨tb,to,S4,s4,B4,c4,rfl,htb,hr4,hs4,ht4⟩:=hT2.at_ a1;refine vJ ?_;refine Qz 10 kR kR (fun w5 t4=>?_);refine zn3 ?_;refine ws (x7 (i:=j) U32 NY rfl rfl a1 rfl) (zn4 ?_);refine ws (x7 (i:=j) U32 NY rfl rfl a1 rfl) (zn1 ?_);refine Q4 ?_;refine zW kR (IH _ (aq a1) S3 S4 B3 B4 s3 s4 c3 c4 _ (hs3.mono hB.u) (hs4.mono hB.u) (ht3.mono hB.u) (ht4.mono hB.u)) rfl (fun e' w6 hr=>?_);obtain⟨rfl,t5⟩:=hr;replace t5:=sB t5;refine⟨_,rfl,?_⟩;refine zn3 ?_;refine jv rfl (fun c59=>?_) (fun c59=>?_)
  ·exact absurd c59 dE
  refine zn7 ?_;refine x9 (t.args.length-(j+1)) oG agA ?_;exact⟨j+1,by omega,rfl,rfl,hB.u,a3.u,a2.u⟩
 refine yZ ?_;exact⟨rfl,hB⟩
theorem stm_any{x:Tm}(h:TmK x):∀(S1 S2 B1 B2:Option Addr) (s1 s2 c1 c2:Nat) (w:World),SimsIn w S1 x.type.args->SimsIn w S2 x.type.args->TmsIn w B1 x.args->TmsIn w B2 x.args->Calls prog 41 #[.agg (cD (x) S1 s1 B1 c1),.agg (cD (x) S2 s2 B2 c2)] w fun e w'=>e= .returned (.bool true)/\Bel w w':=by
 induction h with
 | mk hs hl _ ih=>exact fun S1 S2 B1 B2 s1 s2 c1 c2 w h1 h2 h3 h4=>stm_step hl hs h1 h2 h3 h4 (fun x hx=>ih x hx)
theorem Sq(A B:Option Addr)(n m c d:Nat)(ga gb:List Nd)(b:Bool)(w:World)(hA:NodesIn w A ga)(hBn:NodesIn w B gb)(ha:ga.length=n)(hb:gb.length=m)(he:decide (ga=gb)=b):Calls Tryz.prog 7 #[.agg #[.slice A n c],.agg #[.slice B m d]] w fun e w'=>e= .returned (.bool b)/\Bel w w':=by
 subst ha hb;have h:=nodes_any A B c d ga gb w hA hBn;rw[he]at h;exact h
set_option maxRecDepth 100000 in
set_option maxHeartbeats 2000000 in
theorem lexq_any(x:Lx)(G1 G2 S1 S2 B1 B2:Option Addr)(g1 g2 s1 s2 c1 c2:Nat)(w:World)(hK:TmK x.mean)(hG1:NodesIn w G1 (x).gr)(hS1:SimsIn w S1 (x).mean.type.args)(hT1:TmsIn w B1 (x).mean.args)(hG2:NodesIn w G2 (x).gr)(hS2:SimsIn w S2 (x).mean.type.args)(hT2:TmsIn w B2 (x).mean.args):Calls Tryz.prog 13 #[.agg (cA (x) G1 g1 ((x).mean) S1 s1 B1 c1),.agg (cA (x) G2 g2 ((x).mean) S2 s2 B2 c2)] w fun e w'=>e= .returned (.bool true)/\Bel w w':=by
 refine enT Tryz.func13 Tryz.ntmps13 rfl rfl fun hB=>?_;refine zn2 ?_;refine qv (cs:=#[_,_,_,_,_,_,_,_,_]) rfl (fun b2 w1 hb2 t1 hr=>?_);refine qv (cs:=#[_,_,_,_,_,_,_,_,_]) rfl (fun b3 w2 hb3 t2 hr=>?_);refine yj ?_;refine wl (x6 (v:= .bool true) (ag (aj rfl))) (vJ ?_);refine wl (x6 (v:= .bool true) (ag (aj rfl))) (zn3 ?_);refine wl (qw U28 rfl rfl (hb2.u.sub (n:=1) (xs:=[_]) rfl) Y6) (zn3 ?_);refine wl (qw U28 rfl rfl (hb3.sub (n:=1) (xs:=[_]) rfl) Y6) (zn1 ?_);refine zW kR (Sq G1 G2 _ _ g1 g2 x.gr x.gr true _ (hG1.mono hB.u) (hG2.mono hB.u) rfl rfl (aj rfl)) rfl (fun e' w3 hr=>?_);obtain⟨rfl,t3⟩:=hr;replace t3:=sB t3;refine⟨_,rfl,?_⟩;refine zn1 ?_;refine wl (x6 (v:= .bool true) rfl) (zn3 ?_);refine wl (qw U34 rfl rfl (hb2.u.sub (n:=6) (xs:=[_,_,_,_,_,_]) rfl) NY) (zn3 ?_);refine wl (qw U34 rfl rfl (hb3.u.sub (n:=6) (xs:=[_,_,_,_,_,_]) rfl) NY) (zn1 ?_);refine zW kR (stm_any hK S1 S2 B1 B2 s1 s2 c1 c2 _ (hS1.mono hB.u) (hS2.mono hB.u) (hT1.mono hB.u) (hT2.mono hB.u)) rfl (fun e' w4 hr=>?_);obtain⟨rfl,t4⟩:=hr;replace t4:=sB t4;refine⟨_,rfl,?_⟩;refine zn6 ?_;exact⟨rfl,hB.u⟩
def StrsD(w:World)(A:Option Addr)(ss:List ByteArray):Prop:=
 ss≠[]->∃ b o,A=some ⟨b,o,none⟩/\b<w.heap.size/\∀ k (h:k<ss.length),w.cell? ⟨b,o+k*1,none⟩=some (.string ss[k])
theorem StrsD.at_{w':World}{ss:List ByteArray}(h:StrsD w A ss)(hb:Bel w w')(hk:k<ss.length):
  ∃ b o,A=some ⟨b,o,none⟩/\w'.cell? ⟨b,o+k*1,none⟩=some (.string ss[k]):=by
 obtain⟨b,o,e,hl,hc⟩:=h (by rintro rfl;simp at hk);exact⟨b,o,e,hb.cell hl (hc k hk)⟩
def PK(ns:List ByteArray)(ps:List Int)(i:Nat):Ty:=⟨ns.getD i ⟨#[]⟩,if 0<i then [ps.getD i 0]else []⟩
def Kk(ns:List ByteArray)(ps:List Int)(k:Nat):List Ty:=(List.range k).map (PK ns ps)
theorem SQ(ns:List ByteArray)(ps:List Int)(k:Nat):Kk ns ps (k+1)=Kk ns ps k++[PK ns ps k]:=by
 grind[Kk,List.range_succ]
theorem hierAt_zero(hk:k<ns.length)(h:¬0<k):PK ns ps k=⟨ns[k],[]⟩:=by
 simp[PK,h,List.getD,List.getElem?_eq_getElem hk]
theorem hierAt_pos(hk:k<ns.length)(hk2:k<ps.length)(h:0<k):PK ns ps k=⟨ns[k],[ps[k]]⟩:=by
 simp[PK,h,List.getD,List.getElem?_eq_getElem hk,List.getElem?_eq_getElem hk2]
def TS2:List Nat:=102::25::TS
inductive TyData(w:World):List Ty->List Value->Prop
 | nil:TyData w [] []
 | snoc {l:List Ty} {vs:List Value} {x:Ty} {A:Option Addr} {c:Nat} (h:TyData w l vs) (hp:IntsIn w A x.par):TyData w (l++[x]) (vs++[.string x.name,.slice A x.par.length c])
theorem TyData.len(h:TyData w l vs):vs.length=l.length*2:=by
 induction h with
 | nil=>rfl
 | snoc h hl ih=>simp only[List.length_append,List.length_cons,List.length_nil,ih];omega
theorem TyData.get(h:TyData w l vs):∀ k (hk:k<l.length),∃ A c,vs[k*2]? =some (.string (l[k]).name)/\vs[k*2+1]? =some (.slice A (l[k]).par.length c)/\IntsIn w A (l[k]).par:=by
 induction h with
 | nil=>intro k hk;simp at hk
 | @snoc l cs t A c h hp ih=>
  intro k hk;have hlen:=h.len;by_cases e:k<l.length
  ·grind
  ·simp only[List.length_append,List.length_cons,List.length_nil]at hk
   have ek:k=l.length:=by omega
   subst ek;have eg:(l++[t])[l.length]'(by simp)=t:=by simp
   rw[eg];refine⟨A,c,?_,?_,hp⟩
   ·grind
   ·grind
theorem gof_types{B:Nat}(ho:Own w B 102 2 A k cap cs)(ht:TyData w l cs):TypesIn w A l:=by
 have hlk:l.length=k:=by have h1:=ho.len;have h2:=ht.len;omega
 refine⟨by rw[hlk];exact ho.max,fun hn=>?_⟩
 obtain⟨g,e,hb,hg,hc⟩:=ho.cell (by
  intro h0;have:=ht.len;rw[h0]at this;cases l with
  | nil=>exact hn rfl
  | cons a r=>simp only[List.length_nil,List.length_cons]at this;omega)
 refine⟨g,0,e,hg,fun j hj=>?_⟩;obtain⟨A',c,h1,h2,h3⟩:=ht.get j hj;refine⟨A',c,?_,h3⟩;intro i v hi
 match i,hi with
 | 0,hi=>cases hi;have:=hc _ _ h1;simpa using this
 | 1,hi=>cases hi;have:=hc _ _ h2;simpa using this
 | _+2,hi=>cases hi
theorem hof_end{B:Nat}(ho:Own w B 102 2 A k cap cs)(ht:Fz [] n TS2 w (fun w=>TyData w l cs)):Fz [] w.heap.size TS w (fun w=>TypesIn w A l):=
 ((ho.fz (ts:=TS) (Px dE dE dE)).and ((ht.up).sub dE)).imp (fun _ h=>gof_types h.1 h.2)
theorem hof_zero(h:Fz [] n TS2 w (fun w=>TyData w (Kk ns ps k) cs))(hk:k<ns.length)(h0:¬0<k):Fz [] w.heap.size TS2 w (fun w=>TyData w (Kk ns ps (k+1)) (cs++[.string ns[k],.slice none 0 0])):=by
 rw[SQ,hierAt_zero hk h0];exact h.up.imp (fun _ h=> .snoc (x:=⟨ns[k],[]⟩) h ⟨ah _,fun h=>absurd rfl h⟩)
theorem hof_pos(h:Fz [] n TS2 w (fun w=>TyData w (Kk ns ps k) cs))(hk:k<ns.length)(hk2:k<ps.length)(h0:0<k)(hb:Blk w b 3 #[.int .i64 ps[k]]):Fz [] w.heap.size TS2 w (fun w=>TyData w (Kk ns ps (k+1)) (cs++[.string ns[k],.slice (some ⟨b,0,none⟩) 1 1])):=by
 rw[SQ,hierAt_pos hk hk2 h0]
 exact(h.and (Fz.blk (X:=[]) hb (by simp) (Px dE dE dE _))).imp (fun _ h=> .snoc (x:=⟨ns[k],[ps[k]]⟩) h.1 ⟨by show 1<=vX;decide,fun _=>⟨b,0,rfl,h.2.lt,fun j hj=>by
  have:j=0:=by simp at hj;omega
  subst this
  exact h.2.cell rfl⟩⟩)
section
abbrev cO:Array Value:=#[.slice none 0 0,.slice none 0 0,.slice none 0 0,.slice none 0 0,.slice none 0 0]
inductive RlCs(w:World):List Rl->List Value->Prop
 | nil:RlCs w [] []
 | cons {r:Rl} {G S B:Option Addr} {gn cg cs cb:Nat} {l:List Rl} {vs:List Value} (hn:gn=r.gr.length) (hG:NodesIn w G r.gr) (hS:SimsIn w S r.mean.type.args) (hT:TmsIn w B r.mean.args) (t:RlCs w l vs):RlCs w (r::l) (.string r.name:: .slice G gn cg:: .int .i64 r.kids:: .int .i64 r.wt:: .int .i64 r.mean.kind:: .string r.mean.name:: .int .i64 r.mean.index:: .string r.mean.type.base:: .slice S r.mean.type.args.length cs:: .slice B r.mean.args.length cb::vs)
def rlC(r:Rl)(G S B:Option Addr)(cg cs cb:Nat):List Value:=[.string r.name,.slice G r.gr.length cg,.int .i64 r.kids,.int .i64 r.wt,.int .i64 r.mean.kind,.string r.mean.name,.int .i64 r.mean.index,.string r.mean.type.base,.slice S r.mean.type.args.length cs,.slice B r.mean.args.length cb]
theorem RlCs.len{l:List Rl}(h:RlCs w l vs):vs.length=l.length*10:=by
 induction h with
 | nil=>rfl
 | cons _ _ _ _ _ ih=>simp only[List.length_cons,ih];omega
theorem RlCs.get{l:List Rl}(h:RlCs w l vs):∀ k (hk:k<l.length),∃ G cg S cs B cb,(∀ j v,(rlC (l[k]) G S B cg cs cb)[j]? =some v->vs[k*10+j]? =some v)/\NodesIn w G (l[k]).gr/\SimsIn w S (l[k]).mean.type.args/\TmsIn w B (l[k]).mean.args:=by
 induction h with
 | nil=>intro k hk;simp at hk
 | @cons r G S B gn cg cs cb l vs hn hG hS hT t ih=>
  intro k hk
  match k,hk with
  | 0,_=>
   subst hn;refine⟨G,cg,S,cs,B,cb,fun j v hj=>?_,hG,hS,hT⟩
   match j,hj with
   | 0,hj=>exact hj
   | 1,hj=>exact hj
   | 2,hj=>exact hj
   | 3,hj=>exact hj
   | 4,hj=>exact hj
   | 5,hj=>exact hj
   | 6,hj=>exact hj
   | 7,hj=>exact hj
   | 8,hj=>exact hj
   | 9,hj=>exact hj
   | _+10,hj=>cases hj
  | k+1,hk=>
   obtain⟨G',cg',S',cs',B',cb',h1,h2⟩:=ih k (by simpa using hk);refine⟨G',cg',S',cs',B',cb',fun j v hj=>?_,h2⟩;rw[show (k+1)*10+j=k*10+j+10 by omega];exact h1 j v hj
theorem RlCs.rules{l:List Rl}(h:RlCs w l vs)(hb:Blk w b t vs.toArray)(hl:l.length<=vX):RulesIn w (some ⟨b,0,none⟩) l:=
 ⟨hl,fun _=>⟨b,0,rfl,hb.lt,fun k hk=>by
  obtain⟨G,cg,S,cs,B,cb,h1,h2⟩:=h.get k hk
  exact⟨G,cg,S,cs,B,cb,IX hb (fun j v hj=>by rw[List.getElem?_toArray,Nat.zero_add];exact h1 j v hj),h2⟩⟩⟩
theorem GK(xs:List ByteArray)(h:Blk w b t (xs.map Value.string).toArray):StrsD w (some ⟨b,0,none⟩) xs:=
 fun _=>⟨b,0,rfl,h.lt,fun k hk=>h.cell (by simp[hk])⟩
def RowV(w:World)(r:List Int)(v:Value):Prop:=∃ A c,v= .slice A r.length c/\IntsIn w A r/\0<r.length/\r.length<=1000
inductive RowVs(w:World):List (List Int)->List Value->Prop
 | nil:RowVs w [] []
 | cons {r:List Int} {rs:List (List Int)} {v:Value} {vs:List Value} (h:RowV w r v) (t:RowVs w rs vs):RowVs w (r::rs) (v::vs)
theorem RowVs.pos{rs:List (List Int)}(h:RowVs w rs vs):∀ r∈rs,0<r.length/\r.length<=1000:=by
 induction h with
 | nil=>intro r hr;cases hr
 | cons h _ ih=>
  intro r hr;rcases av.1 hr with rfl|hr
  ·obtain⟨_,_,_,_,h3,h4⟩:=h;exact⟨h3,h4⟩
  ·exact ih r hr
theorem RowVs.get{rs:List (List Int)}(h:RowVs w rs vs):∀ k (hk:k<rs.length),∃ A c,vs[k]? =some (.slice A (rs[k]).length c)/\IntsIn w A rs[k]:=by
 induction h with
 | nil=>intro k hk;simp at hk
 | cons h _ ih=>
  intro k hk
  match k,hk with
  | 0,_=>obtain⟨A,c,h1,h2,_⟩:=h;exact⟨A,c,by rw[h1];rfl,h2⟩
  | k+1,hk=>exact ih k (by simpa using hk)
theorem xz{rs:List (List Int)}(h:Blk w b t vs.toArray)(hr:RowVs w rs vs)(hl:rs.length<=1000):RowsIn w (some ⟨b,0,none⟩) rs:=
 ⟨hl,hr.pos,fun _=>⟨b,0,rfl,h.lt,fun k hk=>by
  obtain⟨A,c,h1,h2⟩:=hr.get k hk
  exact⟨A,c,h.cell (by simpa using h1),h2⟩⟩⟩
def kidsAt:Nat->Int->List Rl->List Rl
 | _,_,[]=>[]
 | 0,z,r::l=>⟨r.name,r.gr,z,r.wt,r.mean⟩::l
 | k+1,z,r::l=>r::kidsAt k z l
theorem RlCs.kids{l:List Rl}(h:RlCs w l vs)(z:Int):∀ k,k<l.length->RlCs w (kidsAt k z l) (vs.set (k*10+2) (.int .i64 z)):=by
 induction h with
 | nil=>intro k hk;simp at hk
 | @cons r G S B gn cg cs cb l vs hn hG hS hT t ih=>
  intro k hk
  match k,hk with
  | 0,_=>exact .cons (r:=⟨r.name,r.gr,z,r.wt,r.mean⟩) hn hG hS hT t
  | k+1,hk=>
   rw[show (k+1)*10+2=k*10+2+10 by omega];exact .cons hn hG hS hT (ih k (by simpa using hk))
def GmD(T:List Ty)(F:List Ft)(R:List Rl)(L:List Lx)(S:List Nd)(w0 w:World)(v:Value):Prop:=
 ∃ At ct Bf cf br cells A cap AS cst n,v= .agg #[.slice At T.length ct,.slice Bf F.length cf,.slice (some ⟨br,0,none⟩) R.length R.length,.slice A L.length cap,.slice AS S.length cst]/\w0.heap.size<=br/\L.length<=cap/\Blk w br 68 cells/\Fz [] n [68] w (fun w=>TypesIn w At T/\FeatsIn w Bf F/\RlCs w R cells.toList/\LexesIn w A L/\NodesIn w AS S)
def IsP(xs:List Int)(w:World)(v:Value):Prop:=∃ b,v= .slice (some ⟨b,0,none⟩) xs.length xs.length/\IntsIn w (some ⟨b,0,none⟩) xs
def RsP(rs:List (List Int))(w:World)(v:Value):Prop:=∃ b,v= .slice (some ⟨b,0,none⟩) rs.length rs.length/\RowsIn w (some ⟨b,0,none⟩) rs
def GrP(rs:List (List Int))(w:World)(v:Value):Prop:=∃ G c n,v= .agg #[.slice G rs.length c]/\Fz [] n TS w (fun w=>NodesIn w G (rs.map JY))
theorem IsP.tr0{xs:List Int}{v:Value}(h:IsP xs w v)(hs:Same [] w w1):IsP xs w1 v:=by
 obtain⟨b,e,h⟩:=h;exact⟨b,e,h.mono hs.bel⟩
theorem jK{P:Program}{n:Nw}{f:Fr}(xs:List Int){len d:Nat}{t e ty:TypeId}{pos:String}{af:Array Edge}{parts:Array (Nat×Operand)}(hv:parts.toList.map (fun p=>(p.1,ev n f p.2))=xs.zipIdx.map (fun x=>(x.2,Value.int .i64 x.1)))
  (hu:P.underlying t=some (.slice e)) (hs:(P.info? e).map (·.size)=some 1) (hz:(P.info? e).map (·.zero)=some (some (.int .i64 0))) (hn:len=xs.length:=by rfl) (hl:¬len*1>2^24:=by decide) (hl0:len*1≠0:=by decide)
  (a1:Instr.fill (fun i=>some (i*1,1)) ((Array.range (len*1)).map ((Value.int .i64 0).cells[· % (Value.int .i64 0).cells.size]!)) (xs.zipIdx.map (fun x=>(x.2,Value.int .i64 x.1)))=some (flat (xs.zipIdx.map (fun x=>(x.2,Value.int .i64 x.1)))):=by kernel_rfl)
  (hcs:flat (xs.zipIdx.map (fun x=>(x.2,Value.int .i64 x.1)))=(xs.map (Value.int .i64)).toArray:=by kernel_rfl) (hm:xs.length<=vX:=by decide):OS P n f w ⟨some d,.buildSlice t len parts,ty,pos,af,none⟩ (fun v w''=>Same [] w w''/\IsP xs w'' v/\Frsh false w w'' v):=
 jq (fun _ _ K=>qZ _ hv hu hs hz hl hl0 a1 hcs (fun b w1 hb hs hr=>K _ _ ⟨hs,⟨b,by rw[hn],qK xs hb hm⟩,y6⟩))
theorem RsP.tr0{xs:List (List Int)}{v:Value}(h:RsP xs w v)(hs:Same [] w w1):RsP xs w1 v:=by
 obtain⟨b,e,h⟩:=h;exact⟨b,e,h.mono hs.bel⟩
theorem GrP.tr0{xs:List (List Int)}{w w1:World}{v:Value}(h:GrP xs w v)(hs:Same [] w w1):GrP xs w1 v:=by
 obtain⟨G,c,n,e,h⟩:=h;exact⟨G,c,n,e,h.tr0 hs⟩
section fz
variable {X:List Nat} {n:Nat} {w w':World} {P:World->Prop}
theorem Fz.add{bG base:Nat}{cs:Array Value}{xs:List Value}(h:Fz X n TS w P)(hS:Same (bG::aL A) w w')(hb:Blk w bG 42 cs)(ho:Own w base 38 9 A k cap xs):Fz X n TS w' P:=
 h.trX hS (fun g hg=>by
  rcases av.1 hg with e|hg
  ·exact .inr (.inr ⟨_,_,by rw[e];exact hb,.inl dE⟩)
  ·obtain⟨cs,h⟩:=V5 ho g hg
   exact .inr (.inr ⟨_,_,h,.inl dE⟩))
end fz
def zGr:Array Value:=cO
def tyET:Ts:= .f (.b false) (.b true)
def tyEET:Ts:= .f (.b false) tyET
section st
structure SmC(T:List Ty)(F:List Ft)(R:List Rl)(b0 b1 b2 b3 b4 b5 b23 b93 base capt c12 c15:Nat)(At A12 A15:Option Addr)(cr:Array Value)(w wc:World):Prop where
 bel:Bel w wc
 bs:base<=wc.heap.size
 k0:Blk wc b0 42 zGr
 k1:Blk wc b1 31 #[.string ⟨#[101]⟩,.slice none 0 0]
 k2:Blk wc b2 31 #[.string ⟨#[116]⟩,.slice none 0 0]
 k3:Blk wc b3 31 #[.string tyET.sm.base,.slice A12 tyET.sm.args.length c12]
 k4:Blk wc b4 31 #[.string tyEET.sm.base,.slice A15 tyEET.sm.args.length c15]
 k93:Blk wc b93 68 cr
 dt:Fz [] base TS wc (fun w=>TypesIn w At T/\FeatsIn w (some ⟨b23,0,none⟩) F/\RlCs w R cr.toList)
 p12:Fz [] base TS wc (fun w=>SimsIn w A12 tyET.sm.args)
 p15:Fz [] base TS wc (fun w=>SimsIn w A15 tyEET.sm.args)
 lo5:w.heap.size<=b5
 lo93:w.heap.size<=b93
 o:b0<b5/\b1<b5/\b2<b5/\b3<b5/\b4<b5/\b5<b93
 l:b5<base/\b93<base
variable {T F R b0 b1 b2 b3 b4 b5 b23 b93 base capt c12 c15 At A12 A15 cr}
theorem SmC.tr{w wc w1:World}{Z:List Nat}(h:SmC T F R b0 b1 b2 b3 b4 b5 b23 b93 base capt c12 c15 At A12 A15 cr w wc)(hs:Same Z wc w1)(hz:∀ x∈Z,(x=b5\/base<=x)/\∃ t cs,Blk wc x t cs/\Sp TS t cs):SmC T F R b0 b1 b2 b3 b4 b5 b23 b93 base capt c12 c15 At A12 A15 cr w w1:=by
 obtain⟨o0,o1,o2,o3,o4,o9⟩:=h.o;obtain⟨l5,l9⟩:=h.l;have hf:∀ g∈Z,base<=g\/g∈[]\/∃ t cs,Blk wc g t cs/\Sp TS t cs:=fun g hg=> .inr (.inr (hz g hg).2)
 have lo5:=h.lo5;have lo93:=h.lo93
 exact { h with
  bel:=h.bel.tr hs (fun x hx=>by rcases(hz x hx).1 with e|e<;>omega)
  bs:=nLT h.bs hs.size
  k0:=h.k0.tr hs (fun hx=>by rcases(hz _ hx).1 with e|e<;>omega)
  k1:=h.k1.tr hs (fun hx=>by rcases(hz _ hx).1 with e|e<;>omega)
  k2:=h.k2.tr hs (fun hx=>by rcases(hz _ hx).1 with e|e<;>omega)
  k3:=h.k3.tr hs (fun hx=>by rcases(hz _ hx).1 with e|e<;>omega)
  k4:=h.k4.tr hs (fun hx=>by rcases(hz _ hx).1 with e|e<;>omega)
  k93:=h.k93.tr hs (fun hx=>by rcases(hz _ hx).1 with e|e<;>omega)
  dt:=h.dt.trX hs hf
  p12:=h.p12.trX hs hf
  p15:=h.p15.trX hs hf }
theorem SmC.tr0{wc:World}(h:SmC T F R b0 b1 b2 b3 b4 b5 b23 b93 base capt c12 c15 At A12 A15 cr w wc)(hs:Same [] wc w1):SmC T F R b0 b1 b2 b3 b4 b5 b23 b93 base capt c12 c15 At A12 A15 cr w w1:=h.tr hs (by simp)
theorem SmC.add{wc:World}{cs:Array Value}{xs:List Value}(h:SmC T F R b0 b1 b2 b3 b4 b5 b23 b93 base capt c12 c15 At A12 A15 cr w wc)(hS:Same (b5::aL A) wc w1)(hb:Blk wc b5 42 cs)(ho:Own wc base 38 9 A k cap xs):SmC T F R b0 b1 b2 b3 b4 b5 b23 b93 base capt c12 c15 At A12 A15 cr w w1:=
 h.tr hS (fun g hg=>by
  rcases av.1 hg with e|hg
  ·exact⟨.inl e,_,_,by rw[e];exact hb,.inl dE⟩
  ·obtain⟨cs,h⟩:=V5 ho g hg
   exact⟨.inr (ho.lt g hg).1,_,_,h,.inl dE⟩)
variable (T F R b0 b1 b2 b3 b4 b5 b23 b93 base capt c12 c15 At A12 A15 cr)
def SmSt(k:Nat)(lx:List Lx)(w wc:World):Prop:=SmC T F R b0 b1 b2 b3 b4 b5 b23 b93 base capt c12 c15 At A12 A15 cr w wc/\∃ A cap xs nL,Blk wc b5 42 #[.slice At 15 capt,.slice (some ⟨b23,0,none⟩) 5 5,.slice (some ⟨b93,0,none⟩) 6 6,.slice A k cap,.slice none 0 0]/\Own wc base 38 9 A k cap xs/\Fz [] nL TS wc (fun w=>LxData w lx xs)
variable {T F R b0 b1 b2 b3 b4 b5 b23 b93 base capt c12 c15 At A12 A15 cr}
theorem SmSt.tr0{k:Nat}{lx:List Lx}{w wc w1:World}(h:SmSt T F R b0 b1 b2 b3 b4 b5 b23 b93 base capt c12 c15 At A12 A15 cr k lx w wc)(hs:Same [] wc w1):SmSt T F R b0 b1 b2 b3 b4 b5 b23 b93 base capt c12 c15 At A12 A15 cr k lx w w1:=by
 obtain⟨hC,A,cap,xs,nL,hb5,ho,hL⟩:=h;exact⟨hC.tr0 hs,A,cap,xs,nL,hb5.tr0 hs,ho.tr0 hs,hL.tr0 hs⟩
end st
def starB(g:List Nd):Bool:=(List.range g.length).all (fun i=>decide (i=0)||(List.range i).any (fun j=>(Pk g (j:Int)).ln.any (fun x=>decide (x.2=(i:Int)))))
theorem unr_star{g:List Nd}(h:starB g=true):KV g= -1:=by
 refine(OX (.inl ⟨rfl,?_⟩)).symm;intro i
 induction i using Nat.strongRecOn with
 | ind i ih=>
  intro hi;have h1:=aF.1 h i (az.2 hi);by_cases e:i=0
  ·subst e;exact .zero
  ·simp only[e,decide_false,Bool.false_or]at h1
   obtain⟨j,hj,h2⟩:=List.any_eq_true.1 h1;obtain⟨x,hx,h3⟩:=List.any_eq_true.1 h2;have hji:=az.1 hj;have hjl:j<g.length:=by omega
   have hx2:x∈(g[j]).ln:=by
    grind[Pk,List.getD]
   have hr:=Rch.step (ih j hji hjl) hjl hx2
   grind
def grB(T:List Ty)(F:List Ft)(g:List Nd):Bool:=decide ((j9 T.length F.length g).1=0)&&decide (tyF T F g=(0,0))&&starB g
theorem grB_ok{T:List Ty}{F:List Ft}{g:List Nd}(h:grB T F g=true):y9 T F g=(0,0):=by
 simp only[grB,Bool.and_eq_true,decide_eq_true_eq]at h
 grind[IY,unr_star]
def tvB(x:Tv):Bool:=decide ((twk x.tm 1 0 0).2.1=0)&&(tyv [] x).isSome
theorem W3{x:Tv}(h:tvB x=true):tmF x.tm=(0,0):=by
 simp only[tvB,Bool.and_eq_true,decide_eq_true_eq]at h;obtain⟨τ,hτ⟩:=aY.1 h.2;unfold tmF;rw[if_pos h.1,if_pos ⟨x,τ,rfl,hτ⟩]
structure RlS where
 name:ByteArray
 rows:List (List Int)
 kids:Int
 wt:Int
 mean:Tv
def RlS.rl(r:RlS):Rl:=⟨r.name,r.rows.map JY,r.kids,r.wt,r.mean.tm⟩
structure LxS where
 word:ByteArray
 rows:List (List Int)
 wt:Int
 mean:Tv
def LxS.lx(r:LxS):Lx:=⟨r.word,r.rows.map JY,r.wt,r.mean.tm⟩
def RlP(r:RlS)(w:World)(v:Value):Prop:=∃ G c n S cs B cb m,v= .agg #[.string r.name,.slice G r.rows.length c,.int .i64 r.kids,.int .i64 r.wt,.int .i64 r.mean.tm.kind,.string r.mean.tm.name,.int .i64 r.mean.tm.index,.string r.mean.tm.type.base,.slice S r.mean.tm.type.args.length cs,.slice B r.mean.tm.args.length cb]/\Fz [] n TS w (fun w=>NodesIn w G (r.rows.map JY))/\Fz [] m TS w (fun w=>SimsIn w S r.mean.tm.type.args/\TmsIn w B r.mean.tm.args)
theorem RlP.tr0{r:RlS}{w w1:World}{v:Value}(h:RlP r w v)(hs:Same [] w w1):RlP r w1 v:=by
 obtain⟨G,c,n,S,cs,B,cb,m,e,h1,h2⟩:=h;exact⟨G,c,n,S,cs,B,cb,m,e,h1.tr0 hs,h2.tr0 hs⟩
theorem Fz.rcons{r:RlS}{G S B:Option Addr}{c cs cb m:Nat}{l:List Rl}(hG:Fz [] n TS w (fun w=>NodesIn w G (r.rows.map JY)))(hM:Fz [] m TS w (fun w=>SimsIn w S r.mean.tm.type.args/\TmsIn w B r.mean.tm.args))(hR:Fz [] k TS w (fun w=>RlCs w l vs)):
  Fz [] w.heap.size TS w (fun w=>RlCs w (r.rl::l) (.string r.name:: .slice G r.rows.length c:: .int .i64 r.kids:: .int .i64 r.wt:: .int .i64 r.mean.tm.kind:: .string r.mean.tm.name:: .int .i64 r.mean.tm.index:: .string r.mean.tm.type.base:: .slice S r.mean.tm.type.args.length cs:: .slice B r.mean.tm.args.length cb::vs)):=
 (hG.and (hM.and hR)).imp (fun _ h=>RlCs.cons (r:=r.rl) (by simp[RlS.rl]) h.1 h.2.1.1 h.2.1.2 h.2.2)
def lxB(T:List Ty)(F:List Ft)(r:LxS):Bool:=yV r.word && !decide (Kj r.lx)&&grB T F r.lx.gr&&tvB r.mean
theorem lxB_ok{T:List Ty}{F:List Ft}{r:LxS}(h:lxB T F r=true):Yy T F r.lx=0:=by
 simp only[lxB,Bool.and_eq_true,Bool.not_eq_true',decide_eq_false_iff_not]at h;rw[lx_ok h.1.1.1 h.1.1.2 (by rw[grB_ok h.1.2])];exact congrArg (·.1) (W3 h.2)
end
end Go.Proofs.YtndbjnkilegebaaGreatDoor
