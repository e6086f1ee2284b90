/- What these functions compute, at every world: term.Typed, term.Validate, unicode/utf8.ValidString, internal/stringslite.IndexByte, strings.IndexByte, unicode/utf8.ValidRune, strings.shouldUseASCIISet, strings.IndexRune and 5 more; and plain laws. -/
import Derived.Test.YtmfiholmfieieaaDoorU
import Derived.Test.YtmfiholmfieieaaDoorZst
import Derived.Test.YtmfiholmfieieaaDoorNTw
import Derived.Test.YtmfiholmfieieaaDoorEng3
import Derived.Test.YtmfiholmfieieaaDoorTxt
import Derived.Test.YtmfiholmfieieaaDoorGro
import Derived.Test.YtmfiholmfieieaaDoorWRc
namespace Go.Proofs.YtmfiholmfieieaaDoor
open Go.RowKit
set_option maxRecDepth 100000
set_option maxHeartbeats 2000000
variable {v:Tv}
section
theorem tv_con(h:v.tm.kind=1):∃ nm τ,v= .con nm τ:=by cases v<;>first|exact⟨_,_,rfl⟩|(exfalso;revert h;simp[Tv.tm,Tm.kind])
theorem tv_var(h:v.tm.kind=2):∃ i,v= .var i:=by cases v<;>first|exact⟨_,rfl⟩|(exfalso;revert h;simp[Tv.tm,Tm.kind])
theorem tv_abs(h:v.tm.kind=3):∃ τ x,v= .abs τ x:=by cases v<;>first|exact⟨_,_,rfl⟩|(exfalso;revert h;simp[Tv.tm,Tm.kind])
theorem tv_app(h1:¬v.tm.kind=1)(h2:¬v.tm.kind=2)(h3:¬v.tm.kind=3):∃ x y,v= .app x y:=by
 cases v with
 | con nm τ=>exact absurd rfl h1
 | var i=>exact absurd rfl h2
 | abs τ x=>exact absurd rfl h3
 | app x y=>exact⟨_,_,rfl⟩
theorem ts_two{τ:Ts}(h:τ.sm.args.length=2):∃ x y,τ= .f x y:=by
 cases τ with
 | b t=>cases h
 | f x y=>exact⟨x,y,rfl⟩
section app
variable {Γ:List Ts} {x y:Tv}
theorem app_no1(h:(tyv Γ x).isSome=false):tyv Γ (.app x y)=none:=by
 simp only[tyv];cases e:tyv Γ x with
 | none=>rfl
 | some σ=>rw[e]at h;cases h
theorem app_no2(h:(tyv Γ y).isSome=false):tyv Γ (.app x y)=none:=by
 simp only[tyv];cases e:tyv Γ y with
 | none=>
  cases tyv Γ x with
  | none=>rfl
  | some σ=>cases σ<;>rfl
 | some σ=>rw[e]at h;cases h
theorem app_no3{σ:Ts}(h:tyv Γ x=some σ)(hn:¬σ.sm.args.length=2):tyv Γ (.app x y)=none:=by
 simp only[tyv,h];cases σ with
 | b t=>rfl
 | f a r=>exact absurd rfl hn
theorem app_no4{a r ζ:Ts}(h:tyv Γ x=some (.f a r))(k:tyv Γ y=some ζ)(e:a.eqb ζ=false):tyv Γ (.app x y)=none:=by
 simp only[tyv,h,k,e];rfl
theorem app_yes{a r ζ:Ts}(h:tyv Γ x=some (.f a r))(k:tyv Γ y=some ζ)(e:a.eqb ζ=true):tyv Γ (.app x y)=some r:=by
 simp only[tyv,h,k,e];rfl
end app
theorem in61:(Tryd.prog.info? 61).map (fun i=>(i.zero,i.size,i.bytes))=some (some (.agg #[.string ⟨#[]⟩,.slice none 0 0]),2,40):=by kernel_rfl
set_option maxRecDepth 100000 in
set_option maxHeartbeats 4000000 in
theorem HV{Γ:List Ts}{A B C:Option Addr}{c m cc:Nat}{w:World}(hS:SimsIn w A v.tm.type.args)(hT:TmsIn w B v.tm.args)(hG:CtxIn w C Γ)(bu:Γ.length<=cc)(bg:Γ.length+v.size<=1000)(bm:v.ok Γ.length)(IH:∀(x:Tv),x.size<v.size->∀(Γ:List Ts) (A2 B2 C2:Option Addr) (c2 m2 cc2:Nat) (w2:World),SimsIn w2 A2 (Tv.tm (x)).type.args->TmsIn w2 B2 (Tv.tm (x)).args->CtxIn w2 C2 Γ->List.length Γ<=cc2->List.length Γ+(x).size<=1000->Tv.ok (List.length Γ) (x)->Calls Tryd.prog 89 #[.agg (cC (Tv.tm (x)) A2 c2 B2 m2),.slice C2 (List.length Γ) cc2] w2 fun e w'=>(∃(s:ByteArray) (A':Option Addr) (n c':Nat),e= .returned (.tuple #[.agg #[.string s,.slice A' n c'],.bool (tyv (Γ) (x)).isSome])/\∀ τ,tyv (Γ) (x)=some τ->s=τ.sm.base/\n=τ.sm.args.length/\SimsIn w' A' τ.sm.args)/\Bel w2 w'):Calls Tryd.prog 89 #[.agg (cC (Tv.tm (v)) A c B m),.slice C (List.length Γ) cc] w fun e w'=>(∃(s:ByteArray) (A':Option Addr) (n c':Nat),e= .returned (.tuple #[.agg #[.string s,.slice A' n c'],.bool (tyv (Γ) (v)).isSome])/\∀ τ,tyv (Γ) (v)=some τ->s=τ.sm.base/\n=τ.sm.args.length/\SimsIn w' A' τ.sm.args)/\Bel w w':=by
 refine enT Tryd.func89 Tryd.ntmps89 rfl rfl fun hB=>?_;refine zn2 ?_;refine qZ (cs:=#[_,_,_,_,_,_]) rfl (fun b2 w1 bn t1 hr=>?_);refine qw (cs:=#[.string ⟨#[]⟩,.slice none 0 0]) Rz rfl (fun b4 w2 a2 t2 hr=>?_);have ab:=hB.u.ob hr;refine R7 ?_;refine zK rfl (fun ce=>?_) (fun ce=>?_)
 ·obtain⟨nm,τ,rfl⟩:=tv_con ce;refine zn3 ?_;refine wl (qK U61 rfl rfl (bn.u.sub (n:=2) (xs:=[_,_]) rfl) gW) ?_;refine zJ a2 (fun w3 hq t3=>?_);replace a2:=hq;refine zn6 ?_;refine Qq (.inl rfl) rfl (zw U61 rfl rfl a2.range0 gW) rfl ?_;replace hB:=(hB.tr0 (t1.t t2)).tr1 t3 ab;exact⟨⟨_,_,_,_,rfl,fun σ e=>by obtain rfl:τ=σ:=Option.some.inj e;exact⟨rfl,rfl,hS.mono hB⟩⟩,hB⟩
 refine zn6 ?_;refine zK rfl (fun cd=>?_) (fun cd=>?_)
 ·obtain⟨i,rfl⟩:=tv_var cd;have hil:i<Γ.length:=bm;obtain⟨cb,co,A7,c7,rfl,hcb,hcr,hcs⟩:=hG.at_ (aQ hil);refine zn5 ?_;refine wl (Xj (c:=((Γ.length-1:Nat):Int)) rfl rfl oG oG) (zn1 ?_);refine wl (qW (v:= .int .i64 ((i:Nat):Int)) U3 rfl rfl (bn.u.cell rfl)) (wl (Xj (c:=((Γ.length-1-i:Nat):Int)) rfl rfl oG oG) (wl (xW (i:=(Γ.length-1-i)) U59 gW rfl rfl oG rfl) (wl (qK U61 rfl rfl (hB.u.range hcb hcr) gW) ?_)));refine zJ a2 (fun w4 hq t4=>?_);replace a2:=hq;refine zn6 ?_;refine Qq (.inl rfl) rfl (zw U61 rfl rfl a2.range0 gW) rfl ?_;have hty:tyv Γ (.var i)=some Γ[i]:=aQ hil;replace hB:=(hB.tr0 (t1.t t2)).tr1 t4 ab;exact⟨⟨_,_,_,_,by rw[hty];rfl,fun σ e=>by rw[hty]at e;obtain rfl:=Option.some.inj e;exact⟨rfl,rfl,hcs.mono hB⟩⟩,hB⟩
 refine zn6 ?_;refine zK rfl (fun ca=>?_) (fun ca=>?_)
 ·obtain⟨τ,x,rfl⟩:=tv_abs ca;have hlx:Γ.length+(x.size+1)<=1000:=bg;obtain⟨tb,to,A0,c0,B0,m0,rfl,bk,a4,ba,b8⟩:=hT.at_ (k:=0) (by simp[Tv.tm,Tm.args])
  change w.rangeAt tb (to+0*6) [.int .i64 (x).tm.kind,.string (x).tm.name,.int .i64 (x).tm.index,.string (x).tm.type.base,.slice A0 (x).tm.type.args.length c0,.slice B0 (x).tm.args.length m0]at a4
  change SimsIn w A0 (x).tm.type.args at ba
  change TmsIn w B0 (x).tm.args at b8
  refine yz ?_;refine c_monoUO 11 [32,33,34,35,36,37,38,39,40,41,6] [] (fun ix=>false) (fun st ix v la ha wv=>match ix with|0=>v= .slice C (List.length Γ) cc|1=>v= .slice C (List.length Γ) cc|2=>v= .int .i64 ((Γ.length:Nat):Int)|3=>v= .slice C (List.length Γ) cc|4=>v= .int .i64 ((Γ.length:Nat):Int)|5=>v= .slice C (List.length Γ) (List.length Γ)|6=>v= .pointer (some ⟨b2,0+3,none⟩)|7=>v= .agg #[.string τ.sm.base,.slice A τ.sm.args.length c]|8=>∃ b,v= .slice (some ⟨b,0,none⟩) 1 1/\Blk wv b 61 #[.string τ.sm.base,.slice A τ.sm.args.length c]|9=>∃ g cap,v= .slice (some ⟨g,0,none⟩) (Γ.length+1) cap/\CtxIn wv (some ⟨g,0,none⟩) (τ::Γ)/\Γ.length+1<=cap|10=>∃ g cap,v= .slice (some ⟨g,0,none⟩) (Γ.length+1) cap/\CtxIn wv (some ⟨g,0,none⟩) (τ::Γ)/\Γ.length+1<=cap|_=>True) kR kR kR ?_ ?_ ?_
  ·intro st ix v la ha wv wv2 h t5
   match ix,h with
   | 0,h=>exact h
   | 1,h=>exact h
   | 2,h=>exact h
   | 3,h=>exact h
   | 4,h=>exact h
   | 5,h=>exact h
   | 6,h=>exact h
   | 7,h=>exact h
   | 8,h=>
    obtain⟨cf,c8,a6⟩:=h;exact⟨cf,c8,a6.tr0 t5⟩
   | 9,h=>
    obtain⟨bx,a7,bz,b3,a3⟩:=h;exact⟨bx,a7,bz,b3.mono t5.bel,a3⟩
   | 10,h=>
    obtain⟨gx,b5,e6,bw,a5⟩:=h;exact⟨gx,b5,e6,bw.mono t5.bel,a5⟩
   | _+11,h=>exact trivial
  ·intro st ix o hix hoq hns gg wx la ha t6 hd
   match ix,hix,hoq,hns with
   | 0,_,hoq,hns=>
    cases sI hoq;show OS _ _ _ _ _ _;refine qV (x7 (v:= .slice _ _ _) rfl) ⟨Same.refl _ _,?_⟩;exact rfl
   | 1,_,hoq,hns=>
    cases sI hoq;show OS _ _ _ _ _ _;refine qV (x7 (v:= .slice _ _ _) rfl) ⟨Same.refl _ _,?_⟩;exact rfl
   | 2,_,hoq,hns=>
    cases sI hoq;show OS _ _ _ _ _ _;refine aX 33 (hd 1 _ aY rfl) ?_;refine qV (O0 U59 rfl) ⟨Same.refl _ _,?_⟩;exact rfl
   | 3,_,hoq,hns=>
    cases sI hoq;show OS _ _ _ _ _ _;refine qV (x7 (v:= .slice _ _ _) rfl) ⟨Same.refl _ _,?_⟩;exact rfl
   | 4,_,hoq,hns=>
    cases sI hoq;show OS _ _ _ _ _ _;refine aX 35 (hd 3 _ aY rfl) ?_;refine qV (O0 U59 rfl) ⟨Same.refl _ _,?_⟩;exact rfl
   | 5,_,hoq,hns=>
    cases sI hoq;show OS _ _ _ _ _ _;refine aX 32 (hd 0 _ aY rfl) (aX 34 (hd 2 _ aY rfl) (aX 36 (hd 4 _ aY rfl) ?_));refine qV (r_slF U59 gW rfl rfl rfl bu) ⟨Same.refl _ _,?_⟩;exact rfl
   | 6,_,hoq,hns=>
    cases sI hoq;show OS _ _ _ _ _ _;refine qV (Z5 U64 gW dE rfl rfl rfl) ⟨Same.refl _ _,?_⟩;exact rfl
   | 7,_,hoq,hns=>
    cases sI hoq;show OS _ _ _ _ _ _;refine aX 38 (hd 6 _ aY rfl) ?_;refine qV (qK U61 rfl rfl (bn.u.sub (n:=2) (xs:=[_,_]) rfl) gW) ⟨Same.refl _ _,?_⟩;exact rfl
   | 8,_,hoq,hns=>
    cases sI hoq;show OS _ _ _ _ _ _;refine aX 39 (hd 7 _ aY rfl) ?_;refine jK (fun ops Q K=>?_);refine qj (cs:=#[_,_]) [(0,.agg _)] rfl U59 gW Rz dE dE kR rfl (fun cf w5 a6 t7 hr=>?_);exact K _ _ ⟨t7,⟨_,rfl,a6⟩⟩
   | 9,_,hoq,hns=>
    cases sI hoq;show OS _ _ _ _ _ _;obtain⟨cf,c8,a6⟩:=hd 8 _ (zq kR) rfl;refine aX 37 (hd 5 _ aY rfl) (zz 40 _ c8 nu ?_);refine jK (fun ops Q K=>?_);replace hB:=hB.tr0 (t1.t (t2.t t6));obtain⟨vs,hv1,hv2,hv3,hv4⟩:=(hG.mono hB).row;refine wl_appFl U59 in61 rfl dE hv2 hv3 hv4 a6 rfl rfl rfl rfl dE oG oG (fun bx a7 w1 bf t8 hg=>?_);exact K _ _ ⟨t8,_,_,rfl,ctx_app bf (hv1.mono t8.bel) ((hS.mono hB).mono t8.bel) rfl,bf.cap_le⟩
   | 10,_,hoq,hns=>
    cases sI hoq;show OS _ _ _ _ _ _;obtain⟨bx,a7,bz,b3,a3⟩:=hd 9 _ (zq kR) rfl;refine zz 41 _ bz nu ?_;refine qV (uJ (v:= .slice _ _ _) rfl) ⟨Same.refl _ _,?_⟩;exact⟨_,_,rfl,b3,a3⟩
   | _+11,hix,_,_=>exact absurd hix oG
  intro st gg w6 la ha hall t9 hR hI;obtain⟨gx,b5,e6,bw,a5⟩:=hR 10 _ dE rfl;refine xz 6 _ e6 nu (zn6 ?_);refine wl (xW (i:=0) U62 Oq rfl rfl (by show 0<1;decide) rfl) (wl (qK U64 rfl rfl (hB.u.range bk a4) Oq) (wl (x7 (v:= .slice _ _ _) rfl) ?_));replace hB:=hB.tr0 (t1.t (t2.t t9));refine zX kR (IH x (by simp only[Tv.size];omega) (τ::Γ) A0 B0 (some ⟨gx,0,none⟩) c0 m0 b5 _ (ba.mono hB) (b8.mono hB) bw a5 (by simp only[List.length_cons];omega) bm.2) rfl (fun e' w7 hr=>?_);obtain⟨⟨s3,A3,n3,c3,rfl,h3⟩,bj⟩:=hr;replace bj:=sB bj;have a9:Bel w7 w7:=Below.refl _ _;refine⟨_,rfl,?_⟩;refine wmT rfl (wl (yV (v:= .agg _) rfl rfl) (wl (yV (v:= .bool _) rfl rfl) ?_));refine yx (cs:=#[.string ⟨#[]⟩,.slice none 0 0]) Rz rfl (fun _=>rfl) (fun _=>rfl) gW rfl y5 (fun b7 w9 hb7 br hr=>?_);refine zn4 ?_;have hZ:SameQ [b4] w9 w9:=Same.refl _ _;replace a2:=a2.tr0 (t9.t (bj.t br));have b1:=a2;replace a9:=a9.tr0 br;have a8:=a9;refine zn2 ?_;refine wl (qK U61 rfl rfl (bn.u.sub (n:=2) (xs:=[_,_]) rfl) gW) (zn1 ?_);refine qj (cs:=#[_,_,_,_]) [(0,.agg _),(1,.agg _)] rfl U59 gW Rz dE dE kR rfl (fun b54 w10 bv t12 hr=>?_);have:=a2.ob hr;replace hZ:=SameQ.trans hZ t12 (by simp);refine wl (MZ (v0:= .slice _ _ _) (fun v0=>#[.string ⟨#[]⟩,v0]) rfl kR) (wl (x7 (v:= .bool _) rfl) ?_);refine zJ a2.u (fun w11 hq t13=>?_);replace hZ:=SameQ.trans hZ t13 (by simp);replace a2:=hq;refine zn6 ?_;refine Qq (.inl rfl) rfl (zw U61 rfl rfl a2.range0 gW) rfl ?_;have e1:(tyv Γ (.abs τ x)).isSome=(tyv (τ::Γ) x).isSome:=by simp only[tyv,Option.isSome_map]
  replace hB:=(hB.tr0 (bj.t (br.t t12))).tr1 t13 ab;refine⟨⟨_,_,_,_,by rw[e1];rfl,fun σ hσ=>?_⟩,hB⟩;obtain⟨ρ,h5,rfl⟩:=aU.1 hσ;obtain⟨rfl,rfl,h6⟩:=h3 ρ h5;exact⟨rfl,rfl,sm2_two bv.u (hS.mono hB) (Mq b1 hZ ρ (h6.mono a8))⟩
 obtain⟨x,y,rfl⟩:=tv_app ce cd ca;have hlx:Γ.length+(x.size+y.size+1)<=1000:=bg;have px:=x.pos;have py:=y.pos;obtain⟨tb,to,A0,c0,B0,m0,rfl,bk,a4,ba,b8⟩:=hT.at_ (k:=0) (by simp[Tv.tm,Tm.args])
 change w.rangeAt tb (to+0*6) [.int .i64 (x).tm.kind,.string (x).tm.name,.int .i64 (x).tm.index,.string (x).tm.type.base,.slice A0 (x).tm.type.args.length c0,.slice B0 (x).tm.args.length m0]at a4
 change SimsIn w A0 (x).tm.type.args at ba
 change TmsIn w B0 (x).tm.args at b8
 obtain⟨_,_,A1,c1,B1,m1,e1,_,bd,ks1,kt1⟩:=hT.at_ (k:=1) (by simp[Tv.tm,Tm.args]);cases e1
 change w.rangeAt tb (to+1*6) [.int .i64 (y).tm.kind,.string (y).tm.name,.int .i64 (y).tm.index,.string (y).tm.type.base,.slice A1 (y).tm.type.args.length c1,.slice B1 (y).tm.args.length m1]at bd
 change SimsIn w A1 (y).tm.type.args at ks1
 change TmsIn w B1 (y).tm.args at kt1
 refine zn7 ?_;refine wl (xW (i:=0) U62 Oq rfl rfl (by show 0<2;decide) rfl) (wl (qK U64 rfl rfl (hB.u.range bk a4) Oq) (wl (x7 (v:= .slice _ _ _) rfl) ?_));replace hB:=hB.tr0 (t1.t t2);refine zX kR (IH x (by simp only[Tv.size];omega) Γ A0 B0 C c0 m0 cc _ (ba.mono hB) (b8.mono hB) (hG.mono hB) bu oG bm.1) rfl (fun e' w12 hr=>?_);obtain⟨⟨s3,A3,n3,c3,rfl,h3⟩,bi⟩:=hr;replace bi:=sB bi;have a9:Bel w12 w12:=Below.refl _ _;refine⟨_,rfl,?_⟩;refine wmT rfl (wl (yV (v:= .agg _) rfl rfl) (wl (yV (v:= .bool _) rfl rfl) ?_));refine yx (cs:=#[.string ⟨#[]⟩,.slice none 0 0]) Rz rfl (fun _=>rfl) (fun _=>rfl) gW rfl y5 (fun b9 w14 hb9 bq hr=>?_);refine zn7 ?_;refine wl (xW (i:=1) U62 Oq rfl rfl (by show 1<2;decide) rfl) (wl (qK U64 rfl rfl (hB.u.range bk bd) Oq) (wl (x7 (v:= .slice _ _ _) rfl) ?_));replace hB:=hB.tr0 (bi.t bq);refine zX kR (IH y (by simp only[Tv.size];omega) Γ A1 B1 C c1 m1 cc _ (ks1.mono hB) (kt1.mono hB) (hG.mono hB) bu oG bm.2) rfl (fun e' w15 hr=>?_);obtain⟨⟨s4,A4,n4,c4,rfl,h4⟩,b6⟩:=hr;replace b6:=sB b6;have hBy:Bel w15 w15:=Below.refl _ _;refine⟨_,rfl,?_⟩;refine wmT rfl (wl (yV (v:= .agg _) rfl rfl) (wl (yV (v:= .bool _) rfl rfl) ?_));refine yx (cs:=#[.string ⟨#[]⟩,.slice none 0 0]) Rz rfl (fun _=>rfl) (fun _=>rfl) gW rfl y5 (fun b11 w17 hb11 bo hr=>?_);refine zn5 ?_;replace a2:=a2.tr0 (bi.t (bq.t (b6.t bo)));replace hB:=hB.tr0 (b6.t bo);rcases Bool.eq_false_or_eq_true ((tyv Γ x).isSome)with hk1|hk1
 ·refine zZ 10 _ (ac hk1) nu ?_;rcases Bool.eq_false_or_eq_true ((tyv Γ y).isSome)with hk2|hk2
  ·refine zZ 12 _ (ac hk2) nu ?_;by_cases q2:n3=2
   ·obtain⟨σ,hσ⟩:=aW.1 hk1;obtain⟨ζ,hζ⟩:=aW.1 hk2;obtain⟨rfl,e3,bt⟩:=h3 σ hσ;obtain⟨rfl,rfl,hs4⟩:=h4 ζ hζ;obtain⟨a,r,rfl⟩:=ts_two (e3.symm.trans q2);subst q2;obtain⟨ub,uo,A5,c5,rfl,hub,hur,hus⟩:=bt.at_ (k:=0) (by simp[Ts.sm,Sm.args]);obtain⟨_,_,A6,c6,e6,_,bc,bb⟩:=bt.at_ (k:=1) (by simp[Ts.sm,Sm.args]);cases e6
    change SimsIn _ A5 a.sm.args at hus
    change SimsIn _ A6 r.sm.args at bb
    change World.rangeAt _ ub (uo+0*2) [.string a.sm.base,.slice A5 a.sm.args.length c5]at hur
    change World.rangeAt _ ub (uo+1*2) [.string r.sm.base,.slice A6 r.sm.args.length c6]at bc
    refine uV [] [0,1,2,3,4,5,6,7,8,9,10,11,12,13,14,15,16,17,18,19,20] rfl (fun w18 bh=>?_);refine jZ ?_;refine hge 81 rfl rfl rfl (fun _ _=>r_neq rfl rfl) (ac (ag oG)) (zn4 ?_);refine hg 87 rfl rfl rfl (fun _ _=>xW (i:=0) U59 gW rfl rfl dE rfl) (hgS 87 rfl rfl rfl U61 rfl rfl (a9.u.range hub hur) gW (zn1 ?_));refine h1 rfl (zn1 ?_);refine zX kR (samE_any A5 A4 c5 c4 a ζ w18 (hus.mono a9.u) (hs4.mono hBy.u)) rfl (fun e' w19 hr=>?_);obtain⟨rfl,ao⟩:=hr;replace ao:=sB ao;have be:=ao;refine⟨_,rfl,?_⟩;refine x6 (Y1 be (zn4 ?_));refine jW rfl (fun c9=>?_) (fun c9=>?_)
    ·have a1:tyv Γ (.app x y)=none:=app_no4 hσ hζ (by simpa using c9);refine zn2 ?_;refine uW (cs:=#[.string ⟨#[]⟩,.slice none 0 0]) ?_;refine zJ a2.u (fun w20 hq t20=>?_);replace a2:=hq;refine zn5 ?_;refine Qq (.inl rfl) rfl (zw U61 rfl rfl a2.range0 gW) rfl ?_;replace hB:=(hB.tr0 (bh.t ao)).tr1 t20 ab;exact⟨⟨_,_,_,_,(by rw[a1];rfl),fun σ e=>by rw[a1]at e;cases e⟩,hB⟩
    have an:tyv Γ (.app x y)=some r:=app_yes hσ hζ (by simpa using c9);refine zn3 ?_;have hZ:SameQ [b4] w19 w19:=Same.refl _ _;replace a2:=a2.tr0 (bh.t ao);have b1:=a2;replace a9:=a9.tr0 (bq.t (b6.t (bo.t (bh.t ao))));have a8:=a9;refine zn3 ?_;refine wl (xW (i:=1) U59 gW rfl rfl dE rfl) (wl (qK U61 rfl rfl (a8.range hub bc) gW) ?_);refine zJ a2 (fun w21 hq t21=>?_);replace hZ:=SameQ.trans hZ t21 (by simp);replace a2:=hq;refine zn4 ?_;refine Qq (.inl rfl) rfl (zw U61 rfl rfl a2.range0 gW) rfl ?_;replace hB:=(hB.tr0 (bh.t ao)).tr1 t21 ab;exact⟨⟨_,_,_,_,(by rw[an];rfl),fun σ e=>by rw[an]at e;obtain rfl:=Option.some.inj e;exact⟨rfl,rfl,Mq b1 hZ r (bb.mono a8)⟩⟩,hB⟩
   obtain⟨σ,hσ⟩:=aW.1 hk1;obtain⟨ζ,hζ⟩:=aW.1 hk2;obtain⟨rfl,e3,bt⟩:=h3 σ hσ;obtain⟨rfl,rfl,hs4⟩:=h4 ζ hζ;have a1:tyv Γ (.app x y)=none:=app_no3 hσ (fun h=>q2 (e3.trans h));refine uV [] [0,1,2,3,4,5,6,7,8,9,10,11,12,13,14,15,16,17,18,19,20] rfl (fun w22 t22=>?_);refine jZ ?_;refine hge 81 rfl rfl rfl (fun _ _=>r_neq rfl rfl) (ac (ah oG)) (Hw ?_);refine uW (cs:=#[.string ⟨#[]⟩,.slice none 0 0]) ?_;refine zJ a2.u (fun w23 hq t23=>?_);replace a2:=hq;refine zn5 ?_;refine Qq (.inl rfl) rfl (zw U61 rfl rfl a2.range0 gW) rfl ?_;replace hB:=(hB.tr0 t22).tr1 t23 ab;exact⟨⟨_,_,_,_,(by rw[a1];rfl),fun σ e=>by rw[a1]at e;cases e⟩,hB⟩
  refine zZ 12 _ (ac hk2) nu ?_;have a1:tyv Γ (.app x y)=none:=app_no2 hk2;refine uV [] [0,1,2,3,4,5,6,7,8,9,10,11,12,13,14,15,16,17,18,19,20] rfl (fun w24 t24=>?_);refine zn26 ?_;refine uW (cs:=#[.string ⟨#[]⟩,.slice none 0 0]) ?_;refine zJ a2.u (fun w25 hq t25=>?_);replace a2:=hq;refine zn5 ?_;refine Qq (.inl rfl) rfl (zw U61 rfl rfl a2.range0 gW) rfl ?_;replace hB:=(hB.tr0 t24).tr1 t25 ab;exact⟨⟨_,_,_,_,(by rw[a1];rfl),fun σ e=>by rw[a1]at e;cases e⟩,hB⟩
 refine zZ 10 _ (ac hk1) nu ?_;have a1:tyv Γ (.app x y)=none:=app_no1 hk1;refine uV [] [0,1,2,3,4,5,6,7,8,9,10,11,12,13,14,15,16,17,18,19,20] rfl (fun w26 t26=>?_);refine zn26 ?_;refine uW (cs:=#[.string ⟨#[]⟩,.slice none 0 0]) ?_;refine zJ a2.u (fun w27 hq t27=>?_);replace a2:=hq;refine zn5 ?_;refine Qq (.inl rfl) rfl (zw U61 rfl rfl a2.range0 gW) rfl ?_;replace hB:=(hB.tr0 t26).tr1 t27 ab;exact⟨⟨_,_,_,_,(by rw[a1];rfl),fun σ e=>by rw[a1]at e;cases e⟩,hB⟩
theorem typed_any:∀(k:Nat) (v:Tv),v.size<k->∀(Γ:List Ts) (A B C:Option Addr) (c m cc:Nat) (w:World),SimsIn w A (Tv.tm (v)).type.args->TmsIn w B (Tv.tm (v)).args->CtxIn w C Γ->List.length Γ<=cc->List.length Γ+(v).size<=1000->Tv.ok (List.length Γ) (v)->Calls Tryd.prog 89 #[.agg (cC (Tv.tm (v)) A c B m),.slice C (List.length Γ) cc] w fun e w'=>(∃(s:ByteArray) (A':Option Addr) (n c':Nat),e= .returned (.tuple #[.agg #[.string s,.slice A' n c'],.bool (tyv (Γ) (v)).isSome])/\∀ τ,tyv (Γ) (v)=some τ->s=τ.sm.base/\n=τ.sm.args.length/\SimsIn w' A' τ.sm.args)/\Bel w w':=by
 intro k
 induction k with
 | zero=>intro v h;omega
 | succ k ih=>exact fun v h Γ A B C c m cc w h1 h2 h3 h4 h5 h6=>HV h1 h2 h3 h4 h5 h6 (fun x hx=>ih x oG)
end
theorem sz153:(Tryd.prog.info? 153).map (·.size)=some 1:=by kernel_rfl
theorem ze153:(Tryd.prog.info? 153).map (·.zero)=some (some (.nilFunc)):=by kernel_rfl
set_option maxHeartbeats 1000000 in
theorem RZ(A B:Option Addr)(c m:Nat)(t:Tm)(w:World)(hS:SimsIn w A t.type.args)(hT:TmsIn w B t.args):Calls Tryd.prog 67 #[.agg (cC (t) A c B m)] w fun e w'=>e= .returned (flV (tmF t))/\Bel w w':=by
 refine enT Tryd.func67 Tryd.ntmps67 rfl rfl fun hB=>?_;refine zn2 ?_;refine qZ (cs:=#[_,_,_,_,_,_]) rfl (fun b1 w1 a2 t1 hr=>?_);refine qw (cs:=#[.int .i64 0,.int .i64 0]) qQ rfl (fun b2 w2 a1 t2 hr=>?_);have:=a2.ob hr;have a8:=hB.u.ob hr;refine zn4 ?_;refine qw (cs:=#[.int .i64 0]) gJ rfl (fun b3 w3 a5 t3 hr=>?_);have:=a2.u.ob hr;have:=a1.ob hr;have a7:=hB.u.ob hr;refine xj (v:= .int _ _) a5 rfl rfl x8 (by first|decide|simp) rfl rfl (fun w4 hq t4=>?_);replace a5:=hq;refine zn4 ?_;refine qw (cs:=#[.nilFunc]) ze153 rfl (fun b4 w5 a4 t5 hr=>?_);have:=a2.u.ob hr;have:=a1.u.ob hr;have:=a5.ob hr;have lo4:=hB.u.ob hr;refine zn4 ?_;refine wl (LY rfl) ?_;refine xj (v:= .func _ _ _) a4 rfl rfl sz153 (by first|decide|simp) rfl rfl (fun w6 hq t6=>?_);replace a4:=hq;refine zn7 ?_;refine xw rfl kR (twk_any (w0:=w) (bN:=b3) (bV:=b4) a7 lo4 oG t A B c m 1 0 0 _ hS hT oG oG oG hB.u a5.u a4) rfl rfl (fun e' w7 hr=>?_);obtain⟨rfl,a6,a9⟩:=hr;replace hB:=(((hB.tr0 (t1.t (t2.t t3))).tr1 t4 a7).tr0 t5).tr1 t6 lo4;replace hB:=hB.chG a6 (fun g hg=>by rw[show g=b3 from hg];exact a7);replace a2:=(((a2.tr0 (t2.t t3)).tr1 t4 oG).tr0 t5).tr1 t6 oG;replace a2:=a2.chG a6 (fun hx=>by have hx:b1=b3:=hx;omega);replace a1:=(((a1.tr0 t3).tr1 t4 oG).tr0 t5).tr1 t6 oG;replace a1:=a1.chG a6 (fun hx=>by have hx:b2=b3:=hx;omega);replace a4:=a4.chG a6 (fun hx=>by have hx:b4=b3:=hx;omega);replace a5:=a9;refine⟨_,rfl,?_⟩;refine yx (cs:=#[.int .i64 0,.int .i64 0]) qQ rfl (fun _=>rfl) (fun _=>rfl) zj rfl y5 (fun b5 w9 hb5 t7 hr=>?_);refine zn9 ?_;refine zK rfl (fun a3=>?_) (fun a3=>?_)
 ·have hF:=tmF_bad a3;refine zn3 ?_;refine zJ a1.u (fun w10 hq t8=>?_);replace a1:=hq;refine zn4 ?_;refine xX (.inl rfl) rfl (zw U43 rfl rfl a1.range0 zj) ?_;replace hB:=(hB.tr0 t7).tr1 t8 a8;exact⟨by rw[hF];rfl,hB⟩
 have a3:(twk t 1 0 0).2.1=0:=ak.1 a3;obtain⟨v,rfl,hok,_,hv2⟩:=L0 t 1 0 0 a3;have hF:=tmF_ok a3;refine zn6 ?_;replace hB:=hB.tr0 t7;refine zX kR (typed_any _ v (ax _) [] A B none c m 0 _ (hS.mono hB) (hT.mono hB) (CtxIn.nil _) (ae _) (by simp only[List.length_nil];omega) hok) rfl (fun e' w11 hr=>?_);obtain⟨⟨s3,A3,n3,c3,rfl,_⟩,t9⟩:=hr;replace t9:=sB t9;refine⟨_,rfl,?_⟩;refine wmT rfl (wl (yV (v:= .agg _) rfl rfl) (wl (yV (v:= .bool _) rfl rfl) ?_));refine yx (cs:=#[.string ⟨#[]⟩,.slice none 0 0]) Rz rfl (fun _=>rfl) (fun _=>rfl) gW rfl y5 (fun b6 w13 hb6 t10 hr=>?_);refine zn9 ?_;refine jW rfl (fun ab=>?_) (fun ab=>?_)
 ·rw[if_neg (by simpa using ab)]at hF;refine zn2 ?_;refine VY ?_;refine zJ a1.u (fun w14 hq t11=>?_);replace a1:=hq;refine zn4 ?_;refine xX (.inl rfl) rfl (zw U43 rfl rfl a1.range0 zj) ?_;replace hB:=(hB.tr0 (t9.t t10)).tr1 t11 a8;exact⟨by rw[hF];rfl,hB⟩
 rw[if_pos (by simpa using ab)]at hF;refine zn4 ?_;refine uW (cs:=#[.int .i64 0,.int .i64 0]) ?_;refine zJ a1.u (fun w15 hq t12=>?_);replace a1:=hq;refine zn3 ?_;refine xX (.inl rfl) rfl (zw U43 rfl rfl a1.range0 zj) ?_;replace hB:=(hB.tr0 (t9.t t10)).tr1 t12 a8;exact⟨by rw[hF];rfl,hB⟩
theorem sz171:(Tryd.prog.info? 171).map (·.size)=some 2:=by kernel_rfl
theorem YQ:(Tryd.prog.info? 5).map (·.size)=some 1:=by kernel_rfl
theorem ze171:(Tryd.prog.info? 171).map (·.zero)=some (some (.agg #[.int .u8 0,.int .u8 0])):=by kernel_rfl
set_option maxRecDepth 100000 in
set_option maxHeartbeats 8000000 in
theorem valid_any(s:ByteArray)(w:World)(hU:U8In w)(_hsz:s.size<9223372036854775807):Calls Tryd.prog 91 #[.string s] w fun e w'=>e= .returned (.bool (vq s 0))/\Bel w w':=by
 have hs0:sdr 0 s=s:=bl_ext (by rw[K8,List.drop_zero]);refine enT Tryd.func91 Tryd.ntmps91 rfl rfl fun hB=>?_;refine zn7 ?_;refine qk (rgq [0] 2 167) (fun m g w'=>∃ p:Nat,p<=s.size/\s.size-p<=m/\g 0= .string (sdr p s)/\vq s 0=vq s p/\Bel w w') (s.size) ?_ (fun m g1 w1 hI=>?_)
 ·exact⟨0,ad _,ae _,(by rw[hs0];rfl),rfl,hB⟩
 obtain⟨p,hp,hm,h0,hv,hB⟩:=hI;obtain⟨mo,rfl⟩:∃ x,x=m:=⟨_,rfl⟩
 refine zZ 0 _ h0 nu (zn8 ?_);refine zK rfl (fun c9=>?_) (fun c9=>?_)
 ·have hsp:=y7 p s;have a4:p<s.size:=by omega
  have e0:=Dy p s 0;have e1:=Dy p s 1;have e2:=Dy p s 2;have e3:=Dy p s 3;rw[Nat.add_zero]at e0;have hb0:=Z9 s p;refine zn6 ?_;refine wl (kQ (i:=0) U9 rfl rfl oG) (wl (uJ (v:= .int .u8 ((gb s p:Nat):Int)) (by exact congrArg (fun z:Nat=>Value.int .u8 ((z:Nat):Int)) e0)) (zn9 ?_));refine zK rfl (fun c13=>?_) (fun c13=>?_)
  ·have a2:=vq_low a4 oG;refine zn3 ?_;refine wl (Vw (l:=1) U9 rfl rfl oG) (wl (uJ (v:= .string (sdr (p+1) s)) (by exact congrArg Value.string (Z4 _ _ s))) (zn4 ?_));have hsp1:=y7 (p+1) s;refine zn5 ?_;refine zQ 19 rfl (fun g19=>?_) (fun g19=>?_)
   ·refine zn3 ?_;refine zX kR (QV (sdr (p+1) s) _ (by rw[y7];have:=y7 (p+1) s;omega)) rfl (fun e' w2 hr=>?_);obtain⟨rfl,s1⟩:=hr;replace s1:=sB s1;refine⟨_,rfl,?_⟩;refine zn1 ?_;refine wl (Iq (b:=9259542123273814144) rfl rfl (kZ _ dE) dE) (zn5 ?_);refine zK rfl (fun c24=>?_) (fun c24=>?_)
    ·have a8:=OZ (s:=s) (p:=p+1) (k:=8) oG (asc8 (by have h:=c24;exact Int.ofNat.inj h));refine zn3 ?_;refine wl (Vw (l:=8) U9 rfl rfl oG) (wl (uJ (v:= .string (sdr (p+9) s)) (by exact congrArg Value.string (Z4 _ _ s))) (zn3 ?_));replace hB:=hB.tr0 s1;by_cases q7:16<s.size-(p+9)
     ·refine uV [] [0,1,2,3,4,6,7,5,8,9,10,11,12] rfl (fun w3 s2=>?_);refine zn2 ?_;refine hle rfl (fun _=>FW rfl rfl) (ac (ah (by rw[y7];omega))) (zn3 ?_);refine hg 30 rfl rfl rfl (fun _ _=>Vw (l:=8) U9 rfl rfl (by rw[y7];omega)) (h1 rfl (zn1 ?_));refine zX kR (QV (sdr (p+9) s) w3 (by rw[y7];omega)) rfl (fun e' w4 hr=>?_);obtain⟨rfl,s3⟩:=hr;replace s3:=sB s3;have b2:=s3;refine⟨_,rfl,?_⟩;refine x6 (Y1 b2 (h1 rfl (zn1 ?_)));refine zX kR (QV (sdr 8 (sdr (p+9) s)) w4 (by rw[y7,y7];omega)) rfl (fun e' w5 hr=>?_);obtain⟨rfl,s4⟩:=hr;replace s4:=sB s4;have b1:=s4;refine⟨_,rfl,?_⟩;refine x6 (Y1 b1 (hg 30 rfl rfl rfl (fun _ _=>Y7 rfl rfl (kZ _ dE) (kZ _ dE)) (hg 30 rfl rfl rfl (fun _ _=>Iq (b:=9259542123273814144) rfl rfl (aT (n:=64) (kZ _ dE) (kZ _ dE)) dE) (zn4 ?_))));refine jW rfl (fun c39=>?_) (fun c39=>?_)
      ·have hvB:=OZ (s:=s) (p:=p+9) (k:=16) oG (asc16 (Int.ofNat.inj (aS c39)));refine zn3 ?_;refine wl (Vw (l:=16) U9 rfl rfl (by rw[y7];omega)) (wl (uJ (v:= .string (sdr (p+25) s)) (by exact congrArg Value.string (Z4 _ _ s))) (zn3 ?_));refine qk (rgq [0] 42 23) (fun m g w'=>∃ p2:Nat,p+25<=p2/\p2<=s.size/\m=s.size-p2/\g 0= .string (sdr p2 s)/\vq s p=vq s p2/\Bel w w') (s.size-(p+25)) ?_ (fun m g9 w6 hI=>?_)
       ·exact⟨p+25,ae _,by omega,rfl,rfl,((a2.trans a8).trans hvB),hB.u⟩
       obtain⟨p2,hp2,hp2s,hm2,h0b,a9,hB⟩:=hI;refine zZ 0 _ h0b nu (yz (yz ?_));by_cases q9:32<s.size-p2
       ·refine uV [] [0,1,2,3,4,6,7,10,11,13,14,5,8,9,12,15,16,17,18,19,20] rfl (fun w7 s5=>?_);refine zn2 ?_;refine hle rfl (fun _=>FW rfl rfl) (ac (ah (by rw[y7];omega))) (zn3 ?_);refine hg 45 rfl rfl rfl (fun _ _=>Vw (l:=8) U9 rfl rfl (by rw[y7];omega)) (zn1 ?_);refine hg 45 rfl rfl rfl (fun _ _=>Vw (l:=16) U9 rfl rfl (by rw[y7];omega)) (zn1 ?_);refine hg 45 rfl rfl rfl (fun _ _=>Vw (l:=24) U9 rfl rfl (by rw[y7];omega)) (h1 rfl (zn1 ?_));refine zX kR (QV (sdr p2 s) w7 (by rw[y7];omega)) rfl (fun e' w8 hr=>?_);obtain⟨rfl,s6⟩:=hr;replace s6:=sB s6;have b2:=s6;refine⟨_,rfl,?_⟩;refine x6 (Y1 b2 (h1 rfl (zn1 ?_)));refine zX kR (QV (sdr 8 (sdr p2 s)) w8 (by rw[y7,y7];omega)) rfl (fun e' w9 hr=>?_);obtain⟨rfl,s7⟩:=hr;replace s7:=sB s7;have b1:=s7;refine⟨_,rfl,?_⟩;refine x6 (Y1 b1 (hg 45 rfl rfl rfl (fun _ _=>Y7 rfl rfl (kZ _ dE) (kZ _ dE)) (h1 rfl (zn1 ?_))));refine zX kR (QV (sdr 16 (sdr p2 s)) w9 (by rw[y7,y7];omega)) rfl (fun e' w10 hr=>?_);obtain⟨rfl,s8⟩:=hr;replace s8:=sB s8;have b7:=s8;refine⟨_,rfl,?_⟩;refine x6 (Y1 b7 (h1 rfl (zn1 ?_)));refine zX kR (QV (sdr 24 (sdr p2 s)) w10 (by rw[y7,y7];omega)) rfl (fun e' w11 hr=>?_);obtain⟨rfl,s9⟩:=hr;replace s9:=sB s9;have b5:=s9;refine⟨_,rfl,?_⟩;refine x6 (Y1 b5 (hg 45 rfl rfl rfl (fun _ _=>Y7 rfl rfl (kZ _ dE) (kZ _ dE)) (hg 45 rfl rfl rfl (fun _ _=>Y7 rfl rfl (aT (n:=64) (kZ _ dE) (kZ _ dE)) (aT (n:=64) (kZ _ dE) (kZ _ dE))) (hg 45 rfl rfl rfl (fun _ _=>Iq (b:=9259542123273814144) rfl rfl (aT (n:=64) (aT (n:=64) (kZ _ dE) (kZ _ dE)) (aT (n:=64) (kZ _ dE) (kZ _ dE))) dE) (zn4 ?_)))));refine jW rfl (fun c62=>?_) (fun c62=>?_)
        ·have hvC:=OZ (s:=s) (p:=p2) (k:=32) oG (asc32 (Int.ofNat.inj (aS c62)));refine zn5 ?_;refine wl (Vw (l:=32) U9 rfl rfl (by rw[y7];omega)) (wl (uJ (v:= .string (sdr (p2+32) s)) (by exact congrArg Value.string (Z4 _ _ s))) (x6 (e_B (xY (s.size-(p2+32)) oG agA ?_))));exact⟨p2+32,by omega,by omega,rfl,rfl,a9.trans hvC,hB.u⟩
        refine zn8 ?_;refine xY (mo-1) oG agA ?_;replace hB:=hB.tr0 (s5.t (s6.t (s7.t (s8.t s9))))
        first
          | exact⟨p+1,by omega,by omega,rfl,hv.trans a2,hB⟩
          | exact⟨p+9,by omega,by omega,rfl,hv.trans (a2.trans a8),hB⟩
          | exact⟨p2,by omega,by omega,rfl,hv.trans a9,hB⟩
          | exact⟨p+2,by omega,by omega,rfl,hv.trans a1,hB⟩
          | exact⟨p+3,by omega,by omega,rfl,hv.trans a1,hB⟩
          | exact⟨p+4,by omega,by omega,rfl,hv.trans a1,hB⟩
       refine uV [] [0,1,2,3,4,6,7,10,11,13,14,5,8,9,12,15,16,17,18,19,20] rfl (fun w12 s10=>?_);refine zn2 ?_;refine hle rfl (fun _=>FW rfl rfl) (ac (ag (by rw[y7];omega))) (zn29 ?_);refine xY (mo-1) oG agA ?_;replace hB:=hB.tr0 s10
       first
         | exact⟨p+1,by omega,by omega,rfl,hv.trans a2,hB⟩
         | exact⟨p+9,by omega,by omega,rfl,hv.trans (a2.trans a8),hB⟩
         | exact⟨p2,by omega,by omega,rfl,hv.trans a9,hB⟩
         | exact⟨p+2,by omega,by omega,rfl,hv.trans a1,hB⟩
         | exact⟨p+3,by omega,by omega,rfl,hv.trans a1,hB⟩
         | exact⟨p+4,by omega,by omega,rfl,hv.trans a1,hB⟩
      refine zn5 ?_;refine xY (mo-1) oG agA ?_;replace hB:=hB.tr0 (s2.t (s3.t s4))
      first
        | exact⟨p+1,by omega,by omega,rfl,hv.trans a2,hB⟩
        | exact⟨p+9,by omega,by omega,rfl,hv.trans (a2.trans a8),hB⟩
        | exact⟨p2,by omega,by omega,rfl,hv.trans a9,hB⟩
        | exact⟨p+2,by omega,by omega,rfl,hv.trans a1,hB⟩
        | exact⟨p+3,by omega,by omega,rfl,hv.trans a1,hB⟩
        | exact⟨p+4,by omega,by omega,rfl,hv.trans a1,hB⟩
     refine uV [] [0,1,2,3,4,6,7,5,8,9,10,11,12] rfl (fun w13 s11=>?_);refine zn2 ?_;refine hle rfl (fun _=>FW rfl rfl) (ac (ag (by rw[y7];omega))) (zn18 ?_);refine xY (mo-1) oG agA ?_;replace hB:=hB.tr0 s11
     first
       | exact⟨p+1,by omega,by omega,rfl,hv.trans a2,hB⟩
       | exact⟨p+9,by omega,by omega,rfl,hv.trans (a2.trans a8),hB⟩
       | exact⟨p2,by omega,by omega,rfl,hv.trans a9,hB⟩
       | exact⟨p+2,by omega,by omega,rfl,hv.trans a1,hB⟩
       | exact⟨p+3,by omega,by omega,rfl,hv.trans a1,hB⟩
       | exact⟨p+4,by omega,by omega,rfl,hv.trans a1,hB⟩
    refine zn5 ?_;refine xY (mo-1) oG agA ?_;replace hB:=hB.tr0 s1
    first
      | exact⟨p+1,by omega,by omega,rfl,hv.trans a2,hB⟩
      | exact⟨p+9,by omega,by omega,rfl,hv.trans (a2.trans a8),hB⟩
      | exact⟨p2,by omega,by omega,rfl,hv.trans a9,hB⟩
      | exact⟨p+2,by omega,by omega,rfl,hv.trans a1,hB⟩
      | exact⟨p+3,by omega,by omega,rfl,hv.trans a1,hB⟩
      | exact⟨p+4,by omega,by omega,rfl,hv.trans a1,hB⟩
   refine Zv ?_;refine xY (mo-1) oG agA ?_
   first
     | exact⟨p+1,by omega,by omega,rfl,hv.trans a2,hB⟩
     | exact⟨p+9,by omega,by omega,rfl,hv.trans (a2.trans a8),hB⟩
     | exact⟨p2,by omega,by omega,rfl,hv.trans a9,hB⟩
     | exact⟨p+2,by omega,by omega,rfl,hv.trans a1,hB⟩
     | exact⟨p+3,by omega,by omega,rfl,hv.trans a1,hB⟩
     | exact⟨p+4,by omega,by omega,rfl,hv.trans a1,hB⟩
  have b9:128<=gb s p:=by omega
  refine zn3 ?_;have hU2:=hU.mono hB;have hft:=first_256 (gb s p);refine zn2 ?_;refine wl (JK (i:=(gb s p)) Tryd.underlying169 YQ rfl rfl hb0 rfl) (wl (qW (v:= .int _ _) U5 rfl rfl (hU2.1.2 _ hb0)) (zn6 ?_));refine wl (r_and7 rfl rfl hft) (wl (r_cvI U5 U3 rfl oG) (zn6 ?_));refine wl (r_shr8 (b:=4) (c:=(Lib.firstT (gb s p))/16) rfl rfl dE rfl) (wl (JK (i:=((Lib.firstT (gb s p))/16)) Tryd.underlying172 sz171 rfl rfl oG rfl) (wl (qK Ow rfl rfl (hU2.2.2 _ oG) sz171) ?_));refine yx (cs:=#[.int .u8 0,.int .u8 0]) ze171 rfl (fun _=>rfl) (fun _=>rfl) sz171 rfl y5 (fun b6 ab b3 an hr=>?_);refine VQ ?_;refine zK rfl (fun c76=>?_) (fun c76=>?_)
  ·obtain⟨a5,a3⟩:=ok_n (n:=2) a4 (.inl rfl) oG;refine yz (yz ?_);refine yX (rgq [] 78 17) (fun g w'=>(g 94= .bool (decide (vj s p 2)))/\Same [] ab w') ?_ (fun g17 w16 hI=>?_)
   ·have hZ:SameQ [] ab ab:=Same.refl _ _;refine Qw kR kR (fun w17 s13=>?_);replace hZ:=SameQ.trans hZ s13 (by simp);refine zn4 ?_;refine u4 81 rfl (fun g81=>?_) (fun g81=>?_)
    ·refine Zv ?_;refine o6 ?_;refine e_R ⟨agA,?_⟩;refine⟨?_,hZ⟩
     first|exact ac (ah (by unfold vj;omega)).symm|exact ac (ag (by unfold vj;omega)).symm|exact ac (ai.2 (by unfold vj;omega))
    refine j7 81 rfl rfl (x7 (v:= .string _) rfl) (j7 81 rfl rfl (kQ (i:=1) U9 rfl rfl oG) (j7 81 rfl rfl (Z5 Ow YQ dE rfl rfl rfl) (j7 81 rfl rfl (qW (v:= .int _ _) U5 rfl rfl (b3.u.cell rfl)) (j7 81 rfl rfl (Y8 rfl rfl) (zn2 ?_)))));refine u4 88 rfl (fun g88=>?_) (fun g88=>?_)
    ·refine zn6 ?_;refine o6 ?_;refine e_R ⟨agA,?_⟩;refine⟨?_,hZ⟩
     first|exact ac (ah (by unfold vj;omega)).symm|exact ac (ag (by unfold vj;omega)).symm|exact ac (ai.2 (by unfold vj;omega))
    refine j7 88 rfl rfl (Z5 Ow YQ dE rfl rfl rfl) (j7 88 rfl rfl (qW (v:= .int _ _) U5 rfl rfl (b3.u.cell rfl)) (j7 88 rfl rfl (x7 (v:= .string _) rfl) (j7 88 rfl rfl (kQ (i:=1) U9 rfl rfl oG) (j7 88 rfl rfl (Y8 rfl rfl) (zn1 ?_)))));refine o6 ?_;refine e_R ⟨agA,?_⟩;refine⟨?_,hZ⟩
    first|exact ac (ah (by unfold vj;omega)).symm|exact ac (ag (by unfold vj;omega)).symm|exact ac (ai.2 (by unfold vj;omega))
   obtain⟨h94,s14⟩:=hI;refine Zq 94 _ h94 nu (e_S ?_);refine zK rfl (fun ba=>?_) (fun ba=>?_)
   ·have ao:=vq_no a4 (a5 ba);refine Zv ?_;replace hB:=hB.tr0 (an.t s14);exact⟨by rw[hv,ao];rfl,hB⟩
   have hnb:2<=s.size-p:=by unfold vj at ba;omega
   obtain⟨b8,b4⟩:=a3 ba;have a1:=vq_go a4 b8;rw[b4]at a1;refine zn4 ?_;refine wl (Vw (l:=2) U9 rfl rfl (by unfold vj at ba;omega)) (wl (uJ (v:= .string (sdr (p+2) s)) (by exact congrArg Value.string (Z4 _ _ s))) (zn3 ?_));refine xY (mo-1) oG agA ?_;replace hB:=hB.tr0 (an.t s14)
   first
     | exact⟨p+1,by omega,by omega,rfl,hv.trans a2,hB⟩
     | exact⟨p+9,by omega,by omega,rfl,hv.trans (a2.trans a8),hB⟩
     | exact⟨p2,by omega,by omega,rfl,hv.trans a9,hB⟩
     | exact⟨p+2,by omega,by omega,rfl,hv.trans a1,hB⟩
     | exact⟨p+3,by omega,by omega,rfl,hv.trans a1,hB⟩
     | exact⟨p+4,by omega,by omega,rfl,hv.trans a1,hB⟩
  refine zn6 ?_;refine zK rfl (fun c97=>?_) (fun c97=>?_)
  ·obtain⟨a5,a3⟩:=ok_n (n:=3) a4 (.inr (.inl rfl)) oG;refine yz (yz ?_);refine yX (rgq [] 99 27) (fun g w'=>(g 125= .bool (decide (vj s p 3)))/\Same [] ab w') ?_ (fun g21 w18 hI=>?_)
   ·have hZ:SameQ [] ab ab:=Same.refl _ _;refine Qw kR kR (fun w19 s15=>?_);replace hZ:=SameQ.trans hZ s15 (by simp);refine zn4 ?_;refine u4 102 rfl (fun bn=>?_) (fun bn=>?_)
    ·refine zn23 ?_;refine o6 ?_;refine e_R ⟨agA,?_⟩;refine⟨?_,hZ⟩
     first|exact ac (ah (by unfold vj;omega)).symm|exact ac (ag (by unfold vj;omega)).symm|exact ac (ai.2 (by unfold vj;omega))
    refine j7 102 rfl rfl (x7 (v:= .string _) rfl) (j7 102 rfl rfl (kQ (i:=1) U9 rfl rfl oG) (j7 102 rfl rfl (Z5 Ow YQ dE rfl rfl rfl) (j7 102 rfl rfl (qW (v:= .int _ _) U5 rfl rfl (b3.u.cell rfl)) (j7 102 rfl rfl (Y8 rfl rfl) (zn2 ?_)))));refine u4 109 rfl (fun bm=>?_) (fun bm=>?_)
    ·refine P0 ?_;refine o6 ?_;refine e_R ⟨agA,?_⟩;refine⟨?_,hZ⟩
     first|exact ac (ah (by unfold vj;omega)).symm|exact ac (ag (by unfold vj;omega)).symm|exact ac (ai.2 (by unfold vj;omega))
    refine j7 109 rfl rfl (Z5 Ow YQ dE rfl rfl rfl) (j7 109 rfl rfl (qW (v:= .int _ _) U5 rfl rfl (b3.u.cell rfl)) (j7 109 rfl rfl (x7 (v:= .string _) rfl) (j7 109 rfl rfl (kQ (i:=1) U9 rfl rfl oG) (j7 109 rfl rfl (Y8 rfl rfl) (zn2 ?_)))));refine u4 116 rfl (fun bk=>?_) (fun bk=>?_)
    ·refine zn9 ?_;refine o6 ?_;refine e_R ⟨agA,?_⟩;refine⟨?_,hZ⟩
     first|exact ac (ah (by unfold vj;omega)).symm|exact ac (ag (by unfold vj;omega)).symm|exact ac (ai.2 (by unfold vj;omega))
    refine j7 116 rfl rfl (x7 (v:= .string _) rfl) (j7 116 rfl rfl (kQ (i:=2) U9 rfl rfl oG) (j7 116 rfl rfl (Y8 rfl rfl) (zn2 ?_)));refine u4 121 rfl (fun bj=>?_) (fun bj=>?_)
    ·refine zn4 ?_;refine o6 ?_;refine e_R ⟨agA,?_⟩;refine⟨?_,hZ⟩
     first|exact ac (ah (by unfold vj;omega)).symm|exact ac (ag (by unfold vj;omega)).symm|exact ac (ai.2 (by unfold vj;omega))
    refine j7 121 rfl rfl (x7 (v:= .string _) rfl) (j7 121 rfl rfl (kQ (i:=2) U9 rfl rfl oG) (j7 121 rfl rfl (Y8 rfl rfl) (zn1 ?_)));refine o6 ?_;refine e_R ⟨agA,?_⟩;refine⟨?_,hZ⟩
    first|exact ac (ah (by unfold vj;omega)).symm|exact ac (ag (by unfold vj;omega)).symm|exact ac (ai.2 (by unfold vj;omega))
   obtain⟨bc,s16⟩:=hI;refine Zq 125 _ bc nu (e_S ?_);refine zK rfl (fun a7=>?_) (fun a7=>?_)
   ·have ao:=vq_no a4 (a5 a7);refine Zv ?_;replace hB:=hB.tr0 (an.t s16);exact⟨by rw[hv,ao];rfl,hB⟩
   have hnb:3<=s.size-p:=by unfold vj at a7;omega
   obtain⟨b8,b4⟩:=a3 a7;have a1:=vq_go a4 b8;rw[b4]at a1;refine zn4 ?_;refine wl (Vw (l:=3) U9 rfl rfl (by unfold vj at a7;omega)) (wl (uJ (v:= .string (sdr (p+3) s)) (by exact congrArg Value.string (Z4 _ _ s))) (zn3 ?_));refine xY (mo-1) oG agA ?_;replace hB:=hB.tr0 (an.t s16)
   first
     | exact⟨p+1,by omega,by omega,rfl,hv.trans a2,hB⟩
     | exact⟨p+9,by omega,by omega,rfl,hv.trans (a2.trans a8),hB⟩
     | exact⟨p2,by omega,by omega,rfl,hv.trans a9,hB⟩
     | exact⟨p+2,by omega,by omega,rfl,hv.trans a1,hB⟩
     | exact⟨p+3,by omega,by omega,rfl,hv.trans a1,hB⟩
     | exact⟨p+4,by omega,by omega,rfl,hv.trans a1,hB⟩
  refine zn6 ?_;refine zK rfl (fun bo=>?_) (fun bo=>?_)
  ·obtain⟨a5,a3⟩:=ok_n (n:=4) a4 (.inr (.inr rfl)) oG;refine yz (yz ?_);refine yX (rgq [] 130 37) (fun g w'=>(g 166= .bool (decide (vj s p 4)))/\Same [] ab w') ?_ (fun g25 w20 hI=>?_)
   ·have hZ:SameQ [] ab ab:=Same.refl _ _;refine Qw kR kR (fun w21 s17=>?_);replace hZ:=SameQ.trans hZ s17 (by simp);refine zn4 ?_;refine u4 133 rfl (fun bi=>?_) (fun bi=>?_)
    ·refine zn30 ?_;refine zn3 ?_;refine o6 ?_;refine e_R ⟨agA,?_⟩;refine⟨?_,hZ⟩
     first|exact ac (ah (by unfold vj;omega)).symm|exact ac (ag (by unfold vj;omega)).symm|exact ac (ai.2 (by unfold vj;omega))
    refine j7 133 rfl rfl (x7 (v:= .string _) rfl) (j7 133 rfl rfl (kQ (i:=1) U9 rfl rfl oG) (j7 133 rfl rfl (Z5 Ow YQ dE rfl rfl rfl) (j7 133 rfl rfl (qW (v:= .int _ _) U5 rfl rfl (b3.u.cell rfl)) (j7 133 rfl rfl (Y8 rfl rfl) (zn2 ?_)))));refine u4 140 rfl (fun bh=>?_) (fun bh=>?_)
    ·refine zn26 ?_;refine o6 ?_;refine e_R ⟨agA,?_⟩;refine⟨?_,hZ⟩
     first|exact ac (ah (by unfold vj;omega)).symm|exact ac (ag (by unfold vj;omega)).symm|exact ac (ai.2 (by unfold vj;omega))
    refine j7 140 rfl rfl (Z5 Ow YQ dE rfl rfl rfl) (j7 140 rfl rfl (qW (v:= .int _ _) U5 rfl rfl (b3.u.cell rfl)) (j7 140 rfl rfl (x7 (v:= .string _) rfl) (j7 140 rfl rfl (kQ (i:=1) U9 rfl rfl oG) (j7 140 rfl rfl (Y8 rfl rfl) (zn2 ?_)))));refine u4 147 rfl (fun bg=>?_) (fun bg=>?_)
    ·refine zn19 ?_;refine o6 ?_;refine e_R ⟨agA,?_⟩;refine⟨?_,hZ⟩
     first|exact ac (ah (by unfold vj;omega)).symm|exact ac (ag (by unfold vj;omega)).symm|exact ac (ai.2 (by unfold vj;omega))
    refine j7 147 rfl rfl (x7 (v:= .string _) rfl) (j7 147 rfl rfl (kQ (i:=2) U9 rfl rfl oG) (j7 147 rfl rfl (Y8 rfl rfl) (zn2 ?_)));refine u4 152 rfl (fun bf=>?_) (fun bf=>?_)
    ·refine VQ ?_;refine o6 ?_;refine e_R ⟨agA,?_⟩;refine⟨?_,hZ⟩
     first|exact ac (ah (by unfold vj;omega)).symm|exact ac (ag (by unfold vj;omega)).symm|exact ac (ai.2 (by unfold vj;omega))
    refine j7 152 rfl rfl (x7 (v:= .string _) rfl) (j7 152 rfl rfl (kQ (i:=2) U9 rfl rfl oG) (j7 152 rfl rfl (Y8 rfl rfl) (zn2 ?_)));refine u4 157 rfl (fun be=>?_) (fun be=>?_)
    ·refine zn9 ?_;refine o6 ?_;refine e_R ⟨agA,?_⟩;refine⟨?_,hZ⟩
     first|exact ac (ah (by unfold vj;omega)).symm|exact ac (ag (by unfold vj;omega)).symm|exact ac (ai.2 (by unfold vj;omega))
    refine j7 157 rfl rfl (x7 (v:= .string _) rfl) (j7 157 rfl rfl (kQ (i:=3) U9 rfl rfl oG) (j7 157 rfl rfl (Y8 rfl rfl) (zn2 ?_)));refine u4 162 rfl (fun bd=>?_) (fun bd=>?_)
    ·refine zn4 ?_;refine o6 ?_;refine e_R ⟨agA,?_⟩;refine⟨?_,hZ⟩
     first|exact ac (ah (by unfold vj;omega)).symm|exact ac (ag (by unfold vj;omega)).symm|exact ac (ai.2 (by unfold vj;omega))
    refine j7 162 rfl rfl (x7 (v:= .string _) rfl) (j7 162 rfl rfl (kQ (i:=3) U9 rfl rfl oG) (j7 162 rfl rfl (Y8 rfl rfl) (zn1 ?_)));refine o6 ?_;refine e_R ⟨agA,?_⟩;refine⟨?_,hZ⟩
    first|exact ac (ah (by unfold vj;omega)).symm|exact ac (ag (by unfold vj;omega)).symm|exact ac (ai.2 (by unfold vj;omega))
   obtain⟨bb,s18⟩:=hI;refine Zq 166 _ bb nu (e_S ?_);refine zK rfl (fun a6=>?_) (fun a6=>?_)
   ·have ao:=vq_no a4 (a5 a6);refine Zv ?_;replace hB:=hB.tr0 (an.t s18);exact⟨by rw[hv,ao];rfl,hB⟩
   have hnb:4<=s.size-p:=by unfold vj at a6;omega
   obtain⟨b8,b4⟩:=a3 a6;have a1:=vq_go a4 b8;rw[b4]at a1;refine zn4 ?_;refine wl (Vw (l:=4) U9 rfl rfl (by unfold vj at a6;omega)) (wl (uJ (v:= .string (sdr (p+4) s)) (by exact congrArg Value.string (Z4 _ _ s))) (zn3 ?_));refine xY (mo-1) oG agA ?_;replace hB:=hB.tr0 (an.t s18)
   first
     | exact⟨p+1,by omega,by omega,rfl,hv.trans a2,hB⟩
     | exact⟨p+9,by omega,by omega,rfl,hv.trans (a2.trans a8),hB⟩
     | exact⟨p2,by omega,by omega,rfl,hv.trans a9,hB⟩
     | exact⟨p+2,by omega,by omega,rfl,hv.trans a1,hB⟩
     | exact⟨p+3,by omega,by omega,rfl,hv.trans a1,hB⟩
     | exact⟨p+4,by omega,by omega,rfl,hv.trans a1,hB⟩
  have ao:=vq_no a4 (ok_bad b9 oG oG oG);refine jJ ?_;replace hB:=hB.tr0 an;exact⟨by rw[hv,ao];rfl,hB⟩
 have hsp:=y7 p s;refine jJ ?_;exact⟨by rw[hv,vq_end oG];rfl,hB⟩
theorem wrap8{a:Nat}(h:a<256):IntKind.u8.wrap (a:Int)=a:=by
 have:∀ a:Nat,a<256->IntKind.u8.wrap (a:Int)=a:=by decide +kernel
 exact this a h
theorem ixl_any(s:ByteArray)(c:Int)(w:World):Calls Tryd.prog 109 #[.string s,.int .u8 c] w fun e w'=>e= .returned (.int .i64 (Lib.indexByte (bl s) c.toNat.toUInt8))/\w=w':=by
 refine enter Tryd.func109 Tryd.ntmps109 rfl (aE rfl) (zn9 ?_);refine wl (r_ext (args:=[.string s,.int .u8 c]) (run_ixb (P:=Tryd.prog) Tryd.func110 kR kR kR kR) rfl) (zn5 ?_);exact⟨rfl,rfl⟩
theorem Ww(s:ByteArray)(c:Int)(w:World):Calls Tryd.prog 105 #[.string s,.int .u8 c] w fun e w'=>e= .returned (.int .i64 (Lib.indexByte (bl s) c.toNat.toUInt8))/\w=w':=by
 refine enter Tryd.func105 Tryd.ntmps105 rfl (aE rfl) (zn9 ?_);refine zX kR (ixl_any s c _) rfl (fun e' w1 hr=>?_);obtain⟨rfl,rfl⟩:=hr;refine⟨_,rfl,?_⟩;refine zn5 ?_;exact⟨rfl,rfl⟩
theorem vrune_any(r:Int)(w:World):Calls Tryd.prog 106 #[.int .i32 r] w fun e w'=>(∃ b,e= .returned (.bool b))/\w=w':=by
 refine enter Tryd.func106 Tryd.ntmps106 rfl (aE rfl) (zn8 ?_);refine yy [3,4,5,6,7,8,9] 3 (.bool (decide (0<=r/\r<55296))) nu ?_ (fun gq=>?_)
 ·refine zn4 ?_;refine zQ 6 rfl (fun g6=>?_) (fun g6=>?_)
  ·refine zn6 ?_;exact vx
  refine zn4 ?_;exact vx
 refine e_S ?_;refine zK rfl (fun c3=>?_) (fun c3=>?_)
 ·refine zn9 ?_;exact⟨⟨true,rfl⟩,rfl⟩
 refine yz ?_;refine yy [10,11,12,13,14,15,16] 10 (.bool (decide (57343<r/\r<=1114111))) nu ?_ (fun gq=>?_)
 ·refine zn4 ?_;refine zQ 13 rfl (fun g13=>?_) (fun g13=>?_)
  ·refine zn6 ?_;exact vx
  refine zn4 ?_;exact vx
 refine e_S ?_;refine zK rfl (fun c10=>?_) (fun c10=>?_)
 ·refine zn9 ?_;exact⟨⟨true,rfl⟩,rfl⟩
 refine jZ ?_;exact⟨⟨false,rfl⟩,rfl⟩
theorem sua_any(n:Nat)(w:World):Calls Tryd.prog 102 #[.int .i64 ((n:Nat):Int)] w fun e w'=>e= .returned (.bool (decide (8<n)))/\w=w':=by
 refine enter Tryd.func102 Tryd.ntmps102 rfl (aE rfl) (VQ ?_);exact⟨congrArg (fun z=>Ending.returned (.bool z)) (ai.2 (by constructor<;>(intro h;omega))),rfl⟩
set_option maxRecDepth 100000 in
set_option maxHeartbeats 4000000 in
theorem ixr_any(r:Nat)(w:World):Calls Tryd.prog 101 #[.string CH,.int .i32 ((r:Nat):Int)] w fun e w'=>(∃ z:Int,e= .returned (.int .i64 z)/\(0<=z↔spc r=true))/\Bel w w':=by
 have hcs:CH.size=9:=rfl;refine enT Tryd.func101 Tryd.ntmps101 rfl rfl fun hB=>?_;refine zn7 ?_;refine yy [160,161,162,163,164,165,166] 160 (.bool (decide (0<=(r:Int)/\(r:Int)<128))) nu ?_ (fun gq=>?_)
 ·refine zn4 ?_;refine zQ 163 rfl (fun a9=>?_) (fun a9=>?_)
  ·refine zn6 ?_;exact vx
  refine zn4 ?_;exact vx
 refine e_S ?_;refine zK rfl (fun ao=>?_) (fun ao=>?_)
 ·refine zn4 ?_;refine wl (Mw Tryd.underlying21 U5 rfl (wrap8 oG)) ?_;refine zX kR (Ww CH _ _) rfl (fun e' w1 hr=>?_);obtain⟨rfl,rfl⟩:=hr;refine⟨_,rfl,?_⟩;refine zn6 ?_;have h:=ch_ix r oG;exact⟨⟨_,rfl,by rw[<- h,decide_eq_true_iff];rfl⟩,hB⟩
 have a6:spc r=false:=by cases h:spc r with|false=>rfl|true=>have:=SV h;omega
 have a4:128<=r:=by omega
 refine zn7 ?_;refine zK rfl (fun an=>?_) (fun an=>?_)
 ·refine zn4 ?_;refine wl_rg U9 rfl (fun b1 w2 a1 s1 hr=>?_);have a3:=hB.ob hr;refine zn3 ?_;refine qk (rgq [4,5,6] 176 7) (fun m g w'=>∃ p:Nat,p<=9/\m=9-p/\Bel w w'/\ItIn w' b1 CH p) (9) ?_ (fun m g38 w3 hI=>?_)
  ·exact⟨0,by omega,rfl,hB.u,a1⟩
  obtain⟨p,hp,hm,hB,a1⟩:=hI;refine zn2 ?_;rcases Nat.lt_or_ge (p) (CH).size with hnlt|hnge
  ·refine wl_nx a1 rfl hnlt (fun w4 hq s2=>?_);replace a1:=hq;have hwl:=Oy (ch_lt p oG);have hlt:=ch_lt p oG;refine wl (yV (v:= .bool true) rfl rfl) (zn9 ?_);refine wl (yV (v:= .int _ _) rfl rfl) (wl (yV (v:= .int _ _) rfl rfl) (jZ ?_));refine zK rfl (fun a5=>?_) (fun a5=>?_)
   ·exact absurd a5 (by rw[hwl.2];omega)
   refine c_skip (e_B (xY (9-(p+1)) oG agA ?_));replace hB:=hB.tr1 s2 a3;exact⟨p+1,by omega,rfl,hB,by have h:=a1;rw[show (Utf8.decode CH p).2=1 from hwl.1]at h;exact h⟩
  refine wl (r_ne a1 rfl (Nat.not_lt.2 hnge)) (wl (yV (v:= .bool false) rfl rfl) (R7 ?_));exact⟨⟨-1,rfl,⟨fun h=>by omega,fun h=>by rw[a6]at h;cases h⟩⟩,hB⟩
 refine zn3 ?_;refine zX kR (vrune_any _ _) rfl (fun e' w5 hr=>?_);obtain⟨⟨bv,rfl⟩,rfl⟩:=hr;refine⟨_,rfl,?_⟩;refine zn4 ?_;refine jW rfl (fun ab=>?_) (fun ab=>?_)
 ·refine zn8 ?_;exact⟨⟨-1,rfl,⟨fun h=>by omega,fun h=>by rw[a6]at h;cases h⟩⟩,hB⟩
 refine c_scope (zn3 ?_);refine wl (r_rstr Tryd.underlying21 U9 rfl) (zn4 ?_);obtain⟨hE2,hE4,hEh⟩:=enc_hi a4;refine zn3 ?_;refine wl (Xj (c:=(((Utf8.encode (r:Int)).size-1:Nat):Int)) rfl rfl oG oG) (P0 ?_);refine qk (rgq [4,9,10,11,12] 23 76) (fun m g w'=>m=0/\g 9= .int .i64 (((Utf8.encode (r:Int)).size-1:Nat):Int)/\Bel w w') (0) ?_ (fun m g5 w6 hI=>?_)
 ·exact⟨rfl,rfl,hB⟩
 obtain⟨hm,h9,hB⟩:=hI;refine zZ 9 _ h9 nu (zn9 ?_);refine zK rfl (fun c26=>?_) (fun c26=>?_)
 ·obtain⟨ii,a7⟩:∃ x,x=(Utf8.encode (r:Int)).size-1:=⟨_,rfl⟩
  have hi9:ii<9:=by omega
  have hclo:=ch_lt ii hi9;have a8:=hEh ((Utf8.encode (r:Int)).size-1) oG;have a2:Lib.indexByte (bl (sdr (ii+1) CH)) (((gb (Utf8.encode (r:Int)) ((Utf8.encode (r:Int)).size-1):Nat):Int)).toNat.toUInt8<0:=by
    refine ixb_none (fun hm=>?_);rw[K8]at hm;have h1:=List.mem_of_mem_drop hm;have h2:∀ x∈bl CH,x.toNat<128:=by decide
    have h3:=h2 _ h1;have h4:=Z9 (Utf8.encode (r:Int)) ((Utf8.encode (r:Int)).size-1);rw[Int.toNat_natCast,show ((gb (Utf8.encode (r:Int)) ((Utf8.encode (r:Int)).size-1))).toUInt8.toNat=gb (Utf8.encode (r:Int)) ((Utf8.encode (r:Int)).size-1)from Nat.mod_eq_of_lt h4]at h3;omega
  rw[<- a7]at a2 a8;refine zn3 ?_;refine c_scope (yz (yz ?_));refine Qw kR kR (fun w7 s3=>?_);refine zn2 ?_;refine ws (kQ (i:=((Utf8.encode (r:Int)).size-1)) U9 rfl rfl oG) (zn2 ?_);refine ws (kQ (i:=((Utf8.encode (r:Int)).size-1)) U9 rfl rfl oG) (zn1 ?_);refine o6 (e_S ?_);refine zK rfl (fun c33=>?_) (fun c33=>?_)
  ·refine yz ?_;refine Qw kR kR (fun w8 s4=>?_);refine zn2 ?_;refine ws (X0 (c:=((ii+1:Nat):Int)) rfl rfl (by rw[<- a7];rfl) oG) (ws (Vw (l:=(ii+1)) U9 rfl rfl oG) (zn2 ?_));refine ws (kQ (i:=((Utf8.encode (r:Int)).size-1)) U9 rfl rfl oG) (ws_cl kR (Ww (sdr (ii+1) CH) _ _) rfl (zn1 ?_));refine o6 (zn8 ?_);refine zK rfl (fun c43=>?_) (fun c43=>?_)
   ·refine zn8 ?_;refine e_Nr (zn4 ?_);refine e_Nr (zn2 ?_);replace hB:=hB.tr0 (s3.t s4);exact⟨⟨-1,rfl,⟨fun h=>by omega,fun h=>by rw[a6]at h;cases h⟩⟩,hB⟩
   exact absurd (by rw[<- a7];exact a2) c43
  exact absurd (fun h=>by rw[<- a7]at h;omega) c33
 refine Zv ?_;refine e_Nr (zn2 ?_);exact⟨⟨-1,rfl,⟨fun h=>by omega,fun h=>by rw[a6]at h;cases h⟩⟩,hB⟩
abbrev aa:Array Value:=Array.replicate 256 (.bool false)
theorem sz176:(Tryd.prog.info? 176).map (·.size)=some 256:=by kernel_rfl
theorem ze176:(Tryd.prog.info? 176).map (·.zero)=some (some (.agg aa)):=by kernel_rfl
theorem mas_any(w:World):Calls Tryd.prog 103 #[.string CH] w fun e w'=>e= .returned (.tuple #[.agg (row 256 (fun x=> .bool (spc x))),.bool true])/\Bel w w':=by
 have hcs:CH.size=9:=rfl;refine enT Tryd.func103 Tryd.ntmps103 rfl rfl fun hB=>?_;refine zn2 ?_;refine qw (cs:=aa) ze176 rfl (fun b2 w1 a1 s1 hr=>?_)
 have lo2:=hB.ob hr;refine jZ ?_;refine qk (rgq [] 3 17) (fun m g w'=>∃ k:Nat,k<=9/\m=9-k/\g 4= .int .i64 k/\Bel w w'/\Blk w' b2 176 (row 256 (fun x=> .bool (chs k x)))) (9) ?_ (fun m g2 w2 hI=>?_)
 ·exact⟨0,ad _,rfl,rfl,hB.u,a1⟩
 obtain⟨k,hk,hm,h4,hB,a1⟩:=hI;refine zZ 4 _ h4 nu (zn9 ?_);refine zK rfl (fun c9=>?_) (fun c9=>?_)
 ·have a2:k<9:=by omega
  have hlo:=ch_lt k a2;refine zn8 ?_;refine wl (kQ (i:=k) U9 rfl rfl oG) (jZ ?_);refine zK rfl (fun c16=>?_) (fun c16=>?_)
  ·exact absurd c16 oG
  refine zn4 ?_;refine wl (JK (i:=(gb CH k)) U176 yY rfl rfl oG rfl) ?_;refine xj (v:= .bool _) a1 rfl rfl yY (by rw[row_size];omega) rfl Q1 (fun w3 hq s2=>?_);replace a1:=hq;rw[jX (g':=fun x=> .bool (chs (k+1) x)) (fun x _=>by rw[chs_step];by_cases e:x=gb CH k<;>simp[e])]at a1;refine zn8 ?_;refine xY (9-(k+1)) oG agA ?_;exact⟨k+1,by omega,rfl,rfl,hB.u,a1⟩
 have a2:k=9:=by omega
 subst a2;have a3:Blk w2 b2 176 (row 256 (fun x=> .bool (spc x))):=by rw[jX (g':=fun x=> .bool (chs 9 x)) (fun x hx=>by rw[chs_all x hx])];exact a1
 refine zn6 ?_;replace a1:=a3;refine zn2 ?_;refine zJ a1 (fun w4 hq s3=>?_);replace a1:=hq;refine zn4 ?_;refine Qq (.inl rfl) rfl (zw U176 rfl rfl a1.range0 sz176) rfl ?_;exact⟨rfl,hB.u⟩
theorem cnt_any(b6 c:Nat)(w:World)(hb6:Blk w b6 176 (row 256 (fun x=> .bool (spc x))))(hc:c<256):Calls Tryd.prog 104 #[.pointer (some ⟨b6,0,none⟩),.int .u8 ((c:Nat):Int)] w fun e w'=>e= .returned (.bool (spc c))/\w=w':=by
 refine enter Tryd.func104 Tryd.ntmps104 rfl (aE rfl) (zn7 ?_);refine wl (x7 (v:= .pointer (some _)) rfl) (wmI rfl (wl (Qk rfl) (wl (JK (i:=c) U176 yY rfl rfl hc rfl) (wl (qW (v:= .bool _) U4 rfl rfl (hb6.cell (uz hc))) (zn5 ?_)))));exact⟨rfl,rfl⟩
theorem ixa_any(s:ByteArray)(w:World)(hsz:s.size<9223372036854775807):Calls Tryd.prog 100 #[.string s,.string CH] w fun e w'=>(∃ z:Int,e= .returned (.int .i64 z)/\(0<=z↔brd s 0=true))/\Bel w w':=by
 refine enT Tryd.func100 Tryd.ntmps100 rfl rfl fun hB=>?_;refine jJ ?_;refine zK rfl (fun c12=>?_) (fun c12=>?_)
 ·exact absurd c12 dE
 refine jZ ?_;refine zK rfl (fun c15=>?_) (fun c15=>?_)
 ·exact absurd c15 dE
 refine zn7 ?_;refine zX kR (sua_any s.size _) rfl (fun e' w1 hr=>?_);obtain⟨rfl,rfl⟩:=hr;refine⟨_,rfl,?_⟩;refine x6 (e_S ?_);refine jW rfl (fun c26=>?_) (fun c26=>?_)
 ·refine zn3 ?_;refine aZ kR (mas_any _) rfl (fun w2 s1=>?_);refine wmT rfl (wl (yV (v:= .agg _) rfl rfl) (wl (yV (v:= .bool _) rfl rfl) ?_));refine yx (cs:=aa) ze176 rfl (fun _=>rfl) (fun _=>rfl) sz176 rfl y5 (fun b6 w4 a4 s2 hr=>?_)
  refine zn8 ?_;refine jW rfl (fun c32=>?_) (fun c32=>?_)
  ·refine zn7 ?_;refine qk (rgq [4,8] 33 11) (fun m g w'=>∃ k:Nat,k<=s.size/\m=s.size-k/\g 8= .int .i64 k/\Bel w w'/\Blk w' b6 176 (row 256 (fun x=> .bool (spc x)))/\∀ j,j<k->spc (gb s j)=false) (s.size) ?_ (fun m g12 w5 hI=>?_)
   ·exact⟨0,ad _,rfl,rfl,hB.u,a4,fun j hj=>by omega⟩
   obtain⟨k,hk,hm,h8,hB,a4,a2⟩:=hI;refine zZ 8 _ h8 nu (zn9 ?_);refine zK rfl (fun c36=>?_) (fun c36=>?_)
   ·refine zn8 ?_;refine wl (kQ (i:=k) U9 rfl rfl oG) ?_;refine zX kR (cnt_any b6 _ _ a4 (Z9 s k)) rfl (fun e' w6 hr=>?_);obtain⟨rfl,rfl⟩:=hr;refine⟨_,rfl,?_⟩;refine x6 (e_S ?_);refine jW rfl (fun a7=>?_) (fun a7=>?_)
    ·refine VQ ?_;exact⟨⟨_,rfl,⟨fun _=>brd_byte (m:=s.size) oG (ad k) oG a7,fun _=>Int.natCast_nonneg k⟩⟩,hB⟩
    refine zn8 ?_;refine xY (s.size-(k+1)) oG agA ?_
    exact⟨k+1,by omega,rfl,rfl,hB,a4,fun j hj=>by
      by_cases e:j=k
      · subst e;simpa using a7
      · exact a2 j oG⟩
   refine Zv ?_;have hno:brd s 0=false:=by
     cases h:brd s 0 with
     | false=>rfl
     | true=>
       obtain⟨q,_,h2,h3⟩:=byte_brd (m:=s.size) oG h;rw[a2 q oG]at h3;cases h3
   exact⟨⟨-1,rfl,⟨fun h=>by omega,fun h=>by rw[hno]at h;cases h⟩⟩,hB⟩
  exact absurd c32 dE
 refine zn6 ?_;refine wl_rg U9 rfl (fun b45 w7 a1 s3 hr=>?_);have a5:=hB.ob hr;refine zn3 ?_;refine qk (rgq [4,9,10] 46 9) (fun m g w'=>∃ p:Nat,p<=s.size/\s.size-p<=m/\Bel w w'/\ItIn w' b45 s p/\brd s 0=brd s p) (s.size) ?_ (fun m g18 w8 hI=>?_)
 ·exact⟨0,ad _,ae _,hB.u,a1,rfl⟩
 obtain⟨p,hp,hm,hB,a1,a3⟩:=hI;refine zn2 ?_;rcases Nat.lt_or_ge (p) (s).size with hnlt|hnge
 ·refine wl_nx a1 rfl hnlt (fun w9 hq s4=>?_);replace a1:=hq;have hwp:=Kq hnlt;have hwl:=wdt_le hnlt;refine wl (yV (v:= .bool true) rfl rfl) (zn9 ?_);refine wl (yV (v:= .int _ _) rfl rfl) (wl (yV (v:= .int _ _) rfl rfl) (zn8 ?_));refine zX kR (ixr_any _ _) rfl (fun e' w10 hr=>?_);obtain⟨⟨z,rfl,hz⟩,s5⟩:=hr;replace s5:=sB s5;refine⟨_,rfl,?_⟩;refine zn3 ?_;refine zK rfl (fun a6=>?_) (fun a6=>?_)
  ·have hbt:brd s 0=true:=by rw[a3,N9 hnlt,hz.1 a6];rfl
   refine jJ ?_;exact⟨⟨_,rfl,⟨fun _=>hbt,fun _=>Int.natCast_nonneg p⟩⟩,hB.u⟩
  have hsn:spc (Utf8.decode s p).1=false:=by cases h:spc (Utf8.decode s p).1 with|false=>rfl|true=>exact absurd (hz.2 h) a6
  refine c_skip (e_B (xY (m-1) oG agA ?_));replace hB:=(hB.tr1 s4 a5).tr0 s5;replace a1:=a1.tr0 s5;exact⟨p+wdt s p,hwl,by omega,hB,a1,by rw[a3,N9 hnlt,hsn,Bool.false_or]⟩
 refine wl (r_ne a1 rfl (Nat.not_lt.2 hnge)) ?_;rw[TV (Nat.not_lt.2 hnge)]at a3;refine wl (yV (v:= .bool false) rfl rfl) (P0 ?_);exact⟨⟨-1,rfl,⟨fun h=>by omega,fun h=>by rw[a3]at h;cases h⟩⟩,hB⟩
theorem cany_any(s:ByteArray)(w:World)(hsz:s.size<9223372036854775807):Calls Tryd.prog 92 #[.string s,.string CH] w fun e w'=>e= .returned (.bool (brd s 0))/\Bel w w':=by
 refine enT Tryd.func92 Tryd.ntmps92 rfl rfl fun hB=>?_;refine zn9 ?_;refine zX kR (ixa_any s _ hsz) rfl (fun e' w1 hr=>?_);obtain⟨⟨z,rfl,hz⟩,s1⟩:=hr;replace s1:=sB s1;refine⟨_,rfl,?_⟩;refine zn6 ?_;replace hB:=hB.tr0 s1;exact⟨congrArg (fun b=>Ending.returned (.bool b)) (by cases h:brd s 0 with|true=>exact ah (hz.2 h)|false=>exact ag (fun h2=>by rw[hz.1 h2]at h;cases h)),hB⟩
set_option maxHeartbeats 1000000 in
theorem word_p(s:ByteArray)(w:World)(hU:U8In w)(hsz:s.size<9223372036854775807):Calls Tryd.prog 68 #[.string s] w fun e w'=>e= .returned (.bool (oW s))/\Bel w w':=by
 refine enT Tryd.func68 Tryd.ntmps68 rfl rfl fun hB=>?_;refine zn8 ?_;refine aZ kR (rc_any s _ hsz) rfl (fun w1 s1=>?_);refine zn8 ?_;refine zQ 8 rfl (fun g8=>?_) (fun g8=>?_)
 ·refine zn6 ?_;refine zQ 12 rfl (fun g12=>?_) (fun g12=>?_)
  ·refine zn3 ?_;refine aZ kR (valid_any s _ (hU.mono hB.u) hsz) rfl (fun w2 s2=>?_);refine zn2 ?_;refine P7 16 rfl (fun a1=>?_) (fun a1=>?_)
   ·refine zn3 ?_;refine aZ kR (cany_any s _ hsz) rfl (fun w3 s3=>?_);refine zn8 ?_;replace hB:=hB.tr0 (s1.t (s2.t s3));exact⟨congrArg (fun b=>Ending.returned (.bool b)) (by unfold oW;first|(rw[decide_eq_true (show 1<=(ch s 0).length by omega),decide_eq_true (show (ch s 0).length<=30 by omega),a1];rfl)|(rw[decide_eq_true (show 1<=(ch s 0).length by omega),decide_eq_true (show (ch s 0).length<=30 by omega),Bool.eq_false_iff.2 a1];rfl)|(rw[decide_eq_false (show ¬(ch s 0).length<=30 by omega)];simp)|(rw[decide_eq_false (show ¬1<=(ch s 0).length by omega)];rfl)),hB⟩
   refine zn9 ?_;replace hB:=hB.tr0 (s1.t s2);exact⟨congrArg (fun b=>Ending.returned (.bool b)) (by unfold oW;first|(rw[decide_eq_true (show 1<=(ch s 0).length by omega),decide_eq_true (show (ch s 0).length<=30 by omega),a1];rfl)|(rw[decide_eq_true (show 1<=(ch s 0).length by omega),decide_eq_true (show (ch s 0).length<=30 by omega),Bool.eq_false_iff.2 a1];rfl)|(rw[decide_eq_false (show ¬(ch s 0).length<=30 by omega)];simp)|(rw[decide_eq_false (show ¬1<=(ch s 0).length by omega)];rfl)),hB⟩
  refine Zv ?_;replace hB:=hB.tr0 s1;exact⟨congrArg (fun b=>Ending.returned (.bool b)) (by unfold oW;first|(rw[decide_eq_true (show 1<=(ch s 0).length by omega),decide_eq_true (show (ch s 0).length<=30 by omega),a1];rfl)|(rw[decide_eq_true (show 1<=(ch s 0).length by omega),decide_eq_true (show (ch s 0).length<=30 by omega),Bool.eq_false_iff.2 a1];rfl)|(rw[decide_eq_false (show ¬(ch s 0).length<=30 by omega)];simp)|(rw[decide_eq_false (show ¬1<=(ch s 0).length by omega)];rfl)),hB⟩
 refine R7 ?_;replace hB:=hB.tr0 s1;exact⟨congrArg (fun b=>Ending.returned (.bool b)) (by unfold oW;first|(rw[decide_eq_true (show 1<=(ch s 0).length by omega),decide_eq_true (show (ch s 0).length<=30 by omega),a1];rfl)|(rw[decide_eq_true (show 1<=(ch s 0).length by omega),decide_eq_true (show (ch s 0).length<=30 by omega),Bool.eq_false_iff.2 a1];rfl)|(rw[decide_eq_false (show ¬(ch s 0).length<=30 by omega)];simp)|(rw[decide_eq_false (show ¬1<=(ch s 0).length by omega)];rfl)),hB⟩
end Go.Proofs.YtmfiholmfieieaaDoor
