/- What these functions compute, at every world: term.Typed, ref1.TypeOf; and plain laws. -/
import Derived.Test.YtgcgnkmmbecfmaaGreatDoorU
import Derived.Test.YtgcgnkmmbecfmaaGreatDoorZst
import Derived.Test.YtgcgnkmmbecfmaaGreatDoorNSv
import Derived.Test.YtgcgnkmmbecfmaaGreatDoorHtx
import Derived.Test.YtgcgnkmmbecfmaaGreatDoorEng7
namespace Go.Proofs.YtgcgnkmmbecfmaaGreatDoor
open Go.RowKit Go.Proofs.Tryz
variable {v:Tv}
section
theorem tv_con(h:v.tm.kind=1):∃ nm τ,v= .con nm τ:=by cases v<;>first|exact⟨_,_,rfl⟩|(exfalso;revert h;simp[Tv.tm,Tm.kind])
theorem tv_var(h:v.tm.kind=2):∃ i,v= .var i:=by cases v<;>first|exact⟨_,rfl⟩|(exfalso;revert h;simp[Tv.tm,Tm.kind])
theorem tv_abs(h:v.tm.kind=3):∃ τ x,v= .abs τ x:=by cases v<;>first|exact⟨_,_,rfl⟩|(exfalso;revert h;simp[Tv.tm,Tm.kind])
theorem tv_app(h1:¬v.tm.kind=1)(h2:¬v.tm.kind=2)(h3:¬v.tm.kind=3):∃ x y,v= .app x y:=by
 cases v with
 | con nm τ=>exact absurd rfl h1
 | var i=>exact absurd rfl h2
 | abs τ x=>exact absurd rfl h3
 | app x y=>exact⟨_,_,rfl⟩
theorem ts_two{τ:Ts}(h:τ.sm.args.length=2):∃ x y,τ= .f x y:=by
 cases τ with
 | b t=>cases h
 | f x y=>exact⟨x,y,rfl⟩
section app
variable {Γ:List Ts} {x y:Tv}
theorem app_no1(h:(tyv Γ x).isSome=false):tyv Γ (.app x y)=none:=by
 simp only[tyv];cases e:tyv Γ x with
 | none=>rfl
 | some σ=>rw[e]at h;cases h
theorem app_no2(h:(tyv Γ y).isSome=false):tyv Γ (.app x y)=none:=by
 simp only[tyv];cases e:tyv Γ y with
 | none=>
  cases tyv Γ x with
  | none=>rfl
  | some σ=>cases σ<;>rfl
 | some σ=>rw[e]at h;cases h
theorem app_no3{σ:Ts}(h:tyv Γ x=some σ)(hn:¬σ.sm.args.length=2):tyv Γ (.app x y)=none:=by
 simp only[tyv,h];cases σ with
 | b t=>rfl
 | f a r=>exact absurd rfl hn
theorem app_no4{a r ζ:Ts}(h:tyv Γ x=some (.f a r))(k:tyv Γ y=some ζ)(e:a.eqb ζ=false):tyv Γ (.app x y)=none:=by
 simp only[tyv,h,k,e];rfl
theorem app_yes{a r ζ:Ts}(h:tyv Γ x=some (.f a r))(k:tyv Γ y=some ζ)(e:a.eqb ζ=true):tyv Γ (.app x y)=some r:=by
 simp only[tyv,h,k,e];rfl
end app
theorem in41:(prog.info? 41).map (fun i=>(i.zero,i.size,i.bytes))=some (some (.agg #[.string ⟨#[]⟩,.slice none 0 0]),2,40):=by kernel_rfl
set_option maxRecDepth 100000 in
set_option maxHeartbeats 4000000 in
theorem typed_step{Γ:List Ts}{A B C:Option Addr}{c m cc:Nat}{w:World}(hS:SimsIn w A v.tm.type.args)(hT:TmsIn w B v.tm.args)(hG:CtxIn w C Γ)(bx:Γ.length<=cc)(bj:Γ.length+v.size<=1000)(bq:v.ok Γ.length)(IH:∀(x:Tv),x.size<v.size->∀(Γ:List Ts) (A2 B2 C2:Option Addr) (c2 m2 cc2:Nat) (w2:World),SimsIn w2 A2 (Tv.tm (x)).type.args->TmsIn w2 B2 (Tv.tm (x)).args->CtxIn w2 C2 Γ->List.length Γ<=cc2->List.length Γ+(x).size<=1000->Tv.ok (List.length Γ) (x)->Calls prog 75 #[.agg (cA (Tv.tm (x)) A2 c2 B2 m2),.slice C2 (List.length Γ) cc2] w2 fun e w'=>(∃(s:ByteArray) (A':Option Addr) (n c':Nat),e= .returned (.tuple #[.agg #[.string s,.slice A' n c'],.bool (tyv (Γ) (x)).isSome])/\∀ τ,tyv (Γ) (x)=some τ->s=τ.sm.base/\n=τ.sm.args.length/\SimsIn w' A' τ.sm.args)/\Bel w2 w'):Calls prog 75 #[.agg (cA (Tv.tm (v)) A c B m),.slice C (List.length Γ) cc] w fun e w'=>(∃(s:ByteArray) (A':Option Addr) (n c':Nat),e= .returned (.tuple #[.agg #[.string s,.slice A' n c'],.bool (tyv (Γ) (v)).isSome])/\∀ τ,tyv (Γ) (v)=some τ->s=τ.sm.base/\n=τ.sm.args.length/\SimsIn w' A' τ.sm.args)/\Bel w w':=by
 refine enT func75 ntmps75 rfl rfl fun hB=>?_;refine zn2 ?_;refine xy (v:= .agg #[_,_,_,_,_,_]) (cs:=#[_,_,_,_,_,_]) rfl rfl (fun b2 w1 br t1 hr=>?_);refine qW (cs:=#[.string ⟨#[]⟩,.slice none 0 0]) N2 rfl (fun b4 w2 a2 t2 hr=>?_);have ao:=hB.u.ob hr;refine PK ?_;refine zQ rfl (fun cj=>?_) (fun cj=>?_)
 ·obtain⟨nm,τ,rfl⟩:=tv_con cj;refine zn3 ?_;refine wl (qw U41 rfl rfl (br.u.sub (n:=2) (xs:=[_,_]) rfl) yv) ?_;refine zZ a2 rfl rfl yv rfl qz (fun w3 hq t3=>?_);replace a2:=hq;refine zn6 ?_;refine QK (.inl rfl) rfl (zW U41 rfl rfl a2.range0 yv) rfl ?_;replace hB:=(hB.tr0 (t1.t t2)).tr1 t3 ao;exact⟨⟨_,_,_,_,rfl,fun σ e=>by obtain rfl:τ=σ:=Option.some.inj e;exact⟨rfl,rfl,hS.mono hB⟩⟩,hB⟩
 refine zn6 ?_;refine zQ rfl (fun cg=>?_) (fun cg=>?_)
 ·obtain⟨i,rfl⟩:=tv_var cg;have hil:i<Γ.length:=bq;obtain⟨cb,co,A7,c7,rfl,hcb,hcr,hcs⟩:=hG.at_ (aN hil);refine zn5 ?_;refine wl (kZ (c:=((Γ.length-1:Nat):Int)) rfl rfl oG oG) (zn1 ?_);refine wl (qy (v:= .int .i64 ((i:Nat):Int)) U3 rfl rfl (br.u.cell rfl)) (wl (kZ (c:=((Γ.length-1-i:Nat):Int)) rfl rfl oG oG) (wl (x9 (i:=(Γ.length-1-i)) U39 yv rfl rfl oG rfl) (wl (qw U41 rfl rfl (hB.u.range hcb hcr) yv) ?_)));refine zZ a2 rfl rfl yv rfl qz (fun w4 hq t4=>?_);replace a2:=hq;refine zn6 ?_;refine QK (.inl rfl) rfl (zW U41 rfl rfl a2.range0 yv) rfl ?_;have hty:tyv Γ (.var i)=some Γ[i]:=aN hil;replace hB:=(hB.tr0 (t1.t t2)).tr1 t4 ao;exact⟨⟨_,_,_,_,by rw[hty];rfl,fun σ e=>by rw[hty]at e;obtain rfl:=Option.some.inj e;exact⟨rfl,rfl,hcs.mono hB⟩⟩,hB⟩
 refine zn6 ?_;refine zQ rfl (fun cf=>?_) (fun cf=>?_)
 ·obtain⟨τ,x,rfl⟩:=tv_abs cf;have hlx:Γ.length+(x.size+1)<=1000:=bj;obtain⟨tb,to,A0,c0,B0,m0,rfl,bo,a4,bd,bc⟩:=hT.at_ (k:=0) (by simp[Tv.tm,Tm.args])
  change w.rangeAt tb (to+0*6) [.int .i64 (x).tm.kind,.string (x).tm.name,.int .i64 (x).tm.index,.string (x).tm.type.base,.slice A0 (x).tm.type.args.length c0,.slice B0 (x).tm.args.length m0]at a4
  change SimsIn w A0 (x).tm.type.args at bd
  change TmsIn w B0 (x).tm.args at bc
  refine xV ?_;refine c_monoUO 11 [32,33,34,35,36,37,38,39,40,41,6] [] (fun ix=>false) (fun st ix v la ha wv=>match ix with|0=>v= .slice C (List.length Γ) cc|1=>v= .slice C (List.length Γ) cc|2=>v= .int .i64 ((Γ.length:Nat):Int)|3=>v= .slice C (List.length Γ) cc|4=>v= .int .i64 ((Γ.length:Nat):Int)|5=>v= .slice C (List.length Γ) (List.length Γ)|6=>v= .pointer (some ⟨b2,0+3,none⟩)|7=>v= .agg #[.string τ.sm.base,.slice A τ.sm.args.length c]|8=>∃ b,v= .slice (some ⟨b,0,none⟩) 1 1/\Blk wv b 41 #[.string τ.sm.base,.slice A τ.sm.args.length c]|9=>∃ g cap,v= .slice (some ⟨g,0,none⟩) (Γ.length+1) cap/\CtxIn wv (some ⟨g,0,none⟩) (τ::Γ)/\Γ.length+1<=cap|10=>∃ g cap,v= .slice (some ⟨g,0,none⟩) (Γ.length+1) cap/\CtxIn wv (some ⟨g,0,none⟩) (τ::Γ)/\Γ.length+1<=cap|_=>True) kR kR kR ?_ ?_ ?_
  ·intro st ix v la ha wv wv2 h t5
   match ix,h with
   | 0,h=>exact h
   | 1,h=>exact h
   | 2,h=>exact h
   | 3,h=>exact h
   | 4,h=>exact h
   | 5,h=>exact h
   | 6,h=>exact h
   | 7,h=>exact h
   | 8,h=>
    obtain⟨ck,cd,a9⟩:=h;exact⟨ck,cd,a9.tr0 t5⟩
   | 9,h=>
    obtain⟨c9,ab,ca,b6,a3⟩:=h;exact⟨c9,ab,ca,b6.mono t5.bel,a3⟩
   | 10,h=>
    obtain⟨gx,b8,e6,c8,a5⟩:=h;exact⟨gx,b8,e6,c8.mono t5.bel,a5⟩
   | _+11,h=>exact trivial
  ·intro st ix o hix hoq hns gg wx la ha t6 hd
   match ix,hix,hoq,hns with
   | 0,_,hoq,hns=>
    cases sI hoq;show OS _ _ _ _ _ _;refine qZ (xz (v:= .slice _ _ _) rfl) ⟨Same.refl _ _,?_⟩;exact rfl
   | 1,_,hoq,hns=>
    cases sI hoq;show OS _ _ _ _ _ _;refine qZ (xz (v:= .slice _ _ _) rfl) ⟨Same.refl _ _,?_⟩;exact rfl
   | 2,_,hoq,hns=>
    cases sI hoq;show OS _ _ _ _ _ _;refine a7 33 (hd 1 _ a8 rfl) ?_;refine qZ (E1 U39 rfl) ⟨Same.refl _ _,?_⟩;exact rfl
   | 3,_,hoq,hns=>
    cases sI hoq;show OS _ _ _ _ _ _;refine qZ (xz (v:= .slice _ _ _) rfl) ⟨Same.refl _ _,?_⟩;exact rfl
   | 4,_,hoq,hns=>
    cases sI hoq;show OS _ _ _ _ _ _;refine a7 35 (hd 3 _ a8 rfl) ?_;refine qZ (E1 U39 rfl) ⟨Same.refl _ _,?_⟩;exact rfl
   | 5,_,hoq,hns=>
    cases sI hoq;show OS _ _ _ _ _ _;refine a7 32 (hd 0 _ a8 rfl) (a7 34 (hd 2 _ a8 rfl) (a7 36 (hd 4 _ a8 rfl) ?_));refine qZ (r_slF U39 yv rfl rfl rfl bx) ⟨Same.refl _ _,?_⟩;exact rfl
   | 6,_,hoq,hns=>
    cases sI hoq;show OS _ _ _ _ _ _;refine qZ (u6 U44 yv dE rfl rfl rfl) ⟨Same.refl _ _,?_⟩;exact rfl
   | 7,_,hoq,hns=>
    cases sI hoq;show OS _ _ _ _ _ _;refine a7 38 (hd 6 _ a8 rfl) ?_;refine qZ (qw U41 rfl rfl (br.u.sub (n:=2) (xs:=[_,_]) rfl) yv) ⟨Same.refl _ _,?_⟩;exact rfl
   | 8,_,hoq,hns=>
    cases sI hoq;show OS _ _ _ _ _ _;refine a7 39 (hd 7 _ a8 rfl) ?_;refine jK (fun ops Q K=>?_);refine qV (cs:=#[_,_]) [(0,.agg _)] rfl U39 yv N2 dE dE kR rfl (fun ck w5 a9 t7 hr=>?_);exact K _ _ ⟨t7,⟨_,rfl,a9⟩⟩
   | 9,_,hoq,hns=>
    cases sI hoq;show OS _ _ _ _ _ _;obtain⟨ck,cd,a9⟩:=hd 8 _ (zk kR) rfl;refine a7 37 (hd 5 _ a8 rfl) (zq 40 _ cd nu ?_);refine jK (fun ops Q K=>?_);replace hB:=hB.tr0 (t1.t (t2.t t6));obtain⟨vs,hv1,hv2,hv3,hv4⟩:=(hG.mono hB).row;refine wl_appFl U39 in41 rfl dE hv2 hv3 hv4 a9 rfl rfl rfl rfl dE oG oG (fun c9 ab w1 bi t8 hg=>?_);exact K _ _ ⟨t8,_,_,rfl,ctx_app bi (hv1.mono t8.bel) ((hS.mono hB).mono t8.bel) rfl,bi.cap_le⟩
   | 10,_,hoq,hns=>
    cases sI hoq;show OS _ _ _ _ _ _;obtain⟨c9,ab,ca,b6,a3⟩:=hd 9 _ (zk kR) rfl;refine zq 41 _ ca nu ?_;refine qZ (uK (v:= .slice _ _ _) rfl) ⟨Same.refl _ _,?_⟩;exact⟨_,_,rfl,b6,a3⟩
   | _+11,hix,_,_=>exact absurd hix oG
  intro st gg w6 la ha hall t9 hR hI;obtain⟨gx,b8,e6,c8,a5⟩:=hR 10 _ rfl;refine xj 6 _ e6 nu (zn6 ?_);refine wl (x9 (i:=0) U42 Kv rfl rfl (by show 0<1;decide) rfl) (wl (qw U44 rfl rfl (hB.u.range bo a4) Kv) (wmS rfl ?_));replace hB:=hB.tr0 (t1.t (t2.t t9));refine qq kR (IH x (by simp only[Tv.size];omega) (τ::Γ) A0 B0 (some ⟨gx,0,none⟩) c0 m0 b8 _ (bd.mono hB) (bc.mono hB) c8 a5 (by simp only[List.length_cons];omega) bq.2) rfl (fun e' w7 hr=>?_);obtain⟨⟨s3,A3,n3,c3,rfl,h3⟩,bn⟩:=hr;replace bn:=sB bn;have an:Bel w7 w7:=Below.refl _ _;refine⟨_,rfl,?_⟩;refine wmT rfl (wl (vY (v:= .agg _) rfl rfl) (wl (vY (v:= .bool _) rfl rfl) ?_));refine yx (cs:=#[.string ⟨#[]⟩,.slice none 0 0]) N2 rfl (fun _=>rfl) (fun _=>rfl) yv rfl qz (fun b7 w9 hb7 bv hr=>?_);refine zn4 ?_;have hZ:SameQ [b4] w9 w9:=Same.refl _ _;replace a2:=a2.tr0 (t9.t (bn.t bv));have b5:=a2;replace an:=an.tr0 bv;have ac:=an;refine zn2 ?_;refine wl (qw U41 rfl rfl (br.u.sub (n:=2) (xs:=[_,_]) rfl) yv) (zn1 ?_);refine qV (cs:=#[_,_,_,_]) [(0,.agg _),(1,.agg _)] rfl U39 yv N2 dE dE kR rfl (fun b54 w10 bz t12 hr=>?_);have:=a2.ob hr;replace hZ:=SameQ.trans hZ t12 (by simp);refine wl (YQ (v0:= .slice _ _ _) (fun v0=>#[.string ⟨#[]⟩,v0]) rfl kR) (wl (xz (v:= .bool _) rfl) ?_);refine zZ a2.u rfl rfl yv rfl qz (fun w11 hq t13=>?_);replace hZ:=SameQ.trans hZ t13 (by simp);replace a2:=hq;refine zn6 ?_;refine QK (.inl rfl) rfl (zW U41 rfl rfl a2.range0 yv) rfl ?_;have e1:(tyv Γ (.abs τ x)).isSome=(tyv (τ::Γ) x).isSome:=by simp only[tyv,Option.isSome_map]
  replace hB:=(hB.tr0 (bn.t (bv.t t12))).tr1 t13 ao;refine⟨⟨_,_,_,_,by rw[e1];rfl,fun σ hσ=>?_⟩,hB⟩;obtain⟨ρ,h5,rfl⟩:=aT.1 hσ;obtain⟨rfl,rfl,h6⟩:=h3 ρ h5;exact⟨rfl,rfl,sm2_two bz.u (hS.mono hB) (NJ b5 hZ ρ (h6.mono ac))⟩
 obtain⟨x,y,rfl⟩:=tv_app cj cg cf;have hlx:Γ.length+(x.size+y.size+1)<=1000:=bj;have px:=x.pos;have py:=y.pos;obtain⟨tb,to,A0,c0,B0,m0,rfl,bo,a4,bd,bc⟩:=hT.at_ (k:=0) (by simp[Tv.tm,Tm.args])
 change w.rangeAt tb (to+0*6) [.int .i64 (x).tm.kind,.string (x).tm.name,.int .i64 (x).tm.index,.string (x).tm.type.base,.slice A0 (x).tm.type.args.length c0,.slice B0 (x).tm.args.length m0]at a4
 change SimsIn w A0 (x).tm.type.args at bd
 change TmsIn w B0 (x).tm.args at bc
 obtain⟨_,_,A1,c1,B1,m1,e1,_,bg,ks1,kt1⟩:=hT.at_ (k:=1) (by simp[Tv.tm,Tm.args]);cases e1
 change w.rangeAt tb (to+1*6) [.int .i64 (y).tm.kind,.string (y).tm.name,.int .i64 (y).tm.index,.string (y).tm.type.base,.slice A1 (y).tm.type.args.length c1,.slice B1 (y).tm.args.length m1]at bg
 change SimsIn w A1 (y).tm.type.args at ks1
 change TmsIn w B1 (y).tm.args at kt1
 refine zn7 ?_;refine wl (x9 (i:=0) U42 Kv rfl rfl (by show 0<2;decide) rfl) (wl (qw U44 rfl rfl (hB.u.range bo a4) Kv) (wmS rfl ?_));replace hB:=hB.tr0 (t1.t t2);refine qq kR (IH x (by simp only[Tv.size];omega) Γ A0 B0 C c0 m0 cc _ (bd.mono hB) (bc.mono hB) (hG.mono hB) bx oG bq.1) rfl (fun e' w12 hr=>?_);obtain⟨⟨s3,A3,n3,c3,rfl,h3⟩,bm⟩:=hr;replace bm:=sB bm;have an:Bel w12 w12:=Below.refl _ _;refine⟨_,rfl,?_⟩;refine wmT rfl (wl (vY (v:= .agg _) rfl rfl) (wl (vY (v:= .bool _) rfl rfl) ?_));refine yx (cs:=#[.string ⟨#[]⟩,.slice none 0 0]) N2 rfl (fun _=>rfl) (fun _=>rfl) yv rfl qz (fun b9 w14 hb9 bu hr=>?_);refine zn7 ?_;refine wl (x9 (i:=1) U42 Kv rfl rfl (by show 1<2;decide) rfl) (wl (qw U44 rfl rfl (hB.u.range bo bg) Kv) (wmS rfl ?_));replace hB:=hB.tr0 (bm.t bu);refine qq kR (IH y (by simp only[Tv.size];omega) Γ A1 B1 C c1 m1 cc _ (ks1.mono hB) (kt1.mono hB) (hG.mono hB) bx oG bq.2) rfl (fun e' w15 hr=>?_);obtain⟨⟨s4,A4,n4,c4,rfl,h4⟩,bb⟩:=hr;replace bb:=sB bb;have hBy:Bel w15 w15:=Below.refl _ _;refine⟨_,rfl,?_⟩;refine wmT rfl (wl (vY (v:= .agg _) rfl rfl) (wl (vY (v:= .bool _) rfl rfl) ?_));refine yx (cs:=#[.string ⟨#[]⟩,.slice none 0 0]) N2 rfl (fun _=>rfl) (fun _=>rfl) yv rfl qz (fun b11 w17 hb11 bt hr=>?_);refine zn5 ?_;replace a2:=a2.tr0 (bm.t (bu.t (bb.t bt)));replace hB:=hB.tr0 (bb.t bt);rcases Bool.eq_false_or_eq_true ((tyv Γ x).isSome)with hk1|hk1
 ·refine zX 10 _ (ae hk1) nu ?_;rcases Bool.eq_false_or_eq_true ((tyv Γ y).isSome)with hk2|hk2
  ·refine zX 12 _ (ae hk2) nu ?_;by_cases q2:n3=2
   ·obtain⟨σ,hσ⟩:=a6.1 hk1;obtain⟨ζ,hζ⟩:=a6.1 hk2;obtain⟨rfl,e3,bw⟩:=h3 σ hσ;obtain⟨rfl,rfl,hs4⟩:=h4 ζ hζ;obtain⟨a,r,rfl⟩:=ts_two (e3.symm.trans q2);subst q2;obtain⟨ub,uo,A5,c5,rfl,hub,hur,hus⟩:=bw.at_ (k:=0) (by simp[Ts.sm,Sm.args]);obtain⟨_,_,A6,c6,e6,_,bf,be⟩:=bw.at_ (k:=1) (by simp[Ts.sm,Sm.args]);cases e6
    change SimsIn _ A5 a.sm.args at hus
    change SimsIn _ A6 r.sm.args at be
    change World.rangeAt _ ub (uo+0*2) [.string a.sm.base,.slice A5 a.sm.args.length c5]at hur
    change World.rangeAt _ ub (uo+1*2) [.string r.sm.base,.slice A6 r.sm.args.length c6]at bf
    refine uz [] [0,1,2,3,4,5,6,7,8,9,10,11,12,13,14,15,16,17,18,19,20] rfl (fun w18 bk=>?_);refine yW ?_;refine hge 81 rfl rfl rfl (fun _ _=>Tz rfl rfl) (ae (ap oG)) (zn4 ?_);refine hg 87 rfl rfl rfl (fun _ _=>x9 (i:=0) U39 yv rfl rfl dE rfl) (hgS 87 rfl rfl rfl U41 rfl rfl (an.u.range hub hur) yv (zn1 ?_));refine h1 rfl (zn1 ?_);refine qq kR (samE_any A5 A4 c5 c4 a ζ w18 (hus.mono an.u) (hs4.mono hBy.u)) rfl (fun e' w19 hr=>?_);obtain⟨rfl,b3⟩:=hr;replace b3:=sB b3;have bh:=b3;refine⟨_,rfl,?_⟩;refine zJ (K9 bh (zn4 ?_));refine jQ rfl (fun ce=>?_) (fun ce=>?_)
    ·have a1:tyv Γ (.app x y)=none:=app_no4 hσ hζ (by simpa using ce);refine zn2 ?_;refine wl (gQ (vs:=#[]) (cs:=#[.string ⟨#[]⟩,.slice none 0 0]) (by simp) kR) ?_;refine zZ a2.u rfl rfl yv rfl qz (fun w20 hq t20=>?_);replace a2:=hq;refine zn5 ?_;refine QK (.inl rfl) rfl (zW U41 rfl rfl a2.range0 yv) rfl ?_;replace hB:=(hB.tr0 (bk.t b3)).tr1 t20 ao;exact⟨⟨_,_,_,_,(by rw[a1];rfl),fun σ e=>by rw[a1]at e;cases e⟩,hB⟩
    have b1:tyv Γ (.app x y)=some r:=app_yes hσ hζ (by simpa using ce);refine zn3 ?_;have hZ:SameQ [b4] w19 w19:=Same.refl _ _;replace a2:=a2.tr0 (bk.t b3);have b5:=a2;replace an:=an.tr0 (bu.t (bb.t (bt.t (bk.t b3))));have ac:=an;refine zn3 ?_;refine wl (x9 (i:=1) U39 yv rfl rfl dE rfl) (wl (qw U41 rfl rfl (ac.range hub bf) yv) ?_);refine zZ a2 rfl rfl yv rfl qz (fun w21 hq t21=>?_);replace hZ:=SameQ.trans hZ t21 (by simp);replace a2:=hq;refine zn4 ?_;refine QK (.inl rfl) rfl (zW U41 rfl rfl a2.range0 yv) rfl ?_;replace hB:=(hB.tr0 (bk.t b3)).tr1 t21 ao;exact⟨⟨_,_,_,_,(by rw[b1];rfl),fun σ e=>by rw[b1]at e;obtain rfl:=Option.some.inj e;exact⟨rfl,rfl,NJ b5 hZ r (be.mono ac)⟩⟩,hB⟩
   obtain⟨σ,hσ⟩:=a6.1 hk1;obtain⟨ζ,hζ⟩:=a6.1 hk2;obtain⟨rfl,e3,bw⟩:=h3 σ hσ;obtain⟨rfl,rfl,hs4⟩:=h4 ζ hζ;have a1:tyv Γ (.app x y)=none:=app_no3 hσ (fun h=>q2 (e3.trans h));refine uz [] [0,1,2,3,4,5,6,7,8,9,10,11,12,13,14,15,16,17,18,19,20] rfl (fun w22 t22=>?_);refine yW ?_;refine hge 81 rfl rfl rfl (fun _ _=>Tz rfl rfl) (ae (ai oG)) (Yv ?_);refine wl (gQ (vs:=#[]) (cs:=#[.string ⟨#[]⟩,.slice none 0 0]) (by simp) kR) ?_;refine zZ a2.u rfl rfl yv rfl qz (fun w23 hq t23=>?_);replace a2:=hq;refine zn5 ?_;refine QK (.inl rfl) rfl (zW U41 rfl rfl a2.range0 yv) rfl ?_;replace hB:=(hB.tr0 t22).tr1 t23 ao;exact⟨⟨_,_,_,_,(by rw[a1];rfl),fun σ e=>by rw[a1]at e;cases e⟩,hB⟩
  refine zX 12 _ (ae hk2) nu ?_;have a1:tyv Γ (.app x y)=none:=app_no2 hk2;refine uz [] [0,1,2,3,4,5,6,7,8,9,10,11,12,13,14,15,16,17,18,19,20] rfl (fun w24 t24=>?_);refine zn26 ?_;refine wl (gQ (vs:=#[]) (cs:=#[.string ⟨#[]⟩,.slice none 0 0]) (by simp) kR) ?_;refine zZ a2.u rfl rfl yv rfl qz (fun w25 hq t25=>?_);replace a2:=hq;refine zn5 ?_;refine QK (.inl rfl) rfl (zW U41 rfl rfl a2.range0 yv) rfl ?_;replace hB:=(hB.tr0 t24).tr1 t25 ao;exact⟨⟨_,_,_,_,(by rw[a1];rfl),fun σ e=>by rw[a1]at e;cases e⟩,hB⟩
 refine zX 10 _ (ae hk1) nu ?_;have a1:tyv Γ (.app x y)=none:=app_no1 hk1;refine uz [] [0,1,2,3,4,5,6,7,8,9,10,11,12,13,14,15,16,17,18,19,20] rfl (fun w26 t26=>?_);refine zn26 ?_;refine wl (gQ (vs:=#[]) (cs:=#[.string ⟨#[]⟩,.slice none 0 0]) (by simp) kR) ?_;refine zZ a2.u rfl rfl yv rfl qz (fun w27 hq t27=>?_);replace a2:=hq;refine zn5 ?_;refine QK (.inl rfl) rfl (zW U41 rfl rfl a2.range0 yv) rfl ?_;replace hB:=(hB.tr0 t26).tr1 t27 ao;exact⟨⟨_,_,_,_,(by rw[a1];rfl),fun σ e=>by rw[a1]at e;cases e⟩,hB⟩
theorem typed_any:∀(k:Nat) (v:Tv),v.size<k->∀(Γ:List Ts) (A B C:Option Addr) (c m cc:Nat) (w:World),SimsIn w A (Tv.tm (v)).type.args->TmsIn w B (Tv.tm (v)).args->CtxIn w C Γ->List.length Γ<=cc->List.length Γ+(v).size<=1000->Tv.ok (List.length Γ) (v)->Calls prog 75 #[.agg (cA (Tv.tm (v)) A c B m),.slice C (List.length Γ) cc] w fun e w'=>(∃(s:ByteArray) (A':Option Addr) (n c':Nat),e= .returned (.tuple #[.agg #[.string s,.slice A' n c'],.bool (tyv (Γ) (v)).isSome])/\∀ τ,tyv (Γ) (v)=some τ->s=τ.sm.base/\n=τ.sm.args.length/\SimsIn w' A' τ.sm.args)/\Bel w w':=by
 intro k
 induction k with
 | zero=>intro v h;omega
 | succ k ih=>exact fun v h Γ A B C c m cc w h1 h2 h3 h4 h5 h6=>typed_step h1 h2 h3 h4 h5 h6 (fun x hx=>ih x oG)
end
set_option maxRecDepth 100000 in
set_option maxHeartbeats 8000000 in
theorem typeof_any(tv:Tv)(A B:Option Addr)(c m:Nat)(w0 w:World)(c3:Bel w0 w)(hS:SimsIn w0 A tv.tm.type.args)(hT:TmsIn w0 B tv.tm.args)(hv2:tv.size<=200)(hok:tv.ok 0):Calls Tryz.prog 89 #[.agg (cA (Tv.tm tv) A c B m)] w fun e w'=>(∃(s:ByteArray) (A':Option Addr) (n c':Nat),e= .returned (.tuple #[.agg #[.string s,.slice A' n c'],.bool (tyv [] tv).isSome])/\∀ τ,tyv [] tv=some τ->s=τ.sm.base/\n=τ.sm.args.length/\TyS (nwX w0 w []) w' A' τ)/\Bel w w':=by
 refine enT Tryz.func89 Tryz.ntmps89 rfl rfl fun hB=>?_;refine zn2 ?_;refine xy (v:= .agg #[_,_,_,_,_,_]) (cs:=#[_,_,_,_,_,_]) rfl rfl (fun b1 w1 hb1 s1 hr=>?_);clear hr;refine qW (cs:=#[.string ⟨#[]⟩,.slice none 0 0]) N2 rfl (fun b2 w2 a2 s2 hr=>?_);have:=hb1.ob hr;have cm:=hB.u.ob hr;clear hr;refine zn6 ?_;refine qq kR (rows0_any tv A B c m w0 hS hT oG _ (c3.then hB.u)) rfl (fun e' w3 hr=>?_);obtain⟨⟨q,cap4,zs,rfl,ho4,hR4⟩,s3⟩:=hr;replace s3:=sB s3;obtain⟨wr,d7⟩:∃ z,z=w3:=⟨_,rfl⟩
 have a5:Bel wr w3:=by rw[d7];exact Below.refl _ _
 have dj:RdT w0 wr q (rws (-1) 0 tv):=by rw[d7];exact rdt_of ho4 hR4
 have dk:q<wr.heap.size:=by rw[d7];exact(ho4.lt q (aq.2 rfl)).2
 have cc:(rws (-1) 0 tv).length=tv.size:=Jj _ _ _;have d8:=tv.pos;have hnd:JY (rws (-1) 0 tv) 0 [] tv:=F6 (fun j h=>by rw[Nat.zero_add];exact aN h) .nil dE;refine⟨_,rfl,?_⟩;refine zn7 ?_;refine H2 (m:=tv.size) U39 in41 rfl rfl oG oG (fun a9 w4 a1 s4 hr=>?_);have:=hb1.u.ob hr;have:=a2.u.ob hr;have d3:=hB.u.ob hr;have bn:=a5.ob hr;clear hr;refine zn5 ?_;have bi:¬nwX w0 w [b2,a9] a9:=nwX.no (by simp) c3 d3;have hS2:¬nwX w0 w [b2,a9] b2:=nwX.no (by simp) c3 cm;refine zn3 ?_;refine wl (kZ (c:=((tv.size:Nat):Int)-1) rfl rfl rfl oG) (zn4 ?_);refine qx (rg [3,6,7,8,9] 18 86) (fun mm g w'=>∃(i:Nat) (z:Int) (F H:Nat->Value),i<=tv.size/\mm=i/\z+1=i/\g 6= .int .i64 z/\Bel w w'/\Bel wr w'/\Blk w' b2 41 #[.string ⟨#[]⟩,.slice none 0 0]/\Blk w' a9 41 (kz tv.size F H)/\TI (nwX w0 w [b2,a9]) (rws (-1) 0 tv) tv.size i F H w') (tv.size) ?_ (fun m g4 w5 hI=>?_)
 ·replace hB:=hB.tr0 (s1.t (s2.t (s3.t s4)));replace a2:=a2.tr0 (s3.t s4);replace a5:=a5.tr0 s4;exact⟨tv.size,_,_,_,ah _,rfl,by omega,rfl,hB,a5,a2,(by rw[<- M2];exact a1),TI.start _ _ _ _⟩
 obtain⟨i,z,F,H,hi,hmi,hzi,h6,hB,a5,a2,a1,bj⟩:=hI;have a3:Bel w5 w5:=Below.refl _ _;refine zX 6 _ h6 nu (zn7 ?_);refine zQ rfl (fun c19=>?_) (fun c19=>?_)
 ·obtain⟨p,rfl⟩:∃ p:Nat,z=p:=⟨z.toNat,by omega⟩
  obtain rfl:i=p+1:=by omega
  have bz:p<tv.size:=by omega
  have hpl:p<(nds [] tv).length:=by rw[E6];exact bz
  obtain⟨be,b3,e5,bq,ao⟩:=Dz hnd hok (by simp) p hpl;rw[Nat.zero_add]at be;have dq:=D9 tv [] p hpl;rw[List.length_nil]at dq
  generalize (nds [] tv)[p].1=Γp at be b3 e5 ao dq
  generalize (nds [] tv)[p].2=vp at be b3 bq ao dq
  obtain⟨r,hr,hkk⟩:=nd_row be;obtain⟨A7,c7,K7,ea,hrr,hrt2,dh,di⟩:=dj p r hr;refine zn8 ?_;refine wl (x9 (i:=p) U162 HQ rfl rfl bz rfl) (wl (qw OY rfl rfl (a5.range dk hrr) HQ) ?_);refine yx (cs:=#[.int .i64 0,.string ⟨#[]⟩,.string ⟨#[]⟩,.slice none 0 0,.int .i64 0,.slice none 0 0,.int .i64 0]) ze165 rfl (fun _=>rfl) (fun _=>rfl) HQ rfl qz (fun b7 w7 c1 s5 hr=>?_);have:=a2.ob hr;have:=a1.ob hr;clear hr;refine Yv ?_;refine zQ rfl (fun cx=>?_) (fun cx=>?_)
  ·obtain⟨nm,τ,rfl,br⟩:=nd_con be hr cx;rw[br]at dh;have hZ:SameQ [a9] w7 w7:=Same.refl _ _;replace a3:=a3.tr0 s5;have an:=bj.mono a3;replace a1:=a1.tr0 s5;have bd:=a1;replace hB:=hB.tr0 s5;have c2:=hB;have b5:=a3;refine zn4 ?_;refine wl (qw U41 rfl rfl (c1.sub (n:=2) (xs:=[_,_]) rfl) yv) (wl (x9 (i:=p) U39 yv rfl rfl bz rfl) ?_);refine Mv a1 rfl rfl yv (by rw[uq];show 0+p*2+2<=tv.size*2;omega) qz NW (fun w8 hq s6=>?_);replace hZ:=SameQ.trans hZ s6 (by simp);replace a1:=hq;rw[br]at a1;have ac:=an.put (c:=c7) bi hZ (TyAt.con hr cx br) (TyS.old dh (c3.then c2) (fun _ h=> .inl h));refine zn6 ?_;refine wl (kZ rfl rfl rfl oG) (zn2 ?_);refine x8 (p) oG agA ?_;exact⟨p,_,_,_,by omega,rfl,by omega,rfl,hB.u,a5.u,a2.u,a1,ac⟩
  refine zn6 ?_;refine zQ rfl (fun cw=>?_) (fun cw=>?_)
  ·obtain⟨i2,rfl,hri,hup,hch⟩:=nd_var be hr cw;have hti:=aN b3;have hZ:SameQ [a9] w7 w7:=Same.refl _ _;replace a3:=a3.tr0 s5;have an:=bj.mono a3;replace a1:=a1.tr0 s5;have bd:=a1;replace hB:=hB.tr0 s5;have c2:=hB;have b5:=a3;refine zn6 ?_;replace a5:=a5.tr0 s5;refine qq kR (binder_any dj cc a5 dk hr hri hup hch hti (by have:i2<Γp.length:=b3;omega)) rfl (fun e' w9 hr=>?_);obtain⟨⟨u,ru,rfl,hru,dg⟩,s7⟩:=hr;replace s7:=sB s7;replace hZ:=SameQ.trans hZ s7 (by simp);obtain⟨A8,c8,K8,ck8,_,hr2,hs8,_⟩:=dj u ru hru;rw[dg]at hr2 hs8;refine⟨_,rfl,?_⟩;refine wl (x9 (i:=u) U162 HQ rfl rfl (by have h:=(au.1 hru).1;rw[cc]at h;exact h) rfl) ?_;refine zn1 ?_;refine wl (qw U41 rfl rfl (a5.u.range dk hr2) yv) (wl (x9 (i:=p) U39 yv rfl rfl bz rfl) ?_);replace a1:=a1.tr0 s7;refine Mv a1 rfl rfl yv (by rw[uq];show 0+p*2+2<=tv.size*2;omega) qz NW (fun w10 hq s8=>?_);replace hZ:=SameQ.trans hZ s8 (by simp);replace a1:=hq;have ac:=an.put (c:=c8) bi hZ (TyAt.var hr cw hri hch hti) (TyS.old hs8 (c3.then c2) (fun _ h=> .inl h));refine zn6 ?_;refine wl (kZ rfl rfl rfl oG) (zn2 ?_);refine x8 (p) oG agA ?_;exact⟨p,_,_,_,by omega,rfl,by omega,rfl,hB.u,a5.u,a2.u,a1,ac⟩
  refine zn6 ?_;refine zQ rfl (fun cv=>?_) (fun cv=>?_)
  ·obtain⟨τ,x,rfl,br,a4,cr⟩:=nd_abs be hr cv;have bt:p+1<tv.size:=by have:=nd_lt cr;rw[cc]at this;exact this
   obtain⟨ρ,Aρ,cρ,hρ,e6,dz,hSρ⟩:=bj.t (p+1) (ah _) bt;have ab:0<r.kids.length:=by rw[a4];exact Nat.zero_lt_succ _
   obtain⟨kg,rfl,cu,cd⟩:=di 0 ab;have e0:r.kids[0]'ab=((p+1:Nat):Int):=by simp[a4]
   rw[e0]at cd;replace a1:=a1.tr0 s5;have lt14:=a1.lt;replace a2:=a2.tr0 s5;have lt2:=a2.lt;replace hB:=hB.tr0 s5;have szw:=Bel.size hB;refine oW 13 (rg [] 49 13) (fun _=>false) (fun ix v wv=>match ix with|0=>v= .slice (some ⟨a9,0,none⟩) tv.size tv.size|1=>v= .int .i64 ((p:Nat):Int)|2=>v= .pointer (some ⟨b7,0+2,none⟩)|3=>v= .agg #[.string r.typ.base,.slice A7 r.typ.args.length c7]|4=>v= .slice (some ⟨a9,0,none⟩) tv.size tv.size|5=>v= .pointer (some ⟨b7,0+5,none⟩)|6=>v= .slice (some ⟨kg,0,none⟩) r.kids.length ea|7=>v= .pointer (some ⟨kg,0+0*1,none⟩)|8=>v= .int .i64 ((p+1:Nat):Int)|9=>v= .pointer (some ⟨a9,0+(p+1)*2,none⟩)|10=>v= .agg #[.string ρ.sm.base,.slice Aρ ρ.sm.args.length cρ]|11=>∃ b,v= .agg #[.string ⟨#[]⟩,.slice (some ⟨b,0,none⟩) 2 2]/\w7.heap.size<=b/\Blk wv b 41 #[.string r.typ.base,.slice A7 r.typ.args.length c7,.string ρ.sm.base,.slice Aρ ρ.sm.args.length cρ]|12=>v= .pointer (some ⟨a9,0+p*2,none⟩)|_=>True) kR kR ?_ ?_ ?_
   ·intro ix v wv wv2 h s9
    match ix,h with
    | 0,h=>exact h
    | 1,h=>exact h
    | 2,h=>exact h
    | 3,h=>exact h
    | 4,h=>exact h
    | 5,h=>exact h
    | 6,h=>exact h
    | 7,h=>exact h
    | 8,h=>exact h
    | 9,h=>exact h
    | 10,h=>exact h
    | 11,h=>
     obtain⟨cy,e7,b6,b4⟩:=h;exact⟨cy,e7,b6,b4.tr0 s9⟩
    | 12,h=>exact h
    | _+13,h=>exact trivial
   ·intro ix o hix hoq gg wx s10 hd dp
    match ix,hix,hoq with
    | 0,_,hoq=>
     cases sI hoq;exact oVq (xz (v:= .slice _ _ _) rfl) rfl
    | 1,_,hoq=>
     cases sI hoq;exact oVq (xz (v:= .int _ _) rfl) rfl
    | 2,_,hoq=>
     cases sI hoq;exact oVq (u6 OY yv dE rfl rfl rfl) rfl
    | 3,_,hoq=>
     cases sI hoq;refine a7 51 (hd 2 a8) ?_;exact oVq (qw U41 rfl rfl (c1.u.sub (n:=2) (xs:=[_,_]) rfl) yv) rfl
    | 4,_,hoq=>
     cases sI hoq;exact oVq (xz (v:= .slice _ _ _) rfl) rfl
    | 5,_,hoq=>
     cases sI hoq;exact oVq (u6 OY N8 dE rfl rfl rfl) rfl
    | 6,_,hoq=>
     cases sI hoq;refine a7 54 (hd 5 a8) ?_;exact oVq (qy (v:= .slice _ _ _) U59 rfl rfl (c1.u.cell rfl)) rfl
    | 7,_,hoq=>
     cases sI hoq;refine a7 55 (hd 6 a8) ?_;exact oVq (x9 (i:=0) U59 qk rfl rfl ab rfl) rfl
    | 8,_,hoq=>
     cases sI hoq;refine a7 56 (hd 7 a8) ?_;exact oVq (qy (v:= .int _ _) U3 rfl rfl (a5.u.cell cu cd)) rfl
    | 9,_,hoq=>
     cases sI hoq;refine a7 53 (hd 4 a8) (a7 57 (hd 8 a8) ?_);exact oVq (x9 (i:=(p+1)) U39 yv rfl rfl bt rfl) rfl
    | 10,_,hoq=>
     cases sI hoq;refine a7 58 (hd 9 a8) ?_;exact oVq (qw U41 rfl rfl (NY a1.u bt e6 dz) yv) rfl
    | 11,_,hoq=>
     cases sI hoq;have bh:=s10;refine a7 52 (hd 3 a8) (a7 59 (hd 10 a8) ?_);refine vZ kR (to_any A7 Aρ c7 cρ r.typ ρ.sm wx) rfl (fun e' w2 hr=>?_);obtain⟨⟨cy,rfl,b6,b4⟩,s11⟩:=hr;exact⟨_,rfl,sB s11,⟨_,rfl,nLT bh.size b6,b4⟩,y8⟩
    | 12,_,hoq=>
     cases sI hoq;refine a7 49 (hd 0 a8) (a7 50 (hd 1 a8) ?_);exact oVq (x9 (i:=p) U39 yv rfl rfl bz rfl) rfl
    | _+13,hix,_=>exact absurd hix oG
   intro gg w11 cz hR dp;obtain⟨cy,e7,b6,b4⟩:=hR 11 dE;have hZ:SameQ [a9] w11 w11:=Same.refl _ _;replace a3:=a3.tr0 (s5.t cz);have an:=bj.mono a3;replace a1:=a1.tr0 cz;have bd:=a1;replace hB:=hB.tr0 cz;have c2:=hB;have b5:=a3;have dn:nwX w0 w [b2,a9] cy:=nwX.yes (nLT szw b6) oG oG;rw[br]at b4;refine xj 60 _ e7 nu (xj 61 _ (hR 12 dE) nu ?_);refine Mv a1 rfl rfl yv (by rw[uq];show 0+p*2+2<=tv.size*2;omega) qz NW (fun w12 hq s13=>?_);replace hZ:=SameQ.trans hZ s13 (by simp);replace a1:=hq;have ac:=an.put (c:=2) bi hZ ((TyAt.abs hr cv br hρ:TyAt _ _ (Ts.f τ ρ))) (TyS.mk b4 dn (TyS.old (br ▸ dh) (c3.then c2) (fun _ h=> .inl h)) (hSρ.mono b5));refine zn6 ?_;refine wl (kZ rfl rfl rfl oG) (zn2 ?_);refine x8 (p) oG agA ?_;exact⟨p,_,_,_,by omega,rfl,by omega,rfl,hB.u,a5.u,a2.u,a1,ac⟩
  refine zn6 ?_;refine zQ rfl (fun c4=>?_) (fun c4=>?_)
  ·obtain⟨x,y,rfl,a4,cr,hny⟩:=nd_app be hr c4;have bt:p+1<tv.size:=by have:=nd_lt cr;rw[cc]at this;exact this
   have dm:p+1+x.size<tv.size:=by have:=nd_lt hny;rw[cc]at this;exact this
   obtain⟨α,Aα,cα,hα,e6,dz,hSα⟩:=bj.t (p+1) (ah _) bt;obtain⟨β,Aβ,cβ,hβ,hF2,hH2,hSβ⟩:=bj.t (p+1+x.size) oG dm;have ab:0<r.kids.length:=by rw[a4];exact Nat.zero_lt_succ _
   have bu:1<r.kids.length:=by rw[a4];exact Nat.one_lt_two
   obtain⟨kg,rfl,cu,cd⟩:=di 0 ab;obtain⟨_,e9,_,hk1⟩:=di 1 bu;cases e9;have e0:r.kids[0]'ab=((p+1:Nat):Int):=by simp[a4]
   have e1:r.kids[1]'bu=((p+1+x.size:Nat):Int):=by simp[a4]
   rw[e0]at cd;rw[e1]at hk1;refine xV ?_;replace hB:=hB.tr0 s5;have hszB:=Bel.size hB;replace a5:=a5.tr0 s5;have hszR:=Bel.size a5;replace a3:=a3.tr0 s5;have hszK:=Bel.size a3;replace a2:=a2.tr0 s5;have lt2W:=a2.lt;replace a1:=a1.tr0 s5;have lt14W:=a1.lt;have lt7W:=c1.lt;refine c_monoUO 18 [64,65,66,67,68,69,70,71,72,73,74,75,76,77,8,9] [] (fun ix=>Nat.beq ix 16||Nat.beq ix 17) (fun st ix v la ha wv=>match ix with|0=>v= .slice (some ⟨a9,0,none⟩) tv.size tv.size|1=>v= .pointer (some ⟨b7,0+5,none⟩)|2=>v= .slice (some ⟨kg,0,none⟩) r.kids.length ea|3=>v= .pointer (some ⟨kg,0+0*1,none⟩)|4=>v= .int .i64 ((p+1:Nat):Int)|5=>v= .pointer (some ⟨a9,0+(p+1)*2,none⟩)|6=>v= .agg #[.string α.sm.base,.slice Aα α.sm.args.length cα]|7=>v= .slice (some ⟨a9,0,none⟩) tv.size tv.size|8=>v= .pointer (some ⟨b7,0+5,none⟩)|9=>v= .slice (some ⟨kg,0,none⟩) r.kids.length ea|10=>v= .pointer (some ⟨kg,0+1*1,none⟩)|11=>v= .int .i64 ((p+1+x.size:Nat):Int)|12=>v= .pointer (some ⟨a9,0+(p+1+x.size)*2,none⟩)|13=>v= .agg #[.string β.sm.base,.slice Aβ β.sm.args.length cβ]|14=>∃ b:Nat,v= .pointer (some ⟨b,0,none⟩)/\w7.heap.size<=b/\(st 16=false->Blk wv b 41 #[.string ⟨#[]⟩,.slice none 0 0])/\(st 16=true->Blk wv b 41 #[.string α.sm.base,.slice Aα α.sm.args.length cα])/\la<=b/\b<ha|15=>∃ b:Nat,v= .pointer (some ⟨b,0,none⟩)/\w7.heap.size<=b/\(st 17=false->Blk wv b 41 #[.string ⟨#[]⟩,.slice none 0 0])/\(st 17=true->Blk wv b 41 #[.string β.sm.base,.slice Aβ β.sm.args.length cβ])/\la<=b/\b<ha|16=>True|17=>True|_=>True) kR kR kR ?_ ?_ ?_
   ·intro st ix v la ha wv wv2 h s14
    match ix,h with
    | 0,h=>exact h
    | 1,h=>exact h
    | 2,h=>exact h
    | 3,h=>exact h
    | 4,h=>exact h
    | 5,h=>exact h
    | 6,h=>exact h
    | 7,h=>exact h
    | 8,h=>exact h
    | 9,h=>exact h
    | 10,h=>exact h
    | 11,h=>exact h
    | 12,h=>exact h
    | 13,h=>exact h
    | 14,h=>
     obtain⟨b8,e8,ck,co,cq,d5,dx⟩:=h;exact⟨b8,e8,ck,fun h=>(co h).tr0 s14,fun h=>(cq h).tr0 s14,d5,dx⟩
    | 15,h=>
     obtain⟨b9,e9,cj,cn,cp,d4,dw⟩:=h;exact⟨b9,e9,cj,fun h=>(cn h).tr0 s14,fun h=>(cp h).tr0 s14,d4,dw⟩
    | 16,h=>exact h
    | 17,h=>exact h
    | _+18,h=>exact trivial
   ·intro st ix o hix hoq hns gg wx la ha s15 hd
    match ix,hix,hoq,hns with
    | 0,_,hoq,hns=>
     cases sI hoq;show OS _ _ _ _ _ _;refine qZ (xz (v:= .slice _ _ _) rfl) ⟨Same.refl _ _,?_⟩;exact rfl
    | 1,_,hoq,hns=>
     cases sI hoq;show OS _ _ _ _ _ _;refine qZ (u6 OY N8 dE rfl rfl rfl) ⟨Same.refl _ _,?_⟩;exact rfl
    | 2,_,hoq,hns=>
     cases sI hoq;show OS _ _ _ _ _ _;refine a7 65 (hd 1 _ a8 rfl) ?_;refine qZ (qy (v:= .slice _ _ _) U59 rfl rfl (c1.u.cell rfl)) ⟨Same.refl _ _,?_⟩;exact rfl
    | 3,_,hoq,hns=>
     cases sI hoq;show OS _ _ _ _ _ _;refine a7 66 (hd 2 _ a8 rfl) ?_;refine qZ (x9 (i:=0) U59 qk rfl rfl ab rfl) ⟨Same.refl _ _,?_⟩;exact rfl
    | 4,_,hoq,hns=>
     cases sI hoq;show OS _ _ _ _ _ _;refine a7 67 (hd 3 _ a8 rfl) ?_;refine qZ (qy (v:= .int _ _) U3 rfl rfl (a5.u.cell cu cd)) ⟨Same.refl _ _,?_⟩;exact rfl
    | 5,_,hoq,hns=>
     cases sI hoq;show OS _ _ _ _ _ _;refine a7 64 (hd 0 _ a8 rfl) (a7 68 (hd 4 _ a8 rfl) ?_);refine qZ (x9 (i:=(p+1)) U39 yv rfl rfl bt rfl) ⟨Same.refl _ _,?_⟩;exact rfl
    | 6,_,hoq,hns=>
     cases sI hoq;show OS _ _ _ _ _ _;refine a7 69 (hd 5 _ a8 rfl) ?_;refine qZ (qw U41 rfl rfl (NY a1.u bt e6 dz) yv) ⟨Same.refl _ _,?_⟩;exact rfl
    | 7,_,hoq,hns=>
     cases sI hoq;show OS _ _ _ _ _ _;refine qZ (xz (v:= .slice _ _ _) rfl) ⟨Same.refl _ _,?_⟩;exact rfl
    | 8,_,hoq,hns=>
     cases sI hoq;show OS _ _ _ _ _ _;refine qZ (u6 OY N8 dE rfl rfl rfl) ⟨Same.refl _ _,?_⟩;exact rfl
    | 9,_,hoq,hns=>
     cases sI hoq;show OS _ _ _ _ _ _;refine a7 72 (hd 8 _ a8 rfl) ?_;refine qZ (qy (v:= .slice _ _ _) U59 rfl rfl (c1.u.cell rfl)) ⟨Same.refl _ _,?_⟩;exact rfl
    | 10,_,hoq,hns=>
     cases sI hoq;show OS _ _ _ _ _ _;refine a7 73 (hd 9 _ a8 rfl) ?_;refine qZ (x9 (i:=1) U59 qk rfl rfl bu rfl) ⟨Same.refl _ _,?_⟩;exact rfl
    | 11,_,hoq,hns=>
     cases sI hoq;show OS _ _ _ _ _ _;refine a7 74 (hd 10 _ a8 rfl) ?_;refine qZ (qy (v:= .int _ _) U3 rfl rfl (a5.u.cell cu hk1)) ⟨Same.refl _ _,?_⟩;exact rfl
    | 12,_,hoq,hns=>
     cases sI hoq;show OS _ _ _ _ _ _;refine a7 71 (hd 7 _ a8 rfl) (a7 75 (hd 11 _ a8 rfl) ?_);refine qZ (x9 (i:=(p+1+x.size)) U39 yv rfl rfl dm rfl) ⟨Same.refl _ _,?_⟩;exact rfl
    | 13,_,hoq,hns=>
     cases sI hoq;show OS _ _ _ _ _ _;refine a7 76 (hd 12 _ a8 rfl) ?_;refine qZ (qw U41 rfl rfl (NY a1.u dm hF2 hH2) yv) ⟨Same.refl _ _,?_⟩;exact rfl
    | 14,_,hoq,hns=>
     cases sI hoq;show OS _ _ _ _ _ _;have bh:=s15;refine jK (fun d2 Q K=>?_);refine qW (cs:=#[.string ⟨#[]⟩,.slice none 0 0]) N2 rfl (fun b8 w1 dv s16 hr=>?_);exact K _ _ ⟨s16,_,rfl,nLT bh.size hr,fun _=>dv,(fun h=>absurd (hns 16 rfl kR) (by rw[h];decide)),hr,dv.lt⟩
    | 15,_,hoq,hns=>
     cases sI hoq;show OS _ _ _ _ _ _;have bh:=s15;refine jK (fun d2 Q K=>?_);refine qW (cs:=#[.string ⟨#[]⟩,.slice none 0 0]) N2 rfl (fun b9 w1 du s17 hr=>?_);exact K _ _ ⟨s17,_,rfl,nLT bh.size hr,fun _=>du,(fun h=>absurd (hns 17 rfl kR) (by rw[h];decide)),hr,du.lt⟩
    | 16,_,hoq,hns=>
     cases sI hoq;show st 16=false->(∀ j k,j∈_->k∈_->j≠k->ha j<=la k\/ha k<=la j)->OS _ _ _ _ _ _;intro hn hI;have bh:=s15;obtain⟨b8,e8,ck,co,cq,d5,dx⟩:=hd 14 _ (zk kR) rfl;refine a7 70 (hd 6 _ a8 rfl) (zq 8 _ e8 nu ?_);have d6:=co hn;have hdj:=hI 14 15 (zk kR) (zk kR) dE;refine I8 (fun d2 Q K=>?_);refine zZ d6 rfl rfl yv rfl qz (fun w2 hq bg=>?_);have K2:=K w2;refine K2 ⟨bh.freshL bg (fun g hg=>by rw[List.mem_singleton.1 hg];exact .inr ck),bg.size,?_,fun kx ox bf bb h=>?_⟩
     ·exact trivial
     match kx,bf,bb,h with
     | 0,_,_,h=>exact h
     | 1,_,_,h=>exact h
     | 2,_,_,h=>exact h
     | 3,_,_,h=>exact h
     | 4,_,_,h=>exact h
     | 5,_,_,h=>exact h
     | 6,_,_,h=>exact h
     | 7,_,_,h=>exact h
     | 8,_,_,h=>exact h
     | 9,_,_,h=>exact h
     | 10,_,_,h=>exact h
     | 11,_,_,h=>exact h
     | 12,_,_,h=>exact h
     | 13,_,_,h=>exact h
     | 14,_,bb,h=>
      obtain rfl:_=ox:=Option.some.inj bb;obtain⟨bx,ex,bm,c9,ca,bo,bw⟩:=h;have dr:bx=b8:=by
        have h:=ex.symm.trans e8;cases h;rfl
      subst dr;exact⟨bx,ex,bm,(fun h=>by cases (show true=false from h)),fun _=>hq,bo,bw⟩
     | 15,_,bb,h=>
      obtain rfl:_=ox:=Option.some.inj bb;obtain⟨bx,ex,bm,c9,ca,bo,bw⟩:=h;exact⟨bx,ex,bm,fun h=>(c9 h).tr bg (fun hm=>by have:=aq.1 hm;omega),fun h=>(ca h).tr bg (fun hm=>by have:=aq.1 hm;omega),bo,bw⟩
     | 16,bf,_,_=>exact absurd rfl bf
     | 17,_,_,h=>exact h
     | _+18,_,_,_=>exact trivial
    | 17,_,hoq,hns=>
     cases sI hoq;show st 17=false->(∀ j k,j∈_->k∈_->j≠k->ha j<=la k\/ha k<=la j)->OS _ _ _ _ _ _;intro hn hI;have bh:=s15;obtain⟨b9,e9,cj,cn,cp,d4,dw⟩:=hd 15 _ (zk kR) rfl;refine a7 77 (hd 13 _ a8 rfl) (zq 9 _ e9 nu ?_);have d6:=cn hn;have hdj:=hI 14 15 (zk kR) (zk kR) dE;refine I8 (fun d2 Q K=>?_);refine zZ d6 rfl rfl yv rfl qz (fun w2 hq bg=>?_);have K2:=K w2;refine K2 ⟨bh.freshL bg (fun g hg=>by rw[List.mem_singleton.1 hg];exact .inr cj),bg.size,?_,fun kx ox bf bb h=>?_⟩
     ·exact trivial
     match kx,bf,bb,h with
     | 0,_,_,h=>exact h
     | 1,_,_,h=>exact h
     | 2,_,_,h=>exact h
     | 3,_,_,h=>exact h
     | 4,_,_,h=>exact h
     | 5,_,_,h=>exact h
     | 6,_,_,h=>exact h
     | 7,_,_,h=>exact h
     | 8,_,_,h=>exact h
     | 9,_,_,h=>exact h
     | 10,_,_,h=>exact h
     | 11,_,_,h=>exact h
     | 12,_,_,h=>exact h
     | 13,_,_,h=>exact h
     | 14,_,bb,h=>
      obtain rfl:_=ox:=Option.some.inj bb;obtain⟨bx,ex,bm,c9,ca,bo,bw⟩:=h;exact⟨bx,ex,bm,fun h=>(c9 h).tr bg (fun hm=>by have:=aq.1 hm;omega),fun h=>(ca h).tr bg (fun hm=>by have:=aq.1 hm;omega),bo,bw⟩
     | 15,_,bb,h=>
      obtain rfl:_=ox:=Option.some.inj bb;obtain⟨bx,ex,bm,c9,ca,bo,bw⟩:=h;have dr:bx=b9:=by
        have h:=ex.symm.trans e9;cases h;rfl
      subst dr;exact⟨bx,ex,bm,(fun h=>by cases (show true=false from h)),fun _=>hq,bo,bw⟩
     | 16,_,_,h=>exact h
     | 17,bf,_,_=>exact absurd rfl bf
     | _+18,_,_,_=>exact trivial
    | _+18,hix,_,_=>exact absurd hix oG
   intro st gg w13 la ha ce cg hR hI;obtain⟨b8,e8,ck,co,cq,d5,dx⟩:=hR 14 _ rfl;obtain⟨b9,e9,cj,cn,cp,d4,dw⟩:=hR 15 _ rfl;have dv:=cq (ce 16 dE rfl);have du:=cp (ce 17 dE rfl);refine xj 70 _ (hR 6 _ rfl) nu (xj 77 _ (hR 13 _ rfl) nu (xj 8 _ e8 nu (xj 9 _ e9 nu (zn4 ?_))));replace hB:=hB.tr0 cg;replace a2:=a2.tr0 cg;by_cases qa:α.sm.base=⟨#[]⟩
   ·obtain⟨a,ρ,rfl⟩:=ts_fun qa;obtain⟨ub,uo,A5,c5,A6,c6,rfl,hub,hSub,da,hus,d9⟩:=hSα;obtain⟨hur,db⟩:=rng4 da;have de:=nd_txt cr b3.1 e5 (by have:x.size+y.size+1<=tv.size:=bq;omega) hα;have dc:=nd_txt hny b3.2 e5 (by have:x.size+y.size+1<=tv.size:=bq;omega) hβ;have df:a.txt.length<=1000000:=by simp only[Ts.txt,List.length_cons,List.length_append]at de;omega
    refine uz [] [0,1,2,3,4,5,6,7,8,9,10,11,12,13,14,15,16,17] rfl (fun w14 cf=>?_);refine zn2 ?_;refine hle rfl (fun _=>r_neqS rfl rfl) (ae (ap (fun h=>h rfl))) (zn4 ?_);refine hge 81 rfl rfl rfl (fun _ _=>Tz rfl rfl) (ae (ap (fun h=>h rfl))) (zn4 ?_);refine hg 87 rfl rfl rfl (fun _ _=>x9 (i:=0) U39 yv rfl rfl (by show 0<2;decide) rfl) (hgS 87 rfl rfl rfl U41 rfl rfl (a3.u.range hub hur) yv (zn1 ?_));refine h1 rfl (zn1 ?_);refine qq kR (samet_any A5 Aβ c5 cβ a β w14 ((hus.sims _).mono a3.u) ((hSβ.sims _).mono a3.u) df dc) rfl (fun e' w15 hr=>?_);obtain⟨rfl,bk⟩:=hr;replace bk:=sB bk;have cb:=bk;refine⟨_,rfl,?_⟩;refine zJ (K9 cb (zn4 ?_));refine jQ rfl (fun eb=>?_) (fun eb=>?_)
    ·have bf:a.eqb β=false:=by simpa using eb
     have bc:tyv Γp (.app x y)=none:=ty_no be hr c4 a4 hα hβ (fun ρ2 e=>by rw[(Ts.f.inj e).1,Ts.eqb_iff.2 rfl]at bf;cases bf);have bv:(tyv [] tv).isSome=false:=by
       cases hq:(tyv [] tv).isSome with
       | false=>rfl
       | true=>have:=ao hq;rw[bc]at this;cases this
     refine zn2 ?_;refine wl (gQ (vs:=#[]) (cs:=#[.string ⟨#[]⟩,.slice none 0 0]) (by simp) kR) ?_;refine zZ a2.u rfl rfl yv rfl qz (fun w16 hq s21=>?_);replace a2:=hq;refine jq ?_;refine QK (.inl rfl) rfl (zW U41 rfl rfl a2.range0 yv) rfl ?_;replace hB:=(hB.tr0 (cf.t bk)).tr1 s21 cm;exact⟨⟨_,_,_,_,by rw[bv];rfl,fun τ h=>by rw[h]at bv;cases bv⟩,hB⟩
    have heq:a=β:=Ts.eqb_iff.1 (by simpa using eb);refine Yj (e_S ?_);have hZ:SameQ [a9] w15 w15:=Same.refl _ _;replace a3:=a3.tr0 (cg.t (cf.t bk));have an:=bj.mono a3;replace a1:=a1.tr0 (cg.t (cf.t bk));have bd:=a1;replace hB:=hB.tr0 (cf.t bk);have c2:=hB;have b5:=a3;refine zn5 ?_;refine wl (x9 (i:=1) U39 yv rfl rfl (by show 1<2;decide) rfl) (wl (qw U41 rfl rfl (b5.range hub db) yv) (wl (x9 (i:=p) U39 yv rfl rfl bz rfl) ?_));refine Mv a1 rfl rfl yv (by rw[uq];show 0+p*2+2<=tv.size*2;omega) qz NW (fun w17 hq s22=>?_);replace hZ:=SameQ.trans hZ s22 (by simp);replace a1:=hq;have ac:=an.put (c:=c6) bi hZ (TyAt.app hr c4 a4 hα (heq ▸ hβ)) (d9.mono b5);refine zn6 ?_;refine wl (kZ rfl rfl rfl oG) (zn2 ?_);refine x8 (p) oG agA ?_;exact⟨p,_,_,_,by omega,rfl,by omega,rfl,hB.u,a5.u,a2.u,a1,ac⟩
   have bc:tyv Γp (.app x y)=none:=ty_no be hr c4 a4 hα hβ (fun ρ e=>qa (by rw[e];rfl));have bv:(tyv [] tv).isSome=false:=by
     cases hq:(tyv [] tv).isSome with
     | false=>rfl
     | true=>have:=ao hq;rw[bc]at this;cases this
   refine uz [] [0,1,2,3,4,5,6,7,8,9,10,11,12,13,14,15,16,17] rfl (fun w18 s23=>?_);refine zn2 ?_;refine hle rfl (fun _=>r_neqS rfl rfl) (ae (ai qa)) (zn20 ?_);refine wl (gQ (vs:=#[]) (cs:=#[.string ⟨#[]⟩,.slice none 0 0]) (by simp) kR) ?_;refine zZ a2.u rfl rfl yv rfl qz (fun w19 hq s24=>?_);replace a2:=hq;refine jq ?_;refine QK (.inl rfl) rfl (zW U41 rfl rfl a2.range0 yv) rfl ?_;replace hB:=(hB.tr0 s23).tr1 s24 cm;exact⟨⟨_,_,_,_,by rw[bv];rfl,fun τ h=>by rw[h]at bv;cases bv⟩,hB⟩
  rcases hkk with h|h|h|h
  · exact absurd h cx
  · exact absurd h cw
  · exact absurd h cv
  · exact absurd h c4
 obtain⟨τ0,A0,c0,hT0,hF0,hH0,dy⟩:=bj.t 0 oG d8;have hty:tyv [] tv=some τ0:=hT0 _ _ hnd;refine zn8 ?_;refine wl (x9 (i:=0) U39 yv rfl rfl d8 rfl) (wl (qw U41 rfl rfl (NY a1 d8 hF0 hH0) yv) ?_);refine zZ a2 rfl rfl yv rfl qz (fun w20 hq s25=>?_);replace dy:=dy.tr s25 (fun g hg=> .inl (by rw[List.mem_singleton.1 hg];exact hS2));replace a2:=hq;refine zn4 ?_;refine QK (.inl rfl) rfl (zW U41 rfl rfl a2.range0 yv) rfl ?_;replace hB:=hB.tr1 s25 cm;exact⟨⟨_,_,_,_,by rw[hty];rfl,fun τ h=>by obtain rfl:=Option.some.inj (hty.symm.trans h);exact⟨rfl,rfl,dy.imp (fun b _ h=>h.imp id (fun h=>⟨h.1,by simp⟩)) _⟩⟩,hB⟩
end Go.Proofs.YtgcgnkmmbecfmaaGreatDoor
