/- What these functions of the program compute, at every world: glosswright/term.Typed. What these functions of the program compute, at every world: glosswright/glosswrightref1.TypeOf. -/
import Derived.Test.YtbcpgfnfiekbiaaGreatDoorU
import Derived.Test.YtbcpgfnfiekbiaaGreatDoorTrm
import Derived.Test.YtbcpgfnfiekbiaaGreatDoorNSv
import Derived.Test.YtbcpgfnfiekbiaaGreatDoorRws
import Derived.Test.YtbcpgfnfiekbiaaGreatDoorStk
import Derived.Test.YtbcpgfnfiekbiaaGreatDoorNBd
namespace Go.Proofs.YtbcpgfnfiekbiaaGreatDoor
open Go.RowKit
theorem tv_con {v:Tv} (h:v.tm.kind=1):∃ nm τ,v= .con nm τ:=by cases v <;> first | exact⟨_,_,rfl⟩ | (exfalso;revert h;simp [Tv.tm,Tm.kind])
theorem tv_var {v:Tv} (h:v.tm.kind=2):∃ i,v= .var i:=by cases v <;> first | exact⟨_,rfl⟩ | (exfalso;revert h;simp [Tv.tm,Tm.kind])
theorem tv_abs {v:Tv} (h:v.tm.kind=3):∃ τ x,v= .abs τ x:=by cases v <;> first | exact⟨_,_,rfl⟩ | (exfalso;revert h;simp [Tv.tm,Tm.kind])
theorem tv_app {v:Tv} (h1:¬v.tm.kind=1) (h2:¬v.tm.kind=2) (h3:¬v.tm.kind=3):∃ x y,v= .app x y:=by
  cases v with
  | con nm τ=>exact absurd rfl h1
  | var i=>exact absurd rfl h2
  | abs τ x=>exact absurd rfl h3
  | app x y=>exact⟨_,_,rfl⟩
theorem ts_two {τ:Ts} (h:τ.sm.args.length=2):∃ x y,τ= .f x y:=by
  cases τ with
  | b t=>cases h
  | f x y=>exact⟨x,y,rfl⟩
section app
variable {Γ:List Ts} {x y:Tv}
theorem app_no1 (h:(tyv Γ x).isSome=false):tyv Γ (.app x y)=none:=by
  simp only [tyv];cases e:tyv Γ x with
  | none=>rfl
  | some σ=>rw [e] at h;cases h
theorem app_no2 (h:(tyv Γ y).isSome=false):tyv Γ (.app x y)=none:=by
  simp only [tyv];cases e:tyv Γ y with
  | none=>
    cases tyv Γ x with
    | none=>rfl
    | some σ=>cases σ <;> rfl
  | some σ=>rw [e] at h;cases h
theorem app_no3 {σ:Ts} (h:tyv Γ x=some σ) (hn:¬σ.sm.args.length=2):tyv Γ (.app x y)=none:=by
  simp only [tyv,h];cases σ with
  | b t=>rfl
  | f a r=>exact absurd rfl hn
theorem app_no4 {a r ζ:Ts} (h:tyv Γ x=some (.f a r)) (k:tyv Γ y=some ζ) (e:a.eqb ζ=false):tyv Γ (.app x y)=none:=by
  simp only [tyv,h,k,e];rfl
theorem app_yes {a r ζ:Ts} (h:tyv Γ x=some (.f a r)) (k:tyv Γ y=some ζ) (e:a.eqb ζ=true):tyv Γ (.app x y)=some r:=by
  simp only [tyv,h,k,e];rfl
end app
theorem fn77:zZ Tryz.prog 77=true:=by kernel_rfl
theorem in41:(Tryz.prog.info? 41).map (fun i=>(i.zero,i.size,i.bytes))=some (some (.agg #[.string ⟨#[]⟩,.slice none 0 0]),2,40):=by kernel_rfl
set_option maxRecDepth 100000 in
set_option maxHeartbeats 4000000 in
theorem WJ {v:Tv} {Γ:List Ts} {A B C:Option Addr} {c m cc:Nat} {w:World} (hS:SimsIn w A v.tm.type.args) (hT:TmsIn w B v.tm.args) (hG:CtxIn w C Γ) (hcc:Γ.length≤cc) (hlen:Γ.length + v.size≤1000) (hok:v.ok Γ.length) (IH:∀ (x:Tv),x.size < v.size→∀ (Γ:List Ts) (A2 B2 C2:Option Addr) (c2 m2 cc2:Nat) (w2:World),SimsIn w2 A2 (Tv.tm (x)).type.args→TmsIn w2 B2 (Tv.tm (x)).args→CtxIn w2 C2 Γ→List.length Γ≤cc2→List.length Γ + (x).size≤1000→Tv.ok (List.length Γ) (x)→Calls Tryz.prog 77 #[.agg #[.int .i64 (Tv.tm (x)).kind,.string (Tv.tm (x)).name,.int .i64 (Tv.tm (x)).index,.string (Tv.tm (x)).type.base,.slice A2 (Tv.tm (x)).type.args.length c2,.slice B2 (Tv.tm (x)).args.length m2],.slice C2 (List.length Γ) cc2] w2 fun e w'=>(∃ (s:ByteArray) (A':Option Addr) (n c':Nat),e= .returned (.tuple #[.agg #[.string s,.slice A' n c'],.bool (tyv (Γ) (x)).isSome])∧∀ τ,tyv (Γ) (x)=some τ→s=τ.sm.base∧n=τ.sm.args.length∧SimsIn w' A' τ.sm.args)∧Bel w2 w'):Calls Tryz.prog 77 #[.agg #[.int .i64 (Tv.tm (v)).kind,.string (Tv.tm (v)).name,.int .i64 (Tv.tm (v)).index,.string (Tv.tm (v)).type.base,.slice A (Tv.tm (v)).type.args.length c,.slice B (Tv.tm (v)).args.length m],.slice C (List.length Γ) cc] w fun e w'=>(∃ (s:ByteArray) (A':Option Addr) (n c':Nat),e= .returned (.tuple #[.agg #[.string s,.slice A' n c'],.bool (tyv (Γ) (v)).isSome])∧∀ τ,tyv (Γ) (v)=some τ→s=τ.sm.base∧n=τ.sm.args.length∧SimsIn w' A' τ.sm.args)∧Bel w w':=by
 refine enT Tryz.func77 Tryz.ntmps77 rfl rfl fun hB=>?_;refine zn2 ?_;refine qK (v:= .agg #[_,_,_,_,_,_]) (cs:=#[_,_,_,_,_,_]) rfl rfl (fun b2 w1 hb2 t1 hr=>?_);refine zY (cs:=#[.string ⟨#[]⟩,.slice none 0 0]) K0 rfl (fun b4 w2 hb4 t2 hr=>?_);have lo4:=nLT (Bel.size hB.u) hr;refine N9 ?_;refine zy rfl (fun c15=>?_) (fun c15=>?_)
 ·obtain⟨nm,τ,rfl⟩:=tv_con c15;refine zn3 ?_;refine wl (zV U41 rfl rfl (hb2.u.sub (n:=2) (xs:=[_,_]) rfl) xJ) ?_;refine zj hb4 rfl rfl xJ rfl zX (fun w3 hq t3=>?_);replace hb4:=hq;refine zn6 ?_;refine gy (.inl rfl) rfl (zk U41 rfl rfl hb4.range0 xJ) rfl ?_;replace hB:=(hB.tr0 (t1.trans t2)).tr1 t3 lo4;exact⟨⟨_,_,_,_,rfl,fun σ e=>by obtain rfl:τ=σ:=Option.some.inj e;exact⟨rfl,rfl,hS.mono hB⟩⟩,hB⟩
 refine zn6 ?_;refine zy rfl (fun c19=>?_) (fun c19=>?_)
 ·obtain⟨i,rfl⟩:=tv_var c19;have hil:i < Γ.length:=hok;obtain⟨cb,co,A7,c7,rfl,hcb,hcr,hcs⟩:=hG.at_ (List.getElem?_eq_getElem hil);refine zn5 ?_;refine wl (kW (c:=((Γ.length - 1:Nat):Int)) rfl rfl om om) (zn1 ?_);refine wl (qZ (v:= .int .i64 ((i:Nat):Int)) U3 rfl rfl (hb2.u.cell rfl)) (wl (kW (c:=((Γ.length - 1 - i:Nat):Int)) rfl rfl om om) (wl (xw (i:=(Γ.length - 1 - i)) U39 xJ rfl rfl om rfl) (wl (zV U41 rfl rfl (hB.u.range hcb hcr) xJ) ?_)));refine zj hb4 rfl rfl xJ rfl zX (fun w4 hq t4=>?_);replace hb4:=hq;refine zn6 ?_;refine gy (.inl rfl) rfl (zk U41 rfl rfl hb4.range0 xJ) rfl ?_;have hty:tyv Γ (.var i)=some Γ[i]:=List.getElem?_eq_getElem hil;replace hB:=(hB.tr0 (t1.trans t2)).tr1 t4 lo4;exact⟨⟨_,_,_,_,by rw [hty];rfl,fun σ e=>by rw [hty] at e;obtain rfl:=Option.some.inj e;exact⟨rfl,rfl,hcs.mono hB⟩⟩,hB⟩
 refine zn6 ?_;refine zy rfl (fun c30=>?_) (fun c30=>?_)
 ·obtain⟨τ,x,rfl⟩:=tv_abs c30;have hlx:Γ.length + (x.size + 1)≤1000:=hlen;obtain⟨tb,to,A0,c0,B0,m0,rfl,htb,htr0,ks0,kt0⟩:=hT.at_ (k:=0) (by simp [Tv.tm,Tm.args])
  change w.rangeAt tb (to + 0 * 6) [.int .i64 (x).tm.kind,.string (x).tm.name,.int .i64 (x).tm.index,.string (x).tm.type.base,.slice A0 (x).tm.type.args.length c0,.slice B0 (x).tm.args.length m0] at htr0
  change SimsIn w A0 (x).tm.type.args at ks0
  change TmsIn w B0 (x).tm.args at kt0
  refine xv ?_;refine IZ 11 [32,33,34,35,36,37,38,39,40,41,6] [] (fun ix=>false) (fun st ix v la ha wv=>match ix with | 0=>v= .slice C (List.length Γ) cc | 1=>v= .slice C (List.length Γ) cc | 2=>v= .int .i64 ((Γ.length:Nat):Int) | 3=>v= .slice C (List.length Γ) cc | 4=>v= .int .i64 ((Γ.length:Nat):Int) | 5=>v= .slice C (List.length Γ) (List.length Γ) | 6=>v= .pointer (some ⟨b2,0 + 3,none⟩) | 7=>v= .agg #[.string τ.sm.base,.slice A τ.sm.args.length c] | 8=>∃ b,v= .slice (some ⟨b,0,none⟩) 1 1∧Blk wv b 41 #[.string τ.sm.base,.slice A τ.sm.args.length c] | 9=>∃ g cap,v= .slice (some ⟨g,0,none⟩) (Γ.length + 1) cap∧CtxIn wv (some ⟨g,0,none⟩) (τ :: Γ)∧Γ.length + 1≤cap | 10=>∃ g cap,v= .slice (some ⟨g,0,none⟩) (Γ.length + 1) cap∧CtxIn wv (some ⟨g,0,none⟩) (τ :: Γ)∧Γ.length + 1≤cap | _=>True) kR kR kR ?_ ?_ ?_
  ·intro st ix v la ha wv wv2 h t5
   match ix,h with
   | 0,h=>exact h
   | 1,h=>exact h
   | 2,h=>exact h
   | 3,h=>exact h
   | 4,h=>exact h
   | 5,h=>exact h
   | 6,h=>exact h
   | 7,h=>exact h
   | 8,h=>
    obtain⟨b40,e40,hb40⟩:=h;exact⟨b40,e40,hb40.tr0 t5⟩
   | 9,h=>
    obtain⟨g41,cap41,e41,hG41,hcap41⟩:=h;exact⟨g41,cap41,e41,hG41.mono t5.bel,hcap41⟩
   | 10,h=>
    obtain⟨gx,capx,e6,hGx,hcapx⟩:=h;exact⟨gx,capx,e6,hGx.mono t5.bel,hcapx⟩
   | _ + 11,h=>exact trivial
  ·intro st ix o hix hoq hns gg wx la ha t6 hd
   match ix,hix,hoq,hns with
   | 0,_,hoq,hns=>
    cases sI hoq;show OS _ _ _ _ _ _;refine xk (xZ (v:= .slice _ _ _) rfl) ⟨Same.refl _ _,?_⟩;exact rfl
   | 1,_,hoq,hns=>
    cases sI hoq;show OS _ _ _ _ _ _;refine xk (xZ (v:= .slice _ _ _) rfl) ⟨Same.refl _ _,?_⟩;exact rfl
   | 2,_,hoq,hns=>
    cases sI hoq;show OS _ _ _ _ _ _;refine zz 33 _ (hd 1 _ (zq kR) rfl) nu ?_;refine xk (Rv U39 rfl) ⟨Same.refl _ _,?_⟩;exact rfl
   | 3,_,hoq,hns=>
    cases sI hoq;show OS _ _ _ _ _ _;refine xk (xZ (v:= .slice _ _ _) rfl) ⟨Same.refl _ _,?_⟩;exact rfl
   | 4,_,hoq,hns=>
    cases sI hoq;show OS _ _ _ _ _ _;refine zz 35 _ (hd 3 _ (zq kR) rfl) nu ?_;refine xk (Rv U39 rfl) ⟨Same.refl _ _,?_⟩;exact rfl
   | 5,_,hoq,hns=>
    cases sI hoq;show OS _ _ _ _ _ _;refine zz 32 _ (hd 0 _ (zq kR) rfl) nu (zz 34 _ (hd 2 _ (zq kR) rfl) nu (zz 36 _ (hd 4 _ (zq kR) rfl) nu ?_));refine xk (r_slF U39 xJ rfl rfl rfl hcc) ⟨Same.refl _ _,?_⟩;exact rfl
   | 6,_,hoq,hns=>
    cases sI hoq;show OS _ _ _ _ _ _;refine xk (uk U44 xJ dE rfl rfl rfl) ⟨Same.refl _ _,?_⟩;exact rfl
   | 7,_,hoq,hns=>
    cases sI hoq;show OS _ _ _ _ _ _;refine zz 38 _ (hd 6 _ (zq kR) rfl) nu ?_;refine xk (zV U41 rfl rfl (hb2.u.sub (n:=2) (xs:=[_,_]) rfl) xJ) ⟨Same.refl _ _,?_⟩;exact rfl
   | 8,_,hoq,hns=>
    cases sI hoq;show OS _ _ _ _ _ _;refine zz 39 _ (hd 7 _ (zq kR) rfl) nu ?_;refine vK (fun ops Q K=>?_);refine qv (cs:=#[_,_]) [(0,.agg _)] rfl U39 xJ K0 dE dE kR rfl (fun b40 w5 hb40 t7 hr=>?_);exact K _ _ ⟨t7,⟨_,rfl,hb40⟩⟩
   | 9,_,hoq,hns=>
    cases sI hoq;show OS _ _ _ _ _ _;obtain⟨b40,e40,hb40⟩:=hd 8 _ (zq kR) rfl;refine zz 37 _ (hd 5 _ (zq kR) rfl) nu (zz 40 _ e40 nu ?_);refine vK (fun ops Q K=>?_);replace hB:=hB.tr0 (t1.trans (t2.trans t6));obtain⟨vs,hv1,hv2,hv3,hv4⟩:=(hG.mono hB).row;refine wl_appFl U39 in41 rfl dE hv2 hv3 hv4 hb40 rfl rfl rfl rfl dE om om (fun g41 cap41 w1 ho41 t8 hg=>?_);exact K _ _ ⟨t8,_,_,rfl,ctx_app ho41 (hv1.mono t8.bel) ((hS.mono hB).mono t8.bel) rfl,ho41.cap_le⟩
   | 10,_,hoq,hns=>
    cases sI hoq;show OS _ _ _ _ _ _;obtain⟨g41,cap41,e41,hG41,hcap41⟩:=hd 9 _ (zq kR) rfl;refine zz 41 _ e41 nu ?_;refine xk (Zw (v:= .slice _ _ _) rfl) ⟨Same.refl _ _,?_⟩;exact⟨_,_,rfl,hG41,hcap41⟩
   | _ + 11,hix,_,_=>exact absurd hix om
  intro st gg w6 la ha hall t9 hR hI;obtain⟨gx,capx,e6,hGx,hcapx⟩:=hR 10 _ rfl;refine x7 6 _ e6 nu (zn6 ?_);refine wl (xw (i:=0) U42 Yy rfl rfl (by show 0 < 1;decide) rfl) (wl (zV U44 rfl rfl (hB.u.range htb htr0) Yy) (wmS rfl ?_));replace hB:=hB.tr0 (t1.trans (t2.trans t9));refine zJ fn77 (IH x (by simp only [Tv.size];omega) (τ :: Γ) A0 B0 (some ⟨gx,0,none⟩) c0 m0 capx _ (ks0.mono hB) (kt0.mono hB) hGx hcapx (by simp only [List.length_cons];omega) hok.2) rfl (fun e' w7 hr=>?_);obtain⟨⟨s3,A3,n3,c3,rfl,h3⟩,t10⟩:=hr;replace t10:=sB t10;have hBx:Bel w7 w7:=Below.refl _ _;refine⟨_,rfl,?_⟩;refine wmT rfl (wl (jw (v:= .agg _) rfl rfl) (wl (jw (v:= .bool _) rfl rfl) ?_));refine xW (cs:=#[.string ⟨#[]⟩,.slice none 0 0]) K0 rfl (fun _=>rfl) (fun _=>rfl) xJ rfl zX (fun b7 w9 hb7 t11 hr=>?_);refine zn4 ?_;have hZ:SameQ [b4] w9 w9:=Same.refl _ _;replace hb4:=hb4.tr0 (t9.trans (t10.trans t11));have hb4z:=hb4;replace hBx:=hBx.tr0 t11;have hBxz:=hBx;refine zn2 ?_;refine wl (zV U41 rfl rfl (hb2.u.sub (n:=2) (xs:=[_,_]) rfl) xJ) (zn1 ?_);refine qv (cs:=#[_,_,_,_]) [(0,.agg _),(1,.agg _)] rfl U39 xJ K0 dE dE kR rfl (fun b54 w10 hb54 t12 hr=>?_);have:=nLL hb4.lt hr;replace hZ:=SameQ.trans hZ t12 (by simp);refine wl (V8 (v0:= .slice _ _ _) (fun v0=>#[.string ⟨#[]⟩,v0]) rfl kR) (wl (xZ (v:= .bool _) rfl) ?_);refine zj hb4.u rfl rfl xJ rfl zX (fun w11 hq t13=>?_);replace hZ:=SameQ.trans hZ t13 (by simp);replace hb4:=hq;refine zn6 ?_;refine gy (.inl rfl) rfl (zk U41 rfl rfl hb4.range0 xJ) rfl ?_;have e1:(tyv Γ (.abs τ x)).isSome=(tyv (τ :: Γ) x).isSome:=by simp only [tyv,Option.isSome_map]
  replace hB:=(hB.tr0 (t10.trans (t11.trans t12))).tr1 t13 lo4;refine⟨⟨_,_,_,_,by rw [e1];rfl,fun σ hσ=>?_⟩,hB⟩;obtain⟨ρ,h5,rfl⟩:=Option.map_eq_some_iff.1 hσ;obtain⟨rfl,rfl,h6⟩:=h3 ρ h5;exact⟨rfl,rfl,sm2_two hb54.u (hS.mono hB) (KW hb4z hZ ρ (h6.mono hBxz))⟩
 obtain⟨x,y,rfl⟩:=tv_app c15 c19 c30;have hlx:Γ.length + (x.size + y.size + 1)≤1000:=hlen;have px:=x.pos;have py:=y.pos;obtain⟨tb,to,A0,c0,B0,m0,rfl,htb,htr0,ks0,kt0⟩:=hT.at_ (k:=0) (by simp [Tv.tm,Tm.args])
 change w.rangeAt tb (to + 0 * 6) [.int .i64 (x).tm.kind,.string (x).tm.name,.int .i64 (x).tm.index,.string (x).tm.type.base,.slice A0 (x).tm.type.args.length c0,.slice B0 (x).tm.args.length m0] at htr0
 change SimsIn w A0 (x).tm.type.args at ks0
 change TmsIn w B0 (x).tm.args at kt0
 obtain⟨_,_,A1,c1,B1,m1,e1,_,htr1,ks1,kt1⟩:=hT.at_ (k:=1) (by simp [Tv.tm,Tm.args]);cases e1
 change w.rangeAt tb (to + 1 * 6) [.int .i64 (y).tm.kind,.string (y).tm.name,.int .i64 (y).tm.index,.string (y).tm.type.base,.slice A1 (y).tm.type.args.length c1,.slice B1 (y).tm.args.length m1] at htr1
 change SimsIn w A1 (y).tm.type.args at ks1
 change TmsIn w B1 (y).tm.args at kt1
 refine zn7 ?_;refine wl (xw (i:=0) U42 Yy rfl rfl (by show 0 < 2;decide) rfl) (wl (zV U44 rfl rfl (hB.u.range htb htr0) Yy) (wmS rfl ?_));replace hB:=hB.tr0 (t1.trans t2);refine zJ fn77 (IH x (by simp only [Tv.size];omega) Γ A0 B0 C c0 m0 cc _ (ks0.mono hB) (kt0.mono hB) (hG.mono hB) hcc om hok.1) rfl (fun e' w12 hr=>?_);obtain⟨⟨s3,A3,n3,c3,rfl,h3⟩,t14⟩:=hr;replace t14:=sB t14;have hBx:Bel w12 w12:=Below.refl _ _;refine⟨_,rfl,?_⟩;refine wmT rfl (wl (jw (v:= .agg _) rfl rfl) (wl (jw (v:= .bool _) rfl rfl) ?_));refine xW (cs:=#[.string ⟨#[]⟩,.slice none 0 0]) K0 rfl (fun _=>rfl) (fun _=>rfl) xJ rfl zX (fun b9 w14 hb9 t15 hr=>?_);refine zn7 ?_;refine wl (xw (i:=1) U42 Yy rfl rfl (by show 1 < 2;decide) rfl) (wl (zV U44 rfl rfl (hB.u.range htb htr1) Yy) (wmS rfl ?_));replace hB:=hB.tr0 (t14.trans t15);refine zJ fn77 (IH y (by simp only [Tv.size];omega) Γ A1 B1 C c1 m1 cc _ (ks1.mono hB) (kt1.mono hB) (hG.mono hB) hcc om hok.2) rfl (fun e' w15 hr=>?_);obtain⟨⟨s4,A4,n4,c4,rfl,h4⟩,t16⟩:=hr;replace t16:=sB t16;have hBy:Bel w15 w15:=Below.refl _ _;refine⟨_,rfl,?_⟩;refine wmT rfl (wl (jw (v:= .agg _) rfl rfl) (wl (jw (v:= .bool _) rfl rfl) ?_));refine xW (cs:=#[.string ⟨#[]⟩,.slice none 0 0]) K0 rfl (fun _=>rfl) (fun _=>rfl) xJ rfl zX (fun b11 w17 hb11 t17 hr=>?_);refine zn5 ?_;replace hb4:=hb4.tr0 (t14.trans (t15.trans (t16.trans t17)));replace hB:=hB.tr0 (t16.trans t17);rcases Bool.eq_false_or_eq_true ((tyv Γ x).isSome) with hk1 | hk1
 ·refine zQ 10 _ (congrArg Value.bool hk1) nu ?_;rcases Bool.eq_false_or_eq_true ((tyv Γ y).isSome) with hk2 | hk2
  ·refine zQ 12 _ (congrArg Value.bool hk2) nu ?_;by_cases q2:n3=2
   ·obtain⟨σ,hσ⟩:=Option.isSome_iff_exists.1 hk1;obtain⟨ζ,hζ⟩:=Option.isSome_iff_exists.1 hk2;obtain⟨rfl,e3,hs3⟩:=h3 σ hσ;obtain⟨rfl,rfl,hs4⟩:=h4 ζ hζ;obtain⟨a,r,rfl⟩:=ts_two (e3.symm.trans q2);subst q2;obtain⟨ub,uo,A5,c5,rfl,hub,hur,hus⟩:=hs3.at_ (k:=0) (by simp [Ts.sm,Sm.args]);obtain⟨_,_,A6,c6,e6,_,hur2,hus2⟩:=hs3.at_ (k:=1) (by simp [Ts.sm,Sm.args]);cases e6
    change SimsIn _ A5 a.sm.args at hus
    change SimsIn _ A6 r.sm.args at hus2
    change World.rangeAt _ ub (uo + 0 * 2) [.string a.sm.base,.slice A5 a.sm.args.length c5] at hur
    change World.rangeAt _ ub (uo + 1 * 2) [.string r.sm.base,.slice A6 r.sm.args.length c6] at hur2
    refine kZ [] [0,1,2,3,4,5,6,7,8,9,10,11,12,13,14,15,16,17,18,19,20] rfl (fun w18 t18=>?_);refine yw ?_;refine hge 81 rfl rfl rfl (fun _ _=>r_neq rfl rfl) (congrArg Value.bool (decide_eq_false om)) (zn4 ?_);refine hg 87 rfl rfl rfl (fun _ _=>xw (i:=0) U39 xJ rfl rfl dE rfl) (hgS 87 rfl rfl rfl U41 rfl rfl (hBx.u.range hub hur) xJ (zn1 ?_));refine h1 rfl (zn1 ?_);refine zJ fn78 (samE_any A5 A4 c5 c4 a ζ w18 (hus.mono hBx.u) (hs4.mono hBy.u)) rfl (fun e' w19 hr=>?_);obtain⟨rfl,t19⟩:=hr;replace t19:=sB t19;have hsH18:=t19;refine⟨_,rfl,?_⟩;refine zw (J5 hsH18 (zn4 ?_));refine vw rfl (fun c95=>?_) (fun c95=>?_)
    ·have hnone:tyv Γ (.app x y)=none:=app_no4 hσ hζ (by simpa using c95);refine zn2 ?_;refine wl (uv (vs:=#[]) (cs:=#[.string ⟨#[]⟩,.slice none 0 0]) (by simp) kR) ?_;refine zj hb4.u rfl rfl xJ rfl zX (fun w20 hq t20=>?_);replace hb4:=hq;refine zn5 ?_;refine gy (.inl rfl) rfl (zk U41 rfl rfl hb4.range0 xJ) rfl ?_;replace hB:=(hB.tr0 (t18.trans t19)).tr1 t20 lo4;exact⟨⟨_,_,_,_,(by rw [hnone];rfl),fun σ e=>by rw [hnone] at e;cases e⟩,hB⟩
    have hsome:tyv Γ (.app x y)=some r:=app_yes hσ hζ (by simpa using c95);refine zn3 ?_;have hZ:SameQ [b4] w19 w19:=Same.refl _ _;replace hb4:=hb4.tr0 (t18.trans t19);have hb4z:=hb4;replace hBx:=hBx.tr0 (t15.trans (t16.trans (t17.trans (t18.trans t19))));have hBxz:=hBx;refine zn3 ?_;refine wl (xw (i:=1) U39 xJ rfl rfl dE rfl) (wl (zV U41 rfl rfl (hBxz.range hub hur2) xJ) ?_);refine zj hb4 rfl rfl xJ rfl zX (fun w21 hq t21=>?_);replace hZ:=SameQ.trans hZ t21 (by simp);replace hb4:=hq;refine zn4 ?_;refine gy (.inl rfl) rfl (zk U41 rfl rfl hb4.range0 xJ) rfl ?_;replace hB:=(hB.tr0 (t18.trans t19)).tr1 t21 lo4;exact⟨⟨_,_,_,_,(by rw [hsome];rfl),fun σ e=>by rw [hsome] at e;obtain rfl:=Option.some.inj e;exact⟨rfl,rfl,KW hb4z hZ r (hus2.mono hBxz)⟩⟩,hB⟩
   obtain⟨σ,hσ⟩:=Option.isSome_iff_exists.1 hk1;obtain⟨ζ,hζ⟩:=Option.isSome_iff_exists.1 hk2;obtain⟨rfl,e3,hs3⟩:=h3 σ hσ;obtain⟨rfl,rfl,hs4⟩:=h4 ζ hζ;have hnone:tyv Γ (.app x y)=none:=app_no3 hσ (fun h=>q2 (e3.trans h));refine kZ [] [0,1,2,3,4,5,6,7,8,9,10,11,12,13,14,15,16,17,18,19,20] rfl (fun w22 t22=>?_);refine yw ?_;refine hge 81 rfl rfl rfl (fun _ _=>r_neq rfl rfl) (congrArg Value.bool (decide_eq_true om)) (Z6 ?_);refine wl (uv (vs:=#[]) (cs:=#[.string ⟨#[]⟩,.slice none 0 0]) (by simp) kR) ?_;refine zj hb4.u rfl rfl xJ rfl zX (fun w23 hq t23=>?_);replace hb4:=hq;refine zn5 ?_;refine gy (.inl rfl) rfl (zk U41 rfl rfl hb4.range0 xJ) rfl ?_;replace hB:=(hB.tr0 t22).tr1 t23 lo4;exact⟨⟨_,_,_,_,(by rw [hnone];rfl),fun σ e=>by rw [hnone] at e;cases e⟩,hB⟩
  refine zQ 12 _ (congrArg Value.bool hk2) nu ?_;have hnone:tyv Γ (.app x y)=none:=app_no2 hk2;refine kZ [] [0,1,2,3,4,5,6,7,8,9,10,11,12,13,14,15,16,17,18,19,20] rfl (fun w24 t24=>?_);refine zn26 ?_;refine wl (uv (vs:=#[]) (cs:=#[.string ⟨#[]⟩,.slice none 0 0]) (by simp) kR) ?_;refine zj hb4.u rfl rfl xJ rfl zX (fun w25 hq t25=>?_);replace hb4:=hq;refine zn5 ?_;refine gy (.inl rfl) rfl (zk U41 rfl rfl hb4.range0 xJ) rfl ?_;replace hB:=(hB.tr0 t24).tr1 t25 lo4;exact⟨⟨_,_,_,_,(by rw [hnone];rfl),fun σ e=>by rw [hnone] at e;cases e⟩,hB⟩
 refine zQ 10 _ (congrArg Value.bool hk1) nu ?_;have hnone:tyv Γ (.app x y)=none:=app_no1 hk1;refine kZ [] [0,1,2,3,4,5,6,7,8,9,10,11,12,13,14,15,16,17,18,19,20] rfl (fun w26 t26=>?_);refine zn26 ?_;refine wl (uv (vs:=#[]) (cs:=#[.string ⟨#[]⟩,.slice none 0 0]) (by simp) kR) ?_;refine zj hb4.u rfl rfl xJ rfl zX (fun w27 hq t27=>?_);replace hb4:=hq;refine zn5 ?_;refine gy (.inl rfl) rfl (zk U41 rfl rfl hb4.range0 xJ) rfl ?_;replace hB:=(hB.tr0 t26).tr1 t27 lo4;exact⟨⟨_,_,_,_,(by rw [hnone];rfl),fun σ e=>by rw [hnone] at e;cases e⟩,hB⟩
theorem typed_any:∀ (k:Nat) (v:Tv),v.size < k→∀ (Γ:List Ts) (A B C:Option Addr) (c m cc:Nat) (w:World),SimsIn w A (Tv.tm (v)).type.args→TmsIn w B (Tv.tm (v)).args→CtxIn w C Γ→List.length Γ≤cc→List.length Γ + (v).size≤1000→Tv.ok (List.length Γ) (v)→Calls Tryz.prog 77 #[.agg #[.int .i64 (Tv.tm (v)).kind,.string (Tv.tm (v)).name,.int .i64 (Tv.tm (v)).index,.string (Tv.tm (v)).type.base,.slice A (Tv.tm (v)).type.args.length c,.slice B (Tv.tm (v)).args.length m],.slice C (List.length Γ) cc] w fun e w'=>(∃ (s:ByteArray) (A':Option Addr) (n c':Nat),e= .returned (.tuple #[.agg #[.string s,.slice A' n c'],.bool (tyv (Γ) (v)).isSome])∧∀ τ,tyv (Γ) (v)=some τ→s=τ.sm.base∧n=τ.sm.args.length∧SimsIn w' A' τ.sm.args)∧Bel w w':=by
  intro k
  induction k with
  | zero=>intro v h;omega
  | succ k ih=>exact fun v h Γ A B C c m cc w h1 h2 h3 h4 h5 h6=>WJ h1 h2 h3 h4 h5 h6 (fun x hx=>ih x om)
end Go.Proofs.YtbcpgfnfiekbiaaGreatDoor
namespace Go.Proofs.YtbcpgfnfiekbiaaGreatDoor
open Go.RowKit
theorem fn49:zZ Tryz.prog 49=true:=by kernel_rfl
theorem fn90:zZ Tryz.prog 90=true:=by kernel_rfl
theorem fn91:zZ Tryz.prog 91=true:=by kernel_rfl
set_option maxRecDepth 100000 in
set_option maxHeartbeats 8000000 in
theorem WX (tv:Tv) (A B:Option Addr) (c m:Nat) (w:World) (hS:SimsIn w A tv.tm.type.args) (hT:TmsIn w B tv.tm.args) (hv2:tv.size≤200) (hok:tv.ok 0):Calls Tryz.prog 47 #[.agg #[.int .i64 (Tv.tm tv).kind,.string (Tv.tm tv).name,.int .i64 (Tv.tm tv).index,.string (Tv.tm tv).type.base,.slice A (Tv.tm tv).type.args.length c,.slice B (Tv.tm tv).args.length m]] w fun e w'=>(∃ (s:ByteArray) (A':Option Addr) (n c':Nat),e= .returned (.tuple #[.agg #[.string s,.slice A' n c'],.bool (tyv [] tv).isSome]))∧Bel w w':=by
 refine enT Tryz.func47 Tryz.ntmps47 rfl rfl fun hB=>?_;refine zn2 ?_;refine qK (v:= .agg #[_,_,_,_,_,_]) (cs:=#[_,_,_,_,_,_]) rfl rfl (fun b1 w1 hb1 s1 hr=>?_);clear hr;refine zY (cs:=#[.string ⟨#[]⟩,.slice none 0 0]) K0 rfl (fun b2 w2 hb2 s2 hr=>?_);have lo2:=nLT (Bel.size hB.u) hr;clear hr;refine zn6 ?_;refine zJ fn89 (rows0_any tv A B c m w hS hT om _ hB.u) rfl (fun e' w3 hr=>?_);obtain⟨⟨q,cap4,zs,rfl,ho4,hR4⟩,s3⟩:=hr;replace s3:=sB s3;obtain⟨wr,hwr⟩:∃ z,z=w3:=⟨_,rfl⟩
 have hBr:Bel wr w3:=by rw [hwr];exact Below.refl _ _
 have hrd:RdT w wr q (rws (-1) 0 tv):=by rw [hwr];exact rdt_of ho4 hR4
 have hql:q < wr.heap.size:=by rw [hwr];exact(ho4.lt q (List.mem_singleton.2 rfl)).2
 have hlr:(rws (-1) 0 tv).length=tv.size:=XX _ _ _;have hvp:=tv.pos;have hnd:Y7 (rws (-1) 0 tv) 0 [] tv:=B6 (fun j h=>by rw [Nat.zero_add];exact List.getElem?_eq_getElem h) .nil dE;refine⟨_,rfl,?_⟩;refine zn7 ?_;refine wl_mk (m:=tv.size) U39 in41 rfl rfl om om (fun b14 w4 hb14 s4 hr=>?_);have:=nLL hb2.u.lt hr;have lo14:=nLT (Bel.size hB.u) hr;have lo_hBr_b14:=nLT (Bel.size hBr) hr;clear hr;refine zn8 ?_;refine wl (kW (c:=((tv.size:Nat):Int) - 1) rfl rfl rfl om) (zn4 ?_);refine zK (rg [3,6,7,8,9] 18 86) (fun mm g w'=>∃ (i:Nat) (z:Int) (F H:Nat→Value),i≤tv.size∧mm=i∧z + 1=i∧g 6= .int .i64 z∧Bel w w'∧Bel wr w'∧Blk w' b2 41 #[.string ⟨#[]⟩,.slice none 0 0]∧Blk w' b14 41 (kV tv.size F H)∧TI (rws (-1) 0 tv) tv.size i F H w') (tv.size) ?_ (fun m g4 w5 hI=>?_)
 ·replace hB:=hB.tr0 (s1.trans (s2.trans (s3.trans s4)));replace hb2:=hb2.tr0 (s3.trans s4);replace hBr:=hBr.tr0 s4;exact⟨tv.size,_,_,_,Nat.le_refl _,rfl,by omega,rfl,hB,hBr,hb2,(by rw [← Dz];exact hb14),TI.start _ _ _⟩
 obtain⟨i,z,F,H,hi,hmi,hzi,h6,hB,hBr,hb2,hb14,hTI⟩:=hI;have hBk:Bel w5 w5:=Below.refl _ _;refine zQ 6 _ h6 nu (zn7 ?_);refine zy rfl (fun c19=>?_) (fun c19=>?_)
 ·obtain⟨p,rfl⟩:∃ p:Nat,z=p:=⟨z.toNat,by omega⟩
  obtain rfl:i=p + 1:=by omega
  have hpn:p < tv.size:=by omega
  have hpl:p < (nds [] tv).length:=by rw [I8];exact hpn
  obtain⟨hnp,hokp,hGp,hszp,hsome⟩:=NK hnd hok (by simp) p hpl;rw [Nat.zero_add] at hnp;have hcx:=NJ tv [] p hpl;rw [List.length_nil] at hcx
  generalize (nds [] tv)[p].1=Γp at hnp hokp hGp hsome hcx
  generalize (nds [] tv)[p].2=vp at hnp hokp hszp hsome hcx
  obtain⟨r,hr,hkk⟩:=nd_row hnp;obtain⟨A7,c7,K7,ck7,hrr,hrt2,hrs,hrk⟩:=hrd p r hr;refine zn8 ?_;refine wl (xw (i:=p) U150 TV rfl rfl hpn rfl) (wl (zV MX rfl rfl (hBr.range hql hrr) TV) ?_);refine xW (cs:=#[.int .i64 0,.string ⟨#[]⟩,.string ⟨#[]⟩,.slice none 0 0,.int .i64 0,.slice none 0 0,.int .i64 0]) ze153 rfl (fun _=>rfl) (fun _=>rfl) TV rfl zX (fun b7 w7 hb7 s5 hr=>?_);clear hr;refine Z6 ?_;refine zy rfl (fun c28=>?_) (fun c28=>?_)
  ·obtain⟨nm,τ,rfl,hrt⟩:=nd_con hnp hr c28;rw [hrt] at hrs;have hZ:SameQ [b14] w7 w7:=Same.refl _ _;replace hBk:=hBk.tr0 s5;have hTI2:=hTI.mono hBk;replace hb14:=hb14.tr0 s5;have hb14z:=hb14;replace hB:=hB.tr0 s5;have hBz:=hB;have hBkz:=hBk;refine zn4 ?_;refine wl (zV U41 rfl rfl (hb7.sub (n:=2) (xs:=[_,_]) rfl) xJ) (wl (xw (i:=p) U39 xJ rfl rfl hpn rfl) ?_);refine oW hb14 rfl rfl xJ (by rw [oy];show 0 + p * 2 + 2≤tv.size * 2;omega) zX I0 (fun w8 hq s6=>?_);replace hZ:=SameQ.trans hZ s6 (by simp);replace hb14:=hq;rw [hrt] at hb14;have hTI3:=hTI2.put  hpn hb14z hb14 hZ (TyAt.con hr c28 hrt) (hrs.mono hBz);refine zn6 ?_;refine wl (kW rfl rfl rfl om) (zn2 ?_);refine qV (p) om agA ?_;exact⟨p,_,_,_,by omega,rfl,by omega,rfl,hB.u,hBr.u,hb2.u,hb14,hTI3⟩
  refine zn6 ?_;refine zy rfl (fun c35=>?_) (fun c35=>?_)
  ·obtain⟨i2,rfl,hri,hup,hch⟩:=nd_var hnp hr c35;have hti:=List.getElem?_eq_getElem hokp;have hZ:SameQ [b14] w7 w7:=Same.refl _ _;replace hBk:=hBk.tr0 s5;have hTI2:=hTI.mono hBk;replace hb14:=hb14.tr0 s5;have hb14z:=hb14;replace hB:=hB.tr0 s5;have hBz:=hB;have hBkz:=hBk;refine zn6 ?_;replace hBr:=hBr.tr0 s5;refine zJ fn90 (G4 hrd hlr hBr hql hr hri hup hch hti (by have:i2 < Γp.length:=hokp;omega)) rfl (fun e' w9 hr=>?_);obtain⟨⟨u,ru,rfl,hru,hrut⟩,s7⟩:=hr;replace s7:=sB s7;replace hZ:=SameQ.trans hZ s7 (by simp);obtain⟨A8,c8,K8,ck8,_,hr2,hs8,_⟩:=hrd u ru hru;rw [hrut] at hr2 hs8;refine⟨_,rfl,?_⟩;refine wl (xw (i:=u) U150 TV rfl rfl (by have h:=(List.getElem?_eq_some_iff.1 hru).1;rw [hlr] at h;exact h) rfl) ?_;refine zn1 ?_;refine wl (zV U41 rfl rfl (hBr.u.range hql hr2) xJ) (wl (xw (i:=p) U39 xJ rfl rfl hpn rfl) ?_);replace hb14:=hb14.tr0 s7;refine oW hb14 rfl rfl xJ (by rw [oy];show 0 + p * 2 + 2≤tv.size * 2;omega) zX I0 (fun w10 hq s8=>?_);replace hZ:=SameQ.trans hZ s8 (by simp);replace hb14:=hq;have hTI3:=hTI2.put  hpn hb14z hb14 hZ (TyAt.var hr c35 hri hch hti) (hs8.mono hBz);refine zn6 ?_;refine wl (kW rfl rfl rfl om) (zn2 ?_);refine qV (p) om agA ?_;exact⟨p,_,_,_,by omega,rfl,by omega,rfl,hB.u,hBr.u,hb2.u,hb14,hTI3⟩
  refine zn6 ?_;refine zy rfl (fun c47=>?_) (fun c47=>?_)
  ·obtain⟨τ,x,rfl,hrt,hrk2,hnx⟩:=nd_abs hnp hr c47;have hp1:p + 1 < tv.size:=by have:=nd_lt hnx;rw [hlr] at this;exact this
   obtain⟨ρ,Aρ,cρ,hρ,hF1,hH1,hSρ⟩:=hTI.t (p + 1) (Nat.le_refl _) hp1;have hk0l:0 < r.kids.length:=by rw [hrk2];exact Nat.zero_lt_succ _
   obtain⟨kg,rfl,hkg,hk0⟩:=hrk 0 hk0l;have e0:r.kids[0]'hk0l=((p + 1:Nat):Int):=by simp [hrk2]
   rw [e0] at hk0;refine jZ 13 (rg [] 49 13) (fun _=>false) (fun ix v wv=>match ix with | 0=>v= .slice (some ⟨b14,0,none⟩) tv.size tv.size | 1=>v= .int .i64 ((p:Nat):Int) | 2=>v= .pointer (some ⟨b7,0 + 2,none⟩) | 3=>v= .agg #[.string r.typ.base,.slice A7 r.typ.args.length c7] | 4=>v= .slice (some ⟨b14,0,none⟩) tv.size tv.size | 5=>v= .pointer (some ⟨b7,0 + 5,none⟩) | 6=>v= .slice (some ⟨kg,0,none⟩) r.kids.length ck7 | 7=>v= .pointer (some ⟨kg,0 + 0 * 1,none⟩) | 8=>v= .int .i64 ((p + 1:Nat):Int) | 9=>v= .pointer (some ⟨b14,0 + (p + 1) * 2,none⟩) | 10=>v= .agg #[.string ρ.sm.base,.slice Aρ ρ.sm.args.length cρ] | 11=>∃ b,v= .agg #[.string ⟨#[]⟩,.slice (some ⟨b,0,none⟩) 2 2]∧SimsIn wv (some ⟨b,0,none⟩) [r.typ,ρ.sm] | 12=>v= .pointer (some ⟨b14,0 + p * 2,none⟩) | _=>True) kR kR ?_ ?_ ?_
   ·intro ix v wv wv2 h s9
    match ix,h with
    | 0,h=>exact h
    | 1,h=>exact h
    | 2,h=>exact h
    | 3,h=>exact h
    | 4,h=>exact h
    | 5,h=>exact h
    | 6,h=>exact h
    | 7,h=>exact h
    | 8,h=>exact h
    | 9,h=>exact h
    | 10,h=>exact h
    | 11,h=>
     obtain⟨b60,e60,hs60⟩:=h;exact⟨b60,e60,hs60.mono s9.bel⟩
    | 12,h=>exact h
    | _ + 13,h=>exact trivial
   ·intro ix o hix hoq gg wx s10 hd hdis
    match ix,hix,hoq with
    | 0,_,hoq=>
     cases sI hoq;exact oVq (xZ (v:= .slice _ _ _) rfl) rfl
    | 1,_,hoq=>
     cases sI hoq;exact oVq (xZ (v:= .int _ _) rfl) rfl
    | 2,_,hoq=>
     cases sI hoq;exact oVq (uk MX xJ dE rfl rfl rfl) rfl
    | 3,_,hoq=>
     cases sI hoq;refine zz 51 _ (hd 2 (zq kR)) nu ?_;exact oVq (zV U41 rfl rfl (hb7.u.sub (n:=2) (xs:=[_,_]) rfl) xJ) rfl
    | 4,_,hoq=>
     cases sI hoq;exact oVq (xZ (v:= .slice _ _ _) rfl) rfl
    | 5,_,hoq=>
     cases sI hoq;exact oVq (uk MX K6 dE rfl rfl rfl) rfl
    | 6,_,hoq=>
     cases sI hoq;refine zz 54 _ (hd 5 (zq kR)) nu ?_;exact oVq (qZ (v:= .slice _ _ _) U66 rfl rfl (hb7.u.cell rfl)) rfl
    | 7,_,hoq=>
     cases sI hoq;refine zz 55 _ (hd 6 (zq kR)) nu ?_;exact oVq (xw (i:=0) U66 qX rfl rfl hk0l rfl) rfl
    | 8,_,hoq=>
     cases sI hoq;refine zz 56 _ (hd 7 (zq kR)) nu ?_;exact oVq (qZ (v:= .int _ _) U3 rfl rfl (hBr.u.cell hkg hk0)) rfl
    | 9,_,hoq=>
     cases sI hoq;refine zz 53 _ (hd 4 (zq kR)) nu (zz 57 _ (hd 8 (zq kR)) nu ?_);exact oVq (xw (i:=(p + 1)) U39 xJ rfl rfl hp1 rfl) rfl
    | 10,_,hoq=>
     cases sI hoq;refine zz 58 _ (hd 9 (zq kR)) nu ?_;exact oVq (zV U41 rfl rfl (I1 hb14.u hp1 hF1 hH1) xJ) rfl
    | 11,_,hoq=>
     cases sI hoq;refine zz 52 _ (hd 3 (zq kR)) nu (zz 59 _ (hd 10 (zq kR)) nu ?_);refine yK fn91 (to_any A7 Aρ c7 cρ r.typ ρ.sm wx (hrs.mono hB.u) (hSρ.mono hBk.u)) rfl (fun e' w2 hr=>?_);obtain⟨⟨b60,rfl,hs60⟩,s11⟩:=hr;exact⟨_,rfl,sB s11,⟨_,rfl,hs60⟩,xq⟩
    | 12,_,hoq=>
     cases sI hoq;refine zz 49 _ (hd 0 (zq kR)) nu (zz 50 _ (hd 1 (zq kR)) nu ?_);exact oVq (xw (i:=p) U39 xJ rfl rfl hpn rfl) rfl
    | _ + 13,hix,_=>exact absurd hix om
   intro gg w11 s12 hR hdis;obtain⟨b60,e60,hs60⟩:=hR 11 dE;have hZ:SameQ [b14] w11 w11:=Same.refl _ _;replace hBk:=hBk.tr0 (s5.trans s12);have hTI2:=hTI.mono hBk;replace hb14:=hb14.tr0 (s5.trans s12);have hb14z:=hb14;replace hB:=hB.tr0 (s5.trans s12);have hBz:=hB;have hBkz:=hBk;refine x7 60 _ e60 nu (x7 61 _ (hR 12 dE) nu ?_);refine oW hb14 rfl rfl xJ (by rw [oy];show 0 + p * 2 + 2≤tv.size * 2;omega) zX I0 (fun w12 hq s13=>?_);replace hZ:=SameQ.trans hZ s13 (by simp);replace hb14:=hq;rw [hrt] at hs60;have hTI3:=hTI2.put  hpn hb14z hb14 hZ ((TyAt.abs hr c47 hrt hρ:TyAt _ _ (Ts.f τ ρ))) (hs60);refine zn6 ?_;refine wl (kW rfl rfl rfl om) (zn2 ?_);refine qV (p) om agA ?_;exact⟨p,_,_,_,by omega,rfl,by omega,rfl,hB.u,hBr.u,hb2.u,hb14,hTI3⟩
  refine zn6 ?_;refine zy rfl (fun c62=>?_) (fun c62=>?_)
  ·obtain⟨x,y,rfl,hrk2,hnx,hny⟩:=nd_app hnp hr c62;have hp1:p + 1 < tv.size:=by have:=nd_lt hnx;rw [hlr] at this;exact this
   have hp2:p + 1 + x.size < tv.size:=by have:=nd_lt hny;rw [hlr] at this;exact this
   obtain⟨α,Aα,cα,hα,hF1,hH1,hSα⟩:=hTI.t (p + 1) (Nat.le_refl _) hp1;obtain⟨β,Aβ,cβ,hβ,hF2,hH2,hSβ⟩:=hTI.t (p + 1 + x.size) om hp2;have hk0l:0 < r.kids.length:=by rw [hrk2];exact Nat.zero_lt_succ _
   have hk1l:1 < r.kids.length:=by rw [hrk2];exact Nat.one_lt_two
   obtain⟨kg,rfl,hkg,hk0⟩:=hrk 0 hk0l;obtain⟨_,e9,_,hk1⟩:=hrk 1 hk1l;cases e9;have e0:r.kids[0]'hk0l=((p + 1:Nat):Int):=by simp [hrk2]
   have e1:r.kids[1]'hk1l=((p + 1 + x.size:Nat):Int):=by simp [hrk2]
   rw [e0] at hk0;rw [e1] at hk1;refine xv ?_;replace hB:=hB.tr0 s5;have hszB:=Bel.size hB;replace hBr:=hBr.tr0 s5;have hszR:=Bel.size hBr;replace hBk:=hBk.tr0 s5;have hszK:=Bel.size hBk;replace hb2:=hb2.tr0 s5;have lt2W:=hb2.lt;replace hb14:=hb14.tr0 s5;have lt14W:=hb14.lt;have lt7W:=hb7.lt;refine IZ 18 [64,65,66,67,68,69,70,71,72,73,74,75,76,77,8,9] [] (fun ix=>Nat.beq ix 16 || Nat.beq ix 17) (fun st ix v la ha wv=>match ix with | 0=>v= .slice (some ⟨b14,0,none⟩) tv.size tv.size | 1=>v= .pointer (some ⟨b7,0 + 5,none⟩) | 2=>v= .slice (some ⟨kg,0,none⟩) r.kids.length ck7 | 3=>v= .pointer (some ⟨kg,0 + 0 * 1,none⟩) | 4=>v= .int .i64 ((p + 1:Nat):Int) | 5=>v= .pointer (some ⟨b14,0 + (p + 1) * 2,none⟩) | 6=>v= .agg #[.string α.sm.base,.slice Aα α.sm.args.length cα] | 7=>v= .slice (some ⟨b14,0,none⟩) tv.size tv.size | 8=>v= .pointer (some ⟨b7,0 + 5,none⟩) | 9=>v= .slice (some ⟨kg,0,none⟩) r.kids.length ck7 | 10=>v= .pointer (some ⟨kg,0 + 1 * 1,none⟩) | 11=>v= .int .i64 ((p + 1 + x.size:Nat):Int) | 12=>v= .pointer (some ⟨b14,0 + (p + 1 + x.size) * 2,none⟩) | 13=>v= .agg #[.string β.sm.base,.slice Aβ β.sm.args.length cβ] | 14=>∃ b:Nat,v= .pointer (some ⟨b,0,none⟩)∧w7.heap.size≤b∧(st 16=false→Blk wv b 41 #[.string ⟨#[]⟩,.slice none 0 0])∧(st 16=true→Blk wv b 41 #[.string α.sm.base,.slice Aα α.sm.args.length cα])∧la≤b∧b < ha | 15=>∃ b:Nat,v= .pointer (some ⟨b,0,none⟩)∧w7.heap.size≤b∧(st 17=false→Blk wv b 41 #[.string ⟨#[]⟩,.slice none 0 0])∧(st 17=true→Blk wv b 41 #[.string β.sm.base,.slice Aβ β.sm.args.length cβ])∧la≤b∧b < ha | 16=>True | 17=>True | _=>True) kR kR kR ?_ ?_ ?_
   ·intro st ix v la ha wv wv2 h s14
    match ix,h with
    | 0,h=>exact h
    | 1,h=>exact h
    | 2,h=>exact h
    | 3,h=>exact h
    | 4,h=>exact h
    | 5,h=>exact h
    | 6,h=>exact h
    | 7,h=>exact h
    | 8,h=>exact h
    | 9,h=>exact h
    | 10,h=>exact h
    | 11,h=>exact h
    | 12,h=>exact h
    | 13,h=>exact h
    | 14,h=>
     obtain⟨b8,e8,lo8,hz8,hy8,la8,ha8⟩:=h;exact⟨b8,e8,lo8,fun h=>(hz8 h).tr0 s14,fun h=>(hy8 h).tr0 s14,la8,ha8⟩
    | 15,h=>
     obtain⟨b9,e9,lo9,hz9,hy9,la9,ha9⟩:=h;exact⟨b9,e9,lo9,fun h=>(hz9 h).tr0 s14,fun h=>(hy9 h).tr0 s14,la9,ha9⟩
    | 16,h=>exact h
    | 17,h=>exact h
    | _ + 18,h=>exact trivial
   ·intro st ix o hix hoq hns gg wx la ha s15 hd
    match ix,hix,hoq,hns with
    | 0,_,hoq,hns=>
     cases sI hoq;show OS _ _ _ _ _ _;refine xk (xZ (v:= .slice _ _ _) rfl) ⟨Same.refl _ _,?_⟩;exact rfl
    | 1,_,hoq,hns=>
     cases sI hoq;show OS _ _ _ _ _ _;refine xk (uk MX K6 dE rfl rfl rfl) ⟨Same.refl _ _,?_⟩;exact rfl
    | 2,_,hoq,hns=>
     cases sI hoq;show OS _ _ _ _ _ _;refine zz 65 _ (hd 1 _ (zq kR) rfl) nu ?_;refine xk (qZ (v:= .slice _ _ _) U66 rfl rfl (hb7.u.cell rfl)) ⟨Same.refl _ _,?_⟩;exact rfl
    | 3,_,hoq,hns=>
     cases sI hoq;show OS _ _ _ _ _ _;refine zz 66 _ (hd 2 _ (zq kR) rfl) nu ?_;refine xk (xw (i:=0) U66 qX rfl rfl hk0l rfl) ⟨Same.refl _ _,?_⟩;exact rfl
    | 4,_,hoq,hns=>
     cases sI hoq;show OS _ _ _ _ _ _;refine zz 67 _ (hd 3 _ (zq kR) rfl) nu ?_;refine xk (qZ (v:= .int _ _) U3 rfl rfl (hBr.u.cell hkg hk0)) ⟨Same.refl _ _,?_⟩;exact rfl
    | 5,_,hoq,hns=>
     cases sI hoq;show OS _ _ _ _ _ _;refine zz 64 _ (hd 0 _ (zq kR) rfl) nu (zz 68 _ (hd 4 _ (zq kR) rfl) nu ?_);refine xk (xw (i:=(p + 1)) U39 xJ rfl rfl hp1 rfl) ⟨Same.refl _ _,?_⟩;exact rfl
    | 6,_,hoq,hns=>
     cases sI hoq;show OS _ _ _ _ _ _;refine zz 69 _ (hd 5 _ (zq kR) rfl) nu ?_;refine xk (zV U41 rfl rfl (I1 hb14.u hp1 hF1 hH1) xJ) ⟨Same.refl _ _,?_⟩;exact rfl
    | 7,_,hoq,hns=>
     cases sI hoq;show OS _ _ _ _ _ _;refine xk (xZ (v:= .slice _ _ _) rfl) ⟨Same.refl _ _,?_⟩;exact rfl
    | 8,_,hoq,hns=>
     cases sI hoq;show OS _ _ _ _ _ _;refine xk (uk MX K6 dE rfl rfl rfl) ⟨Same.refl _ _,?_⟩;exact rfl
    | 9,_,hoq,hns=>
     cases sI hoq;show OS _ _ _ _ _ _;refine zz 72 _ (hd 8 _ (zq kR) rfl) nu ?_;refine xk (qZ (v:= .slice _ _ _) U66 rfl rfl (hb7.u.cell rfl)) ⟨Same.refl _ _,?_⟩;exact rfl
    | 10,_,hoq,hns=>
     cases sI hoq;show OS _ _ _ _ _ _;refine zz 73 _ (hd 9 _ (zq kR) rfl) nu ?_;refine xk (xw (i:=1) U66 qX rfl rfl hk1l rfl) ⟨Same.refl _ _,?_⟩;exact rfl
    | 11,_,hoq,hns=>
     cases sI hoq;show OS _ _ _ _ _ _;refine zz 74 _ (hd 10 _ (zq kR) rfl) nu ?_;refine xk (qZ (v:= .int _ _) U3 rfl rfl (hBr.u.cell hkg hk1)) ⟨Same.refl _ _,?_⟩;exact rfl
    | 12,_,hoq,hns=>
     cases sI hoq;show OS _ _ _ _ _ _;refine zz 71 _ (hd 7 _ (zq kR) rfl) nu (zz 75 _ (hd 11 _ (zq kR) rfl) nu ?_);refine xk (xw (i:=(p + 1 + x.size)) U39 xJ rfl rfl hp2 rfl) ⟨Same.refl _ _,?_⟩;exact rfl
    | 13,_,hoq,hns=>
     cases sI hoq;show OS _ _ _ _ _ _;refine zz 76 _ (hd 12 _ (zq kR) rfl) nu ?_;refine xk (zV U41 rfl rfl (I1 hb14.u hp2 hF2 hH2) xJ) ⟨Same.refl _ _,?_⟩;exact rfl
    | 14,_,hoq,hns=>
     cases sI hoq;show OS _ _ _ _ _ _;have hs0:=s15;refine vK (fun ops Q K=>?_);refine zY (cs:=#[.string ⟨#[]⟩,.slice none 0 0]) K0 rfl (fun b8 w1 hb8 s16 hr=>?_);exact K _ _ ⟨s16,_,rfl,nLT hs0.size hr,fun _=>hb8,(fun h=>absurd (hns 16 rfl kR) (by rw [h];decide)),hr,hb8.lt⟩
    | 15,_,hoq,hns=>
     cases sI hoq;show OS _ _ _ _ _ _;have hs0:=s15;refine vK (fun ops Q K=>?_);refine zY (cs:=#[.string ⟨#[]⟩,.slice none 0 0]) K0 rfl (fun b9 w1 hb9 s17 hr=>?_);exact K _ _ ⟨s17,_,rfl,nLT hs0.size hr,fun _=>hb9,(fun h=>absurd (hns 17 rfl kR) (by rw [h];decide)),hr,hb9.lt⟩
    | 16,_,hoq,hns=>
     cases sI hoq;show st 16=false→(∀ j k,j ∈ _→k ∈ _→j≠k→ha j≤la k∨ha k≤la j)→OS _ _ _ _ _ _;intro hn hI;have hs0:=s15;obtain⟨b8,e8,lo8,hz8,hy8,la8,ha8⟩:=hd 14 _ (zq kR) rfl;refine zz 70 _ (hd 6 _ (zq kR) rfl) nu (zz 8 _ e8 nu ?_);have hzb:=hz8 hn;have hdj:=hI 14 15 (zq kR) (zq kR) dE;refine Mx (fun ops Q K=>?_);refine zj hzb rfl rfl xJ rfl zX (fun w2 hq hs2=>?_);have K2:=K w2;refine K2 ⟨hs0.freshL hs2 (fun g hg=>by rw [List.mem_singleton.1 hg];exact .inr lo8),hs2.size,?_,fun kx ox hne hox h=>?_⟩
     ·exact trivial
     match kx,hne,hox,h with
     | 0,_,_,h=>exact h
     | 1,_,_,h=>exact h
     | 2,_,_,h=>exact h
     | 3,_,_,h=>exact h
     | 4,_,_,h=>exact h
     | 5,_,_,h=>exact h
     | 6,_,_,h=>exact h
     | 7,_,_,h=>exact h
     | 8,_,_,h=>exact h
     | 9,_,_,h=>exact h
     | 10,_,_,h=>exact h
     | 11,_,_,h=>exact h
     | 12,_,_,h=>exact h
     | 13,_,_,h=>exact h
     | 14,_,hox,h=>
      obtain rfl:_=ox:=Option.some.inj hox;obtain⟨bx,ex,lox,hzx,hyx,lax,hax⟩:=h;have hbx:bx=b8:=by
        have h:=ex.symm.trans e8;cases h;rfl
      subst hbx;exact⟨bx,ex,lox,(fun h=>by cases (show true=false from h)),fun _=>hq,lax,hax⟩
     | 15,_,hox,h=>
      obtain rfl:_=ox:=Option.some.inj hox;obtain⟨bx,ex,lox,hzx,hyx,lax,hax⟩:=h;exact⟨bx,ex,lox,fun h=>(hzx h).tr hs2 (fun hm=>by have:=List.mem_singleton.1 hm;omega),fun h=>(hyx h).tr hs2 (fun hm=>by have:=List.mem_singleton.1 hm;omega),lax,hax⟩
     | 16,hne,_,_=>exact absurd rfl hne
     | 17,_,_,h=>exact h
     | _ + 18,_,_,_=>exact trivial
    | 17,_,hoq,hns=>
     cases sI hoq;show st 17=false→(∀ j k,j ∈ _→k ∈ _→j≠k→ha j≤la k∨ha k≤la j)→OS _ _ _ _ _ _;intro hn hI;have hs0:=s15;obtain⟨b9,e9,lo9,hz9,hy9,la9,ha9⟩:=hd 15 _ (zq kR) rfl;refine zz 77 _ (hd 13 _ (zq kR) rfl) nu (zz 9 _ e9 nu ?_);have hzb:=hz9 hn;have hdj:=hI 14 15 (zq kR) (zq kR) dE;refine Mx (fun ops Q K=>?_);refine zj hzb rfl rfl xJ rfl zX (fun w2 hq hs2=>?_);have K2:=K w2;refine K2 ⟨hs0.freshL hs2 (fun g hg=>by rw [List.mem_singleton.1 hg];exact .inr lo9),hs2.size,?_,fun kx ox hne hox h=>?_⟩
     ·exact trivial
     match kx,hne,hox,h with
     | 0,_,_,h=>exact h
     | 1,_,_,h=>exact h
     | 2,_,_,h=>exact h
     | 3,_,_,h=>exact h
     | 4,_,_,h=>exact h
     | 5,_,_,h=>exact h
     | 6,_,_,h=>exact h
     | 7,_,_,h=>exact h
     | 8,_,_,h=>exact h
     | 9,_,_,h=>exact h
     | 10,_,_,h=>exact h
     | 11,_,_,h=>exact h
     | 12,_,_,h=>exact h
     | 13,_,_,h=>exact h
     | 14,_,hox,h=>
      obtain rfl:_=ox:=Option.some.inj hox;obtain⟨bx,ex,lox,hzx,hyx,lax,hax⟩:=h;exact⟨bx,ex,lox,fun h=>(hzx h).tr hs2 (fun hm=>by have:=List.mem_singleton.1 hm;omega),fun h=>(hyx h).tr hs2 (fun hm=>by have:=List.mem_singleton.1 hm;omega),lax,hax⟩
     | 15,_,hox,h=>
      obtain rfl:_=ox:=Option.some.inj hox;obtain⟨bx,ex,lox,hzx,hyx,lax,hax⟩:=h;have hbx:bx=b9:=by
        have h:=ex.symm.trans e9;cases h;rfl
      subst hbx;exact⟨bx,ex,lox,(fun h=>by cases (show true=false from h)),fun _=>hq,lax,hax⟩
     | 16,_,_,h=>exact h
     | 17,hne,_,_=>exact absurd rfl hne
     | _ + 18,_,_,_=>exact trivial
    | _ + 18,hix,_,_=>exact absurd hix om
   intro st gg w13 la ha hall s18 hR hI;obtain⟨b8,e8,lo8,hz8,hy8,la8,ha8⟩:=hR 14 _ rfl;obtain⟨b9,e9,lo9,hz9,hy9,la9,ha9⟩:=hR 15 _ rfl;have hb8:=hy8 (hall 16 dE rfl);have hb9:=hy9 (hall 17 dE rfl);refine x7 70 _ (hR 6 _ rfl) nu (x7 77 _ (hR 13 _ rfl) nu (x7 8 _ e8 nu (x7 9 _ e9 nu (zn4 ?_))));replace hB:=hB.tr0 s18;replace hb2:=hb2.tr0 s18;by_cases qa:α.sm.base=⟨#[]⟩
   ·obtain⟨a,ρ,rfl⟩:=ts_fun qa;obtain⟨ub,uo,A5,c5,rfl,hub,hur,hus⟩:=hSα.at_ (k:=0) (by simp [Ts.sm,Sm.args]);obtain⟨_,_,A6,c6,e6,_,hur2,hus2⟩:=hSα.at_ (k:=1) (by simp [Ts.sm,Sm.args]);cases e6
    change SimsIn _ A5 a.sm.args at hus
    change SimsIn _ A6 ρ.sm.args at hus2
    change World.rangeAt _ ub (uo + 0 * 2) [.string a.sm.base,.slice A5 a.sm.args.length c5] at hur
    change World.rangeAt _ ub (uo + 1 * 2) [.string ρ.sm.base,.slice A6 ρ.sm.args.length c6] at hur2
    have htxα:=nd_txt hnx hokp.1 hGp (by have:x.size + y.size + 1≤tv.size:=hszp;omega) hα;have htxβ:=nd_txt hny hokp.2 hGp (by have:x.size + y.size + 1≤tv.size:=hszp;omega) hβ;have htxa:a.txt.length≤1000000:=by simp only [Ts.txt,List.length_cons,List.length_append] at htxα;omega
    refine kZ [] [0,1,2,3,4,5,6,7,8,9,10,11,12,13,14,15,16,17] rfl (fun w14 s19=>?_);refine zn2 ?_;refine hle rfl (fun _=>HY rfl rfl) (congrArg Value.bool (decide_eq_false (fun h=>h rfl))) (zn4 ?_);refine hge 81 rfl rfl rfl (fun _ _=>r_neq rfl rfl) (congrArg Value.bool (decide_eq_false (fun h=>h rfl))) (zn4 ?_);refine hg 87 rfl rfl rfl (fun _ _=>xw (i:=0) U39 xJ rfl rfl (by show 0 < 2;decide) rfl) (hgS 87 rfl rfl rfl U41 rfl rfl (hBk.u.range hub hur) xJ (zn1 ?_));refine h1 rfl (zn1 ?_);refine zJ fn49 (samet_any A5 Aβ c5 cβ a β w14 (hus.mono hBk.u) (hSβ.mono hBk.u) htxa htxβ) rfl (fun e' w15 hr=>?_);obtain⟨rfl,s20⟩:=hr;replace s20:=sB s20;have hsH15:=s20;refine⟨_,rfl,?_⟩;refine zw (J5 hsH15 (zn4 ?_));refine vw rfl (fun c95=>?_) (fun c95=>?_)
    ·have hne:a.eqb β=false:=by simpa using c95
     have hfail:tyv Γp (.app x y)=none:=ty_no hnp hr c62 hrk2 hα hβ (fun ρ2 e=>by rw [(Ts.f.inj e).1,Ts.eqb_iff.2 rfl] at hne;cases hne);have hff:(tyv [] tv).isSome=false:=by
       cases hq:(tyv [] tv).isSome with
       | false=>rfl
       | true=>have:=hsome hq;rw [hfail] at this;cases this
     refine zn2 ?_;refine wl (uv (vs:=#[]) (cs:=#[.string ⟨#[]⟩,.slice none 0 0]) (by simp) kR) ?_;refine zj hb2.u rfl rfl xJ rfl zX (fun w16 hq s21=>?_);replace hb2:=hq;refine yx ?_;refine gy (.inl rfl) rfl (zk U41 rfl rfl hb2.range0 xJ) rfl ?_;replace hB:=(hB.tr0 (s19.trans s20)).tr1 s21 lo2;exact⟨⟨_,_,_,_,by rw [hff];rfl⟩,hB⟩
    have heq:a=β:=Ts.eqb_iff.1 (by simpa using c95);refine Y5 (e_S ?_);have hZ:SameQ [b14] w15 w15:=Same.refl _ _;replace hBk:=hBk.tr0 (s18.trans (s19.trans s20));have hTI2:=hTI.mono hBk;replace hb14:=hb14.tr0 (s18.trans (s19.trans s20));have hb14z:=hb14;replace hB:=hB.tr0 (s19.trans s20);have hBz:=hB;have hBkz:=hBk;refine zn5 ?_;refine wl (xw (i:=1) U39 xJ rfl rfl (by show 1 < 2;decide) rfl) (wl (zV U41 rfl rfl (hBkz.range hub hur2) xJ) (wl (xw (i:=p) U39 xJ rfl rfl hpn rfl) ?_));refine oW hb14 rfl rfl xJ (by rw [oy];show 0 + p * 2 + 2≤tv.size * 2;omega) zX I0 (fun w17 hq s22=>?_);replace hZ:=SameQ.trans hZ s22 (by simp);replace hb14:=hq;have hTI3:=hTI2.put  hpn hb14z hb14 hZ (TyAt.app hr c62 hrk2 hα (heq ▸ hβ)) (hus2.mono hBkz);refine zn6 ?_;refine wl (kW rfl rfl rfl om) (zn2 ?_);refine qV (p) om agA ?_;exact⟨p,_,_,_,by omega,rfl,by omega,rfl,hB.u,hBr.u,hb2.u,hb14,hTI3⟩
   have hfail:tyv Γp (.app x y)=none:=ty_no hnp hr c62 hrk2 hα hβ (fun ρ e=>qa (by rw [e];rfl));have hff:(tyv [] tv).isSome=false:=by
     cases hq:(tyv [] tv).isSome with
     | false=>rfl
     | true=>have:=hsome hq;rw [hfail] at this;cases this
   refine kZ [] [0,1,2,3,4,5,6,7,8,9,10,11,12,13,14,15,16,17] rfl (fun w18 s23=>?_);refine zn2 ?_;refine hle rfl (fun _=>HY rfl rfl) (congrArg Value.bool (decide_eq_true qa)) (zn20 ?_);refine wl (uv (vs:=#[]) (cs:=#[.string ⟨#[]⟩,.slice none 0 0]) (by simp) kR) ?_;refine zj hb2.u rfl rfl xJ rfl zX (fun w19 hq s24=>?_);replace hb2:=hq;refine yx ?_;refine gy (.inl rfl) rfl (zk U41 rfl rfl hb2.range0 xJ) rfl ?_;replace hB:=(hB.tr0 s23).tr1 s24 lo2;exact⟨⟨_,_,_,_,by rw [hff];rfl⟩,hB⟩
  rcases hkk with h | h | h | h
  · exact absurd h c28
  · exact absurd h c35
  · exact absurd h c47
  · exact absurd h c62
 obtain⟨τ0,A0,c0,hT0,hF0,hH0,hS0⟩:=hTI.t 0 om hvp;have hty:tyv [] tv=some τ0:=hT0 _ _ hnd;refine zn8 ?_;refine wl (xw (i:=0) U39 xJ rfl rfl hvp rfl) (wl (zV U41 rfl rfl (I1 hb14 hvp hF0 hH0) xJ) ?_);refine zj hb2 rfl rfl xJ rfl zX (fun w20 hq s25=>?_);replace hb2:=hq;refine zn4 ?_;refine gy (.inl rfl) rfl (zk U41 rfl rfl hb2.range0 xJ) rfl ?_;replace hB:=hB.tr1 s25 lo2;exact⟨⟨_,_,_,_,by rw [hty];rfl⟩,hB⟩
end Go.Proofs.YtbcpgfnfiekbiaaGreatDoor
