/- What these functions of the program compute, at every world: glosswright/term.Typed. -/
import Derived.Test.YtdkfnakncaggoaaGreatDoorU
import Derived.Test.YtdkfnakncaggoaaGreatDoorName
import Derived.Test.YtdkfnakncaggoaaGreatDoorNSv
import Derived.Test.YtdkfnakncaggoaaGreatDoorTyp
import Derived.Test.YtdkfnakncaggoaaGreatDoorDSh
import Derived.Test.YtdkfnakncaggoaaGreatDoorNBd
namespace Go.Proofs.YtdkfnakncaggoaaGreatDoor
open Go.RowKit
theorem tv_con {v:Tv} (h:v.tm.kind=1):∃ nm τ,v= .con nm τ:=by cases v <;> first | exact⟨_,_,rfl⟩ | (exfalso;revert h;simp [Tv.tm,Tm.kind])
theorem tv_var {v:Tv} (h:v.tm.kind=2):∃ i,v= .var i:=by cases v <;> first | exact⟨_,rfl⟩ | (exfalso;revert h;simp [Tv.tm,Tm.kind])
theorem tv_abs {v:Tv} (h:v.tm.kind=3):∃ τ x,v= .abs τ x:=by cases v <;> first | exact⟨_,_,rfl⟩ | (exfalso;revert h;simp [Tv.tm,Tm.kind])
theorem tv_app {v:Tv} (h1:¬v.tm.kind=1) (h2:¬v.tm.kind=2) (h3:¬v.tm.kind=3):∃ x y,v= .app x y:=by
  cases v with
  | con nm τ=>exact absurd rfl h1
  | var i=>exact absurd rfl h2
  | abs τ x=>exact absurd rfl h3
  | app x y=>exact⟨_,_,rfl⟩
theorem ts_two {τ:Ts} (h:τ.sm.args.length=2):∃ x y,τ= .f x y:=by
  cases τ with
  | b t=>cases h
  | f x y=>exact⟨x,y,rfl⟩
section app
variable {Γ:List Ts} {x y:Tv}
theorem app_no1 (h:(tyv Γ x).isSome=false):tyv Γ (.app x y)=none:=by
  simp only [tyv];cases e:tyv Γ x with
  | none=>rfl
  | some σ=>rw [e] at h;cases h
theorem app_no2 (h:(tyv Γ y).isSome=false):tyv Γ (.app x y)=none:=by
  simp only [tyv];cases e:tyv Γ y with
  | none=>
    cases tyv Γ x with
    | none=>rfl
    | some σ=>cases σ <;> rfl
  | some σ=>rw [e] at h;cases h
theorem app_no3 {σ:Ts} (h:tyv Γ x=some σ) (hn:¬σ.sm.args.length=2):tyv Γ (.app x y)=none:=by
  simp only [tyv,h];cases σ with
  | b t=>rfl
  | f a r=>exact absurd rfl hn
theorem app_no4 {a r ζ:Ts} (h:tyv Γ x=some (.f a r)) (k:tyv Γ y=some ζ) (e:a.eqb ζ=false):tyv Γ (.app x y)=none:=by
  simp only [tyv,h,k,e];rfl
theorem app_yes {a r ζ:Ts} (h:tyv Γ x=some (.f a r)) (k:tyv Γ y=some ζ) (e:a.eqb ζ=true):tyv Γ (.app x y)=some r:=by
  simp only [tyv,h,k,e];rfl
end app
theorem HK:zQ Tryz.prog 101=true:=by kernel_rfl
theorem in52:(Tryz.prog.info? 52).map (fun i=>(i.zero,i.size,i.bytes))=some (some (.agg #[.string ⟨#[]⟩,.slice none 0 0]),2,40):=by kernel_rfl
set_option maxRecDepth 100000 in
set_option maxHeartbeats 4000000 in
theorem R0 {v:Tv} {Γ:List Ts} {A B C:Option Addr} {c m cc:Nat} {w:World} (hS:SimsIn w A v.tm.type.args) (hT:TmsIn w B v.tm.args) (hG:CtxIn w C Γ) (hcc:Γ.length≤cc) (hlen:Γ.length + v.size≤1000) (hok:v.ok Γ.length) (IH:∀ (x:Tv),x.size < v.size→∀ (Γ:List Ts) (A2 B2 C2:Option Addr) (c2 m2 cc2:Nat) (w2:World),SimsIn w2 A2 (Tv.tm (x)).type.args→TmsIn w2 B2 (Tv.tm (x)).args→CtxIn w2 C2 Γ→List.length Γ≤cc2→List.length Γ + (x).size≤1000→Tv.ok (List.length Γ) (x)→Calls Tryz.prog 101 #[.agg #[.int .i64 (Tv.tm (x)).kind,.string (Tv.tm (x)).name,.int .i64 (Tv.tm (x)).index,.string (Tv.tm (x)).type.base,.slice A2 (Tv.tm (x)).type.args.length c2,.slice B2 (Tv.tm (x)).args.length m2],.slice C2 (List.length Γ) cc2] w2 fun e w'=>(∃ (s:ByteArray) (A':Option Addr) (n c':Nat),e= .returned (.tuple #[.agg #[.string s,.slice A' n c'],.bool (tyv (Γ) (x)).isSome])∧∀ τ,tyv (Γ) (x)=some τ→s=τ.sm.base∧n=τ.sm.args.length∧SimsIn w' A' τ.sm.args)∧Bel w2 w'):Calls Tryz.prog 101 #[.agg #[.int .i64 (Tv.tm (v)).kind,.string (Tv.tm (v)).name,.int .i64 (Tv.tm (v)).index,.string (Tv.tm (v)).type.base,.slice A (Tv.tm (v)).type.args.length c,.slice B (Tv.tm (v)).args.length m],.slice C (List.length Γ) cc] w fun e w'=>(∃ (s:ByteArray) (A':Option Addr) (n c':Nat),e= .returned (.tuple #[.agg #[.string s,.slice A' n c'],.bool (tyv (Γ) (v)).isSome])∧∀ τ,tyv (Γ) (v)=some τ→s=τ.sm.base∧n=τ.sm.args.length∧SimsIn w' A' τ.sm.args)∧Bel w w':=by
 refine enter Tryz.func101 Tryz.ntmps101 rfl (Nat.le_of_ble_eq_true rfl) ?_;have hB:Bel w w:=Below.refl _ _;refine zn2 ?_;refine qW (v:= .agg #[_,_,_,_,_,_]) (cs:=#[_,_,_,_,_,_]) rfl rfl (fun b2 w1 hb2 hs hr=>?_);replace hB:=hB.tr0 hs;refine qZ (cs:=#[.string ⟨#[]⟩,.slice none 0 0]) Vx rfl (fun b4 w2 hb4 hs hr=>?_);have lo4:=nLT (Bel.size hB) hr;replace hB:=hB.tr0 hs;replace hb2:=hb2.tr0 hs;refine M0 ?_;refine zw rfl (fun c15=>?_) (fun c15=>?_)
 ·obtain⟨nm,τ,rfl⟩:=tv_con c15;refine zn3 ?_;refine wl (zW U52 rfl rfl (hb2.sub (n:=2) (xs:=[_,_]) rfl) xy) ?_;refine zk hb4 rfl rfl xy rfl zK (fun w3 hq hs=>?_);replace hB:=hB.tr1 hs lo4;replace hb4:=hq;refine zn6 ?_;refine X0 (.inl rfl) rfl (zy U52 rfl rfl hb4.range0 xy) rfl ?_;exact⟨⟨_,_,_,_,rfl,fun σ e=>by obtain rfl:τ=σ:=Option.some.inj e;exact⟨rfl,rfl,hS.mono hB⟩⟩,hB⟩
 refine zn6 ?_;refine zw rfl (fun c19=>?_) (fun c19=>?_)
 ·obtain⟨i,rfl⟩:=tv_var c19;have hil:i < Γ.length:=hok;obtain⟨cb,co,A7,c7,rfl,hcb,hcr,hcs⟩:=hG.at_ (List.getElem?_eq_getElem hil);refine zn5 ?_;refine wl (jV (c:=((Γ.length - 1:Nat):Int)) rfl rfl om om) (zn1 ?_);refine wl (qk (v:= .int .i64 ((i:Nat):Int)) U3 rfl rfl (hb2.cell rfl)) (wl (jV (c:=((Γ.length - 1 - i:Nat):Int)) rfl rfl om om) (wl (yQ (i:=(Γ.length - 1 - i)) U50 xy rfl rfl om rfl) (wl (zW U52 rfl rfl (hB.range hcb hcr) xy) ?_)));refine zk hb4 rfl rfl xy rfl zK (fun w4 hq hs=>?_);replace hB:=hB.tr1 hs lo4;replace hb4:=hq;refine zn6 ?_;refine X0 (.inl rfl) rfl (zy U52 rfl rfl hb4.range0 xy) rfl ?_;have hty:tyv Γ (.var i)=some Γ[i]:=List.getElem?_eq_getElem hil;exact⟨⟨_,_,_,_,by rw [hty];rfl,fun σ e=>by rw [hty] at e;obtain rfl:=Option.some.inj e;exact⟨rfl,rfl,hcs.mono hB⟩⟩,hB⟩
 refine zn6 ?_;refine zw rfl (fun c30=>?_) (fun c30=>?_)
 ·obtain⟨τ,x,rfl⟩:=tv_abs c30;have hlx:Γ.length + (x.size + 1)≤1000:=hlen;obtain⟨tb,to,A0,c0,B0,m0,rfl,htb,htr0,ks0,kt0⟩:=hT.at_ (k:=0) (by simp [Tv.tm,Tm.args])
  change w.rangeAt tb (to + 0 * 6) [.int .i64 (x).tm.kind,.string (x).tm.name,.int .i64 (x).tm.index,.string (x).tm.type.base,.slice A0 (x).tm.type.args.length c0,.slice B0 (x).tm.args.length m0] at htr0
  change SimsIn w A0 (x).tm.type.args at ks0
  change TmsIn w B0 (x).tm.args at kt0
  refine xX ?_;refine Tq 11 [32,33,34,35,36,37,38,39,40,41,6] [] (fun ix=>false) (fun st ix v la ha wv=>match ix with | 0=>v= .slice C (List.length Γ) cc | 1=>v= .slice C (List.length Γ) cc | 2=>v= .int .i64 ((Γ.length:Nat):Int) | 3=>v= .slice C (List.length Γ) cc | 4=>v= .int .i64 ((Γ.length:Nat):Int) | 5=>v= .slice C (List.length Γ) (List.length Γ) | 6=>v= .pointer (some ⟨b2,0 + 3,none⟩) | 7=>v= .agg #[.string τ.sm.base,.slice A τ.sm.args.length c] | 8=>∃ b,v= .slice (some ⟨b,0,none⟩) 1 1∧Blk wv b 52 #[.string τ.sm.base,.slice A τ.sm.args.length c] | 9=>∃ g cap,v= .slice (some ⟨g,0,none⟩) (Γ.length + 1) cap∧CtxIn wv (some ⟨g,0,none⟩) (τ :: Γ)∧Γ.length + 1≤cap | 10=>∃ g cap,v= .slice (some ⟨g,0,none⟩) (Γ.length + 1) cap∧CtxIn wv (some ⟨g,0,none⟩) (τ :: Γ)∧Γ.length + 1≤cap | _=>True) kR kR kR ?_ ?_ ?_
  ·intro st ix v la ha wv wv2 h hs
   match ix,h with
   | 0,h=>exact h
   | 1,h=>exact h
   | 2,h=>exact h
   | 3,h=>exact h
   | 4,h=>exact h
   | 5,h=>exact h
   | 6,h=>exact h
   | 7,h=>exact h
   | 8,h=>
    obtain⟨b40,e40,hb40⟩:=h;exact⟨b40,e40,hb40.tr0 hs⟩
   | 9,h=>
    obtain⟨g41,cap41,e41,hG41,hcap41⟩:=h;exact⟨g41,cap41,e41,hG41.mono hs.bel,hcap41⟩
   | 10,h=>
    obtain⟨gx,capx,e6,hGx,hcapx⟩:=h;exact⟨gx,capx,e6,hGx.mono hs.bel,hcapx⟩
   | _ + 11,h=>exact trivial
  ·intro st ix o hix hoq hns gg wx la ha hs hd
   match ix,hix,hoq,hns with
   | 0,_,hoq,hns=>
    cases sI hoq;show OS _ _ _ _ _ _;refine xZ (x9 (v:= .slice _ _ _) rfl) ⟨Same.refl _ _,?_⟩;exact rfl
   | 1,_,hoq,hns=>
    cases sI hoq;show OS _ _ _ _ _ _;refine xZ (x9 (v:= .slice _ _ _) rfl) ⟨Same.refl _ _,?_⟩;exact rfl
   | 2,_,hoq,hns=>
    cases sI hoq;show OS _ _ _ _ _ _;refine z4 33 (.slice C (List.length Γ) cc) (hd 1 _ (zz kR) rfl) nu ?_;refine xZ (I6 U50 rfl) ⟨Same.refl _ _,?_⟩;exact rfl
   | 3,_,hoq,hns=>
    cases sI hoq;show OS _ _ _ _ _ _;refine xZ (x9 (v:= .slice _ _ _) rfl) ⟨Same.refl _ _,?_⟩;exact rfl
   | 4,_,hoq,hns=>
    cases sI hoq;show OS _ _ _ _ _ _;refine z4 35 (.slice C (List.length Γ) cc) (hd 3 _ (zz kR) rfl) nu ?_;refine xZ (I6 U50 rfl) ⟨Same.refl _ _,?_⟩;exact rfl
   | 5,_,hoq,hns=>
    cases sI hoq;show OS _ _ _ _ _ _;refine z4 32 (.slice C (List.length Γ) cc) (hd 0 _ (zz kR) rfl) nu (z4 34 (.int .i64 ((Γ.length:Nat):Int)) (hd 2 _ (zz kR) rfl) nu (z4 36 (.int .i64 ((Γ.length:Nat):Int)) (hd 4 _ (zz kR) rfl) nu ?_));refine xZ (r_slF U50 xy rfl rfl rfl hcc) ⟨Same.refl _ _,?_⟩;exact rfl
   | 6,_,hoq,hns=>
    cases sI hoq;show OS _ _ _ _ _ _;refine xZ (vX U55 xy dE rfl rfl rfl) ⟨Same.refl _ _,?_⟩;exact rfl
   | 7,_,hoq,hns=>
    cases sI hoq;show OS _ _ _ _ _ _;replace hb2:=hb2.tr0 hs;refine z4 38 (.pointer (some ⟨b2,0 + 3,none⟩)) (hd 6 _ (zz kR) rfl) nu ?_;refine xZ (zW U52 rfl rfl (hb2.sub (n:=2) (xs:=[_,_]) rfl) xy) ⟨Same.refl _ _,?_⟩;exact rfl
   | 8,_,hoq,hns=>
    cases sI hoq;show OS _ _ _ _ _ _;refine z4 39 (.agg #[.string τ.sm.base,.slice A τ.sm.args.length c]) (hd 7 _ (zz kR) rfl) nu ?_;refine jx (fun ops Q K=>?_);refine qJ (cs:=#[_,_]) [(0,.agg _)] rfl U50 xy Vx dE dE kR rfl (fun b40 w5 hb40 hs hr=>?_);exact K _ _ ⟨hs,⟨_,rfl,hb40⟩⟩
   | 9,_,hoq,hns=>
    cases sI hoq;show OS _ _ _ _ _ _;replace hB:=hB.tr0 hs;obtain⟨b40,e40,hb40⟩:=hd 8 _ (zz kR) rfl;refine z4 37 (.slice C (List.length Γ) (List.length Γ)) (hd 5 _ (zz kR) rfl) nu (z4 40 (.slice (some ⟨b40,0,none⟩) 1 1) e40 nu ?_);refine jx (fun ops Q K=>?_);obtain⟨vs,hv1,hv2,hv3,hv4⟩:=(hG.mono hB).row;refine wl_appFl U50 in52 rfl dE hv2 hv3 hv4 hb40 rfl rfl rfl rfl dE om om (fun g41 cap41 w1 ho41 hs hg=>?_);exact K _ _ ⟨hs,_,_,rfl,ctx_app ho41 (hv1.mono hs.bel) ((hS.mono hB).mono hs.bel) rfl,ho41.cap_le⟩
   | 10,_,hoq,hns=>
    cases sI hoq;show OS _ _ _ _ _ _;obtain⟨g41,cap41,e41,hG41,hcap41⟩:=hd 9 _ (zz kR) rfl;refine z4 41 (.slice (some ⟨g41,0,none⟩) (Γ.length + 1) cap41) e41 nu ?_;refine xZ (u7 (v:= .slice _ _ _) rfl) ⟨Same.refl _ _,?_⟩;exact⟨_,_,rfl,hG41,hcap41⟩
   | _ + 11,hix,_,_=>exact absurd hix om
  intro st gg w6 la ha hall hs hR hI;replace hB:=hB.tr0 hs;replace hb2:=hb2.tr0 hs;replace hb4:=hb4.tr0 hs;obtain⟨gx,capx,e6,hGx,hcapx⟩:=hR 10 _ rfl;refine qK 6 (.slice (some ⟨gx,0,none⟩) (Γ.length + 1) capx) e6 nu (zn6 ?_);refine wl (yQ (i:=0) U53 QK rfl rfl (by show 0 < 1;decide) rfl) (wl (zW U55 rfl rfl (hB.range htb htr0) QK) (wl (x9 (v:= .slice _ _ _) rfl) ?_));refine zV HK (IH x (by simp only [Tv.size];omega) (τ :: Γ) A0 B0 (some ⟨gx,0,none⟩) c0 m0 capx _ (ks0.mono hB) (kt0.mono hB) hGx hcapx (by simp only [List.length_cons];omega) hok.2) rfl (fun e' w7 hr=>?_);obtain⟨⟨s3,A3,n3,c3,rfl,h3⟩,hs⟩:=hr;replace hs:=sB hs;replace hB:=hB.tr0 hs;replace hb2:=hb2.tr0 hs;replace hb4:=hb4.tr0 hs;have hBx:Bel w7 w7:=Below.refl _ _;refine⟨_,rfl,?_⟩;refine wmT rfl (wl (jv (v:= .agg _) rfl rfl) (wl (jv (v:= .bool _) rfl rfl) ?_));refine xV (cs:=#[.string ⟨#[]⟩,.slice none 0 0]) Vx rfl (fun _=>rfl) (fun _=>rfl) xy rfl zK (fun b7 w9 hb7 hs hr=>?_);replace hB:=hB.tr0 hs;replace hb2:=hb2.tr0 hs;replace hb4:=hb4.tr0 hs;replace hBx:=hBx.tr0 hs;refine zn4 ?_;have hZ:SameQ [b4] w9 w9:=Same.refl _ _;have hb4z:=hb4;have hBxz:=hBx;refine zn2 ?_;refine wl (zW U52 rfl rfl (hb2.sub (n:=2) (xs:=[_,_]) rfl) xy) (zn1 ?_);refine qJ (cs:=#[_,_,_,_]) [(0,.agg _),(1,.agg _)] rfl U50 xy Vx dE dE kR rfl (fun b54 w10 hb54 hs hr=>?_);have:=nLL hb4.lt hr;replace hB:=hB.tr0 hs;replace hb4:=hb4.tr0 hs;replace hZ:=SameQ.trans hZ hs (by simp);refine wl (MK (v0:= .slice _ _ _) (fun v0=>#[.string ⟨#[]⟩,v0]) rfl kR) (wl (x9 (v:= .bool _) rfl) ?_);refine zk hb4 rfl rfl xy rfl zK (fun w11 hq hs=>?_);replace hB:=hB.tr1 hs lo4;replace hZ:=SameQ.trans hZ hs (by simp);replace hb54:=hb54.tr1 hs om;replace hb4:=hq;refine zn6 ?_;refine X0 (.inl rfl) rfl (zy U52 rfl rfl hb4.range0 xy) rfl ?_;have e1:(tyv Γ (.abs τ x)).isSome=(tyv (τ :: Γ) x).isSome:=by simp only [tyv,Option.isSome_map]
  refine⟨⟨_,_,_,_,by rw [e1];rfl,fun σ hσ=>?_⟩,hB⟩;obtain⟨ρ,h5,rfl⟩:=Option.map_eq_some_iff.1 hσ;obtain⟨rfl,rfl,h6⟩:=h3 ρ h5;exact⟨rfl,rfl,H2 hb54 (hS.mono hB) (Jz hb4z hZ ρ (h6.mono hBxz))⟩
 obtain⟨x,y,rfl⟩:=tv_app c15 c19 c30;have hlx:Γ.length + (x.size + y.size + 1)≤1000:=hlen;have px:=x.pos;have py:=y.pos;obtain⟨tb,to,A0,c0,B0,m0,rfl,htb,htr0,ks0,kt0⟩:=hT.at_ (k:=0) (by simp [Tv.tm,Tm.args])
 change w.rangeAt tb (to + 0 * 6) [.int .i64 (x).tm.kind,.string (x).tm.name,.int .i64 (x).tm.index,.string (x).tm.type.base,.slice A0 (x).tm.type.args.length c0,.slice B0 (x).tm.args.length m0] at htr0
 change SimsIn w A0 (x).tm.type.args at ks0
 change TmsIn w B0 (x).tm.args at kt0
 obtain⟨_,_,A1,c1,B1,m1,e1,_,htr1,ks1,kt1⟩:=hT.at_ (k:=1) (by simp [Tv.tm,Tm.args]);cases e1
 change w.rangeAt tb (to + 1 * 6) [.int .i64 (y).tm.kind,.string (y).tm.name,.int .i64 (y).tm.index,.string (y).tm.type.base,.slice A1 (y).tm.type.args.length c1,.slice B1 (y).tm.args.length m1] at htr1
 change SimsIn w A1 (y).tm.type.args at ks1
 change TmsIn w B1 (y).tm.args at kt1
 refine zn7 ?_;refine wl (yQ (i:=0) U53 QK rfl rfl (by show 0 < 2;decide) rfl) (wl (zW U55 rfl rfl (hB.range htb htr0) QK) (wl (x9 (v:= .slice _ _ _) rfl) ?_));refine zV HK (IH x (by simp only [Tv.size];omega) Γ A0 B0 C c0 m0 cc _ (ks0.mono hB) (kt0.mono hB) (hG.mono hB) hcc om hok.1) rfl (fun e' w12 hr=>?_);obtain⟨⟨s3,A3,n3,c3,rfl,h3⟩,hs⟩:=hr;replace hs:=sB hs;replace hB:=hB.tr0 hs;replace hb2:=hb2.tr0 hs;replace hb4:=hb4.tr0 hs;have hBx:Bel w12 w12:=Below.refl _ _;refine⟨_,rfl,?_⟩;refine wmT rfl (wl (jv (v:= .agg _) rfl rfl) (wl (jv (v:= .bool _) rfl rfl) ?_));refine xV (cs:=#[.string ⟨#[]⟩,.slice none 0 0]) Vx rfl (fun _=>rfl) (fun _=>rfl) xy rfl zK (fun b9 w14 hb9 hs hr=>?_);replace hB:=hB.tr0 hs;replace hb2:=hb2.tr0 hs;replace hb4:=hb4.tr0 hs;replace hBx:=hBx.tr0 hs;refine zn7 ?_;refine wl (yQ (i:=1) U53 QK rfl rfl (by show 1 < 2;decide) rfl) (wl (zW U55 rfl rfl (hB.range htb htr1) QK) (wl (x9 (v:= .slice _ _ _) rfl) ?_));refine zV HK (IH y (by simp only [Tv.size];omega) Γ A1 B1 C c1 m1 cc _ (ks1.mono hB) (kt1.mono hB) (hG.mono hB) hcc om hok.2) rfl (fun e' w15 hr=>?_);obtain⟨⟨s4,A4,n4,c4,rfl,h4⟩,hs⟩:=hr;replace hs:=sB hs;replace hB:=hB.tr0 hs;replace hb2:=hb2.tr0 hs;replace hb4:=hb4.tr0 hs;replace hBx:=hBx.tr0 hs;replace hb9:=hb9.tr0 hs;have hBy:Bel w15 w15:=Below.refl _ _;refine⟨_,rfl,?_⟩;refine wmT rfl (wl (jv (v:= .agg _) rfl rfl) (wl (jv (v:= .bool _) rfl rfl) ?_));refine xV (cs:=#[.string ⟨#[]⟩,.slice none 0 0]) Vx rfl (fun _=>rfl) (fun _=>rfl) xy rfl zK (fun b11 w17 hb11 hs hr=>?_);replace hB:=hB.tr0 hs;replace hb4:=hb4.tr0 hs;replace hBx:=hBx.tr0 hs;replace hb9:=hb9.tr0 hs;replace hBy:=hBy.tr0 hs;refine zn5 ?_;rcases Bool.eq_false_or_eq_true ((tyv Γ x).isSome) with hk1 | hk1
 ·refine zJ 10 (.bool true) (congrArg Value.bool hk1) nu ?_;rcases Bool.eq_false_or_eq_true ((tyv Γ y).isSome) with hk2 | hk2
  ·refine zJ 12 (.bool true) (congrArg Value.bool hk2) nu ?_;by_cases q2:n3=2
   ·obtain⟨σ,hσ⟩:=Option.isSome_iff_exists.1 hk1;obtain⟨ζ,hζ⟩:=Option.isSome_iff_exists.1 hk2;obtain⟨rfl,e3,hs3⟩:=h3 σ hσ;obtain⟨rfl,rfl,hs4⟩:=h4 ζ hζ;obtain⟨a,r,rfl⟩:=ts_two (e3.symm.trans q2);subst q2;obtain⟨ub,uo,A5,c5,rfl,hub,hur,hus⟩:=hs3.at_ (k:=0) (by simp [Ts.sm,Sm.args]);obtain⟨_,_,A6,c6,e6,_,hur2,hus2⟩:=hs3.at_ (k:=1) (by simp [Ts.sm,Sm.args]);cases e6
    change SimsIn _ A5 a.sm.args at hus
    change SimsIn _ A6 r.sm.args at hus2
    change World.rangeAt _ ub (uo + 0 * 2) [.string a.sm.base,.slice A5 a.sm.args.length c5] at hur
    change World.rangeAt _ ub (uo + 1 * 2) [.string r.sm.base,.slice A6 r.sm.args.length c6] at hur2
    refine jW 21 [75,76,77,78,79,80,81,82,83,84,85,86,87,88,89,90,91,92,93,94,95] (fun _=>false) (fun ix v wv=>match ix with | 0=>v= .bool true | 1=>v= .bool false | 2=>v= .bool false | 3=>v= .bool true | 4=>v= .bool false | 5=>v= .bool false | 6=>v= .bool false | 7=>v= .pointer (some ⟨b9,0 + 1,none⟩) | 8=>v= .slice (some ⟨ub,uo,none⟩) 2 c3 | 9=>v= .int .i64 ((2:Nat):Int) | 10=>v= .bool false | 11=>v= .bool false | 12=>v= .bool false | 13=>v= .pointer (some ⟨b9,0 + 1,none⟩) | 14=>v= .slice (some ⟨ub,uo,none⟩) 2 c3 | 15=>v= .pointer (some ⟨ub,uo + 0 * 2,none⟩) | 16=>v= .agg #[.string a.sm.base,.slice A5 a.sm.args.length c5] | 17=>v= .agg #[.string ζ.sm.base,.slice A4 ζ.sm.args.length c4] | 18=>v= .bool (a.eqb ζ) | 19=>v= .bool (!(a.eqb ζ)) | 20=>v= .bool (!(a.eqb ζ)) | _=>True) kR kR ?_ ?_ ?_
    ·intro ix v wv wv2 h hs
     match ix,h with
     | 0,h=>exact h
     | 1,h=>exact h
     | 2,h=>exact h
     | 3,h=>exact h
     | 4,h=>exact h
     | 5,h=>exact h
     | 6,h=>exact h
     | 7,h=>exact h
     | 8,h=>exact h
     | 9,h=>exact h
     | 10,h=>exact h
     | 11,h=>exact h
     | 12,h=>exact h
     | 13,h=>exact h
     | 14,h=>exact h
     | 15,h=>exact h
     | 16,h=>exact h
     | 17,h=>exact h
     | 18,h=>exact h
     | 19,h=>exact h
     | 20,h=>exact h
     | _ + 21,h=>exact trivial
    ·intro ix o hix hoq gg wx hs hd hdis
     match ix,hix,hoq with
     | 0,_,hoq=>
      cases sI hoq;refine⟨fun _=>?_,fun hw=>Bool.noConfusion (show true=false from hw)⟩;exact oV (x9 (v:= .bool _) rfl) rfl
     | 1,_,hoq=>
      cases sI hoq;refine⟨fun _=>?_,fun hw=>Bool.noConfusion (show true=false from hw)⟩;refine z4 75 (.bool true) (hd 0 (zz kR)) nu ?_;exact oV (gJ rfl) rfl
     | 2,_,hoq=>
      cases sI hoq;refine⟨fun _=>?_,fun hw=>Bool.noConfusion (show true=false from hw)⟩;refine z4 76 (.bool false) (hd 1 (zz kR)) nu ?_;exact oV (x9 (v:= .bool _) rfl) rfl
     | 3,_,hoq=>
      cases sI hoq;have e77:gg 77= .bool false:=hd 2 (zz kR);refine zx 77 false rfl e77 (fun _=>?_) (fun h=>absurd h dE);refine z4 77 (.bool false) e77 nu ?_;exact oV (x9 (v:= .bool _) rfl) rfl
     | 4,_,hoq=>
      cases sI hoq;have e77:gg 77= .bool false:=hd 2 (zz kR);refine zx 77 false rfl e77 (fun _=>?_) (fun h=>absurd h dE);refine z4 77 (.bool false) e77 nu (z4 78 (.bool true) (hd 3 (zz kR)) nu ?_);exact oV (gJ rfl) rfl
     | 5,_,hoq=>
      cases sI hoq;refine⟨fun _=>?_,fun hw=>Bool.noConfusion (show true=false from hw)⟩;refine z4 77 (.bool false) (hd 2 (zz kR)) nu (z4 79 (.bool false) (hd 4 (zz kR)) nu ?_);exact oV (Qz (v:= .bool _) rfl rfl) rfl
     | 6,_,hoq=>
      cases sI hoq;refine⟨fun _=>?_,fun hw=>Bool.noConfusion (show true=false from hw)⟩;refine z4 80 (.bool false) (hd 5 (zz kR)) nu ?_;exact oV (x9 (v:= .bool _) rfl) rfl
     | 7,_,hoq=>
      cases sI hoq;have e81:gg 81= .bool false:=hd 6 (zz kR);refine zx 81 false rfl e81 (fun _=>?_) (fun h=>absurd h dE);refine z4 81 (.bool false) e81 nu ?_;exact oV (vX U52 EV dE rfl rfl rfl) rfl
     | 8,_,hoq=>
      cases sI hoq;replace hb9:=hb9.tr0 hs;have e81:gg 81= .bool false:=hd 6 (zz kR);refine zx 81 false rfl e81 (fun _=>?_) (fun h=>absurd h dE);refine z4 81 (.bool false) e81 nu (z4 82 (.pointer (some ⟨b9,0 + 1,none⟩)) (hd 7 (zz kR)) nu ?_);exact oV (qk (v:= .slice _ _ _) U50 rfl rfl (hb9.cell rfl)) rfl
     | 9,_,hoq=>
      cases sI hoq;have e81:gg 81= .bool false:=hd 6 (zz kR);refine zx 81 false rfl e81 (fun _=>?_) (fun h=>absurd h dE);refine z4 81 (.bool false) e81 nu (z4 83 (.slice (some ⟨ub,uo,none⟩) 2 c3) (hd 8 (zz kR)) nu ?_);exact oV (I6 U50 rfl) rfl
     | 10,_,hoq=>
      cases sI hoq;have e81:gg 81= .bool false:=hd 6 (zz kR);refine zx 81 false rfl e81 (fun _=>?_) (fun h=>absurd h dE);refine z4 81 (.bool false) e81 nu (z4 84 (.int .i64 ((2:Nat):Int)) (hd 9 (zz kR)) nu ?_);exact oV (H4 rfl rfl) (congrArg Value.bool (decide_eq_false om))
     | 11,_,hoq=>
      cases sI hoq;refine⟨fun _=>?_,fun hw=>Bool.noConfusion (show true=false from hw)⟩;refine z4 81 (.bool false) (hd 6 (zz kR)) nu (z4 85 (.bool false) (hd 10 (zz kR)) nu ?_);exact oV (Qz (v:= .bool _) rfl rfl) rfl
     | 12,_,hoq=>
      cases sI hoq;refine⟨fun _=>?_,fun hw=>Bool.noConfusion (show true=false from hw)⟩;refine z4 86 (.bool false) (hd 11 (zz kR)) nu ?_;exact oV (x9 (v:= .bool _) rfl) rfl
     | 13,_,hoq=>
      cases sI hoq;have e87:gg 87= .bool false:=hd 12 (zz kR);refine zx 87 false rfl e87 (fun _=>?_) (fun h=>absurd h dE);refine z4 87 (.bool false) e87 nu ?_;exact oV (vX U52 EV dE rfl rfl rfl) rfl
     | 14,_,hoq=>
      cases sI hoq;replace hb9:=hb9.tr0 hs;have e87:gg 87= .bool false:=hd 12 (zz kR);refine zx 87 false rfl e87 (fun _=>?_) (fun h=>absurd h dE);refine z4 87 (.bool false) e87 nu (z4 88 (.pointer (some ⟨b9,0 + 1,none⟩)) (hd 13 (zz kR)) nu ?_);exact oV (qk (v:= .slice _ _ _) U50 rfl rfl (hb9.cell rfl)) rfl
     | 15,_,hoq=>
      cases sI hoq;have e87:gg 87= .bool false:=hd 12 (zz kR);refine zx 87 false rfl e87 (fun _=>?_) (fun h=>absurd h dE);refine z4 87 (.bool false) e87 nu (z4 89 (.slice (some ⟨ub,uo,none⟩) 2 c3) (hd 14 (zz kR)) nu ?_);exact oV (yQ (i:=0) U50 xy rfl rfl dE rfl) rfl
     | 16,_,hoq=>
      cases sI hoq;replace hBx:=hBx.tr0 hs;have e87:gg 87= .bool false:=hd 12 (zz kR);refine zx 87 false rfl e87 (fun _=>?_) (fun h=>absurd h dE);refine z4 87 (.bool false) e87 nu (z4 90 (.pointer (some ⟨ub,uo + 0 * 2,none⟩)) (hd 15 (zz kR)) nu ?_);exact oV (zW U52 rfl rfl (hBx.range hub hur) xy) rfl
     | 17,_,hoq=>
      cases sI hoq;replace hb11:=hb11.tr0 hs;have e87:gg 87= .bool false:=hd 12 (zz kR);refine zx 87 false rfl e87 (fun _=>?_) (fun h=>absurd h dE);refine z4 87 (.bool false) e87 nu ?_;exact oV (zW U52 rfl rfl hb11.range0 xy) rfl
     | 18,_,hoq=>
      cases sI hoq;replace hBx:=hBx.tr0 hs;replace hBy:=hBy.tr0 hs;have e87:gg 87= .bool false:=hd 12 (zz kR);refine zx 87 false rfl e87 (fun _=>?_) (fun h=>absurd h dE);refine z4 87 (.bool false) e87 nu (z4 91 (.agg #[.string a.sm.base,.slice A5 a.sm.args.length c5]) (hd 16 (zz kR)) nu (z4 92 (.agg #[.string ζ.sm.base,.slice A4 ζ.sm.args.length c4]) (hd 17 (zz kR)) nu ?_));refine qx fn118 (samE_any A5 A4 c5 c4 a ζ wx (hus.mono hBx) (hs4.mono hBy)) rfl (fun e' w2 hr=>?_);obtain⟨rfl,hs⟩:=hr;exact⟨_,rfl,sB hs,rfl,zX⟩
     | 19,_,hoq=>
      cases sI hoq;have e87:gg 87= .bool false:=hd 12 (zz kR);refine zx 87 false rfl e87 (fun _=>?_) (fun h=>absurd h dE);refine z4 87 (.bool false) e87 nu (z4 93 (.bool (a.eqb ζ)) (hd 18 (zz kR)) nu ?_);exact oV (gJ rfl) rfl
     | 20,_,hoq=>
      cases sI hoq;refine⟨fun _=>?_,fun hw=>Bool.noConfusion (show true=false from hw)⟩;refine z4 87 (.bool false) (hd 12 (zz kR)) nu (z4 94 (.bool (!(a.eqb ζ))) (hd 19 (zz kR)) nu ?_);exact oV (Qz (v:= .bool _) rfl rfl) rfl
     | _ + 21,hix,_=>exact absurd hix om
    intro gg w18 hs hR hdis;replace hB:=hB.tr0 hs;replace hb4:=hb4.tr0 hs;replace hBx:=hBx.tr0 hs;replace hb9:=hb9.tr0 hs;refine qK 95 (.bool (!(a.eqb ζ))) (hR 20 dE) nu (zZ (e_S ?_));refine j7 rfl (fun c95=>?_) (fun c95=>?_)
    ·have hnone:tyv Γ (.app x y)=none:=app_no4 hσ hζ (by simpa using c95);refine zn2 ?_;refine wl (uw (vs:=#[]) (cs:=#[.string ⟨#[]⟩,.slice none 0 0]) (by simp) kR) ?_;refine zk hb4 rfl rfl xy rfl zK (fun w19 hq hs=>?_);replace hB:=hB.tr1 hs lo4;replace hb4:=hq;refine zn5 ?_;refine X0 (.inl rfl) rfl (zy U52 rfl rfl hb4.range0 xy) rfl ?_;exact⟨⟨_,_,_,_,(by rw [hnone];rfl),fun σ e=>by rw [hnone] at e;cases e⟩,hB⟩
    have hsome:tyv Γ (.app x y)=some r:=app_yes hσ hζ (by simpa using c95);refine zn3 ?_;have hZ:SameQ [b4] w18 w18:=Same.refl _ _;have hb4z:=hb4;have hBxz:=hBx;refine zn3 ?_;refine wl (yQ (i:=1) U50 xy rfl rfl dE rfl) (wl (zW U52 rfl rfl (hBxz.range hub hur2) xy) ?_);refine zk hb4 rfl rfl xy rfl zK (fun w20 hq hs=>?_);replace hB:=hB.tr1 hs lo4;replace hZ:=SameQ.trans hZ hs (by simp);replace hb4:=hq;refine zn4 ?_;refine X0 (.inl rfl) rfl (zy U52 rfl rfl hb4.range0 xy) rfl ?_;exact⟨⟨_,_,_,_,(by rw [hsome];rfl),fun σ e=>by rw [hsome] at e;obtain rfl:=Option.some.inj e;exact⟨rfl,rfl,Jz hb4z hZ r (hus2.mono hBxz)⟩⟩,hB⟩
   obtain⟨σ,hσ⟩:=Option.isSome_iff_exists.1 hk1;obtain⟨ζ,hζ⟩:=Option.isSome_iff_exists.1 hk2;obtain⟨rfl,e3,hs3⟩:=h3 σ hσ;obtain⟨rfl,rfl,hs4⟩:=h4 ζ hζ;have hnone:tyv Γ (.app x y)=none:=app_no3 hσ (fun h=>q2 (e3.trans h));refine jW 21 [75,76,77,78,79,80,81,82,83,84,85,86,87,88,89,90,91,92,93,94,95] (fun _=>false) (fun ix v wv=>match ix with | 0=>v= .bool true | 1=>v= .bool false | 2=>v= .bool false | 3=>v= .bool true | 4=>v= .bool false | 5=>v= .bool false | 6=>v= .bool false | 7=>v= .pointer (some ⟨b9,0 + 1,none⟩) | 8=>v= .slice A3 n3 c3 | 9=>v= .int .i64 ((n3:Nat):Int) | 10=>v= .bool true | 11=>v= .bool true | 12=>v= .bool true | 13=>v=undef | 14=>v=undef | 15=>v=undef | 16=>v=undef | 17=>v=undef | 18=>v=undef | 19=>v=undef | 20=>v= .bool true | _=>True) kR kR ?_ ?_ ?_
   ·intro ix v wv wv2 h hs
    match ix,h with
    | 0,h=>exact h
    | 1,h=>exact h
    | 2,h=>exact h
    | 3,h=>exact h
    | 4,h=>exact h
    | 5,h=>exact h
    | 6,h=>exact h
    | 7,h=>exact h
    | 8,h=>exact h
    | 9,h=>exact h
    | 10,h=>exact h
    | 11,h=>exact h
    | 12,h=>exact h
    | 13,h=>exact h
    | 14,h=>exact h
    | 15,h=>exact h
    | 16,h=>exact h
    | 17,h=>exact h
    | 18,h=>exact h
    | 19,h=>exact h
    | 20,h=>exact h
    | _ + 21,h=>exact trivial
   ·intro ix o hix hoq gg wx hs hd hdis
    match ix,hix,hoq with
    | 0,_,hoq=>
     cases sI hoq;refine⟨fun _=>?_,fun hw=>Bool.noConfusion (show true=false from hw)⟩;exact oV (x9 (v:= .bool _) rfl) rfl
    | 1,_,hoq=>
     cases sI hoq;refine⟨fun _=>?_,fun hw=>Bool.noConfusion (show true=false from hw)⟩;refine z4 75 (.bool true) (hd 0 (zz kR)) nu ?_;exact oV (gJ rfl) rfl
    | 2,_,hoq=>
     cases sI hoq;refine⟨fun _=>?_,fun hw=>Bool.noConfusion (show true=false from hw)⟩;refine z4 76 (.bool false) (hd 1 (zz kR)) nu ?_;exact oV (x9 (v:= .bool _) rfl) rfl
    | 3,_,hoq=>
     cases sI hoq;have e77:gg 77= .bool false:=hd 2 (zz kR);refine zx 77 false rfl e77 (fun _=>?_) (fun h=>absurd h dE);refine z4 77 (.bool false) e77 nu ?_;exact oV (x9 (v:= .bool _) rfl) rfl
    | 4,_,hoq=>
     cases sI hoq;have e77:gg 77= .bool false:=hd 2 (zz kR);refine zx 77 false rfl e77 (fun _=>?_) (fun h=>absurd h dE);refine z4 77 (.bool false) e77 nu (z4 78 (.bool true) (hd 3 (zz kR)) nu ?_);exact oV (gJ rfl) rfl
    | 5,_,hoq=>
     cases sI hoq;refine⟨fun _=>?_,fun hw=>Bool.noConfusion (show true=false from hw)⟩;refine z4 77 (.bool false) (hd 2 (zz kR)) nu (z4 79 (.bool false) (hd 4 (zz kR)) nu ?_);exact oV (Qz (v:= .bool _) rfl rfl) rfl
    | 6,_,hoq=>
     cases sI hoq;refine⟨fun _=>?_,fun hw=>Bool.noConfusion (show true=false from hw)⟩;refine z4 80 (.bool false) (hd 5 (zz kR)) nu ?_;exact oV (x9 (v:= .bool _) rfl) rfl
    | 7,_,hoq=>
     cases sI hoq;have e81:gg 81= .bool false:=hd 6 (zz kR);refine zx 81 false rfl e81 (fun _=>?_) (fun h=>absurd h dE);refine z4 81 (.bool false) e81 nu ?_;exact oV (vX U52 EV dE rfl rfl rfl) rfl
    | 8,_,hoq=>
     cases sI hoq;replace hb9:=hb9.tr0 hs;have e81:gg 81= .bool false:=hd 6 (zz kR);refine zx 81 false rfl e81 (fun _=>?_) (fun h=>absurd h dE);refine z4 81 (.bool false) e81 nu (z4 82 (.pointer (some ⟨b9,0 + 1,none⟩)) (hd 7 (zz kR)) nu ?_);exact oV (qk (v:= .slice _ _ _) U50 rfl rfl (hb9.cell rfl)) rfl
    | 9,_,hoq=>
     cases sI hoq;have e81:gg 81= .bool false:=hd 6 (zz kR);refine zx 81 false rfl e81 (fun _=>?_) (fun h=>absurd h dE);refine z4 81 (.bool false) e81 nu (z4 83 (.slice A3 n3 c3) (hd 8 (zz kR)) nu ?_);exact oV (I6 U50 rfl) rfl
    | 10,_,hoq=>
     cases sI hoq;have e81:gg 81= .bool false:=hd 6 (zz kR);refine zx 81 false rfl e81 (fun _=>?_) (fun h=>absurd h dE);refine z4 81 (.bool false) e81 nu (z4 84 (.int .i64 ((n3:Nat):Int)) (hd 9 (zz kR)) nu ?_);exact oV (H4 rfl rfl) (congrArg Value.bool (decide_eq_true om))
    | 11,_,hoq=>
     cases sI hoq;refine⟨fun _=>?_,fun hw=>Bool.noConfusion (show true=false from hw)⟩;refine z4 81 (.bool false) (hd 6 (zz kR)) nu (z4 85 (.bool true) (hd 10 (zz kR)) nu ?_);exact oV (Qz (v:= .bool _) rfl rfl) rfl
    | 12,_,hoq=>
     cases sI hoq;refine⟨fun _=>?_,fun hw=>Bool.noConfusion (show true=false from hw)⟩;refine z4 86 (.bool true) (hd 11 (zz kR)) nu ?_;exact oV (x9 (v:= .bool _) rfl) rfl
    | 13,_,hoq=>
     cases sI hoq;have e87:gg 87= .bool true:=hd 12 (zz kR);exact zx 87 true rfl e87 (fun h=>absurd h dE) (fun _=>rfl)
    | 14,_,hoq=>
     cases sI hoq;have e87:gg 87= .bool true:=hd 12 (zz kR);have e88:gg 88=undef:=hd 13 (zz kR);exact zx 87 true rfl e87 (fun h=>absurd h dE) (fun _=>rfl)
    | 15,_,hoq=>
     cases sI hoq;have e87:gg 87= .bool true:=hd 12 (zz kR);have e89:gg 89=undef:=hd 14 (zz kR);exact zx 87 true rfl e87 (fun h=>absurd h dE) (fun _=>rfl)
    | 16,_,hoq=>
     cases sI hoq;have e87:gg 87= .bool true:=hd 12 (zz kR);have e90:gg 90=undef:=hd 15 (zz kR);exact zx 87 true rfl e87 (fun h=>absurd h dE) (fun _=>rfl)
    | 17,_,hoq=>
     cases sI hoq;have e87:gg 87= .bool true:=hd 12 (zz kR);exact zx 87 true rfl e87 (fun h=>absurd h dE) (fun _=>rfl)
    | 18,_,hoq=>
     cases sI hoq;have e87:gg 87= .bool true:=hd 12 (zz kR);have e91:gg 91=undef:=hd 16 (zz kR);have e92:gg 92=undef:=hd 17 (zz kR);exact zx 87 true rfl e87 (fun h=>absurd h dE) (fun _=>rfl)
    | 19,_,hoq=>
     cases sI hoq;have e87:gg 87= .bool true:=hd 12 (zz kR);have e93:gg 93=undef:=hd 18 (zz kR);exact zx 87 true rfl e87 (fun h=>absurd h dE) (fun _=>rfl)
    | 20,_,hoq=>
     cases sI hoq;have e94:gg 94=undef:=hd 19 (zz kR);refine⟨fun _=>?_,fun hw=>Bool.noConfusion (show true=false from hw)⟩;refine z4 87 (.bool true) (hd 12 (zz kR)) nu ?_;exact oV (Q9 (v:= .bool _) rfl rfl) rfl
    | _ + 21,hix,_=>exact absurd hix om
   intro gg w21 hs hR hdis;replace hB:=hB.tr0 hs;replace hb4:=hb4.tr0 hs;refine qK 95 (.bool true) (hR 20 dE) nu (zn5 ?_);refine wl (uw (vs:=#[]) (cs:=#[.string ⟨#[]⟩,.slice none 0 0]) (by simp) kR) ?_;refine zk hb4 rfl rfl xy rfl zK (fun w22 hq hs=>?_);replace hB:=hB.tr1 hs lo4;replace hb4:=hq;refine zn5 ?_;refine X0 (.inl rfl) rfl (zy U52 rfl rfl hb4.range0 xy) rfl ?_;exact⟨⟨_,_,_,_,(by rw [hnone];rfl),fun σ e=>by rw [hnone] at e;cases e⟩,hB⟩
  refine zJ 12 (.bool false) (congrArg Value.bool hk2) nu ?_;have hnone:tyv Γ (.app x y)=none:=app_no2 hk2;refine jW 21 [75,76,77,78,79,80,81,82,83,84,85,86,87,88,89,90,91,92,93,94,95] (fun _=>false) (fun ix v wv=>match ix with | 0=>v= .bool true | 1=>v= .bool false | 2=>v= .bool false | 3=>v= .bool false | 4=>v= .bool true | 5=>v= .bool true | 6=>v= .bool true | 7=>v=undef | 8=>v=undef | 9=>v=undef | 10=>v=undef | 11=>v= .bool true | 12=>v= .bool true | 13=>v=undef | 14=>v=undef | 15=>v=undef | 16=>v=undef | 17=>v=undef | 18=>v=undef | 19=>v=undef | 20=>v= .bool true | _=>True) kR kR ?_ ?_ ?_
  ·intro ix v wv wv2 h hs
   match ix,h with
   | 0,h=>exact h
   | 1,h=>exact h
   | 2,h=>exact h
   | 3,h=>exact h
   | 4,h=>exact h
   | 5,h=>exact h
   | 6,h=>exact h
   | 7,h=>exact h
   | 8,h=>exact h
   | 9,h=>exact h
   | 10,h=>exact h
   | 11,h=>exact h
   | 12,h=>exact h
   | 13,h=>exact h
   | 14,h=>exact h
   | 15,h=>exact h
   | 16,h=>exact h
   | 17,h=>exact h
   | 18,h=>exact h
   | 19,h=>exact h
   | 20,h=>exact h
   | _ + 21,h=>exact trivial
  ·intro ix o hix hoq gg wx hs hd hdis
   match ix,hix,hoq with
   | 0,_,hoq=>
    cases sI hoq;refine⟨fun _=>?_,fun hw=>Bool.noConfusion (show true=false from hw)⟩;exact oV (x9 (v:= .bool _) rfl) rfl
   | 1,_,hoq=>
    cases sI hoq;refine⟨fun _=>?_,fun hw=>Bool.noConfusion (show true=false from hw)⟩;refine z4 75 (.bool true) (hd 0 (zz kR)) nu ?_;exact oV (gJ rfl) rfl
   | 2,_,hoq=>
    cases sI hoq;refine⟨fun _=>?_,fun hw=>Bool.noConfusion (show true=false from hw)⟩;refine z4 76 (.bool false) (hd 1 (zz kR)) nu ?_;exact oV (x9 (v:= .bool _) rfl) rfl
   | 3,_,hoq=>
    cases sI hoq;have e77:gg 77= .bool false:=hd 2 (zz kR);refine zx 77 false rfl e77 (fun _=>?_) (fun h=>absurd h dE);refine z4 77 (.bool false) e77 nu ?_;exact oV (x9 (v:= .bool _) rfl) rfl
   | 4,_,hoq=>
    cases sI hoq;have e77:gg 77= .bool false:=hd 2 (zz kR);refine zx 77 false rfl e77 (fun _=>?_) (fun h=>absurd h dE);refine z4 77 (.bool false) e77 nu (z4 78 (.bool false) (hd 3 (zz kR)) nu ?_);exact oV (gJ rfl) rfl
   | 5,_,hoq=>
    cases sI hoq;refine⟨fun _=>?_,fun hw=>Bool.noConfusion (show true=false from hw)⟩;refine z4 77 (.bool false) (hd 2 (zz kR)) nu (z4 79 (.bool true) (hd 4 (zz kR)) nu ?_);exact oV (Qz (v:= .bool _) rfl rfl) rfl
   | 6,_,hoq=>
    cases sI hoq;refine⟨fun _=>?_,fun hw=>Bool.noConfusion (show true=false from hw)⟩;refine z4 80 (.bool true) (hd 5 (zz kR)) nu ?_;exact oV (x9 (v:= .bool _) rfl) rfl
   | 7,_,hoq=>
    cases sI hoq;have e81:gg 81= .bool true:=hd 6 (zz kR);exact zx 81 true rfl e81 (fun h=>absurd h dE) (fun _=>rfl)
   | 8,_,hoq=>
    cases sI hoq;have e81:gg 81= .bool true:=hd 6 (zz kR);have e82:gg 82=undef:=hd 7 (zz kR);exact zx 81 true rfl e81 (fun h=>absurd h dE) (fun _=>rfl)
   | 9,_,hoq=>
    cases sI hoq;have e81:gg 81= .bool true:=hd 6 (zz kR);have e83:gg 83=undef:=hd 8 (zz kR);exact zx 81 true rfl e81 (fun h=>absurd h dE) (fun _=>rfl)
   | 10,_,hoq=>
    cases sI hoq;have e81:gg 81= .bool true:=hd 6 (zz kR);have e84:gg 84=undef:=hd 9 (zz kR);exact zx 81 true rfl e81 (fun h=>absurd h dE) (fun _=>rfl)
   | 11,_,hoq=>
    cases sI hoq;have e85:gg 85=undef:=hd 10 (zz kR);refine⟨fun _=>?_,fun hw=>Bool.noConfusion (show true=false from hw)⟩;refine z4 81 (.bool true) (hd 6 (zz kR)) nu ?_;exact oV (Q9 (v:= .bool _) rfl rfl) rfl
   | 12,_,hoq=>
    cases sI hoq;refine⟨fun _=>?_,fun hw=>Bool.noConfusion (show true=false from hw)⟩;refine z4 86 (.bool true) (hd 11 (zz kR)) nu ?_;exact oV (x9 (v:= .bool _) rfl) rfl
   | 13,_,hoq=>
    cases sI hoq;have e87:gg 87= .bool true:=hd 12 (zz kR);exact zx 87 true rfl e87 (fun h=>absurd h dE) (fun _=>rfl)
   | 14,_,hoq=>
    cases sI hoq;have e87:gg 87= .bool true:=hd 12 (zz kR);have e88:gg 88=undef:=hd 13 (zz kR);exact zx 87 true rfl e87 (fun h=>absurd h dE) (fun _=>rfl)
   | 15,_,hoq=>
    cases sI hoq;have e87:gg 87= .bool true:=hd 12 (zz kR);have e89:gg 89=undef:=hd 14 (zz kR);exact zx 87 true rfl e87 (fun h=>absurd h dE) (fun _=>rfl)
   | 16,_,hoq=>
    cases sI hoq;have e87:gg 87= .bool true:=hd 12 (zz kR);have e90:gg 90=undef:=hd 15 (zz kR);exact zx 87 true rfl e87 (fun h=>absurd h dE) (fun _=>rfl)
   | 17,_,hoq=>
    cases sI hoq;have e87:gg 87= .bool true:=hd 12 (zz kR);exact zx 87 true rfl e87 (fun h=>absurd h dE) (fun _=>rfl)
   | 18,_,hoq=>
    cases sI hoq;have e87:gg 87= .bool true:=hd 12 (zz kR);have e91:gg 91=undef:=hd 16 (zz kR);have e92:gg 92=undef:=hd 17 (zz kR);exact zx 87 true rfl e87 (fun h=>absurd h dE) (fun _=>rfl)
   | 19,_,hoq=>
    cases sI hoq;have e87:gg 87= .bool true:=hd 12 (zz kR);have e93:gg 93=undef:=hd 18 (zz kR);exact zx 87 true rfl e87 (fun h=>absurd h dE) (fun _=>rfl)
   | 20,_,hoq=>
    cases sI hoq;have e94:gg 94=undef:=hd 19 (zz kR);refine⟨fun _=>?_,fun hw=>Bool.noConfusion (show true=false from hw)⟩;refine z4 87 (.bool true) (hd 12 (zz kR)) nu ?_;exact oV (Q9 (v:= .bool _) rfl rfl) rfl
   | _ + 21,hix,_=>exact absurd hix om
  intro gg w23 hs hR hdis;replace hB:=hB.tr0 hs;replace hb4:=hb4.tr0 hs;refine qK 95 (.bool true) (hR 20 dE) nu (zn5 ?_);refine wl (uw (vs:=#[]) (cs:=#[.string ⟨#[]⟩,.slice none 0 0]) (by simp) kR) ?_;refine zk hb4 rfl rfl xy rfl zK (fun w24 hq hs=>?_);replace hB:=hB.tr1 hs lo4;replace hb4:=hq;refine zn5 ?_;refine X0 (.inl rfl) rfl (zy U52 rfl rfl hb4.range0 xy) rfl ?_;exact⟨⟨_,_,_,_,(by rw [hnone];rfl),fun σ e=>by rw [hnone] at e;cases e⟩,hB⟩
 refine zJ 10 (.bool false) (congrArg Value.bool hk1) nu ?_;have hnone:tyv Γ (.app x y)=none:=app_no1 hk1;refine jW 21 [75,76,77,78,79,80,81,82,83,84,85,86,87,88,89,90,91,92,93,94,95] (fun _=>false) (fun ix v wv=>match ix with | 0=>v= .bool false | 1=>v= .bool true | 2=>v= .bool true | 3=>v=undef | 4=>v=undef | 5=>v= .bool true | 6=>v= .bool true | 7=>v=undef | 8=>v=undef | 9=>v=undef | 10=>v=undef | 11=>v= .bool true | 12=>v= .bool true | 13=>v=undef | 14=>v=undef | 15=>v=undef | 16=>v=undef | 17=>v=undef | 18=>v=undef | 19=>v=undef | 20=>v= .bool true | _=>True) kR kR ?_ ?_ ?_
 ·intro ix v wv wv2 h hs
  match ix,h with
  | 0,h=>exact h
  | 1,h=>exact h
  | 2,h=>exact h
  | 3,h=>exact h
  | 4,h=>exact h
  | 5,h=>exact h
  | 6,h=>exact h
  | 7,h=>exact h
  | 8,h=>exact h
  | 9,h=>exact h
  | 10,h=>exact h
  | 11,h=>exact h
  | 12,h=>exact h
  | 13,h=>exact h
  | 14,h=>exact h
  | 15,h=>exact h
  | 16,h=>exact h
  | 17,h=>exact h
  | 18,h=>exact h
  | 19,h=>exact h
  | 20,h=>exact h
  | _ + 21,h=>exact trivial
 ·intro ix o hix hoq gg wx hs hd hdis
  match ix,hix,hoq with
  | 0,_,hoq=>
   cases sI hoq;refine⟨fun _=>?_,fun hw=>Bool.noConfusion (show true=false from hw)⟩;exact oV (x9 (v:= .bool _) rfl) rfl
  | 1,_,hoq=>
   cases sI hoq;refine⟨fun _=>?_,fun hw=>Bool.noConfusion (show true=false from hw)⟩;refine z4 75 (.bool false) (hd 0 (zz kR)) nu ?_;exact oV (gJ rfl) rfl
  | 2,_,hoq=>
   cases sI hoq;refine⟨fun _=>?_,fun hw=>Bool.noConfusion (show true=false from hw)⟩;refine z4 76 (.bool true) (hd 1 (zz kR)) nu ?_;exact oV (x9 (v:= .bool _) rfl) rfl
  | 3,_,hoq=>
   cases sI hoq;have e77:gg 77= .bool true:=hd 2 (zz kR);exact zx 77 true rfl e77 (fun h=>absurd h dE) (fun _=>rfl)
  | 4,_,hoq=>
   cases sI hoq;have e77:gg 77= .bool true:=hd 2 (zz kR);have e78:gg 78=undef:=hd 3 (zz kR);exact zx 77 true rfl e77 (fun h=>absurd h dE) (fun _=>rfl)
  | 5,_,hoq=>
   cases sI hoq;have e79:gg 79=undef:=hd 4 (zz kR);refine⟨fun _=>?_,fun hw=>Bool.noConfusion (show true=false from hw)⟩;refine z4 77 (.bool true) (hd 2 (zz kR)) nu ?_;exact oV (Q9 (v:= .bool _) rfl rfl) rfl
  | 6,_,hoq=>
   cases sI hoq;refine⟨fun _=>?_,fun hw=>Bool.noConfusion (show true=false from hw)⟩;refine z4 80 (.bool true) (hd 5 (zz kR)) nu ?_;exact oV (x9 (v:= .bool _) rfl) rfl
  | 7,_,hoq=>
   cases sI hoq;have e81:gg 81= .bool true:=hd 6 (zz kR);exact zx 81 true rfl e81 (fun h=>absurd h dE) (fun _=>rfl)
  | 8,_,hoq=>
   cases sI hoq;have e81:gg 81= .bool true:=hd 6 (zz kR);have e82:gg 82=undef:=hd 7 (zz kR);exact zx 81 true rfl e81 (fun h=>absurd h dE) (fun _=>rfl)
  | 9,_,hoq=>
   cases sI hoq;have e81:gg 81= .bool true:=hd 6 (zz kR);have e83:gg 83=undef:=hd 8 (zz kR);exact zx 81 true rfl e81 (fun h=>absurd h dE) (fun _=>rfl)
  | 10,_,hoq=>
   cases sI hoq;have e81:gg 81= .bool true:=hd 6 (zz kR);have e84:gg 84=undef:=hd 9 (zz kR);exact zx 81 true rfl e81 (fun h=>absurd h dE) (fun _=>rfl)
  | 11,_,hoq=>
   cases sI hoq;have e85:gg 85=undef:=hd 10 (zz kR);refine⟨fun _=>?_,fun hw=>Bool.noConfusion (show true=false from hw)⟩;refine z4 81 (.bool true) (hd 6 (zz kR)) nu ?_;exact oV (Q9 (v:= .bool _) rfl rfl) rfl
  | 12,_,hoq=>
   cases sI hoq;refine⟨fun _=>?_,fun hw=>Bool.noConfusion (show true=false from hw)⟩;refine z4 86 (.bool true) (hd 11 (zz kR)) nu ?_;exact oV (x9 (v:= .bool _) rfl) rfl
  | 13,_,hoq=>
   cases sI hoq;have e87:gg 87= .bool true:=hd 12 (zz kR);exact zx 87 true rfl e87 (fun h=>absurd h dE) (fun _=>rfl)
  | 14,_,hoq=>
   cases sI hoq;have e87:gg 87= .bool true:=hd 12 (zz kR);have e88:gg 88=undef:=hd 13 (zz kR);exact zx 87 true rfl e87 (fun h=>absurd h dE) (fun _=>rfl)
  | 15,_,hoq=>
   cases sI hoq;have e87:gg 87= .bool true:=hd 12 (zz kR);have e89:gg 89=undef:=hd 14 (zz kR);exact zx 87 true rfl e87 (fun h=>absurd h dE) (fun _=>rfl)
  | 16,_,hoq=>
   cases sI hoq;have e87:gg 87= .bool true:=hd 12 (zz kR);have e90:gg 90=undef:=hd 15 (zz kR);exact zx 87 true rfl e87 (fun h=>absurd h dE) (fun _=>rfl)
  | 17,_,hoq=>
   cases sI hoq;have e87:gg 87= .bool true:=hd 12 (zz kR);exact zx 87 true rfl e87 (fun h=>absurd h dE) (fun _=>rfl)
  | 18,_,hoq=>
   cases sI hoq;have e87:gg 87= .bool true:=hd 12 (zz kR);have e91:gg 91=undef:=hd 16 (zz kR);have e92:gg 92=undef:=hd 17 (zz kR);exact zx 87 true rfl e87 (fun h=>absurd h dE) (fun _=>rfl)
  | 19,_,hoq=>
   cases sI hoq;have e87:gg 87= .bool true:=hd 12 (zz kR);have e93:gg 93=undef:=hd 18 (zz kR);exact zx 87 true rfl e87 (fun h=>absurd h dE) (fun _=>rfl)
  | 20,_,hoq=>
   cases sI hoq;have e94:gg 94=undef:=hd 19 (zz kR);refine⟨fun _=>?_,fun hw=>Bool.noConfusion (show true=false from hw)⟩;refine z4 87 (.bool true) (hd 12 (zz kR)) nu ?_;exact oV (Q9 (v:= .bool _) rfl rfl) rfl
  | _ + 21,hix,_=>exact absurd hix om
 intro gg w25 hs hR hdis;replace hB:=hB.tr0 hs;replace hb4:=hb4.tr0 hs;refine qK 95 (.bool true) (hR 20 dE) nu (zn5 ?_);refine wl (uw (vs:=#[]) (cs:=#[.string ⟨#[]⟩,.slice none 0 0]) (by simp) kR) ?_;refine zk hb4 rfl rfl xy rfl zK (fun w26 hq hs=>?_);replace hB:=hB.tr1 hs lo4;replace hb4:=hq;refine zn5 ?_;refine X0 (.inl rfl) rfl (zy U52 rfl rfl hb4.range0 xy) rfl ?_;exact⟨⟨_,_,_,_,(by rw [hnone];rfl),fun σ e=>by rw [hnone] at e;cases e⟩,hB⟩
theorem Lq:∀ (k:Nat) (v:Tv),v.size < k→∀ (Γ:List Ts) (A B C:Option Addr) (c m cc:Nat) (w:World),SimsIn w A (Tv.tm (v)).type.args→TmsIn w B (Tv.tm (v)).args→CtxIn w C Γ→List.length Γ≤cc→List.length Γ + (v).size≤1000→Tv.ok (List.length Γ) (v)→Calls Tryz.prog 101 #[.agg #[.int .i64 (Tv.tm (v)).kind,.string (Tv.tm (v)).name,.int .i64 (Tv.tm (v)).index,.string (Tv.tm (v)).type.base,.slice A (Tv.tm (v)).type.args.length c,.slice B (Tv.tm (v)).args.length m],.slice C (List.length Γ) cc] w fun e w'=>(∃ (s:ByteArray) (A':Option Addr) (n c':Nat),e= .returned (.tuple #[.agg #[.string s,.slice A' n c'],.bool (tyv (Γ) (v)).isSome])∧∀ τ,tyv (Γ) (v)=some τ→s=τ.sm.base∧n=τ.sm.args.length∧SimsIn w' A' τ.sm.args)∧Bel w w':=by
  intro k
  induction k with
  | zero=>intro v h;omega
  | succ k ih=>exact fun v h Γ A B C c m cc w h1 h2 h3 h4 h5 h6=>R0 h1 h2 h3 h4 h5 h6 (fun x hx=>ih x om)
end Go.Proofs.YtdkfnakncaggoaaGreatDoor
