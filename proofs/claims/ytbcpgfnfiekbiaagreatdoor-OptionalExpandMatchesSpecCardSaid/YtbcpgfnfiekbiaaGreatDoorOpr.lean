/- What these functions of the program compute, at every world: glosswright/term.Typed. What these functions of the program compute, at every world: glosswright/simple.Clone. What these functions of the program compute, at every world: glosswright/term.Clone. What these functions of the program compute, at every world: glosswright/grammar.Entry. The engine's third part: regions that draw their order, with intervals of blocks. What these functions of the program compute, at every world: glosswright/grammar.Copy. What these functions of the program compute, at every world: glosswright/optional.arguments. Steps of programs: a pointer compared with nil. No program in sight. -/
import Derived.Test.YtbcpgfnfiekbiaaGreatDoorU
import Derived.Test.YtbcpgfnfiekbiaaGreatDoorTrm
import Derived.Test.YtbcpgfnfiekbiaaGreatDoorEng7
import Derived.Test.YtbcpgfnfiekbiaaGreatDoorNTw
import Derived.Test.YtbcpgfnfiekbiaaGreatDoorStk
import Derived.Test.YtbcpgfnfiekbiaaGreatDoorGrm
import Derived.Test.YtbcpgfnfiekbiaaGreatDoorGNodes
import Derived.Test.YtbcpgfnfiekbiaaGreatDoorEng4
import Derived.Test.YtbcpgfnfiekbiaaGreatDoorEng
namespace Go.Proofs.YtbcpgfnfiekbiaaGreatDoor
open Go.RowKit
theorem tv_con {v:Tv} (h:v.tm.kind=1):∃ nm τ,v= .con nm τ:=by cases v <;> first | exact⟨_,_,rfl⟩ | (exfalso;revert h;simp [Tv.tm,Tm.kind])
theorem tv_var {v:Tv} (h:v.tm.kind=2):∃ i,v= .var i:=by cases v <;> first | exact⟨_,rfl⟩ | (exfalso;revert h;simp [Tv.tm,Tm.kind])
theorem tv_abs {v:Tv} (h:v.tm.kind=3):∃ τ x,v= .abs τ x:=by cases v <;> first | exact⟨_,_,rfl⟩ | (exfalso;revert h;simp [Tv.tm,Tm.kind])
theorem tv_app {v:Tv} (h1:¬v.tm.kind=1) (h2:¬v.tm.kind=2) (h3:¬v.tm.kind=3):∃ x y,v= .app x y:=by
  cases v with
  | con nm τ=>exact absurd rfl h1
  | var i=>exact absurd rfl h2
  | abs τ x=>exact absurd rfl h3
  | app x y=>exact⟨_,_,rfl⟩
theorem ts_two {τ:Ts} (h:τ.sm.args.length=2):∃ x y,τ= .f x y:=by
  cases τ with
  | b t=>cases h
  | f x y=>exact⟨x,y,rfl⟩
section app
variable {Γ:List Ts} {x y:Tv}
theorem app_no1 (h:(tyv Γ x).isSome=false):tyv Γ (.app x y)=none:=by
  simp only [tyv];cases e:tyv Γ x with
  | none=>rfl
  | some σ=>rw [e] at h;cases h
theorem app_no2 (h:(tyv Γ y).isSome=false):tyv Γ (.app x y)=none:=by
  simp only [tyv];cases e:tyv Γ y with
  | none=>
    cases tyv Γ x with
    | none=>rfl
    | some σ=>cases σ <;> rfl
  | some σ=>rw [e] at h;cases h
theorem app_no3 {σ:Ts} (h:tyv Γ x=some σ) (hn:¬σ.sm.args.length=2):tyv Γ (.app x y)=none:=by
  simp only [tyv,h];cases σ with
  | b t=>rfl
  | f a r=>exact absurd rfl hn
theorem app_no4 {a r ζ:Ts} (h:tyv Γ x=some (.f a r)) (k:tyv Γ y=some ζ) (e:a.eqb ζ=false):tyv Γ (.app x y)=none:=by
  simp only [tyv,h,k,e];rfl
theorem app_yes {a r ζ:Ts} (h:tyv Γ x=some (.f a r)) (k:tyv Γ y=some ζ) (e:a.eqb ζ=true):tyv Γ (.app x y)=some r:=by
  simp only [tyv,h,k,e];rfl
end app
theorem fn77:zK Tryz.prog 77=true:=by kernel_rfl
theorem in41:(Tryz.prog.info? 41).map (fun i=>(i.zero,i.size,i.bytes))=some (some (.agg #[.string ⟨#[]⟩,.slice none 0 0]),2,40):=by kernel_rfl
set_option maxRecDepth 100000 in
set_option maxHeartbeats 4000000 in
theorem H2 {v:Tv} {Γ:List Ts} {A B C:Option Addr} {c m cc:Nat} {w:World} (hS:SimsIn w A v.tm.type.args) (hT:TmsIn w B v.tm.args) (hG:CtxIn w C Γ) (hcc:Γ.length≤cc) (hlen:Γ.length + v.size≤1000) (hok:v.ok Γ.length) (IH:∀ (x:Tv),x.size < v.size→∀ (Γ:List Ts) (A2 B2 C2:Option Addr) (c2 m2 cc2:Nat) (w2:World),SimsIn w2 A2 (Tv.tm (x)).type.args→TmsIn w2 B2 (Tv.tm (x)).args→CtxIn w2 C2 Γ→List.length Γ≤cc2→List.length Γ + (x).size≤1000→Tv.ok (List.length Γ) (x)→Calls Tryz.prog 77 #[.agg #[.int .i64 (Tv.tm (x)).kind,.string (Tv.tm (x)).name,.int .i64 (Tv.tm (x)).index,.string (Tv.tm (x)).type.base,.slice A2 (Tv.tm (x)).type.args.length c2,.slice B2 (Tv.tm (x)).args.length m2],.slice C2 (List.length Γ) cc2] w2 fun e w'=>(∃ (s:ByteArray) (A':Option Addr) (n c':Nat),e= .returned (.tuple #[.agg #[.string s,.slice A' n c'],.bool (tyv (Γ) (x)).isSome])∧∀ τ,tyv (Γ) (x)=some τ→s=τ.sm.base∧n=τ.sm.args.length∧SimsIn w' A' τ.sm.args)∧Bel w2 w'):Calls Tryz.prog 77 #[.agg #[.int .i64 (Tv.tm (v)).kind,.string (Tv.tm (v)).name,.int .i64 (Tv.tm (v)).index,.string (Tv.tm (v)).type.base,.slice A (Tv.tm (v)).type.args.length c,.slice B (Tv.tm (v)).args.length m],.slice C (List.length Γ) cc] w fun e w'=>(∃ (s:ByteArray) (A':Option Addr) (n c':Nat),e= .returned (.tuple #[.agg #[.string s,.slice A' n c'],.bool (tyv (Γ) (v)).isSome])∧∀ τ,tyv (Γ) (v)=some τ→s=τ.sm.base∧n=τ.sm.args.length∧SimsIn w' A' τ.sm.args)∧Bel w w':=by
 refine enT Tryz.func77 Tryz.ntmps77 rfl rfl fun hB=>?_;refine zn2 ?_;refine x6 (v:= .agg #[_,_,_,_,_,_]) (cs:=#[_,_,_,_,_,_]) rfl rfl (fun b2 w1 hb2 t1 hr=>?_);refine qq (cs:=#[.string ⟨#[]⟩,.slice none 0 0]) ov rfl (fun b4 w2 hb4 t2 hr=>?_);have lo4:=nLT (Bel.size hB.u) hr;refine J9 ?_;refine zX rfl (fun c15=>?_) (fun c15=>?_)
 ·obtain⟨nm,τ,rfl⟩:=tv_con c15;refine zn3 ?_;refine wl (zY U41 rfl rfl (hb2.u.sub (n:=2) (xs:=[_,_]) rfl) x9) ?_;refine zk hb4 rfl rfl x9 rfl zQ (fun w3 hq t3=>?_);replace hb4:=hq;refine zn6 ?_;refine uy (.inl rfl) rfl (zy U41 rfl rfl hb4.range0 x9) rfl ?_;replace hB:=(hB.tr0 (t1.trans t2)).tr1 t3 lo4;exact⟨⟨_,_,_,_,rfl,fun σ e=>by obtain rfl:τ=σ:=Option.some.inj e;exact⟨rfl,rfl,hS.mono hB⟩⟩,hB⟩
 refine zn6 ?_;refine zX rfl (fun c19=>?_) (fun c19=>?_)
 ·obtain⟨i,rfl⟩:=tv_var c19;have hil:i < Γ.length:=hok;obtain⟨cb,co,A7,c7,rfl,hcb,hcr,hcs⟩:=hG.at_ (List.getElem?_eq_getElem hil);refine zn5 ?_;refine wl (j8 (c:=((Γ.length - 1:Nat):Int)) rfl rfl oM oM) (zn1 ?_);refine wl (qV (v:= .int .i64 ((i:Nat):Int)) U3 rfl rfl (hb2.u.cell rfl)) (wl (j8 (c:=((Γ.length - 1 - i:Nat):Int)) rfl rfl oM oM) (wl (xk (i:=(Γ.length - 1 - i)) U39 x9 rfl rfl oM rfl) (wl (zY U41 rfl rfl (hB.u.range hcb hcr) x9) ?_)));refine zk hb4 rfl rfl x9 rfl zQ (fun w4 hq t4=>?_);replace hb4:=hq;refine zn6 ?_;refine uy (.inl rfl) rfl (zy U41 rfl rfl hb4.range0 x9) rfl ?_;have hty:tyv Γ (.var i)=some Γ[i]:=List.getElem?_eq_getElem hil;replace hB:=(hB.tr0 (t1.trans t2)).tr1 t4 lo4;exact⟨⟨_,_,_,_,by rw [hty];rfl,fun σ e=>by rw [hty] at e;obtain rfl:=Option.some.inj e;exact⟨rfl,rfl,hcs.mono hB⟩⟩,hB⟩
 refine zn6 ?_;refine zX rfl (fun c30=>?_) (fun c30=>?_)
 ·obtain⟨τ,x,rfl⟩:=tv_abs c30;have hlx:Γ.length + (x.size + 1)≤1000:=hlen;obtain⟨tb,to,A0,c0,B0,m0,rfl,htb,htr0,ks0,kt0⟩:=hT.at_ (k:=0) (by simp [Tv.tm,Tm.args])
  change w.rangeAt tb (to + 0 * 6) [.int .i64 (x).tm.kind,.string (x).tm.name,.int .i64 (x).tm.index,.string (x).tm.type.base,.slice A0 (x).tm.type.args.length c0,.slice B0 (x).tm.args.length m0] at htr0
  change SimsIn w A0 (x).tm.type.args at ks0
  change TmsIn w B0 (x).tm.args at kt0
  refine yj ?_;refine OZ 11 [32,33,34,35,36,37,38,39,40,41,6] [] (fun ix=>false) (fun st ix v la ha wv=>match ix with | 0=>v= .slice C (List.length Γ) cc | 1=>v= .slice C (List.length Γ) cc | 2=>v= .int .i64 ((Γ.length:Nat):Int) | 3=>v= .slice C (List.length Γ) cc | 4=>v= .int .i64 ((Γ.length:Nat):Int) | 5=>v= .slice C (List.length Γ) (List.length Γ) | 6=>v= .pointer (some ⟨b2,0 + 3,none⟩) | 7=>v= .agg #[.string τ.sm.base,.slice A τ.sm.args.length c] | 8=>∃ b,v= .slice (some ⟨b,0,none⟩) 1 1∧Blk wv b 41 #[.string τ.sm.base,.slice A τ.sm.args.length c] | 9=>∃ g cap,v= .slice (some ⟨g,0,none⟩) (Γ.length + 1) cap∧CtxIn wv (some ⟨g,0,none⟩) (τ :: Γ)∧Γ.length + 1≤cap | 10=>∃ g cap,v= .slice (some ⟨g,0,none⟩) (Γ.length + 1) cap∧CtxIn wv (some ⟨g,0,none⟩) (τ :: Γ)∧Γ.length + 1≤cap | _=>True) kR kR kR ?_ ?_ ?_
  ·intro st ix v la ha wv wv2 h t5
   match ix,h with
   | 0,h=>exact h
   | 1,h=>exact h
   | 2,h=>exact h
   | 3,h=>exact h
   | 4,h=>exact h
   | 5,h=>exact h
   | 6,h=>exact h
   | 7,h=>exact h
   | 8,h=>
    obtain⟨b40,e40,hb40⟩:=h;exact⟨b40,e40,hb40.tr0 t5⟩
   | 9,h=>
    obtain⟨g41,cap41,e41,hG41,hcap41⟩:=h;exact⟨g41,cap41,e41,hG41.mono t5.bel,hcap41⟩
   | 10,h=>
    obtain⟨gx,capx,e6,hGx,hcapx⟩:=h;exact⟨gx,capx,e6,hGx.mono t5.bel,hcapx⟩
   | _ + 11,h=>exact trivial
  ·intro st ix o hix hoq hns gg wx la ha t6 hd
   match ix,hix,hoq,hns with
   | 0,_,hoq,hns=>
    cases sI hoq;show OS _ _ _ _ _ _;refine xW (yq (v:= .slice _ _ _) rfl) ⟨Same.refl _ _,?_⟩;exact rfl
   | 1,_,hoq,hns=>
    cases sI hoq;show OS _ _ _ _ _ _;refine xW (yq (v:= .slice _ _ _) rfl) ⟨Same.refl _ _,?_⟩;exact rfl
   | 2,_,hoq,hns=>
    cases sI hoq;show OS _ _ _ _ _ _;refine zx 33 _ (hd 1 _ (zj kR) rfl) nu ?_;refine xW (F0 U39 rfl) ⟨Same.refl _ _,?_⟩;exact rfl
   | 3,_,hoq,hns=>
    cases sI hoq;show OS _ _ _ _ _ _;refine xW (yq (v:= .slice _ _ _) rfl) ⟨Same.refl _ _,?_⟩;exact rfl
   | 4,_,hoq,hns=>
    cases sI hoq;show OS _ _ _ _ _ _;refine zx 35 _ (hd 3 _ (zj kR) rfl) nu ?_;refine xW (F0 U39 rfl) ⟨Same.refl _ _,?_⟩;exact rfl
   | 5,_,hoq,hns=>
    cases sI hoq;show OS _ _ _ _ _ _;refine zx 32 _ (hd 0 _ (zj kR) rfl) nu (zx 34 _ (hd 2 _ (zj kR) rfl) nu (zx 36 _ (hd 4 _ (zj kR) rfl) nu ?_));refine xW (r_slF U39 x9 rfl rfl rfl hcc) ⟨Same.refl _ _,?_⟩;exact rfl
   | 6,_,hoq,hns=>
    cases sI hoq;show OS _ _ _ _ _ _;refine xW (X2 U44 x9 dE rfl rfl rfl) ⟨Same.refl _ _,?_⟩;exact rfl
   | 7,_,hoq,hns=>
    cases sI hoq;show OS _ _ _ _ _ _;refine zx 38 _ (hd 6 _ (zj kR) rfl) nu ?_;refine xW (zY U41 rfl rfl (hb2.u.sub (n:=2) (xs:=[_,_]) rfl) x9) ⟨Same.refl _ _,?_⟩;exact rfl
   | 8,_,hoq,hns=>
    cases sI hoq;show OS _ _ _ _ _ _;refine zx 39 _ (hd 7 _ (zj kR) rfl) nu ?_;refine jk (fun ops Q K=>?_);refine qw (cs:=#[_,_]) [(0,.agg _)] rfl U39 x9 ov dE dE kR rfl (fun b40 w5 hb40 t7 hr=>?_);exact K _ _ ⟨t7,⟨_,rfl,hb40⟩⟩
   | 9,_,hoq,hns=>
    cases sI hoq;show OS _ _ _ _ _ _;obtain⟨b40,e40,hb40⟩:=hd 8 _ (zj kR) rfl;refine zx 37 _ (hd 5 _ (zj kR) rfl) nu (zx 40 _ e40 nu ?_);refine jk (fun ops Q K=>?_);replace hB:=hB.tr0 (t1.trans (t2.trans t6));obtain⟨vs,hv1,hv2,hv3,hv4⟩:=(hG.mono hB).row;refine wl_appFl U39 in41 rfl dE hv2 hv3 hv4 hb40 rfl rfl rfl rfl dE oM oM (fun g41 cap41 w1 ho41 t8 hg=>?_);exact K _ _ ⟨t8,_,_,rfl,ctx_app ho41 (hv1.mono t8.bel) ((hS.mono hB).mono t8.bel) rfl,ho41.cap_le⟩
   | 10,_,hoq,hns=>
    cases sI hoq;show OS _ _ _ _ _ _;obtain⟨g41,cap41,e41,hG41,hcap41⟩:=hd 9 _ (zj kR) rfl;refine zx 41 _ e41 nu ?_;refine xW (Y0 (v:= .slice _ _ _) rfl) ⟨Same.refl _ _,?_⟩;exact⟨_,_,rfl,hG41,hcap41⟩
   | _ + 11,hix,_,_=>exact absurd hix oM
  intro st gg w6 la ha hall t9 hR hI;obtain⟨gx,capx,e6,hGx,hcapx⟩:=hR 10 _ rfl;refine xK 6 _ e6 nu (zn6 ?_);refine wl (xk (i:=0) U42 VY rfl rfl (by show 0 < 1;decide) rfl) (wl (zY U44 rfl rfl (hB.u.range htb htr0) VY) (wl (yq (v:= .slice _ _ _) rfl) ?_));replace hB:=hB.tr0 (t1.trans (t2.trans t9));refine zV fn77 (IH x (by simp only [Tv.size];omega) (τ :: Γ) A0 B0 (some ⟨gx,0,none⟩) c0 m0 capx _ (ks0.mono hB) (kt0.mono hB) hGx hcapx (by simp only [List.length_cons];omega) hok.2) rfl (fun e' w7 hr=>?_);obtain⟨⟨s3,A3,n3,c3,rfl,h3⟩,t10⟩:=hr;replace t10:=sB t10;have hBx:Bel w7 w7:=Below.refl _ _;refine⟨_,rfl,?_⟩;refine wmT rfl (wl (j5 (v:= .agg _) rfl rfl) (wl (j5 (v:= .bool _) rfl rfl) ?_));refine xV (cs:=#[.string ⟨#[]⟩,.slice none 0 0]) ov rfl (fun _=>rfl) (fun _=>rfl) x9 rfl zQ (fun b7 w9 hb7 t11 hr=>?_);refine zn4 ?_;have hZ:SameQ [b4] w9 w9:=Same.refl _ _;replace hb4:=hb4.tr0 (t9.trans (t10.trans t11));have hb4z:=hb4;replace hBx:=hBx.tr0 t11;have hBxz:=hBx;refine zn2 ?_;refine wl (zY U41 rfl rfl (hb2.u.sub (n:=2) (xs:=[_,_]) rfl) x9) (zn1 ?_);refine qw (cs:=#[_,_,_,_]) [(0,.agg _),(1,.agg _)] rfl U39 x9 ov dE dE kR rfl (fun b54 w10 hb54 t12 hr=>?_);have:=nLL hb4.lt hr;replace hZ:=SameQ.trans hZ t12 (by simp);refine wl (ZY (v0:= .slice _ _ _) (fun v0=>#[.string ⟨#[]⟩,v0]) rfl kR) (wl (yq (v:= .bool _) rfl) ?_);refine zk hb4.u rfl rfl x9 rfl zQ (fun w11 hq t13=>?_);replace hZ:=SameQ.trans hZ t13 (by simp);replace hb4:=hq;refine zn6 ?_;refine uy (.inl rfl) rfl (zy U41 rfl rfl hb4.range0 x9) rfl ?_;have e1:(tyv Γ (.abs τ x)).isSome=(tyv (τ :: Γ) x).isSome:=by simp only [tyv,Option.isSome_map]
  replace hB:=(hB.tr0 (t10.trans (t11.trans t12))).tr1 t13 lo4;refine⟨⟨_,_,_,_,by rw [e1];rfl,fun σ hσ=>?_⟩,hB⟩;obtain⟨ρ,h5,rfl⟩:=Option.map_eq_some_iff.1 hσ;obtain⟨rfl,rfl,h6⟩:=h3 ρ h5;exact⟨rfl,rfl,sm2_two hb54.u (hS.mono hB) (Kq hb4z hZ ρ (h6.mono hBxz))⟩
 obtain⟨x,y,rfl⟩:=tv_app c15 c19 c30;have hlx:Γ.length + (x.size + y.size + 1)≤1000:=hlen;have px:=x.pos;have py:=y.pos;obtain⟨tb,to,A0,c0,B0,m0,rfl,htb,htr0,ks0,kt0⟩:=hT.at_ (k:=0) (by simp [Tv.tm,Tm.args])
 change w.rangeAt tb (to + 0 * 6) [.int .i64 (x).tm.kind,.string (x).tm.name,.int .i64 (x).tm.index,.string (x).tm.type.base,.slice A0 (x).tm.type.args.length c0,.slice B0 (x).tm.args.length m0] at htr0
 change SimsIn w A0 (x).tm.type.args at ks0
 change TmsIn w B0 (x).tm.args at kt0
 obtain⟨_,_,A1,c1,B1,m1,e1,_,htr1,ks1,kt1⟩:=hT.at_ (k:=1) (by simp [Tv.tm,Tm.args]);cases e1
 change w.rangeAt tb (to + 1 * 6) [.int .i64 (y).tm.kind,.string (y).tm.name,.int .i64 (y).tm.index,.string (y).tm.type.base,.slice A1 (y).tm.type.args.length c1,.slice B1 (y).tm.args.length m1] at htr1
 change SimsIn w A1 (y).tm.type.args at ks1
 change TmsIn w B1 (y).tm.args at kt1
 refine zn7 ?_;refine wl (xk (i:=0) U42 VY rfl rfl (by show 0 < 2;decide) rfl) (wl (zY U44 rfl rfl (hB.u.range htb htr0) VY) (wl (yq (v:= .slice _ _ _) rfl) ?_));replace hB:=hB.tr0 (t1.trans t2);refine zV fn77 (IH x (by simp only [Tv.size];omega) Γ A0 B0 C c0 m0 cc _ (ks0.mono hB) (kt0.mono hB) (hG.mono hB) hcc oM hok.1) rfl (fun e' w12 hr=>?_);obtain⟨⟨s3,A3,n3,c3,rfl,h3⟩,t14⟩:=hr;replace t14:=sB t14;have hBx:Bel w12 w12:=Below.refl _ _;refine⟨_,rfl,?_⟩;refine wmT rfl (wl (j5 (v:= .agg _) rfl rfl) (wl (j5 (v:= .bool _) rfl rfl) ?_));refine xV (cs:=#[.string ⟨#[]⟩,.slice none 0 0]) ov rfl (fun _=>rfl) (fun _=>rfl) x9 rfl zQ (fun b9 w14 hb9 t15 hr=>?_);refine zn7 ?_;refine wl (xk (i:=1) U42 VY rfl rfl (by show 1 < 2;decide) rfl) (wl (zY U44 rfl rfl (hB.u.range htb htr1) VY) (wl (yq (v:= .slice _ _ _) rfl) ?_));replace hB:=hB.tr0 (t14.trans t15);refine zV fn77 (IH y (by simp only [Tv.size];omega) Γ A1 B1 C c1 m1 cc _ (ks1.mono hB) (kt1.mono hB) (hG.mono hB) hcc oM hok.2) rfl (fun e' w15 hr=>?_);obtain⟨⟨s4,A4,n4,c4,rfl,h4⟩,t16⟩:=hr;replace t16:=sB t16;have hBy:Bel w15 w15:=Below.refl _ _;refine⟨_,rfl,?_⟩;refine wmT rfl (wl (j5 (v:= .agg _) rfl rfl) (wl (j5 (v:= .bool _) rfl rfl) ?_));refine xV (cs:=#[.string ⟨#[]⟩,.slice none 0 0]) ov rfl (fun _=>rfl) (fun _=>rfl) x9 rfl zQ (fun b11 w17 hb11 t17 hr=>?_);refine zn5 ?_;replace hb4:=hb4.tr0 (t14.trans (t15.trans (t16.trans t17)));replace hB:=hB.tr0 (t16.trans t17);rcases Bool.eq_false_or_eq_true ((tyv Γ x).isSome) with hk1 | hk1
 ·refine zZ 10 _ (congrArg Value.bool hk1) nu ?_;rcases Bool.eq_false_or_eq_true ((tyv Γ y).isSome) with hk2 | hk2
  ·refine zZ 12 _ (congrArg Value.bool hk2) nu ?_;by_cases q2:n3=2
   ·obtain⟨σ,hσ⟩:=Option.isSome_iff_exists.1 hk1;obtain⟨ζ,hζ⟩:=Option.isSome_iff_exists.1 hk2;obtain⟨rfl,e3,hs3⟩:=h3 σ hσ;obtain⟨rfl,rfl,hs4⟩:=h4 ζ hζ;obtain⟨a,r,rfl⟩:=ts_two (e3.symm.trans q2);subst q2;obtain⟨ub,uo,A5,c5,rfl,hub,hur,hus⟩:=hs3.at_ (k:=0) (by simp [Ts.sm,Sm.args]);obtain⟨_,_,A6,c6,e6,_,hur2,hus2⟩:=hs3.at_ (k:=1) (by simp [Ts.sm,Sm.args]);cases e6
    change SimsIn _ A5 a.sm.args at hus
    change SimsIn _ A6 r.sm.args at hus2
    change World.rangeAt _ ub (uo + 0 * 2) [.string a.sm.base,.slice A5 a.sm.args.length c5] at hur
    change World.rangeAt _ ub (uo + 1 * 2) [.string r.sm.base,.slice A6 r.sm.args.length c6] at hur2
    refine jx [] [0,1,2,3,4,5,6,7,8,9,10,11,12,13,14,15,16,17,18,19,20] rfl (fun w18 t18=>?_);refine yv ?_;refine hge 81 rfl rfl rfl (fun _ _=>r_neq rfl rfl) (congrArg Value.bool (decide_eq_false oM)) (zn4 ?_);refine hg 87 rfl rfl rfl (fun _ _=>xk (i:=0) U39 x9 rfl rfl dE rfl) (hgS 87 rfl rfl rfl U41 rfl rfl (hBx.u.range hub hur) x9 (zn1 ?_));refine h1 rfl (zn1 ?_);refine zV fn78 (R7 A5 A4 c5 c4 a ζ w18 (hus.mono hBx.u) (hs4.mono hBy.u)) rfl (fun e' w19 hr=>?_);obtain⟨rfl,t19⟩:=hr;replace t19:=sB t19;have hsH18:=t19;refine⟨_,rfl,?_⟩;refine zJ (M5 hsH18 (zn4 ?_));refine vK rfl (fun c95=>?_) (fun c95=>?_)
    ·have hnone:tyv Γ (.app x y)=none:=app_no4 hσ hζ (by simpa using c95);refine zn2 ?_;refine wl (uW (vs:=#[]) (cs:=#[.string ⟨#[]⟩,.slice none 0 0]) (by simp) kR) ?_;refine zk hb4.u rfl rfl x9 rfl zQ (fun w20 hq t20=>?_);replace hb4:=hq;refine zn5 ?_;refine uy (.inl rfl) rfl (zy U41 rfl rfl hb4.range0 x9) rfl ?_;replace hB:=(hB.tr0 (t18.trans t19)).tr1 t20 lo4;exact⟨⟨_,_,_,_,(by rw [hnone];rfl),fun σ e=>by rw [hnone] at e;cases e⟩,hB⟩
    have hsome:tyv Γ (.app x y)=some r:=app_yes hσ hζ (by simpa using c95);refine zn3 ?_;have hZ:SameQ [b4] w19 w19:=Same.refl _ _;replace hb4:=hb4.tr0 (t18.trans t19);have hb4z:=hb4;replace hBx:=hBx.tr0 (t15.trans (t16.trans (t17.trans (t18.trans t19))));have hBxz:=hBx;refine zn3 ?_;refine wl (xk (i:=1) U39 x9 rfl rfl dE rfl) (wl (zY U41 rfl rfl (hBxz.range hub hur2) x9) ?_);refine zk hb4 rfl rfl x9 rfl zQ (fun w21 hq t21=>?_);replace hZ:=SameQ.trans hZ t21 (by simp);replace hb4:=hq;refine zn4 ?_;refine uy (.inl rfl) rfl (zy U41 rfl rfl hb4.range0 x9) rfl ?_;replace hB:=(hB.tr0 (t18.trans t19)).tr1 t21 lo4;exact⟨⟨_,_,_,_,(by rw [hsome];rfl),fun σ e=>by rw [hsome] at e;obtain rfl:=Option.some.inj e;exact⟨rfl,rfl,Kq hb4z hZ r (hus2.mono hBxz)⟩⟩,hB⟩
   obtain⟨σ,hσ⟩:=Option.isSome_iff_exists.1 hk1;obtain⟨ζ,hζ⟩:=Option.isSome_iff_exists.1 hk2;obtain⟨rfl,e3,hs3⟩:=h3 σ hσ;obtain⟨rfl,rfl,hs4⟩:=h4 ζ hζ;have hnone:tyv Γ (.app x y)=none:=app_no3 hσ (fun h=>q2 (e3.trans h));refine jx [] [0,1,2,3,4,5,6,7,8,9,10,11,12,13,14,15,16,17,18,19,20] rfl (fun w22 t22=>?_);refine yv ?_;refine hge 81 rfl rfl rfl (fun _ _=>r_neq rfl rfl) (congrArg Value.bool (decide_eq_true oM)) (QJ ?_);refine wl (uW (vs:=#[]) (cs:=#[.string ⟨#[]⟩,.slice none 0 0]) (by simp) kR) ?_;refine zk hb4.u rfl rfl x9 rfl zQ (fun w23 hq t23=>?_);replace hb4:=hq;refine zn5 ?_;refine uy (.inl rfl) rfl (zy U41 rfl rfl hb4.range0 x9) rfl ?_;replace hB:=(hB.tr0 t22).tr1 t23 lo4;exact⟨⟨_,_,_,_,(by rw [hnone];rfl),fun σ e=>by rw [hnone] at e;cases e⟩,hB⟩
  refine zZ 12 _ (congrArg Value.bool hk2) nu ?_;have hnone:tyv Γ (.app x y)=none:=app_no2 hk2;refine jx [] [0,1,2,3,4,5,6,7,8,9,10,11,12,13,14,15,16,17,18,19,20] rfl (fun w24 t24=>?_);refine zn26 ?_;refine wl (uW (vs:=#[]) (cs:=#[.string ⟨#[]⟩,.slice none 0 0]) (by simp) kR) ?_;refine zk hb4.u rfl rfl x9 rfl zQ (fun w25 hq t25=>?_);replace hb4:=hq;refine zn5 ?_;refine uy (.inl rfl) rfl (zy U41 rfl rfl hb4.range0 x9) rfl ?_;replace hB:=(hB.tr0 t24).tr1 t25 lo4;exact⟨⟨_,_,_,_,(by rw [hnone];rfl),fun σ e=>by rw [hnone] at e;cases e⟩,hB⟩
 refine zZ 10 _ (congrArg Value.bool hk1) nu ?_;have hnone:tyv Γ (.app x y)=none:=app_no1 hk1;refine jx [] [0,1,2,3,4,5,6,7,8,9,10,11,12,13,14,15,16,17,18,19,20] rfl (fun w26 t26=>?_);refine zn26 ?_;refine wl (uW (vs:=#[]) (cs:=#[.string ⟨#[]⟩,.slice none 0 0]) (by simp) kR) ?_;refine zk hb4.u rfl rfl x9 rfl zQ (fun w27 hq t27=>?_);replace hb4:=hq;refine zn5 ?_;refine uy (.inl rfl) rfl (zy U41 rfl rfl hb4.range0 x9) rfl ?_;replace hB:=(hB.tr0 t26).tr1 t27 lo4;exact⟨⟨_,_,_,_,(by rw [hnone];rfl),fun σ e=>by rw [hnone] at e;cases e⟩,hB⟩
theorem PZ:∀ (k:Nat) (v:Tv),v.size < k→∀ (Γ:List Ts) (A B C:Option Addr) (c m cc:Nat) (w:World),SimsIn w A (Tv.tm (v)).type.args→TmsIn w B (Tv.tm (v)).args→CtxIn w C Γ→List.length Γ≤cc→List.length Γ + (v).size≤1000→Tv.ok (List.length Γ) (v)→Calls Tryz.prog 77 #[.agg #[.int .i64 (Tv.tm (v)).kind,.string (Tv.tm (v)).name,.int .i64 (Tv.tm (v)).index,.string (Tv.tm (v)).type.base,.slice A (Tv.tm (v)).type.args.length c,.slice B (Tv.tm (v)).args.length m],.slice C (List.length Γ) cc] w fun e w'=>(∃ (s:ByteArray) (A':Option Addr) (n c':Nat),e= .returned (.tuple #[.agg #[.string s,.slice A' n c'],.bool (tyv (Γ) (v)).isSome])∧∀ τ,tyv (Γ) (v)=some τ→s=τ.sm.base∧n=τ.sm.args.length∧SimsIn w' A' τ.sm.args)∧Bel w w':=by
  intro k
  induction k with
  | zero=>intro v h;omega
  | succ k ih=>exact fun v h Γ A B C c m cc w h1 h2 h3 h4 h5 h6=>H2 h1 h2 h3 h4 h5 h6 (fun x hx=>ih x oM)
end Go.Proofs.YtbcpgfnfiekbiaaGreatDoor
namespace Go.Proofs.YtbcpgfnfiekbiaaGreatDoor
open Go.RowKit
theorem fn112:zK Tryz.prog 112=true:=by kernel_rfl
theorem in41_ECl:(Tryz.prog.info? 41).map (fun i=>(i.zero,i.size,i.bytes))=some (some (.agg #[.string ⟨#[]⟩,.slice none 0 0]),2,40):=by kernel_rfl
theorem TX:(Tryz.prog.info? 39).map (·.size)=some 1:=by kernel_rfl
theorem gY:(Tryz.prog.info? 41).map (·.size)=some 2:=by kernel_rfl
theorem Jz:(Tryz.prog.info? 41).map (·.zero)=some (some (.agg #[.string ⟨#[]⟩,.slice none 0 0])):=by kernel_rfl
set_option maxRecDepth 100000 in
set_option maxHeartbeats 2000000 in
theorem R5 {s:Sm} {A:Option Addr} {c:Nat} {w:World} (hK:s.args.length≤1000) (hS:SimsIn w A s.args) (IH:∀ x ∈ s.args,∀ (A:Option Addr) (c:Nat) (w:World),SimsIn w A x.args→Calls Tryz.prog 112 #[.agg #[.string (x).base,.slice A (x).args.length c]] w fun e w'=>(∃ A' c',e= .returned (.agg #[.string (x).base,.slice A' (x).args.length c'])∧Hv w.heap.size [] w'.heap.size w' (fun w=>SimsIn w A' (x).args))∧Bel w w'):Calls Tryz.prog 112 #[.agg #[.string (s).base,.slice A (s).args.length c]] w fun e w'=>(∃ A' c',e= .returned (.agg #[.string (s).base,.slice A' (s).args.length c'])∧Hv w.heap.size [] w'.heap.size w' (fun w=>SimsIn w A' (s).args))∧Bel w w':=by
 refine enT Tryz.func112 Tryz.ntmps112 rfl rfl fun hB=>?_;refine zn2 ?_;refine x6 (v:= .agg #[_,_]) (cs:=#[_,_]) rfl rfl (fun b1 w1 hb1 s1 hr=>?_);refine qq (cs:=#[.string ⟨#[]⟩,.slice none 0 0]) Jz rfl (fun b2 w2 hb2 s2 hr=>?_);have lo2:=nLT (Bel.size hB.u) hr;refine zn6 ?_;refine wl (ZY (v0:= .string _) (fun v0=>#[v0,.slice none 0 0]) rfl kR) ?_;refine xV (cs:=#[.string ⟨#[]⟩,.slice none 0 0]) Jz rfl (fun _=>rfl) (fun _=>rfl) gY rfl zQ (fun b3 w4 hb3 s3 hr=>?_);have:=nLL hb1.u.lt hr;have:=nLL hb2.lt hr;have lo3:=nLT (Bel.size hB.u) hr;refine yZ ?_;refine zW (rg [5] 12 12) (fun m g w'=>∃ (j:Nat) (A3:Option Addr) (c3 n3:Nat) (vs:List Value),j≤s.args.length∧m=s.args.length - j∧g 12= .int .i64 j∧Bel w w'∧Blk w' b1 41 #[.string s.base,.slice A s.args.length c]∧Blk w' b2 41 #[.string ⟨#[]⟩,.slice none 0 0]∧Blk w' b3 41 #[.string s.base,.slice A3 j c3]∧Own w' (b3 + 1) 41 2 A3 j c3 vs∧Hv w.heap.size (b2 :: b3 :: aL A3) n3 w' (fun w=>RowD smC 2 w (s.args.take j) vs)) (s.args.length) ?_ (fun m g3 w5 hI=>?_)
 ·exact⟨0,none,0,_,[],Nat.zero_le _,rfl,rfl,hB.u,hb1.u,hb2.u,hb3,Own.nil _ _ _ _,Hv.triv _ _ _ (fun w=> .nil)⟩
 obtain⟨j,A3,c3,n3,vs,hj,hmj,h12,hB,hb1,hb2,hb3,ho3,hH⟩:=hI;refine zZ 12 _ h12 nu (zn6 ?_);refine zX rfl (fun c13=>?_) (fun c13=>?_)
 ·have hja:j < s.args.length:=by omega
  obtain⟨sb,so,Ax,cx,rfl,hsb,hrx,hsx⟩:=hS.at_ hja;have hnH:=hH.le;refine zn8 ?_;refine qq (cs:=#[.string ⟨#[]⟩,.slice none 0 0]) Jz rfl (fun b5 w6 hb5 s4 hr=>?_);have:=nLL hb1.lt hr;have:=nLL hb2.lt hr;have:=nLL hb3.lt hr;have or_ho3_b5:=fun g hg=>nLL (ho3.lt g hg).2 hr
  have or_hH_b5:=(nLT hH.le hr)
  have lo5:=nLT (Bel.size hB) hr;refine zk hb5 rfl rfl gY rfl zQ (fun w7 hq s5=>?_);replace ho3:=ho3.tr0 s4;replace ho3:=ho3.tr1 s5 (neL or_ho3_b5);replace hH:=hH.tr0 s4;replace hH:=hH.tr s5 (fun g hg=> .inr (.inr (by rw [List.mem_singleton.1 hg];exact or_hH_b5)));replace hb5:=hq;refine zJ (e_S ?_);have zo:=fun g hg=>(ho3.lt g hg).2
  replace hb3:=(hb3.tr0 s4).tr1 s5 oM;have z3:=hb3.lt;replace hb2:=(hb2.tr0 s4).tr1 s5 oM;have z2:=hb2.lt;replace hB:=(hB.tr0 s4).tr1 s5 lo5;have hsz:=Bel.size hB;refine kK 5 [16,17,18,19,20] (fun ix=>Nat.beq ix 4) (fun ix v wv=>match ix with | 0=>v= .pointer (some ⟨b3,1,none⟩) | 1=>v= .slice A3 j c3 | 2=>v= .agg #[.string (s.args[j]).base,.slice Ax (s.args[j]).args.length cx] | 3=>∃ A19 c19 n19,v= .agg #[.string (s.args[j]).base,.slice A19 (s.args[j]).args.length c19]∧Hv w7.heap.size [] n19 wv (fun w=>SimsIn w A19 (s.args[j]).args) | 4=>∃ b A19 c19 n19,v= .slice (some ⟨b,0,none⟩) 1 1∧w7.heap.size≤b∧Blk wv b 41 #[.string (s.args[j]).base,.slice A19 (s.args[j]).args.length c19]∧Hv w7.heap.size [] n19 wv (fun w=>SimsIn w A19 (s.args[j]).args) | _=>True) kR kR ?_ ?_ ?_
  ·intro ix v wv wv2 h s6
   match ix,h with
   | 0,h=>exact h
   | 1,h=>exact h
   | 2,h=>exact h
   | 3,h=>
    obtain⟨A19,c19,n19,e19,hz19⟩:=h;exact⟨A19,c19,n19,e19,hz19.tr0 s6⟩
   | 4,h=>
    obtain⟨b20,A20,c20,n20,e20,lo20,hb20,hz20⟩:=h;exact⟨b20,A20,c20,n20,e20,lo20,hb20.tr0 s6,hz20.tr0 s6⟩
   | _ + 5,h=>exact trivial
  ·intro ix o hix hoq gg wx s7 hd hdis
   match ix,hix,hoq with
   | 0,_,hoq=>
    cases sI hoq;exact oVq (X2 U41 TX dE rfl rfl rfl) rfl
   | 1,_,hoq=>
    cases sI hoq;refine zx 16 _ (hd 0 (zj kR)) nu ?_;exact oVq (qV (v:= .slice _ _ _) U39 rfl rfl (hb3.u.cell rfl)) rfl
   | 2,_,hoq=>
    cases sI hoq;exact oVq (zY U41 rfl rfl hb5.u.range0 gY) rfl
   | 3,_,hoq=>
    cases sI hoq;have hs0:=s7;refine zx 18 _ (hd 2 (zj kR)) nu ?_;refine vQ fn112 (IH _ (List.getElem_mem hja) Ax cx wx (hsx.mono hB.u)) rfl (fun e' w2 hr=>?_);obtain⟨⟨A19,c19,rfl,hz19⟩,s8⟩:=hr;exact⟨_,rfl,sB s8,⟨A19,c19,_,rfl,hz19.mono hs0.size (Nat.le_refl _) (Nat.le_refl _)⟩,xX⟩
   | 4,_,hoq=>
    cases sI hoq;have hs0:=s7;obtain⟨A19,c19,n19,e19,hz19⟩:=hd 3 (zj kR);refine zx 19 _ e19 nu ?_;refine jk (fun ops Q K=>?_);refine qw (cs:=#[_,_]) [(0,.agg _)] rfl U39 gY Jz dE dE kR rfl (fun b20 w8 hb20 s9 hr=>?_);exact K _ _ ⟨s9,⟨_,A19,c19,n19,rfl,nLT hs0.size hr,hb20,hz19.tr0 s9⟩,fRq hr hb20.lt⟩
   | _ + 5,hix,_=>exact absurd hix oM
  intro gg w9 s10 hR hdis;obtain⟨b20,A20,c20,n20,e20,lo20,hb20,hz20⟩:=hR 4 dE;replace hH:=hH.tr0 s10;have hnH:=hH.le;have hnz:=hz20.le;refine xK 17 _ (hR 1 dE) nu (xK 20 _ e20 nu ?_);replace ho3:=ho3.tr0 s10;refine vX U39 in41_ECl rfl dE ho3 hb20 rfl rfl rfl zQ dE oM oM hb3.u.lt (fun g21 cap21 w10 ho21 s11 hg=>?_);have ne_ho21_b1:g21≠b1:=neA ho3 hb1.u.lt hg
  have ne_ho21_b2:g21≠b2:=neA ho3 hb2.u.lt hg
  have ne_ho21_b3:g21≠b3:=neA ho3 hb3.u.lt hg
  have ne_ho21_b5:g21≠b5:=neB hb5.u.lt hg (neL or_ho3_b5)
  replace hB:=hB.u.tr s11 (fun g hg=>nLT (Nat.le_succ_of_le lo3) (ho3.lt g hg).1);replace hb1:=((hb1.tr0 s4).tr1 s5 oM).tr0 s10;replace hb1:=hb1.ta s11 ho3;replace hb2:=hb2.tr0 s10;replace hb2:=hb2.ta s11 ho3;replace hb3:=hb3.tr0 s10;replace hb3:=hb3.ta s11 ho3;replace hH:=hH.tr s11 (fun g hg=> .inr (.inl (by simp [hg])));replace hz20:=hz20.tr s11 (fun g hg=> .inl (zo g hg));refine zn1 ?_;refine xz (v:= .slice _ _ _) hb3 rfl rfl TX (by first | decide | simp) rfl rfl (fun w11 hq s12=>?_);replace hH:=hH.in1 s12 (by simp);replace hz20:=hz20.lo1 s12 z3;replace ho21:=ho21.tr1 s12 (neS ne_ho21_b3);replace hb3:=hq
  have hH2:=RowD.app (Y:=b2 :: b3 :: aL (some (⟨g21,0,none⟩:Addr))) hja rfl hH rfl (hz20.imp (fun _ h=>(⟨A20,c20,rfl,h⟩:smC _ _ _))) hsz (fun y hy=>by
    rcases List.mem_cons.1 hy with h | hy
    · exact .inl (by simp [h])
    rcases List.mem_cons.1 hy with h | hy
    · exact .inl (by simp [h])
    · cases List.mem_singleton.1 hy
      rcases hg with hg | hg
      · exact .inl (by simp [hg])
      · exact .inr (nLT hnH hg)) (fun y hy=>by
    rcases List.mem_cons.1 hy with h | hy
    · exact .inl (by rw [h];exact z2)
    rcases List.mem_cons.1 hy with h | hy
    · exact .inl (by rw [h];exact z3)
    · cases List.mem_singleton.1 hy
      rcases hg with hg | hg
      · exact .inl (zo g21 (by rw [hg];exact List.mem_singleton.2 rfl))
      · exact .inr (nLT hnz hg))
  refine zn7 ?_;refine xv (s.args.length - (j + 1)) oM agA ?_;exact⟨j + 1,_,_,_,_,by omega,rfl,rfl,hB.u,hb1.u,hb2.u,hb3,ho21,hH2⟩
 have hje:j=s.args.length:=by omega
 refine zn8 ?_;refine zk hb2 rfl rfl gY rfl zQ (fun w12 hq s13=>?_);replace ho3:=ho3.tq s13;replace hH:=hH.in1 s13 (by simp);replace hb2:=hq;refine zn3 ?_;refine x7 (.inl rfl) rfl (zy U41 rfl rfl hb2.range0 gY) ?_;replace hb3:=hb3.tr1 s13 oM;rw [hje] at ho3 hH hb3;rw [List.take_length] at hH;replace hB:=hB.tr1 s13 lo2;exact⟨⟨A3,c3,by rw [hje],F6 ho3 oM hH⟩,hB⟩
theorem Hk {s:Sm} (h:SmK s):∀ (A:Option Addr) (c:Nat) (w:World),SimsIn w A s.args→Calls Tryz.prog 112 #[.agg #[.string (s).base,.slice A (s).args.length c]] w fun e w'=>(∃ A' c',e= .returned (.agg #[.string (s).base,.slice A' (s).args.length c'])∧Hv w.heap.size [] w'.heap.size w' (fun w=>SimsIn w A' (s).args))∧Bel w w':=by
  induction h with
  | mk hl _ ih=>exact fun A c w hS=>R5 hl hS (fun x hx A c w h=>ih x hx A c w h)
end Go.Proofs.YtbcpgfnfiekbiaaGreatDoor
namespace Go.Proofs.YtbcpgfnfiekbiaaGreatDoor
open Go.RowKit
theorem fn80:zK Tryz.prog 80=true:=by kernel_rfl
theorem in44:(Tryz.prog.info? 44).map (fun i=>(i.zero,i.size,i.bytes))=some (some (.agg #[.int .i64 0,.string ⟨#[]⟩,.int .i64 0,.string ⟨#[]⟩,.slice none 0 0,.slice none 0 0]),6,96):=by kernel_rfl
theorem E7:(Tryz.prog.info? 42).map (·.size)=some 1:=by kernel_rfl
theorem qW:(Tryz.prog.info? 44).map (·.size)=some 6:=by kernel_rfl
theorem jJ:(Tryz.prog.info? 44).map (·.zero)=some (some (.agg #[.int .i64 0,.string ⟨#[]⟩,.int .i64 0,.string ⟨#[]⟩,.slice none 0 0,.slice none 0 0])):=by kernel_rfl
set_option maxRecDepth 100000 in
set_option maxHeartbeats 4000000 in
theorem Tk {t:Tm} {SA BA:Option Addr} {cs cb:Nat} {w:World} (hK:t.args.length≤1000) (hKs:SmK t.type) (hS:SimsIn w SA t.type.args) (hT:TmsIn w BA t.args) (IH:∀ x ∈ t.args,∀ (SA BA:Option Addr) (cs cb:Nat) (w:World),SimsIn w SA x.type.args→TmsIn w BA x.args→Calls Tryz.prog 80 #[.agg #[.int .i64 (x).kind,.string (x).name,.int .i64 (x).index,.string (x).type.base,.slice SA (x).type.args.length cs,.slice BA (x).args.length cb]] w fun e w'=>(∃ S' cs' B' cb',e= .returned (.agg #[.int .i64 (x).kind,.string (x).name,.int .i64 (x).index,.string (x).type.base,.slice S' (x).type.args.length cs',.slice B' (x).args.length cb'])∧Hv w.heap.size [] w'.heap.size w' (fun w=>SimsIn w S' (x).type.args∧TmsIn w B' (x).args))∧Bel w w'):Calls Tryz.prog 80 #[.agg #[.int .i64 (t).kind,.string (t).name,.int .i64 (t).index,.string (t).type.base,.slice SA (t).type.args.length cs,.slice BA (t).args.length cb]] w fun e w'=>(∃ S' cs' B' cb',e= .returned (.agg #[.int .i64 (t).kind,.string (t).name,.int .i64 (t).index,.string (t).type.base,.slice S' (t).type.args.length cs',.slice B' (t).args.length cb'])∧Hv w.heap.size [] w'.heap.size w' (fun w=>SimsIn w S' (t).type.args∧TmsIn w B' (t).args))∧Bel w w':=by
 refine enT Tryz.func80 Tryz.ntmps80 rfl rfl fun hB=>?_;refine zn2 ?_;refine x6 (v:= .agg #[_,_,_,_,_,_]) (cs:=#[_,_,_,_,_,_]) rfl rfl (fun b1 w1 hb1 t1 hr=>?_);refine qq (cs:=#[.int .i64 0,.string ⟨#[]⟩,.int .i64 0,.string ⟨#[]⟩,.slice none 0 0,.slice none 0 0]) jJ rfl (fun b2 w2 hb2 t2 hr=>?_);have lo2:=nLT (Bel.size hB.u) hr;refine zn5 ?_;refine xV (cs:=#[.int .i64 0,.string ⟨#[]⟩,.int .i64 0,.string ⟨#[]⟩,.slice none 0 0,.slice none 0 0]) jJ rfl (fun _=>rfl) (fun _=>rfl) qW rfl zQ (fun b3 w4 hb3 t3 hr=>?_);have:=nLL hb1.u.lt hr;have:=nLL hb2.lt hr;have lo3:=nLT (Bel.size hB.u) hr;refine zn5 ?_;refine wl (zY U41 rfl rfl (hb1.u.sub (n:=2) (xs:=[_,_]) rfl) gY) ?_;have z3:=hb3.lt;replace hb2:=hb2.tr0 t3;have z2:=hb2.lt;replace hB:=hB.tr0 (t1.trans (t2.trans t3));have hszv:=Bel.size hB;refine zV fn112 (Hk hKs SA cs _ (hS.mono hB)) rfl (fun e' w5 hr=>?_);obtain⟨⟨S9,c9,rfl,hZ⟩,t4⟩:=hr;replace t4:=sB t4;replace hZ:=(hZ.hole (Y:=[b2,b3]) (fun y hy=> .inr (.inl (by simp only [List.mem_cons,List.not_mem_nil,or_false] at hy;omega)))).mono hszv (Nat.le_refl _) hZ.le;obtain⟨n9,hn9⟩:∃ z,z=w5.heap.size:=⟨_,rfl⟩
 rw [← hn9] at hZ;replace hb3:=hb3.tr0 t4;have l9:b3 + 1≤n9:=by rw [hn9];exact hb3.lt
 clear hn9;refine⟨_,rfl,?_⟩;refine zn1 ?_;refine uK hb3 rfl rfl gY (by first | decide | simp) zQ rfl (fun w6 hq t5=>?_);replace hZ:=hZ.in1 t5 (by simp);replace hb3:=hq;replace hb3:Blk w6 b3 44 #[.int .i64 t.kind,.string t.name,.int .i64 t.index,.string t.type.base,.slice S9 t.type.args.length c9,.slice BA t.args.length cb]:=hb3;refine zn5 ?_;refine xz (v:= .slice _ _ _) hb3 rfl rfl E7 (by first | decide | simp) rfl rfl (fun w7 hq t6=>?_);replace hZ:=hZ.in1 t6 (by simp);replace hb3:=hq;replace hb3:Blk w7 b3 44 #[.int .i64 t.kind,.string t.name,.int .i64 t.index,.string t.type.base,.slice S9 t.type.args.length c9,.slice none 0 0]:=hb3;refine yZ ?_;refine zW (rg [5] 15 12) (fun m g w'=>∃ (j:Nat) (A3:Option Addr) (c3 n3:Nat) (vs:List Value),j≤t.args.length∧m=t.args.length - j∧g 15= .int .i64 j∧Bel w w'∧Blk w' b1 44 #[.int .i64 (t).kind,.string (t).name,.int .i64 (t).index,.string (t).type.base,.slice SA (t).type.args.length cs,.slice BA (t).args.length cb]∧Blk w' b2 44 #[.int .i64 0,.string ⟨#[]⟩,.int .i64 0,.string ⟨#[]⟩,.slice none 0 0,.slice none 0 0]∧Blk w' b3 44 #[.int .i64 t.kind,.string t.name,.int .i64 t.index,.string t.type.base,.slice S9 t.type.args.length c9,.slice A3 j c3]∧n9≤w'.heap.size∧Own w' n9 44 6 A3 j c3 vs∧Hv w.heap.size [b2,b3] n9 w' (fun w=>SimsIn w S9 t.type.args)∧Hv w.heap.size (b2 :: b3 :: aL A3) n3 w' (fun w=>RowD tmD 6 w (t.args.take j) vs)) (t.args.length) ?_ (fun m g5 w8 hI=>?_)
 ·exact⟨0,none,0,_,[],Nat.zero_le _,rfl,rfl,hB.u,hb1.u,hb2.u,hb3,hZ.le,Own.nil _ _ _ _,hZ,Hv.triv _ _ _ (fun w=> .nil)⟩
 obtain⟨j,A3,c3,n3,vs,hj,hmj,h15,hB,hb1,hb2,hb3,hz9,ho3,hZ,hH⟩:=hI;refine zZ 15 _ h15 nu (zn6 ?_);refine zX rfl (fun c16=>?_) (fun c16=>?_)
 ·have hja:j < t.args.length:=by omega
  obtain⟨sb,so,Sx,csx,Bx,cbx,rfl,hsb,hrx,hsx,htx⟩:=hT.at_ hja;refine zn8 ?_;refine qq (cs:=#[.int .i64 0,.string ⟨#[]⟩,.int .i64 0,.string ⟨#[]⟩,.slice none 0 0,.slice none 0 0]) jJ rfl (fun b5 w9 hb5 t7 hr=>?_);have:=nLL hb1.lt hr;have:=nLL hb2.lt hr;have:=nLL hb3.lt hr;have or_ho3_b5:=fun g hg=>nLL (ho3.lt g hg).2 hr
  have or_hZ_b5:=(nLT hZ.le hr)
  have or_hH_b5:=(nLT hH.le hr)
  have lo5:=nLT (Bel.size hB) hr;refine zk hb5 rfl rfl qW rfl zQ (fun w10 hq t8=>?_);replace ho3:=ho3.tr0 t7;replace ho3:=ho3.tr1 t8 (neL or_ho3_b5);replace hZ:=hZ.tr0 t7;replace hZ:=hZ.tr t8 (fun g hg=> .inr (.inr (by rw [List.mem_singleton.1 hg];exact or_hZ_b5)));replace hH:=hH.tr0 t7;replace hH:=hH.tr t8 (fun g hg=> .inr (.inr (by rw [List.mem_singleton.1 hg];exact or_hH_b5)));replace hb5:=hq;refine zJ (e_S ?_);have zo:=fun g hg=>(ho3.lt g hg).2
  replace hb3:=(hb3.tr0 t7).tr1 t8 oM;have z3:=hb3.lt;replace hb2:=(hb2.tr0 t7).tr1 t8 oM;have z2:=hb2.lt;replace hB:=(hB.tr0 t7).tr1 t8 lo5;have hsz:=Bel.size hB;refine kK 5 [19,20,21,22,23] (fun ix=>Nat.beq ix 4) (fun ix v wv=>match ix with | 0=>v= .pointer (some ⟨b3,5,none⟩) | 1=>v= .slice A3 j c3 | 2=>v= .agg #[.int .i64 ((t.args[j])).kind,.string ((t.args[j])).name,.int .i64 ((t.args[j])).index,.string ((t.args[j])).type.base,.slice Sx ((t.args[j])).type.args.length csx,.slice Bx ((t.args[j])).args.length cbx] | 3=>∃ S22 s22 B22 c22 n22,v= .agg #[.int .i64 ((t.args[j])).kind,.string ((t.args[j])).name,.int .i64 ((t.args[j])).index,.string ((t.args[j])).type.base,.slice S22 ((t.args[j])).type.args.length s22,.slice B22 ((t.args[j])).args.length c22]∧Hv w10.heap.size [] n22 wv (fun w=>SimsIn w S22 (t.args[j]).type.args∧TmsIn w B22 (t.args[j]).args) | 4=>∃ b S22 s22 B22 c22 n22,v= .slice (some ⟨b,0,none⟩) 1 1∧w10.heap.size≤b∧Blk wv b 44 #[.int .i64 ((t.args[j])).kind,.string ((t.args[j])).name,.int .i64 ((t.args[j])).index,.string ((t.args[j])).type.base,.slice S22 ((t.args[j])).type.args.length s22,.slice B22 ((t.args[j])).args.length c22]∧Hv w10.heap.size [] n22 wv (fun w=>SimsIn w S22 (t.args[j]).type.args∧TmsIn w B22 (t.args[j]).args) | _=>True) kR kR ?_ ?_ ?_
  ·intro ix v wv wv2 h t9
   match ix,h with
   | 0,h=>exact h
   | 1,h=>exact h
   | 2,h=>exact h
   | 3,h=>
    obtain⟨S22,s22,B22,c22,n22,e22,hz22⟩:=h;exact⟨S22,s22,B22,c22,n22,e22,hz22.tr0 t9⟩
   | 4,h=>
    obtain⟨b23,S23,s23,B23,c23,n23,e23,lo23,hb23,hz23⟩:=h;exact⟨b23,S23,s23,B23,c23,n23,e23,lo23,hb23.tr0 t9,hz23.tr0 t9⟩
   | _ + 5,h=>exact trivial
  ·intro ix o hix hoq gg wx t10 hd hdis
   match ix,hix,hoq with
   | 0,_,hoq=>
    cases sI hoq;exact oVq (X2 U44 E7 dE rfl rfl rfl) rfl
   | 1,_,hoq=>
    cases sI hoq;refine zx 19 _ (hd 0 (zj kR)) nu ?_;exact oVq (qV (v:= .slice _ _ _) U42 rfl rfl (hb3.u.cell rfl)) rfl
   | 2,_,hoq=>
    cases sI hoq;exact oVq (zY U44 rfl rfl hb5.u.range0 qW) rfl
   | 3,_,hoq=>
    cases sI hoq;have hs0:=t10;refine zx 21 _ (hd 2 (zj kR)) nu ?_;refine vQ fn80 (IH _ (List.getElem_mem hja) Sx Bx csx cbx wx (hsx.mono hB.u) (htx.mono hB.u)) rfl (fun e' w2 hr=>?_);obtain⟨⟨S22,s22,B22,c22,rfl,hz22⟩,t11⟩:=hr;exact⟨_,rfl,sB t11,⟨S22,s22,B22,c22,_,rfl,hz22.mono hs0.size (Nat.le_refl _) (Nat.le_refl _)⟩,xX⟩
   | 4,_,hoq=>
    cases sI hoq;have hs0:=t10;obtain⟨S22,s22,B22,c22,n22,e22,hz22⟩:=hd 3 (zj kR);refine zx 22 _ e22 nu ?_;refine jk (fun ops Q K=>?_);refine qw (cs:=#[_,_,_,_,_,_]) [(0,.agg _)] rfl U42 qW jJ dE dE kR rfl (fun b23 w11 hb23 t12 hr=>?_);exact K _ _ ⟨t12,⟨_,S22,s22,B22,c22,n22,rfl,nLT hs0.size hr,hb23,hz22.tr0 t12⟩,fRq hr hb23.lt⟩
   | _ + 5,hix,_=>exact absurd hix oM
  intro gg w12 t13 hR hdis;obtain⟨b23,S23,s23,B23,c23,n23,e23,lo23,hb23,hz23⟩:=hR 4 dE;replace hH:=hH.tr0 t13;have hnH:=hH.le;have hnz:=hz23.le;replace hZ:=hZ.tr0 t13;have hn9:=hZ.le;refine xK 20 _ (hR 1 dE) nu (xK 23 _ e23 nu ?_);replace ho3:=ho3.tr0 t13;refine vX U42 in44 rfl dE ho3 hb23 rfl rfl rfl zQ dE oM oM hn9 (fun g24 cap24 w13 ho24 t14 hg=>?_);have ne_ho24_b1:g24≠b1:=neA ho3 hb1.u.lt hg
  have ne_ho24_b2:g24≠b2:=neA ho3 hb2.u.lt hg
  have ne_ho24_b3:g24≠b3:=neA ho3 hb3.u.lt hg
  have ne_ho24_b5:g24≠b5:=neB hb5.u.lt hg (neL or_ho3_b5)
  replace hB:=hB.u.tr t14 (fun g hg=>nLT oM (ho3.lt g hg).1);replace hb1:=((hb1.tr0 t7).tr1 t8 oM).tr0 t13;replace hb1:=hb1.ta t14 ho3;replace hb2:=hb2.tr0 t13;replace hb2:=hb2.ta t14 ho3;replace hb3:=hb3.tr0 t13;replace hb3:=hb3.ta t14 ho3;replace hZ:=hZ.tr t14 (fun g hg=> .inr (.inr (ho3.lt g hg).1));replace hH:=hH.tr t14 (fun g hg=> .inr (.inl (by simp [hg])));replace hz23:=hz23.tr t14 (fun g hg=> .inl (zo g hg));refine zn1 ?_;refine xz (v:= .slice _ _ _) hb3 rfl rfl E7 (by first | decide | simp) rfl rfl (fun w14 hq t15=>?_);replace hZ:=hZ.in1 t15 (by simp);replace hH:=hH.in1 t15 (by simp);replace hz23:=hz23.lo1 t15 z3;replace ho24:=ho24.tr1 t15 (neS ne_ho24_b3);replace hb3:=hq
  have hH2:=RowD.app (Y:=b2 :: b3 :: aL (some (⟨g24,0,none⟩:Addr))) hja rfl hH rfl (hz23.imp (fun _ h=>(⟨S23,B23,s23,c23,rfl,h.1,h.2⟩:tmD _ _ _))) hsz (fun y hy=>by
    rcases List.mem_cons.1 hy with h | hy
    · exact .inl (by simp [h])
    rcases List.mem_cons.1 hy with h | hy
    · exact .inl (by simp [h])
    · cases List.mem_singleton.1 hy
      rcases hg with hg | hg
      · exact .inl (by simp [hg])
      · exact .inr (nLT hnH hg)) (fun y hy=>by
    rcases List.mem_cons.1 hy with h | hy
    · exact .inl (by rw [h];exact z2)
    rcases List.mem_cons.1 hy with h | hy
    · exact .inl (by rw [h];exact z3)
    · cases List.mem_singleton.1 hy
      rcases hg with hg | hg
      · exact .inl (zo g24 (by rw [hg];exact List.mem_singleton.2 rfl))
      · exact .inr (nLT hnz hg))
  refine zn7 ?_;refine xv (t.args.length - (j + 1)) oM agA ?_;exact⟨j + 1,_,_,_,_,by omega,rfl,rfl,hB.u,hb1.u,hb2.u,hb3,hZ.le,ho24,hZ,hH2⟩
 have hje:j=t.args.length:=by omega
 refine zn8 ?_;refine zk hb2 rfl rfl qW rfl zQ (fun w15 hq t16=>?_);replace ho3:=ho3.tq t16;replace hZ:=hZ.in1 t16 (by simp);replace hH:=hH.in1 t16 (by simp);replace hb2:=hq;refine zn3 ?_;refine x7 (.inl rfl) rfl (zy U44 rfl rfl hb2.range0 qW) ?_;replace hb3:=hb3.tr1 t16 oM;rw [hje] at ho3 hH hb3;rw [List.take_length] at hH;replace hB:=hB.tr1 t16 lo2;exact⟨⟨S9,c9,A3,c3,by rw [hje],hZ.nil.and (own_tms ho3 oM hH)⟩,hB⟩
theorem E2 {t:Tm} (h:TmK t):∀ (SA BA:Option Addr) (cs cb:Nat) (w:World),SimsIn w SA t.type.args→TmsIn w BA t.args→Calls Tryz.prog 80 #[.agg #[.int .i64 (t).kind,.string (t).name,.int .i64 (t).index,.string (t).type.base,.slice SA (t).type.args.length cs,.slice BA (t).args.length cb]] w fun e w'=>(∃ S' cs' B' cb',e= .returned (.agg #[.int .i64 (t).kind,.string (t).name,.int .i64 (t).index,.string (t).type.base,.slice S' (t).type.args.length cs',.slice B' (t).args.length cb'])∧Hv w.heap.size [] w'.heap.size w' (fun w=>SimsIn w S' (t).type.args∧TmsIn w B' (t).args))∧Bel w w':=by
  induction h with
  | mk hs hl _ ih=>exact fun SA BA cs cb w hS hT=>Tk hl hs hS hT (fun x hx SA BA cs cb w h1 h2=>ih x hx SA BA cs cb w h1 h2)
end Go.Proofs.YtbcpgfnfiekbiaaGreatDoor
namespace Go.Proofs.YtbcpgfnfiekbiaaGreatDoor
open Go.RowKit
theorem fcan_any (G:Option Addr) (cg:Nat) (l:List Ty) (fs:List Ft) (gr:List Nd) (w:World) (hG:NodesIn w G gr) (h0:(uq l fs gr).1=0):Calls Tryz.prog 79 #[.agg #[.slice G gr.length cg],.int .i64 0] w fun e w'=>(∃ A c,e= .returned (.agg #[.slice A (J8 l fs gr).length c])∧Hv w.heap.size [] w'.heap.size w' (fun w=>NodesIn w A (J8 l fs gr)))∧Bel w w':=by
  have hgv:=gv_of h0;refine(from_any G cg l.length fs.length gr 0 w hG hgv.gok (by have:=hgv.few;omega) hgv.gok.pos).mono fun e w' h=>?_
  obtain⟨⟨o,A,hD,_,he,hN⟩,hs⟩:=h;refine⟨⟨A,o.length,?_,?_⟩,hs⟩
  · rw [he,I6 h0 hD,oK]
  · rw [I6 h0 hD];exact Hv.fr hN
theorem fn79:zK Tryz.prog 79=true:=by kernel_rfl
end Go.Proofs.YtbcpgfnfiekbiaaGreatDoor
namespace Go.Proofs.YtbcpgfnfiekbiaaGreatDoor
open Go.RowKit
section monoi
variable {P:Program} {Q:Exit→Act→World→Prop} {n:Nw} {f:Fr} {w:World}
def FinAll (p:List Nat→Prop):List (List Nat)→Prop
  | []=>True
  | x :: r=>p x∧FinAll p r
theorem FinAll.get {p:List Nat→Prop}:∀ {xs:List (List Nat)},FinAll p xs→∀ x ∈ xs,p x
  | _ :: _,h,x,hx=>by
    rcases List.mem_cons.1 hx with rfl | hx
    · exact h.1
    · exact FinAll.get h.2 x hx
end monoi
def Kept (lo hi:Nat) (w:World) (p:World→Prop):Prop:=hi≤w.heap.size∧∀ w2:World,hi≤w2.heap.size→(∀ b,lo≤b→b < hi→w2.heap[b]? =w.heap[b]?)→p w2
theorem Kept.now {lo hi:Nat} {w:World} {p:World→Prop} (h:Kept lo hi w p):p w:=h.2 w h.1 (fun _ _ _=>rfl)
theorem Kept.tr {lo hi:Nat} {w w':World} {p:World→Prop} {X:List Nat} (h:Kept lo hi w p) (hs:Same X w w') (hx:∀ g ∈ X,g < lo∨hi≤g):Kept lo hi w' p:=
  ⟨nLT h.1 hs.size,fun w2 h2 hb=>h.2 w2 h2 (fun b h3 h4=>(hb b h3 h4).trans (hs.blk b (nLL h4 h.1) (fun hX=>by rcases hx b hX with h5 | h5 <;> omega)))⟩
theorem Kept.tr0 {lo hi:Nat} {w w':World} {p:World→Prop} (h:Kept lo hi w p) (hs:Same [] w w'):Kept lo hi w' p:=h.tr hs (by simp)
theorem Kept.tr1 {lo hi b:Nat} {w w':World} {p:World→Prop} (h:Kept lo hi w p) (hs:Same [b] w w') (hx:b < lo∨hi≤b):Kept lo hi w' p:=h.tr hs (fun g hg=>by rw [List.mem_singleton.1 hg];exact hx)
theorem Kept.imp {lo hi:Nat} {w:World} {p q:World→Prop} (h:Kept lo hi w p) (k:∀ w2,p w2→q w2):Kept lo hi w q:=⟨h.1,fun w2 h2 hb=>k w2 (h.2 w2 h2 hb)⟩
end Go.Proofs.YtbcpgfnfiekbiaaGreatDoor
namespace Go.Proofs.YtbcpgfnfiekbiaaGreatDoor
open Go.RowKit
theorem Z1 {A B:Option Addr} (n c:Nat) (h:A=B):Value.slice A n c=Value.slice B n c:=by rw [h]
theorem nb2 {w:World} {base k cap sz b2 b3:Nat} {e:TypeId} {A:Option Addr} {xs:List Value} (ho:Own w base e sz A k cap xs) (h:b2 < b3) (hl:b3 + 1≤base):∀ y ∈ [b2,b3],y ∉ aL A:=fun y hy hm=>by
  have:=(ho.lt y hm).1
  rcases List.mem_cons.1 hy with h2 | h2
  · omega
  · have:=List.mem_singleton.1 h2
    omega
theorem lt2 {b2 b3 n:Nat} (h2:b2 < n) (h3:b3 < n):∀ y ∈ [b2,b3],y < n:=fun y hy=>by
  rcases List.mem_cons.1 hy with h | h
  · omega
  · have:=List.mem_singleton.1 h
    omega
theorem in54:(Tryz.prog.info? 54).map (fun i=>(i.zero,i.size,i.bytes))=some (some (.agg #[.string ⟨#[]⟩,.slice none 0 0,.int .i64 0,.int .i64 0,.int .i64 0,.string ⟨#[]⟩,.int .i64 0,.string ⟨#[]⟩,.slice none 0 0,.slice none 0 0]),10,152):=by kernel_rfl
theorem yQ:(Tryz.prog.info? 54).map (·.size)=some 10:=by kernel_rfl
theorem oq:(Tryz.prog.info? 54).map (·.zero)=some (some (.agg #[.string ⟨#[]⟩,.slice none 0 0,.int .i64 0,.int .i64 0,.int .i64 0,.string ⟨#[]⟩,.int .i64 0,.string ⟨#[]⟩,.slice none 0 0,.slice none 0 0])):=by kernel_rfl
end Go.Proofs.YtbcpgfnfiekbiaaGreatDoor
namespace Go.Proofs.YtbcpgfnfiekbiaaGreatDoor
open Go.RowKit
theorem typedM {t:Tm} {v:Tv} {τ:Ts} (h:TyIs t v τ) (A B:Option Addr) (c m:Nat) (w:World) (hS:SimsIn w A t.type.args) (hT:TmsIn w B t.args):Calls Tryz.prog 77 #[.agg #[.int .i64 (t).kind,.string (t).name,.int .i64 (t).index,.string (t).type.base,.slice A (t).type.args.length c,.slice B (t).args.length m],.slice none 0 0] w fun e w'=>(∃ A' c',e= .returned (.tuple #[.agg #[.string τ.sm.base,.slice A' τ.sm.args.length c'],.bool true])∧SimsIn w' A' τ.sm.args)∧Bel w w':=by
  obtain⟨rfl,hok,hsz,hty⟩:=h;refine(PZ _ v (Nat.lt_succ_self _) [] A B none c m 0 w hS hT (CtxIn.nil w) (Nat.zero_le _) (by rw [List.length_nil];omega) hok).mono fun e w' h=>?_
  obtain⟨⟨s,A',n,c',rfl,h2⟩,hB⟩:=h;obtain⟨rfl,rfl,h3⟩:=h2 τ hty;exact⟨⟨A',c',by rw [hty];rfl,h3⟩,hB⟩
theorem RowD.imp {α:Type} {C D:World→α→List Value→Prop} {sz:Nat} {w w2:World} {l:List α} {vs:List Value} (h:RowD C sz w l vs) (hi:∀ x v,C w x v→D w2 x v):RowD D sz w2 l vs:=by
  induction h with
  | nil=>exact .nil
  | snoc _ hv hx ih=>exact .snoc ih hv (hi _ _ hx)
theorem R0 {w w2:World} (hw:Kw w w2) (s:Sm) (v:List Value) (h:smC w s v):smC w2 s v:=by
  obtain⟨A,c,e,h⟩:=h;exact⟨A,c,e,h.keep hw⟩
theorem Kw.of {w w2:World} (h:Bel w w2):Kw w w2:=⟨h.size,h.block⟩
theorem own_tys {w:World} {base k cap:Nat} {A:Option Addr} {l:List Sm} {vs:List Value} (ho:Own w base 41 2 A k cap vs) (hd:RowD smC 2 w l vs):SimsIn w A l:=
  (F6 ho (Nat.zero_le _) (Hv.old (w:=w) (w1:=w) (X:=[]) (fun w2 hw=>hd.imp (fun x v=>R0 hw x v)) (Below.refl _ _) (fun y hy=>by cases hy))).now
theorem arg_step {k:Nat} {a r:Ts} {L:List Ts} {o:Option (List Ts)} (h:o=(Q7 (k + 1) (.f a r)).map (L ++ ·)):o=(Q7 k r).map ((L ++ [a]) ++ ·):=by
  rw [h,Q7];cases Q7 k r with
  | none=>rfl
  | some M=>simp
theorem own_some {w:World} {base k cap:Nat} {A:Option Addr} {e sz:Nat} {vs:List Value} (ho:Own w base e sz A k cap vs) (hk:0 < k) (hz:0 < sz):∃ g,A=some ⟨g,0,none⟩:=by
  have hl:=ho.len;obtain⟨g,e,_⟩:=ho.cell (by rintro rfl;rw [List.length_nil] at hl;have:=Nat.mul_pos hk hz;omega);exact⟨g,e⟩
set_option maxRecDepth 100000 in
set_option maxHeartbeats 2000000 in
theorem VJ (r:Rl) {v:Tv} {τ:Ts} (G SA BA:Option Addr) (cg cs cb:Nat) (w:World) (hm:TyIs r.mean v τ) (hk:1≤r.kids∧r.kids≤3) (hS:SimsIn w SA r.mean.type.args) (hT:TmsIn w BA r.mean.args):Calls Tryz.prog 75 #[.agg #[.string (r).name,.slice G (r).gr.length cg,.int .i64 (r).kids,.int .i64 (r).wt,.int .i64 ((r).mean).kind,.string ((r).mean).name,.int .i64 ((r).mean).index,.string ((r).mean).type.base,.slice SA ((r).mean).type.args.length cs,.slice BA ((r).mean).args.length cb]] w fun e w'=>(∃ (A:Option Addr) (n c:Nat),e= .returned (.slice A n c)∧(Q7 r.kids.toNat τ=none→A=none∧n=0∧c=0)∧∀ L,Q7 r.kids.toNat τ=some L→n=L.length∧(∃ g,A=some ⟨g,0,none⟩)∧SimsIn w' A (L.map Ts.sm))∧Bel w w':=by
 refine enT Tryz.func75 Tryz.ntmps75 rfl rfl fun hB=>?_;refine zn2 ?_;refine x6 (v:= .agg #[_,_,_,_,_,_,_,_,_,_]) (cs:=#[_,_,_,_,_,_,_,_,_,_]) rfl rfl (fun b1 w1 hb1 s1 hr=>?_);refine zn6 ?_;refine wl (zY U44 rfl rfl (hb1.sub (n:=6) (xs:=[_,_,_,_,_,_]) rfl) qW) ?_;refine zV fn77 (typedM hm SA BA cs cb _ (hS.mono hB.u) (hT.mono hB.u)) rfl (fun e' w2 hr=>?_);obtain⟨⟨As,cs3,rfl,hSs⟩,s2⟩:=hr;replace s2:=sB s2;obtain⟨wT,hwT⟩:∃ z,z=w2:=⟨_,rfl⟩
 have hBT:Bel wT w2:=by rw [hwT];exact Below.refl _ _
 rw [← hwT] at hSs;clear hwT;refine⟨_,rfl,?_⟩;refine wmT rfl (wl (j5 (v:= .agg _) rfl rfl) (wl (j5 (v:= .bool _) rfl rfl) ?_));refine xV (cs:=#[.string ⟨#[]⟩,.slice none 0 0]) ov rfl (fun _=>rfl) (fun _=>rfl) x9 rfl zQ (fun b3 w4 hb3 s3 hr=>?_);have:=nLL hb1.u.lt hr;have lo3:=nLT (Bel.size hB.u) hr;have lo_hBT_b3:=nLT (Bel.size hBT) hr;refine yv ?_;obtain⟨nA,hnA⟩:∃ z,z=w4.heap.size:=⟨_,rfl⟩
 replace hB:=hB.tr0 (s1.trans (s2.trans s3));have lT:w.heap.size≤nA:=by rw [hnA];exact Bel.size hB
 replace hBT:=hBT.tr0 s3;have lT2:wT.heap.size≤nA:=by rw [hnA];exact Bel.size hBT
 have lA:b3 < nA:=by rw [hnA];exact hb3.lt
 have hzN:nA≤w4.heap.size:=by rw [hnA];exact Nat.le_refl _
 clear hnA;refine zn7 ?_;refine zW (rg [2,5] 14 18) (fun m g w'=>∃ (j:Nat) (ρ:Ts) (As:Option Addr) (cs3:Nat) (A5:Option Addr) (c5:Nat) (vs:List Value) (L:List Ts),j≤r.kids.toNat∧m=r.kids.toNat - j∧g 14= .int .i64 j∧g 5= .slice A5 j c5∧Bel w w'∧Bel wT w'∧Blk w' b1 54 #[.string (r).name,.slice G (r).gr.length cg,.int .i64 (r).kids,.int .i64 (r).wt,.int .i64 ((r).mean).kind,.string ((r).mean).name,.int .i64 ((r).mean).index,.string ((r).mean).type.base,.slice SA ((r).mean).type.args.length cs,.slice BA ((r).mean).args.length cb]∧Blk w' b3 41 #[.string ρ.sm.base,.slice As ρ.sm.args.length cs3]∧SimsIn wT As ρ.sm.args∧nA≤w'.heap.size∧Own w' nA 41 2 A5 j c5 vs∧RowD smC 2 wT (L.map Ts.sm) vs∧L.length=j∧Q7 r.kids.toNat τ=(Q7 (r.kids.toNat - j) ρ).map (L ++ ·)) (r.kids.toNat) ?_ (fun m g4 w5 hI=>?_)
 ·replace hb1:=hb1.tr0 (s2.trans s3);exact⟨0,τ,As,cs3,none,0,[],[],Nat.zero_le _,rfl,rfl,rfl,hB,hBT,hb1,hb3,hSs,hzN,Own.nil _ _ _ _,.nil,rfl,by cases Q7 r.kids.toNat τ <;> rfl⟩
 obtain⟨j,ρ,As,cs3,A5,c5,vs,L,hj,hmj,h14,h5,hB,hBT,hb1,hb3,hSs,hzN,ho5,hrow,hLl,hargs⟩:=hI;refine zZ 14 _ h14 nu (zZ 5 _ h5 nu (zn6 ?_));refine zX rfl (fun c15=>?_) (fun c15=>?_)
 ·have hjk:j < r.kids.toNat:=by omega
  refine ky ?_;refine zX rfl (fun c19=>?_) (fun c19=>?_)
  ·have hn:Q7 r.kids.toNat τ=none:=by
     rw [hargs,show r.kids.toNat - j=(r.kids.toNat - (j + 1)) + 1 by omega];cases ρ with
     | b t=>rfl
     | f x y=>exact absurd rfl c19
   refine ky ?_;exact⟨⟨none,0,0,rfl,fun _=>⟨rfl,rfl,rfl⟩,fun L h=>by rw [hn] at h;cases h⟩,hB⟩
  obtain⟨ρ1,ρ2,rfl⟩:∃ x y,ρ= .f x y:=by
    cases ρ with
    | b t=>exact absurd (show ¬((0:Int)≠2) from c19) dE
    | f x y=>exact⟨x,y,rfl⟩
  obtain⟨sb,so,Ax1,cx1,hse,hsb,hrx1,hsx1⟩:=hSs.at_ (k:=0) (show 0 < 2 by decide);obtain⟨sb2,so2,Ax2,cx2,hse2,_,hrx2,hsx2⟩:=hSs.at_ (k:=1) (show 1 < 2 by decide);obtain⟨rfl,rfl⟩:sb=sb2∧so=so2:=by
    have h:=hse.symm.trans hse2;cases h;exact⟨rfl,rfl⟩
  refine zn7 ?_;refine wl (xk (i:=0) U39 x9 (show ev _ _ _=_ from Z1 _ _ hse) rfl (show 0 < 2 by decide) rfl) (wl (zY U41 rfl rfl (hBT.range hsb hrx1) x9) ?_);refine qw (cs:=#[_,_]) [(0,.agg _)] rfl U39 x9 ov dE dE kR rfl (fun b25 w6 hb25 s4 hr=>?_);have:=nLL hb1.lt hr;have:=nLL hb3.lt hr;have or_ho5_b25:=fun g hg=>nLL (ho5.lt g hg).2 hr
  replace hzN:=nLT hzN s4.size;replace ho5:=ho5.tr0 s4;refine vX U39 in41 rfl dE ho5 hb25 rfl rfl rfl zQ dE oM oM hzN (fun g26 cap26 w7 ho26 s5 hg=>?_);have ne_ho26_b1:g26≠b1:=neA ho5 hb1.u.lt hg
  have ne_ho26_b3:g26≠b3:=neA ho5 hb3.u.lt hg
  replace hB:=hB.u.tr s5 (fun g hg=>nLT oM (ho5.lt g hg).1);replace hb1:=hb1.tr0 s4;replace hb1:=hb1.ta s5 ho5;replace hBT:=hBT.u.tr s5 (fun g hg=>nLT oM (ho5.lt g hg).1);replace hb3:=hb3.tr0 s4;replace hb3:=hb3.ta s5 ho5;replace hzN:=nLT hzN s5.size;refine zn6 ?_;refine wl (xk (i:=1) U39 x9 (show ev _ _ _=_ from Z1 _ _ hse) rfl (show 1 < 2 by decide) rfl) (wl (zY U41 rfl rfl (hBT.range hsb hrx2) x9) ?_);refine zk hb3 rfl rfl x9 rfl zQ (fun w8 hq s6=>?_);replace hzN:=nLT hzN s6.size;replace ho26:=ho26.tr1 s6 (neS ne_ho26_b3);replace hb3:=hq;refine zn7 ?_;refine xv (r.kids.toNat - (j + 1)) oM agA ?_;replace hB:=hB.tr1 s6 lo3;replace hb1:=hb1.tr1 s6 oM;replace hBT:=hBT.tr1 s6 lo_hBT_b3;exact⟨j + 1,ρ2,_,_,_,_,_,L ++ [ρ1],by omega,rfl,rfl,rfl,hB,hBT,hb1,hb3,hsx2,hzN,ho26,by rw [List.map_append];exact hrow.snoc rfl ⟨_,_,rfl,hsx1⟩,by rw [List.length_append,hLl];rfl,arg_step (by rw [← Nat.sub_sub,Nat.sub_add_cancel oM];exact hargs)⟩
 have hje:j=r.kids.toNat:=by omega
 refine ky ?_;subst hje;rw [Nat.sub_self] at hargs;have hL:Q7 r.kids.toNat τ=some L:=by rw [hargs];simp [Q7]
 obtain⟨g,rfl⟩:=own_some ho5 oM dE
 exact⟨⟨_,_,_,rfl,(fun h=>by rw [hL] at h;cases h),fun L2 h=>by
   obtain rfl:=Option.some.inj (hL.symm.trans h)
   exact⟨hLl.symm,⟨g,rfl⟩,own_tys ho5 (hrow.imp (fun x v=>R0 (Kw.of hBT) x v))⟩⟩,hB⟩
end Go.Proofs.YtbcpgfnfiekbiaaGreatDoor
namespace Go.Proofs.YtbcpgfnfiekbiaaGreatDoor
open Go.RowKit
section rules
variable {P:Program} {n:Nw} {f:Fr} {w:World} {ty t':TypeId} {pos:String} {af:Array Edge} {x y:Operand} {t e:TypeId} {dst:Option Tmp} {gd:Option (Nat×Bool)}
theorem run_neP (w:World) {A:Option Addr} (h:P.underlying t=some (.pointer e)):(binOp .neq t (.pointer A) (.pointer none)).run P w= .ok (.bool A.isSome) w:=by
  have h1:∀ d,(Op.equalIn (d + 1) t (.pointer A) (.pointer none)).run P w= .ok A.isNone w:=fun d=>by
    cases A <;> simp [Op.equalIn,run_underlying h]
  simp only [binOp];cases A <;> simp [Op.equal,Op.maxDepth,h1 9999]
theorem r_neP {A:Option Addr} (hu:P.underlying t=some (.pointer e)) (hx:ev n f x= .pointer A) (hy:ev n f y= .pointer none):RV P n f w ⟨dst,.binOp .neq t x y t',ty,pos,af,gd⟩ (.bool A.isSome) w:=by
  simp [RV,execOp,hx,hy,eqGuard,run_neP w hu]
end rules
end Go.Proofs.YtbcpgfnfiekbiaaGreatDoor
