/- What these functions of the program compute, at every world: glosswright/glosswrightref1.TypeOf. What these functions of the program compute, at every world: glosswright/term.Validate. What these functions of the program compute, at every world: cmp.isNaN[int], cmp.Compare[int], glosswright/graph.Target$1, slices.BinarySearchFunc[[]glosswright/api.Link,glosswright/api.Link,int]. What these functions of the program compute, at every world: glosswright/graph.Target, glosswright/glosswrightref3.Target. What these functions of the program compute, at every world: glosswright/lexrule.Places, glosswright/lexrule.Entry, glosswright/grammar.Rule, glosswright/grammar.fault. What these functions of the program compute, at every world: glosswright/grammar.Validate. What these functions of the program compute, at every world: glosswright/optional.fault, glosswright/optional.ready. -/
import Derived.Test.YtbcpgfnfiekbiaaGreatDoorU
import Derived.Test.YtbcpgfnfiekbiaaGreatDoorTrm
import Derived.Test.YtbcpgfnfiekbiaaGreatDoorNBd
import Derived.Test.YtbcpgfnfiekbiaaGreatDoorEng7
import Derived.Test.YtbcpgfnfiekbiaaGreatDoorOpr
import Derived.Test.YtbcpgfnfiekbiaaGreatDoorGrm
import Derived.Test.YtbcpgfnfiekbiaaGreatDoorEng4
namespace Go.Proofs.YtbcpgfnfiekbiaaGreatDoor
open Go.RowKit
theorem fn49:zK Tryz.prog 49=true:=by kernel_rfl
theorem fn90:zK Tryz.prog 90=true:=by kernel_rfl
theorem fn91:zK Tryz.prog 91=true:=by kernel_rfl
set_option maxRecDepth 100000 in
set_option maxHeartbeats 8000000 in
theorem E1 (tv:Tv) (A B:Option Addr) (c m:Nat) (w0 w:World) (hB0:Bel w0 w) (hS:SimsIn w0 A tv.tm.type.args) (hT:TmsIn w0 B tv.tm.args) (hv2:tv.size≤200) (hok:tv.ok 0):Calls Tryz.prog 47 #[.agg #[.int .i64 (Tv.tm tv).kind,.string (Tv.tm tv).name,.int .i64 (Tv.tm tv).index,.string (Tv.tm tv).type.base,.slice A (Tv.tm tv).type.args.length c,.slice B (Tv.tm tv).args.length m]] w fun e w'=>(∃ (s:ByteArray) (A':Option Addr) (n c':Nat),e= .returned (.tuple #[.agg #[.string s,.slice A' n c'],.bool (tyv [] tv).isSome])∧∀ τ,tyv [] tv=some τ→s=τ.sm.base∧n=τ.sm.args.length∧TyS (nwX w0 w []) w' A' τ)∧Bel w w':=by
 refine enT Tryz.func47 Tryz.ntmps47 rfl rfl fun hB=>?_;refine zn2 ?_;refine x6 (v:= .agg #[_,_,_,_,_,_]) (cs:=#[_,_,_,_,_,_]) rfl rfl (fun b1 w1 hb1 s1 hr=>?_);clear hr;refine qq (cs:=#[.string ⟨#[]⟩,.slice none 0 0]) ov rfl (fun b2 w2 hb2 s2 hr=>?_);have:=nLL hb1.lt hr;have lo2:=nLT (Bel.size hB.u) hr;clear hr;refine zn6 ?_;refine zV fn89 (rows0_any tv A B c m w0 hS hT oM _ (hB0.then hB.u)) rfl (fun e' w3 hr=>?_);obtain⟨⟨q,cap4,zs,rfl,ho4,hR4⟩,s3⟩:=hr;replace s3:=sB s3;obtain⟨wr,hwr⟩:∃ z,z=w3:=⟨_,rfl⟩
 have hBr:Bel wr w3:=by rw [hwr];exact Below.refl _ _
 have hrd:RdT w0 wr q (rws (-1) 0 tv):=by rw [hwr];exact rdt_of ho4 hR4
 have hql:q < wr.heap.size:=by rw [hwr];exact(ho4.lt q (List.mem_singleton.2 rfl)).2
 have hlr:(rws (-1) 0 tv).length=tv.size:=X9 _ _ _;have hvp:=tv.pos;have hnd:XV (rws (-1) 0 tv) 0 [] tv:=CY (fun j h=>by rw [Nat.zero_add];exact List.getElem?_eq_getElem h) .nil dE;refine⟨_,rfl,?_⟩;refine zn7 ?_;refine Gj (m:=tv.size) U39 in41 rfl rfl oM oM (fun b14 w4 hb14 s4 hr=>?_);have:=nLL hb1.u.lt hr;have:=nLL hb2.u.lt hr;have lo14:=nLT (Bel.size hB.u) hr;have lo_hBr_b14:=nLT (Bel.size hBr) hr;clear hr;refine zn5 ?_;have hS14:¬nwX w0 w [b2,b14] b14:=nwX.no (by simp) hB0 lo14;have hS2:¬nwX w0 w [b2,b14] b2:=nwX.no (by simp) hB0 lo2;refine zn3 ?_;refine wl (j8 (c:=((tv.size:Nat):Int) - 1) rfl rfl rfl oM) (zn4 ?_);refine zW (rg [3,6,7,8,9] 18 86) (fun mm g w'=>∃ (i:Nat) (z:Int) (F H:Nat→Value),i≤tv.size∧mm=i∧z + 1=i∧g 6= .int .i64 z∧Bel w w'∧Bel wr w'∧Blk w' b2 41 #[.string ⟨#[]⟩,.slice none 0 0]∧Blk w' b14 41 (uv tv.size F H)∧TI (nwX w0 w [b2,b14]) (rws (-1) 0 tv) tv.size i F H w') (tv.size) ?_ (fun m g4 w5 hI=>?_)
 ·replace hB:=hB.tr0 (s1.trans (s2.trans (s3.trans s4)));replace hb2:=hb2.tr0 (s3.trans s4);replace hBr:=hBr.tr0 s4;exact⟨tv.size,_,_,_,Nat.le_refl _,rfl,by omega,rfl,hB,hBr,hb2,(by rw [← D5];exact hb14),TI.start _ _ _ _⟩
 obtain⟨i,z,F,H,hi,hmi,hzi,h6,hB,hBr,hb2,hb14,hTI⟩:=hI;have hBk:Bel w5 w5:=Below.refl _ _;refine zZ 6 _ h6 nu (zn7 ?_);refine zX rfl (fun c19=>?_) (fun c19=>?_)
 ·obtain⟨p,rfl⟩:∃ p:Nat,z=p:=⟨z.toNat,by omega⟩
  obtain rfl:i=p + 1:=by omega
  have hpn:p < tv.size:=by omega
  have hpl:p < (nds [] tv).length:=by rw [KK];exact hpn
  obtain⟨hnp,hokp,hGp,hszp,hsome⟩:=N7 hnd hok (by simp) p hpl;rw [Nat.zero_add] at hnp;have hcx:=N6 tv [] p hpl;rw [List.length_nil] at hcx
  generalize (nds [] tv)[p].1=Γp at hnp hokp hGp hsome hcx
  generalize (nds [] tv)[p].2=vp at hnp hokp hszp hsome hcx
  obtain⟨r,hr,hkk⟩:=nd_row hnp;obtain⟨A7,c7,K7,ck7,hrr,hrt2,hrs,hrk⟩:=hrd p r hr;refine zn8 ?_;refine wl (xk (i:=p) U150 TV rfl rfl hpn rfl) (wl (zY M9 rfl rfl (hBr.range hql hrr) TV) ?_);refine xV (cs:=#[.int .i64 0,.string ⟨#[]⟩,.string ⟨#[]⟩,.slice none 0 0,.int .i64 0,.slice none 0 0,.int .i64 0]) ze153 rfl (fun _=>rfl) (fun _=>rfl) TV rfl zQ (fun b7 w7 hb7 s5 hr=>?_);have:=nLL hb2.lt hr;have:=nLL hb14.lt hr;clear hr;refine QJ ?_;refine zX rfl (fun c28=>?_) (fun c28=>?_)
  ·obtain⟨nm,τ,rfl,hrt⟩:=nd_con hnp hr c28;rw [hrt] at hrs;have hZ:SameQ [b14] w7 w7:=Same.refl _ _;replace hBk:=hBk.tr0 s5;have hTI2:=hTI.mono hBk;replace hb14:=hb14.tr0 s5;have hb14z:=hb14;replace hB:=hB.tr0 s5;have hBz:=hB;have hBkz:=hBk;refine zn4 ?_;refine wl (zY U41 rfl rfl (hb7.sub (n:=2) (xs:=[_,_]) rfl) x9) (wl (xk (i:=p) U39 x9 rfl rfl hpn rfl) ?_);refine uK hb14 rfl rfl x9 (by rw [gQ];show 0 + p * 2 + 2≤tv.size * 2;omega) zQ Kk (fun w8 hq s6=>?_);replace hZ:=SameQ.trans hZ s6 (by simp);replace hb14:=hq;rw [hrt] at hb14;have hTI3:=hTI2.put (c:=c7) hS14 hZ (TyAt.con hr c28 hrt) (TyS.old hrs (hB0.then hBz) (fun _ h=> .inl h));refine zn6 ?_;refine wl (j8 rfl rfl rfl oM) (zn2 ?_);refine xv (p) oM agA ?_;exact⟨p,_,_,_,by omega,rfl,by omega,rfl,hB.u,hBr.u,hb2.u,hb14,hTI3⟩
  refine zn6 ?_;refine zX rfl (fun c35=>?_) (fun c35=>?_)
  ·obtain⟨i2,rfl,hri,hup,hch⟩:=nd_var hnp hr c35;have hti:=List.getElem?_eq_getElem hokp;have hZ:SameQ [b14] w7 w7:=Same.refl _ _;replace hBk:=hBk.tr0 s5;have hTI2:=hTI.mono hBk;replace hb14:=hb14.tr0 s5;have hb14z:=hb14;replace hB:=hB.tr0 s5;have hBz:=hB;have hBkz:=hBk;refine zn6 ?_;replace hBr:=hBr.tr0 s5;refine zV fn90 (G3 hrd hlr hBr hql hr hri hup hch hti (by have:i2 < Γp.length:=hokp;omega)) rfl (fun e' w9 hr=>?_);obtain⟨⟨u,ru,rfl,hru,hrut⟩,s7⟩:=hr;replace s7:=sB s7;replace hZ:=SameQ.trans hZ s7 (by simp);obtain⟨A8,c8,K8,ck8,_,hr2,hs8,_⟩:=hrd u ru hru;rw [hrut] at hr2 hs8;refine⟨_,rfl,?_⟩;refine wl (xk (i:=u) U150 TV rfl rfl (by have h:=(List.getElem?_eq_some_iff.1 hru).1;rw [hlr] at h;exact h) rfl) ?_;refine zn1 ?_;refine wl (zY U41 rfl rfl (hBr.u.range hql hr2) x9) (wl (xk (i:=p) U39 x9 rfl rfl hpn rfl) ?_);replace hb14:=hb14.tr0 s7;refine uK hb14 rfl rfl x9 (by rw [gQ];show 0 + p * 2 + 2≤tv.size * 2;omega) zQ Kk (fun w10 hq s8=>?_);replace hZ:=SameQ.trans hZ s8 (by simp);replace hb14:=hq;have hTI3:=hTI2.put (c:=c8) hS14 hZ (TyAt.var hr c35 hri hch hti) (TyS.old hs8 (hB0.then hBz) (fun _ h=> .inl h));refine zn6 ?_;refine wl (j8 rfl rfl rfl oM) (zn2 ?_);refine xv (p) oM agA ?_;exact⟨p,_,_,_,by omega,rfl,by omega,rfl,hB.u,hBr.u,hb2.u,hb14,hTI3⟩
  refine zn6 ?_;refine zX rfl (fun c47=>?_) (fun c47=>?_)
  ·obtain⟨τ,x,rfl,hrt,hrk2,hnx⟩:=nd_abs hnp hr c47;have hp1:p + 1 < tv.size:=by have:=nd_lt hnx;rw [hlr] at this;exact this
   obtain⟨ρ,Aρ,cρ,hρ,hF1,hH1,hSρ⟩:=hTI.t (p + 1) (Nat.le_refl _) hp1;have hk0l:0 < r.kids.length:=by rw [hrk2];exact Nat.zero_lt_succ _
   obtain⟨kg,rfl,hkg,hk0⟩:=hrk 0 hk0l;have e0:r.kids[0]'hk0l=((p + 1:Nat):Int):=by simp [hrk2]
   rw [e0] at hk0;replace hb14:=hb14.tr0 s5;have lt14:=hb14.lt;replace hb2:=hb2.tr0 s5;have lt2:=hb2.lt;replace hB:=hB.tr0 s5;have szw:=Bel.size hB;refine kK 13 (rg [] 49 13) (fun _=>false) (fun ix v wv=>match ix with | 0=>v= .slice (some ⟨b14,0,none⟩) tv.size tv.size | 1=>v= .int .i64 ((p:Nat):Int) | 2=>v= .pointer (some ⟨b7,0 + 2,none⟩) | 3=>v= .agg #[.string r.typ.base,.slice A7 r.typ.args.length c7] | 4=>v= .slice (some ⟨b14,0,none⟩) tv.size tv.size | 5=>v= .pointer (some ⟨b7,0 + 5,none⟩) | 6=>v= .slice (some ⟨kg,0,none⟩) r.kids.length ck7 | 7=>v= .pointer (some ⟨kg,0 + 0 * 1,none⟩) | 8=>v= .int .i64 ((p + 1:Nat):Int) | 9=>v= .pointer (some ⟨b14,0 + (p + 1) * 2,none⟩) | 10=>v= .agg #[.string ρ.sm.base,.slice Aρ ρ.sm.args.length cρ] | 11=>∃ b,v= .agg #[.string ⟨#[]⟩,.slice (some ⟨b,0,none⟩) 2 2]∧w7.heap.size≤b∧Blk wv b 41 #[.string r.typ.base,.slice A7 r.typ.args.length c7,.string ρ.sm.base,.slice Aρ ρ.sm.args.length cρ] | 12=>v= .pointer (some ⟨b14,0 + p * 2,none⟩) | _=>True) kR kR ?_ ?_ ?_
   ·intro ix v wv wv2 h s9
    match ix,h with
    | 0,h=>exact h
    | 1,h=>exact h
    | 2,h=>exact h
    | 3,h=>exact h
    | 4,h=>exact h
    | 5,h=>exact h
    | 6,h=>exact h
    | 7,h=>exact h
    | 8,h=>exact h
    | 9,h=>exact h
    | 10,h=>exact h
    | 11,h=>
     obtain⟨b60,e60,lw60,hb60⟩:=h;exact⟨b60,e60,lw60,hb60.tr0 s9⟩
    | 12,h=>exact h
    | _ + 13,h=>exact trivial
   ·intro ix o hix hoq gg wx s10 hd hdis
    match ix,hix,hoq with
    | 0,_,hoq=>
     cases sI hoq;exact oVq (yq (v:= .slice _ _ _) rfl) rfl
    | 1,_,hoq=>
     cases sI hoq;exact oVq (yq (v:= .int _ _) rfl) rfl
    | 2,_,hoq=>
     cases sI hoq;exact oVq (X2 M9 x9 dE rfl rfl rfl) rfl
    | 3,_,hoq=>
     cases sI hoq;refine zx 51 _ (hd 2 (zj kR)) nu ?_;exact oVq (zY U41 rfl rfl (hb7.u.sub (n:=2) (xs:=[_,_]) rfl) x9) rfl
    | 4,_,hoq=>
     cases sI hoq;exact oVq (yq (v:= .slice _ _ _) rfl) rfl
    | 5,_,hoq=>
     cases sI hoq;exact oVq (X2 M9 Jy dE rfl rfl rfl) rfl
    | 6,_,hoq=>
     cases sI hoq;refine zx 54 _ (hd 5 (zj kR)) nu ?_;exact oVq (qV (v:= .slice _ _ _) U66 rfl rfl (hb7.u.cell rfl)) rfl
    | 7,_,hoq=>
     cases sI hoq;refine zx 55 _ (hd 6 (zj kR)) nu ?_;exact oVq (xk (i:=0) U66 qX rfl rfl hk0l rfl) rfl
    | 8,_,hoq=>
     cases sI hoq;refine zx 56 _ (hd 7 (zj kR)) nu ?_;exact oVq (qV (v:= .int _ _) U3 rfl rfl (hBr.u.cell hkg hk0)) rfl
    | 9,_,hoq=>
     cases sI hoq;refine zx 53 _ (hd 4 (zj kR)) nu (zx 57 _ (hd 8 (zj kR)) nu ?_);exact oVq (xk (i:=(p + 1)) U39 x9 rfl rfl hp1 rfl) rfl
    | 10,_,hoq=>
     cases sI hoq;refine zx 58 _ (hd 9 (zj kR)) nu ?_;exact oVq (zY U41 rfl rfl (Kv hb14.u hp1 hF1 hH1) x9) rfl
    | 11,_,hoq=>
     cases sI hoq;have hs0:=s10;refine zx 52 _ (hd 3 (zj kR)) nu (zx 59 _ (hd 10 (zj kR)) nu ?_);refine vQ fn91 (to_any A7 Aρ c7 cρ r.typ ρ.sm wx) rfl (fun e' w2 hr=>?_);obtain⟨⟨b60,rfl,lw60,hb60⟩,s11⟩:=hr;exact⟨_,rfl,sB s11,⟨_,rfl,nLT hs0.size lw60,hb60⟩,xX⟩
    | 12,_,hoq=>
     cases sI hoq;refine zx 49 _ (hd 0 (zj kR)) nu (zx 50 _ (hd 1 (zj kR)) nu ?_);exact oVq (xk (i:=p) U39 x9 rfl rfl hpn rfl) rfl
    | _ + 13,hix,_=>exact absurd hix oM
   intro gg w11 s12 hR hdis;obtain⟨b60,e60,lw60,hb60⟩:=hR 11 dE;have hZ:SameQ [b14] w11 w11:=Same.refl _ _;replace hBk:=hBk.tr0 (s5.trans s12);have hTI2:=hTI.mono hBk;replace hb14:=hb14.tr0 s12;have hb14z:=hb14;replace hB:=hB.tr0 s12;have hBz:=hB;have hBkz:=hBk;have hn60:nwX w0 w [b2,b14] b60:=nwX.yes (nLT szw lw60) oM oM;rw [hrt] at hb60;refine xK 60 _ e60 nu (xK 61 _ (hR 12 dE) nu ?_);refine uK hb14 rfl rfl x9 (by rw [gQ];show 0 + p * 2 + 2≤tv.size * 2;omega) zQ Kk (fun w12 hq s13=>?_);replace hZ:=SameQ.trans hZ s13 (by simp);replace hb14:=hq;have hTI3:=hTI2.put (c:=2) hS14 hZ ((TyAt.abs hr c47 hrt hρ:TyAt _ _ (Ts.f τ ρ))) (TyS.mk hb60 hn60 (TyS.old (hrt ▸ hrs) (hB0.then hBz) (fun _ h=> .inl h)) (hSρ.mono hBkz));refine zn6 ?_;refine wl (j8 rfl rfl rfl oM) (zn2 ?_);refine xv (p) oM agA ?_;exact⟨p,_,_,_,by omega,rfl,by omega,rfl,hB.u,hBr.u,hb2.u,hb14,hTI3⟩
  refine zn6 ?_;refine zX rfl (fun c62=>?_) (fun c62=>?_)
  ·obtain⟨x,y,rfl,hrk2,hnx,hny⟩:=nd_app hnp hr c62;have hp1:p + 1 < tv.size:=by have:=nd_lt hnx;rw [hlr] at this;exact this
   have hp2:p + 1 + x.size < tv.size:=by have:=nd_lt hny;rw [hlr] at this;exact this
   obtain⟨α,Aα,cα,hα,hF1,hH1,hSα⟩:=hTI.t (p + 1) (Nat.le_refl _) hp1;obtain⟨β,Aβ,cβ,hβ,hF2,hH2,hSβ⟩:=hTI.t (p + 1 + x.size) oM hp2;have hk0l:0 < r.kids.length:=by rw [hrk2];exact Nat.zero_lt_succ _
   have hk1l:1 < r.kids.length:=by rw [hrk2];exact Nat.one_lt_two
   obtain⟨kg,rfl,hkg,hk0⟩:=hrk 0 hk0l;obtain⟨_,e9,_,hk1⟩:=hrk 1 hk1l;cases e9;have e0:r.kids[0]'hk0l=((p + 1:Nat):Int):=by simp [hrk2]
   have e1:r.kids[1]'hk1l=((p + 1 + x.size:Nat):Int):=by simp [hrk2]
   rw [e0] at hk0;rw [e1] at hk1;refine yj ?_;replace hB:=hB.tr0 s5;have hszB:=Bel.size hB;replace hBr:=hBr.tr0 s5;have hszR:=Bel.size hBr;replace hBk:=hBk.tr0 s5;have hszK:=Bel.size hBk;replace hb2:=hb2.tr0 s5;have lt2W:=hb2.lt;replace hb14:=hb14.tr0 s5;have lt14W:=hb14.lt;have lt7W:=hb7.lt;refine OZ 18 [64,65,66,67,68,69,70,71,72,73,74,75,76,77,8,9] [] (fun ix=>Nat.beq ix 16 || Nat.beq ix 17) (fun st ix v la ha wv=>match ix with | 0=>v= .slice (some ⟨b14,0,none⟩) tv.size tv.size | 1=>v= .pointer (some ⟨b7,0 + 5,none⟩) | 2=>v= .slice (some ⟨kg,0,none⟩) r.kids.length ck7 | 3=>v= .pointer (some ⟨kg,0 + 0 * 1,none⟩) | 4=>v= .int .i64 ((p + 1:Nat):Int) | 5=>v= .pointer (some ⟨b14,0 + (p + 1) * 2,none⟩) | 6=>v= .agg #[.string α.sm.base,.slice Aα α.sm.args.length cα] | 7=>v= .slice (some ⟨b14,0,none⟩) tv.size tv.size | 8=>v= .pointer (some ⟨b7,0 + 5,none⟩) | 9=>v= .slice (some ⟨kg,0,none⟩) r.kids.length ck7 | 10=>v= .pointer (some ⟨kg,0 + 1 * 1,none⟩) | 11=>v= .int .i64 ((p + 1 + x.size:Nat):Int) | 12=>v= .pointer (some ⟨b14,0 + (p + 1 + x.size) * 2,none⟩) | 13=>v= .agg #[.string β.sm.base,.slice Aβ β.sm.args.length cβ] | 14=>∃ b:Nat,v= .pointer (some ⟨b,0,none⟩)∧w7.heap.size≤b∧(st 16=false→Blk wv b 41 #[.string ⟨#[]⟩,.slice none 0 0])∧(st 16=true→Blk wv b 41 #[.string α.sm.base,.slice Aα α.sm.args.length cα])∧la≤b∧b < ha | 15=>∃ b:Nat,v= .pointer (some ⟨b,0,none⟩)∧w7.heap.size≤b∧(st 17=false→Blk wv b 41 #[.string ⟨#[]⟩,.slice none 0 0])∧(st 17=true→Blk wv b 41 #[.string β.sm.base,.slice Aβ β.sm.args.length cβ])∧la≤b∧b < ha | 16=>True | 17=>True | _=>True) kR kR kR ?_ ?_ ?_
   ·intro st ix v la ha wv wv2 h s14
    match ix,h with
    | 0,h=>exact h
    | 1,h=>exact h
    | 2,h=>exact h
    | 3,h=>exact h
    | 4,h=>exact h
    | 5,h=>exact h
    | 6,h=>exact h
    | 7,h=>exact h
    | 8,h=>exact h
    | 9,h=>exact h
    | 10,h=>exact h
    | 11,h=>exact h
    | 12,h=>exact h
    | 13,h=>exact h
    | 14,h=>
     obtain⟨b8,e8,lo8,hz8,hy8,la8,ha8⟩:=h;exact⟨b8,e8,lo8,fun h=>(hz8 h).tr0 s14,fun h=>(hy8 h).tr0 s14,la8,ha8⟩
    | 15,h=>
     obtain⟨b9,e9,lo9,hz9,hy9,la9,ha9⟩:=h;exact⟨b9,e9,lo9,fun h=>(hz9 h).tr0 s14,fun h=>(hy9 h).tr0 s14,la9,ha9⟩
    | 16,h=>exact h
    | 17,h=>exact h
    | _ + 18,h=>exact trivial
   ·intro st ix o hix hoq hns gg wx la ha s15 hd
    match ix,hix,hoq,hns with
    | 0,_,hoq,hns=>
     cases sI hoq;show OS _ _ _ _ _ _;refine xW (yq (v:= .slice _ _ _) rfl) ⟨Same.refl _ _,?_⟩;exact rfl
    | 1,_,hoq,hns=>
     cases sI hoq;show OS _ _ _ _ _ _;refine xW (X2 M9 Jy dE rfl rfl rfl) ⟨Same.refl _ _,?_⟩;exact rfl
    | 2,_,hoq,hns=>
     cases sI hoq;show OS _ _ _ _ _ _;refine zx 65 _ (hd 1 _ (zj kR) rfl) nu ?_;refine xW (qV (v:= .slice _ _ _) U66 rfl rfl (hb7.u.cell rfl)) ⟨Same.refl _ _,?_⟩;exact rfl
    | 3,_,hoq,hns=>
     cases sI hoq;show OS _ _ _ _ _ _;refine zx 66 _ (hd 2 _ (zj kR) rfl) nu ?_;refine xW (xk (i:=0) U66 qX rfl rfl hk0l rfl) ⟨Same.refl _ _,?_⟩;exact rfl
    | 4,_,hoq,hns=>
     cases sI hoq;show OS _ _ _ _ _ _;refine zx 67 _ (hd 3 _ (zj kR) rfl) nu ?_;refine xW (qV (v:= .int _ _) U3 rfl rfl (hBr.u.cell hkg hk0)) ⟨Same.refl _ _,?_⟩;exact rfl
    | 5,_,hoq,hns=>
     cases sI hoq;show OS _ _ _ _ _ _;refine zx 64 _ (hd 0 _ (zj kR) rfl) nu (zx 68 _ (hd 4 _ (zj kR) rfl) nu ?_);refine xW (xk (i:=(p + 1)) U39 x9 rfl rfl hp1 rfl) ⟨Same.refl _ _,?_⟩;exact rfl
    | 6,_,hoq,hns=>
     cases sI hoq;show OS _ _ _ _ _ _;refine zx 69 _ (hd 5 _ (zj kR) rfl) nu ?_;refine xW (zY U41 rfl rfl (Kv hb14.u hp1 hF1 hH1) x9) ⟨Same.refl _ _,?_⟩;exact rfl
    | 7,_,hoq,hns=>
     cases sI hoq;show OS _ _ _ _ _ _;refine xW (yq (v:= .slice _ _ _) rfl) ⟨Same.refl _ _,?_⟩;exact rfl
    | 8,_,hoq,hns=>
     cases sI hoq;show OS _ _ _ _ _ _;refine xW (X2 M9 Jy dE rfl rfl rfl) ⟨Same.refl _ _,?_⟩;exact rfl
    | 9,_,hoq,hns=>
     cases sI hoq;show OS _ _ _ _ _ _;refine zx 72 _ (hd 8 _ (zj kR) rfl) nu ?_;refine xW (qV (v:= .slice _ _ _) U66 rfl rfl (hb7.u.cell rfl)) ⟨Same.refl _ _,?_⟩;exact rfl
    | 10,_,hoq,hns=>
     cases sI hoq;show OS _ _ _ _ _ _;refine zx 73 _ (hd 9 _ (zj kR) rfl) nu ?_;refine xW (xk (i:=1) U66 qX rfl rfl hk1l rfl) ⟨Same.refl _ _,?_⟩;exact rfl
    | 11,_,hoq,hns=>
     cases sI hoq;show OS _ _ _ _ _ _;refine zx 74 _ (hd 10 _ (zj kR) rfl) nu ?_;refine xW (qV (v:= .int _ _) U3 rfl rfl (hBr.u.cell hkg hk1)) ⟨Same.refl _ _,?_⟩;exact rfl
    | 12,_,hoq,hns=>
     cases sI hoq;show OS _ _ _ _ _ _;refine zx 71 _ (hd 7 _ (zj kR) rfl) nu (zx 75 _ (hd 11 _ (zj kR) rfl) nu ?_);refine xW (xk (i:=(p + 1 + x.size)) U39 x9 rfl rfl hp2 rfl) ⟨Same.refl _ _,?_⟩;exact rfl
    | 13,_,hoq,hns=>
     cases sI hoq;show OS _ _ _ _ _ _;refine zx 76 _ (hd 12 _ (zj kR) rfl) nu ?_;refine xW (zY U41 rfl rfl (Kv hb14.u hp2 hF2 hH2) x9) ⟨Same.refl _ _,?_⟩;exact rfl
    | 14,_,hoq,hns=>
     cases sI hoq;show OS _ _ _ _ _ _;have hs0:=s15;refine jk (fun ops Q K=>?_);refine qq (cs:=#[.string ⟨#[]⟩,.slice none 0 0]) ov rfl (fun b8 w1 hb8 s16 hr=>?_);exact K _ _ ⟨s16,_,rfl,nLT hs0.size hr,fun _=>hb8,(fun h=>absurd (hns 16 rfl kR) (by rw [h];decide)),hr,hb8.lt⟩
    | 15,_,hoq,hns=>
     cases sI hoq;show OS _ _ _ _ _ _;have hs0:=s15;refine jk (fun ops Q K=>?_);refine qq (cs:=#[.string ⟨#[]⟩,.slice none 0 0]) ov rfl (fun b9 w1 hb9 s17 hr=>?_);exact K _ _ ⟨s17,_,rfl,nLT hs0.size hr,fun _=>hb9,(fun h=>absurd (hns 17 rfl kR) (by rw [h];decide)),hr,hb9.lt⟩
    | 16,_,hoq,hns=>
     cases sI hoq;show st 16=false→(∀ j k,j ∈ _→k ∈ _→j≠k→ha j≤la k∨ha k≤la j)→OS _ _ _ _ _ _;intro hn hI;have hs0:=s15;obtain⟨b8,e8,lo8,hz8,hy8,la8,ha8⟩:=hd 14 _ (zj kR) rfl;refine zx 70 _ (hd 6 _ (zj kR) rfl) nu (zx 8 _ e8 nu ?_);have hzb:=hz8 hn;have hdj:=hI 14 15 (zj kR) (zj kR) dE;refine Bw (fun ops Q K=>?_);refine zk hzb rfl rfl x9 rfl zQ (fun w2 hq hs2=>?_);have K2:=K w2;refine K2 ⟨hs0.freshL hs2 (fun g hg=>by rw [List.mem_singleton.1 hg];exact .inr lo8),hs2.size,?_,fun kx ox hne hox h=>?_⟩
     ·exact trivial
     match kx,hne,hox,h with
     | 0,_,_,h=>exact h
     | 1,_,_,h=>exact h
     | 2,_,_,h=>exact h
     | 3,_,_,h=>exact h
     | 4,_,_,h=>exact h
     | 5,_,_,h=>exact h
     | 6,_,_,h=>exact h
     | 7,_,_,h=>exact h
     | 8,_,_,h=>exact h
     | 9,_,_,h=>exact h
     | 10,_,_,h=>exact h
     | 11,_,_,h=>exact h
     | 12,_,_,h=>exact h
     | 13,_,_,h=>exact h
     | 14,_,hox,h=>
      obtain rfl:_=ox:=Option.some.inj hox;obtain⟨bx,ex,lox,hzx,hyx,lax,hax⟩:=h;have hbx:bx=b8:=by
        have h:=ex.symm.trans e8;cases h;rfl
      subst hbx;exact⟨bx,ex,lox,(fun h=>by cases (show true=false from h)),fun _=>hq,lax,hax⟩
     | 15,_,hox,h=>
      obtain rfl:_=ox:=Option.some.inj hox;obtain⟨bx,ex,lox,hzx,hyx,lax,hax⟩:=h;exact⟨bx,ex,lox,fun h=>(hzx h).tr hs2 (fun hm=>by have:=List.mem_singleton.1 hm;omega),fun h=>(hyx h).tr hs2 (fun hm=>by have:=List.mem_singleton.1 hm;omega),lax,hax⟩
     | 16,hne,_,_=>exact absurd rfl hne
     | 17,_,_,h=>exact h
     | _ + 18,_,_,_=>exact trivial
    | 17,_,hoq,hns=>
     cases sI hoq;show st 17=false→(∀ j k,j ∈ _→k ∈ _→j≠k→ha j≤la k∨ha k≤la j)→OS _ _ _ _ _ _;intro hn hI;have hs0:=s15;obtain⟨b9,e9,lo9,hz9,hy9,la9,ha9⟩:=hd 15 _ (zj kR) rfl;refine zx 77 _ (hd 13 _ (zj kR) rfl) nu (zx 9 _ e9 nu ?_);have hzb:=hz9 hn;have hdj:=hI 14 15 (zj kR) (zj kR) dE;refine Bw (fun ops Q K=>?_);refine zk hzb rfl rfl x9 rfl zQ (fun w2 hq hs2=>?_);have K2:=K w2;refine K2 ⟨hs0.freshL hs2 (fun g hg=>by rw [List.mem_singleton.1 hg];exact .inr lo9),hs2.size,?_,fun kx ox hne hox h=>?_⟩
     ·exact trivial
     match kx,hne,hox,h with
     | 0,_,_,h=>exact h
     | 1,_,_,h=>exact h
     | 2,_,_,h=>exact h
     | 3,_,_,h=>exact h
     | 4,_,_,h=>exact h
     | 5,_,_,h=>exact h
     | 6,_,_,h=>exact h
     | 7,_,_,h=>exact h
     | 8,_,_,h=>exact h
     | 9,_,_,h=>exact h
     | 10,_,_,h=>exact h
     | 11,_,_,h=>exact h
     | 12,_,_,h=>exact h
     | 13,_,_,h=>exact h
     | 14,_,hox,h=>
      obtain rfl:_=ox:=Option.some.inj hox;obtain⟨bx,ex,lox,hzx,hyx,lax,hax⟩:=h;exact⟨bx,ex,lox,fun h=>(hzx h).tr hs2 (fun hm=>by have:=List.mem_singleton.1 hm;omega),fun h=>(hyx h).tr hs2 (fun hm=>by have:=List.mem_singleton.1 hm;omega),lax,hax⟩
     | 15,_,hox,h=>
      obtain rfl:_=ox:=Option.some.inj hox;obtain⟨bx,ex,lox,hzx,hyx,lax,hax⟩:=h;have hbx:bx=b9:=by
        have h:=ex.symm.trans e9;cases h;rfl
      subst hbx;exact⟨bx,ex,lox,(fun h=>by cases (show true=false from h)),fun _=>hq,lax,hax⟩
     | 16,_,_,h=>exact h
     | 17,hne,_,_=>exact absurd rfl hne
     | _ + 18,_,_,_=>exact trivial
    | _ + 18,hix,_,_=>exact absurd hix oM
   intro st gg w13 la ha hall s18 hR hI;obtain⟨b8,e8,lo8,hz8,hy8,la8,ha8⟩:=hR 14 _ rfl;obtain⟨b9,e9,lo9,hz9,hy9,la9,ha9⟩:=hR 15 _ rfl;have hb8:=hy8 (hall 16 dE rfl);have hb9:=hy9 (hall 17 dE rfl);refine xK 70 _ (hR 6 _ rfl) nu (xK 77 _ (hR 13 _ rfl) nu (xK 8 _ e8 nu (xK 9 _ e9 nu (zn4 ?_))));replace hB:=hB.tr0 s18;replace hb2:=hb2.tr0 s18;by_cases qa:α.sm.base=⟨#[]⟩
   ·obtain⟨a,ρ,rfl⟩:=ts_fun qa;obtain⟨ub,uo,A5,c5,A6,c6,rfl,hub,hSub,hur4,hus,hus2⟩:=hSα;obtain⟨hur,hur2⟩:=rng4 hur4;have htxα:=nd_txt hnx hokp.1 hGp (by have:x.size + y.size + 1≤tv.size:=hszp;omega) hα;have htxβ:=nd_txt hny hokp.2 hGp (by have:x.size + y.size + 1≤tv.size:=hszp;omega) hβ;have htxa:a.txt.length≤1000000:=by simp only [Ts.txt,List.length_cons,List.length_append] at htxα;omega
    refine jx [] [0,1,2,3,4,5,6,7,8,9,10,11,12,13,14,15,16,17] rfl (fun w14 s19=>?_);refine zn2 ?_;refine hle rfl (fun _=>L4 rfl rfl) (congrArg Value.bool (decide_eq_false (fun h=>h rfl))) (zn4 ?_);refine hge 81 rfl rfl rfl (fun _ _=>r_neq rfl rfl) (congrArg Value.bool (decide_eq_false (fun h=>h rfl))) (zn4 ?_);refine hg 87 rfl rfl rfl (fun _ _=>xk (i:=0) U39 x9 rfl rfl (by show 0 < 2;decide) rfl) (hgS 87 rfl rfl rfl U41 rfl rfl (hBk.u.range hub hur) x9 (zn1 ?_));refine h1 rfl (zn1 ?_);refine zV fn49 (IQ A5 Aβ c5 cβ a β w14 ((hus.sims _).mono hBk.u) ((hSβ.sims _).mono hBk.u) htxa htxβ) rfl (fun e' w15 hr=>?_);obtain⟨rfl,s20⟩:=hr;replace s20:=sB s20;have hsH15:=s20;refine⟨_,rfl,?_⟩;refine zJ (M5 hsH15 (zn4 ?_));refine vK rfl (fun c95=>?_) (fun c95=>?_)
    ·have hne:a.eqb β=false:=by simpa using c95
     have hfail:tyv Γp (.app x y)=none:=ty_no hnp hr c62 hrk2 hα hβ (fun ρ2 e=>by rw [(Ts.f.inj e).1,Ts.eqb_iff.2 rfl] at hne;cases hne);have hff:(tyv [] tv).isSome=false:=by
       cases hq:(tyv [] tv).isSome with
       | false=>rfl
       | true=>have:=hsome hq;rw [hfail] at this;cases this
     refine zn2 ?_;refine wl (uW (vs:=#[]) (cs:=#[.string ⟨#[]⟩,.slice none 0 0]) (by simp) kR) ?_;refine zk hb2.u rfl rfl x9 rfl zQ (fun w16 hq s21=>?_);replace hb2:=hq;refine vq ?_;refine uy (.inl rfl) rfl (zy U41 rfl rfl hb2.range0 x9) rfl ?_;replace hB:=(hB.tr0 (s19.trans s20)).tr1 s21 lo2;exact⟨⟨_,_,_,_,by rw [hff];rfl,fun τ h=>by rw [h] at hff;cases hff⟩,hB⟩
    have heq:a=β:=Ts.eqb_iff.1 (by simpa using c95);refine M7 (e_S ?_);have hZ:SameQ [b14] w15 w15:=Same.refl _ _;replace hBk:=hBk.tr0 (s18.trans (s19.trans s20));have hTI2:=hTI.mono hBk;replace hb14:=hb14.tr0 (s18.trans (s19.trans s20));have hb14z:=hb14;replace hB:=hB.tr0 (s19.trans s20);have hBz:=hB;have hBkz:=hBk;refine zn5 ?_;refine wl (xk (i:=1) U39 x9 rfl rfl (by show 1 < 2;decide) rfl) (wl (zY U41 rfl rfl (hBkz.range hub hur2) x9) (wl (xk (i:=p) U39 x9 rfl rfl hpn rfl) ?_));refine uK hb14 rfl rfl x9 (by rw [gQ];show 0 + p * 2 + 2≤tv.size * 2;omega) zQ Kk (fun w17 hq s22=>?_);replace hZ:=SameQ.trans hZ s22 (by simp);replace hb14:=hq;have hTI3:=hTI2.put (c:=c6) hS14 hZ (TyAt.app hr c62 hrk2 hα (heq ▸ hβ)) (hus2.mono hBkz);refine zn6 ?_;refine wl (j8 rfl rfl rfl oM) (zn2 ?_);refine xv (p) oM agA ?_;exact⟨p,_,_,_,by omega,rfl,by omega,rfl,hB.u,hBr.u,hb2.u,hb14,hTI3⟩
   have hfail:tyv Γp (.app x y)=none:=ty_no hnp hr c62 hrk2 hα hβ (fun ρ e=>qa (by rw [e];rfl));have hff:(tyv [] tv).isSome=false:=by
     cases hq:(tyv [] tv).isSome with
     | false=>rfl
     | true=>have:=hsome hq;rw [hfail] at this;cases this
   refine jx [] [0,1,2,3,4,5,6,7,8,9,10,11,12,13,14,15,16,17] rfl (fun w18 s23=>?_);refine zn2 ?_;refine hle rfl (fun _=>L4 rfl rfl) (congrArg Value.bool (decide_eq_true qa)) (zn20 ?_);refine wl (uW (vs:=#[]) (cs:=#[.string ⟨#[]⟩,.slice none 0 0]) (by simp) kR) ?_;refine zk hb2.u rfl rfl x9 rfl zQ (fun w19 hq s24=>?_);replace hb2:=hq;refine vq ?_;refine uy (.inl rfl) rfl (zy U41 rfl rfl hb2.range0 x9) rfl ?_;replace hB:=(hB.tr0 s23).tr1 s24 lo2;exact⟨⟨_,_,_,_,by rw [hff];rfl,fun τ h=>by rw [h] at hff;cases hff⟩,hB⟩
  rcases hkk with h | h | h | h
  · exact absurd h c28
  · exact absurd h c35
  · exact absurd h c47
  · exact absurd h c62
 obtain⟨τ0,A0,c0,hT0,hF0,hH0,hS0⟩:=hTI.t 0 oM hvp;have hty:tyv [] tv=some τ0:=hT0 _ _ hnd;refine zn8 ?_;refine wl (xk (i:=0) U39 x9 rfl rfl hvp rfl) (wl (zY U41 rfl rfl (Kv hb14 hvp hF0 hH0) x9) ?_);refine zk hb2 rfl rfl x9 rfl zQ (fun w20 hq s25=>?_);replace hS0:=hS0.tr s25 (fun g hg=> .inl (by rw [List.mem_singleton.1 hg];exact hS2));replace hb2:=hq;refine zn4 ?_;refine uy (.inl rfl) rfl (zy U41 rfl rfl hb2.range0 x9) rfl ?_;replace hB:=hB.tr1 s25 lo2;exact⟨⟨_,_,_,_,by rw [hty];rfl,fun τ h=>by obtain rfl:=Option.some.inj (hty.symm.trans h);exact⟨rfl,rfl,hS0.imp (fun b _ h=>h.imp id (fun h=>⟨h.1,by simp⟩)) _⟩⟩,hB⟩
end Go.Proofs.YtbcpgfnfiekbiaaGreatDoor
namespace Go.Proofs.YtbcpgfnfiekbiaaGreatDoor
open Go.RowKit
theorem sz167:(Tryz.prog.info? 167).map (·.size)=some 1:=by kernel_rfl
theorem ze167:(Tryz.prog.info? 167).map (·.zero)=some (some (.nilFunc)):=by kernel_rfl
set_option maxHeartbeats 1000000 in
theorem Tz (A B:Option Addr) (c m:Nat) (t:Tm) (w:World) (hS:SimsIn w A t.type.args) (hT:TmsIn w B t.args):Calls Tryz.prog 76 #[.agg #[.int .i64 (t).kind,.string (t).name,.int .i64 (t).index,.string (t).type.base,.slice A (t).type.args.length c,.slice B (t).args.length m]] w fun e w'=>e= .returned (flV (tmF t))∧Bel w w':=by
 refine enT Tryz.func76 Tryz.ntmps76 rfl rfl fun hB=>?_;refine zn2 ?_;refine x6 (v:= .agg #[_,_,_,_,_,_]) (cs:=#[_,_,_,_,_,_]) rfl rfl (fun b1 w1 hb1 t1 hr=>?_);refine qq (cs:=#[.int .i64 0,.int .i64 0]) qv rfl (fun b2 w2 hb2 t2 hr=>?_);have:=nLL hb1.lt hr;have lo2:=nLT (Bel.size hB.u) hr;refine zn4 ?_;refine qq (cs:=#[.int .i64 0]) ow rfl (fun b3 w3 hb3 t3 hr=>?_);have:=nLL hb1.u.lt hr;have:=nLL hb2.lt hr;have lo3:=nLT (Bel.size hB.u) hr;refine xz (v:= .int _ _) hb3 rfl rfl qX (by first | decide | simp) rfl rfl (fun w4 hq t4=>?_);replace hb3:=hq;refine zn4 ?_;refine qq (cs:=#[.nilFunc]) ze167 rfl (fun b4 w5 hb4 t5 hr=>?_);have:=nLL hb1.u.lt hr;have:=nLL hb2.u.lt hr;have:=nLL hb3.lt hr;have lo4:=nLT (Bel.size hB.u) hr;refine zn4 ?_;refine wl (r_mf rfl) ?_;refine xz (v:= .func _ _ _) hb4 rfl rfl sz167 (by first | decide | simp) rfl rfl (fun w6 hq t6=>?_);replace hb4:=hq;refine zn7 ?_;refine y6 rfl fn107 (twk_any (w0:=w) (bN:=b3) (bV:=b4) lo3 lo4 oM t A B c m 1 0 0 _ hS hT oM oM oM hB.u hb3.u hb4) rfl rfl (fun e' w7 hr=>?_);obtain⟨rfl,hC2,hb32⟩:=hr;replace hB:=(((hB.tr0 (t1.trans (t2.trans t3))).tr1 t4 lo3).tr0 t5).tr1 t6 lo4;replace hB:=hB.chG hC2 (fun g hg=>by rw [show g=b3 from hg];exact lo3);replace hb1:=(((hb1.tr0 (t2.trans t3)).tr1 t4 oM).tr0 t5).tr1 t6 oM;replace hb1:=hb1.chG hC2 (fun hx=>by have hx:b1=b3:=hx;omega);replace hb2:=(((hb2.tr0 t3).tr1 t4 oM).tr0 t5).tr1 t6 oM;replace hb2:=hb2.chG hC2 (fun hx=>by have hx:b2=b3:=hx;omega);replace hb4:=hb4.chG hC2 (fun hx=>by have hx:b4=b3:=hx;omega);replace hb3:=hb32;refine⟨_,rfl,?_⟩;refine xV (cs:=#[.int .i64 0,.int .i64 0]) qv rfl (fun _=>rfl) (fun _=>rfl) zq rfl zQ (fun b5 w9 hb5 t7 hr=>?_);refine zn9 ?_;refine zX rfl (fun c14=>?_) (fun c14=>?_)
 ·have hF:=N2 c14;refine zn3 ?_;refine zk hb2.u rfl rfl zq rfl zQ (fun w10 hq t8=>?_);replace hb2:=hq;refine zn4 ?_;refine x7 (.inl rfl) rfl (zy U36 rfl rfl hb2.range0 zq) ?_;replace hB:=(hB.tr0 t7).tr1 t8 lo2;exact⟨by rw [hF];rfl,hB⟩
 have c14:(twk t 1 0 0).2.1=0:=Classical.not_not.1 c14;obtain⟨v,rfl,hok,_,hv2⟩:=Ij t 1 0 0 c14;have hF:=H5 c14;refine zn6 ?_;replace hB:=hB.tr0 t7;refine zV fn77 (PZ _ v (Nat.lt_succ_self _) [] A B none c m 0 _ (hS.mono hB) (hT.mono hB) (CtxIn.nil _) (Nat.le_refl _) (by simp only [List.length_nil];omega) hok) rfl (fun e' w11 hr=>?_);obtain⟨⟨s3,A3,n3,c3,rfl,_⟩,t9⟩:=hr;replace t9:=sB t9;refine⟨_,rfl,?_⟩;refine wmT rfl (wl (j5 (v:= .agg _) rfl rfl) (wl (j5 (v:= .bool _) rfl rfl) ?_));refine xV (cs:=#[.string ⟨#[]⟩,.slice none 0 0]) ov rfl (fun _=>rfl) (fun _=>rfl) x9 rfl zQ (fun b6 w13 hb6 t10 hr=>?_);refine zn9 ?_;refine vK rfl (fun c22=>?_) (fun c22=>?_)
 ·rw [if_neg (by simpa using c22)] at hF;refine zn2 ?_;refine wl (xY (v0:= .int _ _) (v1:= .int _ _) (fun v0 v1=>#[v0,v1]) rfl rfl kR) ?_;refine zk hb2.u rfl rfl zq rfl zQ (fun w14 hq t11=>?_);replace hb2:=hq;refine zn4 ?_;refine x7 (.inl rfl) rfl (zy U36 rfl rfl hb2.range0 zq) ?_;replace hB:=(hB.tr0 (t9.trans t10)).tr1 t11 lo2;exact⟨by rw [hF];rfl,hB⟩
 rw [if_pos (by simpa using c22)] at hF;refine zn4 ?_;refine wl (uW (vs:=#[]) (cs:=#[.int .i64 0,.int .i64 0]) (by simp) kR) ?_;refine zk hb2.u rfl rfl zq rfl zQ (fun w15 hq t12=>?_);replace hb2:=hq;refine zn3 ?_;refine x7 (.inl rfl) rfl (zy U36 rfl rfl hb2.range0 zq) ?_;replace hB:=(hB.tr0 (t9.trans t10)).tr1 t12 lo2;exact⟨by rw [hF];rfl,hB⟩
end Go.Proofs.YtbcpgfnfiekbiaaGreatDoor
namespace Go.Proofs.YtbcpgfnfiekbiaaGreatDoor
open Go.RowKit
theorem r_cvU {P:Program} {n:Nw} {f:Fr} {w:World} {dst:Option Tmp} {gd:Option (Nat×Bool)} {ty:TypeId} {pos:String} {af:Array Edge} {x:Operand} {k':IntKind} {a:Int} {t t':TypeId} {dd:TypeDesc} (hs:P.underlying t=some dd) (hd:P.underlying t'=some (.int .u64)) (hx:ev n f x= .int k' a) (ha:0≤a∧a≤18446744073709551615):
    RV P n f w ⟨dst,.convert t t' x,ty,pos,af,gd⟩ (.int .u64 a) w:=by
  have:=IntWalk.u64_in a ha;simp [RV,execOp,hx,convert,run_underlying hs,run_underlying hd,Conv.intToInt,this]
def Ov (a b:Int):Int:=if a < b then -1 else if b < a then 1 else 0
theorem cmpI_lt {a b:Int}:Ov a b < 0 ↔ a < b:=by unfold Ov;split <;> (try split) <;> omega
theorem cmpI_eq {a b:Int}:Ov a b=0 ↔ a=b:=by unfold Ov;split <;> (try split) <;> omega
theorem fn126:zK Tryz.prog 126=true:=by kernel_rfl
theorem fn127:zK Tryz.prog 127=true:=by kernel_rfl
theorem fn136:zK Tryz.prog 136=true:=by kernel_rfl
theorem gW:(Tryz.prog.info? 115).map (·.size)=some 2:=by kernel_rfl
theorem nan_any (a:Int) (w:World):Calls Tryz.prog 136 #[.int .i64 a] w fun e w'=>e= .returned (.bool false)∧Bel w w':=by
 refine enT Tryz.func136 Tryz.ntmps136 rfl rfl fun hB=>?_;refine QJ ?_;exact⟨vZ (decide_eq_false (fun h=>h rfl)).symm,hB⟩
theorem Wq (a b:Int) (w:World):Calls Tryz.prog 127 #[.int .i64 a,.int .i64 b] w fun e w'=>e= .returned (.int .i64 (Ov a b))∧Bel w w':=by
 refine enT Tryz.func127 Tryz.ntmps127 rfl rfl fun hB=>?_;refine zn8 ?_;refine zV fn136 (nan_any _ _) rfl (fun e' w1 hr=>?_);obtain⟨rfl,s1⟩:=hr;replace s1:=sB s1;refine⟨_,rfl,?_⟩;refine zn6 ?_;refine zV fn136 (nan_any _ _) rfl (fun e' w2 hr=>?_);obtain⟨rfl,s2⟩:=hr;replace s2:=sB s2;refine⟨_,rfl,?_⟩;refine zn9 ?_;refine vK rfl (fun c11=>?_) (fun c11=>?_)
 ·exact absurd c11 dE
 refine zn8 ?_;refine vK rfl (fun c13=>?_) (fun c13=>?_)
 ·exact absurd c13 dE
 refine yv ?_;refine zX rfl (fun c16=>?_) (fun c16=>?_)
 ·refine zn8 ?_;replace hB:=hB.tr0 (s1.trans s2);exact⟨oy (by unfold Ov;rw [if_pos c16]),hB⟩
 refine yv ?_;refine zX rfl (fun c19=>?_) (fun c19=>?_)
 ·refine zn8 ?_;replace hB:=hB.tr0 (s1.trans s2);exact⟨oy (by unfold Ov;rw [if_neg c16];exact if_pos c19),hB⟩
 refine zn9 ?_;replace hB:=hB.tr0 (s1.trans s2);exact⟨oy (by unfold Ov;rw [if_neg c16];exact if_neg c19),hB⟩
theorem tcl_any (a b f:Int) (w:World):Calls Tryz.prog 126 #[.agg #[.int .i64 a,.int .i64 b],.int .i64 f] w fun e w'=>e= .returned (.int .i64 (Ov a f))∧Bel w w':=by
 refine enT Tryz.func126 Tryz.ntmps126 rfl rfl fun hB=>?_;refine zn2 ?_;refine x6 (v:= .agg #[_,_]) (cs:=#[_,_]) rfl rfl (fun b2 w1 hb2 s1 hr=>?_);refine zn8 ?_;refine zV fn127 (Wq _ _ _) rfl (fun e' w2 hr=>?_);obtain⟨rfl,s2⟩:=hr;replace s2:=sB s2;refine⟨_,rfl,?_⟩;refine zn5 ?_;exact⟨rfl,hB.u⟩
theorem bsf_any (A:Option Addr) (c:Nat) (xs:List (Int×Int)) (f:Int) (w:World) (hX:LinksIn w A xs) (hl:xs.length≤1000) (hmono:∀ i j (hi:i < xs.length) (hj:j < xs.length),i≤j→(xs[i]).1≤(xs[j]).1):Calls Tryz.prog 125 #[.slice A xs.length c,.int .i64 f,.func (.func 126) #[] #[]] w fun e w'=>(∃ (i:Nat) (b:Bool),i≤xs.length∧e= .returned (.tuple #[.int .i64 i,.bool b])∧(∀ j (hj:j < xs.length),j < i→(xs[j]).1 < f)∧(∀ j (hj:j < xs.length),i≤j→f≤(xs[j]).1)∧(b=true ↔ ∃ h:i < xs.length,(xs[i]).1=f))∧Bel w w':=by
 refine enT Tryz.func125 Tryz.ntmps125 rfl rfl fun hB=>?_;refine zn22 ?_;refine zW (rg [9,10,11] 15 20) (fun m g w'=>∃ i j:Nat,i≤j∧j≤xs.length∧m=j - i∧g 9= .int .i64 i∧g 10= .int .i64 j∧Bel w w'∧(∀ x (hx:x < xs.length),x < i→(xs[x]).1 < f)∧(∀ x (hx:x < xs.length),j≤x→f≤(xs[x]).1)) (xs.length) ?_ (fun m g3 w1 hI=>?_)
 ·exact⟨0,xs.length,Nat.zero_le _,Nat.le_refl _,rfl,rfl,rfl,hB,fun x _ h=>by omega,fun x h1 h2=>by omega⟩
 obtain⟨i,j,hij,hj,hm,h9,h10,hB,hlo,hhi⟩:=hI;refine zZ 9 _ h9 nu (zZ 10 _ h10 nu (zn8 ?_));refine zX rfl (fun c17=>?_) (fun c17=>?_)
 ·obtain⟨h,hh⟩:∃ h,h=(i + j) / 2:=⟨_,rfl⟩
  have hhl:h < xs.length:=by omega
  obtain⟨lb,lof,rfl,hlb,hlr⟩:=hX.at_ hB hhl;refine zn7 ?_;refine wl (Z9 (c:=((i + j:Nat):Int)) rfl rfl oM oM) (wl (r_cvU U3 Tryz.underlying182 rfl oM) (wl (r_shr (b:=1) (c:=h) rfl rfl oM (by rw [hh,Nat.shiftRight_eq_div_pow])) (wl (r_cvI Tryz.underlying182 U3 rfl oM) (zn9 ?_))));refine wl (zY Zk rfl rfl hlr gW) (wl (yq (v:= .int _ _) rfl) ?_);refine y6 rfl fn126 (tcl_any _ _ f _) rfl rfl (fun e' w2 hr=>?_);obtain⟨rfl,hs⟩:=hr;replace hB:=hB.tr0 (sB hs);refine⟨_,rfl,?_⟩;refine zn3 ?_;refine zX rfl (fun c31=>?_) (fun c31=>?_)
  ·have hlt:=cmpI_lt.1 c31;obtain⟨i2,hi2⟩:∃ i2,i2=h + 1:=⟨_,rfl⟩
   obtain⟨j2,hj2⟩:∃ j2,j2=j:=⟨_,rfl⟩
   have hlo2:∀ x (hx:x < xs.length),x < i2→(xs[x]).1 < f:=fun x hx hxi=>by
     by_cases e:x=h
     · subst e;exact hlt
     · have hsx:(xs[x]).1≤(xs[h]).1:=hmono x h hx hhl oM
       omega
   have hhi2:∀ x (hx:x < xs.length),j2≤x→f≤(xs[x]).1:=fun x hx hxj=>hhi x hx oM
   refine zn6 ?_;refine xv (j2 - i2) oM agA ?_;exact⟨i2,j2,by omega,by omega,rfl,by subst hi2;rfl,by subst hj2;rfl,hB,hlo2,hhi2⟩
  have hge:¬(xs[h]).1 < f:=fun h=>c31 (cmpI_lt.2 h)
  obtain⟨i2,hi2⟩:∃ i2,i2=i:=⟨_,rfl⟩
  obtain⟨j2,hj2⟩:∃ j2,j2=h:=⟨_,rfl⟩
  have hlo2:∀ x (hx:x < xs.length),x < i2→(xs[x]).1 < f:=fun x hx hxi=>hlo x hx oM
  have hhi2:∀ x (hx:x < xs.length),j2≤x→f≤(xs[x]).1:=fun x hx hxj=>by
    have hsx:(xs[h]).1≤(xs[x]).1:=hmono h x hhl hx oM;omega
  refine zn5 ?_;refine xv (j2 - i2) oM agA ?_;exact⟨i2,j2,by omega,by omega,rfl,by subst hi2;rfl,by subst hj2;rfl,hB,hlo2,hhi2⟩
 have hije:i=j:=by omega
 subst hije;refine yZ ?_;refine zw 39 rfl (fun g39=>?_) (fun g39=>?_)
 ·refine zn6 ?_;have hiN:i < xs.length:=by omega
  obtain⟨lb,lof,rfl,hlb,hlr⟩:=hX.at_ hB hiN;refine zn3 ?_;refine wl (zY Zk rfl rfl hlr gW) (zn3 ?_);refine y6 rfl fn126 (tcl_any _ _ f _) rfl rfl (fun e' w3 hr=>?_);obtain⟨rfl,hs⟩:=hr;replace hB:=hB.tr0 (sB hs);refine⟨_,rfl,?_⟩;refine zn8 ?_;refine uy (.inl rfl) rfl rfl rfl ?_
  first
    | exact⟨⟨i,false,by omega,rfl,hlo,hhi,⟨fun h=>(Bool.noConfusion h),fun hh=>absurd hh.1 oM⟩⟩,hB⟩
    | exact⟨⟨i,decide (Ov (xs[i]'hiN).1 f=0),by omega,rfl,hlo,hhi,by rw [decide_eq_true_iff,cmpI_eq];exact⟨fun h=>⟨hiN,h⟩,fun⟨_,h⟩=>h⟩⟩,hB⟩
 refine ZX ?_;refine uy (.inl rfl) rfl rfl rfl ?_
 first
   | exact⟨⟨i,false,by omega,rfl,hlo,hhi,⟨fun h=>(Bool.noConfusion h),fun hh=>absurd hh.1 oM⟩⟩,hB⟩
   | exact⟨⟨i,decide (Ov (xs[i]'hiN).1 f=0),by omega,rfl,hlo,hhi,by rw [decide_eq_true_iff,cmpI_eq];exact⟨fun h=>⟨hiN,h⟩,fun⟨_,h⟩=>h⟩⟩,hB⟩
end Go.Proofs.YtbcpgfnfiekbiaaGreatDoor
namespace Go.Proofs.YtbcpgfnfiekbiaaGreatDoor
open Go.RowKit
theorem fn125:zK Tryz.prog 125=true:=by kernel_rfl
theorem J0:(Tryz.prog.info? 113).map (·.size)=some 2:=by kernel_rfl
theorem WX:(Tryz.prog.info? 115).map (·.zero)=some (some (.agg #[.int .i64 0,.int .i64 0])):=by kernel_rfl
theorem H8 (G:Option Addr) (cg nf:Nat) (gr:List Nd) (i:Nat) (f:Int) (w:World) (hG:NodesIn w G gr) (hi:i < gr.length) (hl:yY nf gr.length (-1) (gr[i]'hi).ln=0) (hw:(gr[i]'hi).ln.length≤1000):Calls Tryz.prog 119 #[.agg #[.slice G gr.length cg],.int .i64 i,.int .i64 f] w fun e w'=>e= .returned (.int .i64 (tgt (gr[i]'hi).ln f))∧Bel w w':=by
 obtain⟨nb,no,LA,lc,rfl,hnb,hnr,hln⟩:=hG.at_ (Below.refl _ _:Bel w w) hi;have hso:=(ZQ hl).2;refine enT Tryz.func119 Tryz.ntmps119 rfl rfl fun hB=>?_;refine zn2 ?_;refine x6 (v:= .agg #[_]) (cs:=#[_]) rfl rfl (fun b3 w1 hb3 s1 hr=>?_);refine zn8 ?_;refine wl (xk (i:=i) U28 J0 rfl rfl hi rfl) (zn1 ?_);refine wl (qV (v:= .slice _ _ _) u7 rfl rfl (hB.u.cell hnb (hnr 1 _ rfl))) (wl (yq (v:= .int _ _) rfl) ?_);replace hB:=hB.tr0 s1
 refine zV fn125 (bsf_any LA lc (gr[i]'hi).ln f _ (hln.mono hB) hw (fun x y hx hy hxy=>by
       by_cases e:x=y
       · subst e;exact Int.le_refl _
       · exact Int.le_of_lt (hso x y hx hy oM))) rfl (fun e' w2 hr=>?_)
 obtain⟨⟨ix,b,hix,rfl,hlo,hhi,hbt⟩,s2⟩:=hr;replace s2:=sB s2;obtain⟨hy,hn⟩:=tgt_bs hl hlo hhi;refine⟨_,rfl,?_⟩;refine wmT rfl (wl (j5 (v:= .int _ _) rfl rfl) (wl (j5 (v:= .bool _) rfl rfl) (vq ?_)));refine vK rfl (fun c21=>?_) (fun c21=>?_)
 ·have hbf:¬b=true:=by simpa using c21
  have hno:=hn (fun h=>hbf (hbt.2 h));refine zn8 ?_;exact⟨oy hno,hB.u⟩
 have hbt2:b=true:=by simpa using c21
 obtain⟨hxl,hxe⟩:=hbt.1 hbt2;have hyes:=hy hxl hxe;replace hB:=hB.tr0 s2;obtain⟨lb,lof,rfl,hlb,hlr⟩:=hln.at_ hB hxl;refine zn7 ?_;refine wl (xk (i:=i) U28 J0 rfl rfl hi rfl) (zn1 ?_);refine wl (qV (v:= .slice _ _ _) u7 rfl rfl (hB.cell hnb (hnr 1 _ rfl))) (zn3 ?_);refine wl (qV (v:= .int _ _) U3 rfl rfl (hlr 1 _ rfl)) (zn5 ?_);exact⟨oy hyes,hB⟩
theorem R9 (G:Option Addr) (cg:Nat) (gr:List Nd) (i:Nat) (f:Int) (w:World) (hG:NodesIn w G gr) (hi:i < gr.length):Calls Tryz.prog 63 #[.agg #[.slice G gr.length cg],.int .i64 i,.int .i64 f] w fun e w'=>e= .returned (.int .i64 (tgt (gr[i]'hi).ln f))∧Bel w w':=by
 obtain⟨nb,no,LA,lc,rfl,hnb,hnr,hln⟩:=hG.at_ (Below.refl _ _:Bel w w) hi;have hmx:=hln.1;unfold yJ at hmx;refine enT Tryz.func63 Tryz.ntmps63 rfl rfl fun hB=>?_;refine zn2 ?_;refine x6 (v:= .agg #[_]) (cs:=#[_]) rfl rfl (fun b3 w1 hb3 s1 hr=>?_);refine zn9 ?_;refine wl (xk (i:=i) U28 J0 rfl rfl hi rfl) (zn1 ?_);refine wl (qV (v:= .slice _ _ _) u7 rfl rfl (hB.u.cell hnb (hnr 1 _ rfl))) (zn5 ?_);refine zW (rg [6,8] 16 11) (fun m g w'=>∃ k:Nat,k≤(gr[i]'hi).ln.length∧m=(gr[i]'hi).ln.length - k∧g 16= .int .i64 k∧Bel w w'∧(∀ j (hj:j < (gr[i]'hi).ln.length),j < k→¬((gr[i]'hi).ln[j]).1=f)) ((gr[i]'hi).ln.length) ?_ (fun m g2 w2 hI=>?_)
 ·exact⟨0,Nat.zero_le _,rfl,rfl,hB.u,fun j _ h=>by omega⟩
 obtain⟨k,hk,hm,h16,hB,hno⟩:=hI;refine zZ 16 _ h16 nu (zn6 ?_);refine zX rfl (fun c17=>?_) (fun c17=>?_)
 ·have hkl:k < (gr[i]'hi).ln.length:=by omega
  obtain⟨lb,lof,rfl,hlb,hlr⟩:=hln.at_ hB hkl;refine zn7 ?_;refine wl (zY Zk rfl rfl hlr gW) ?_;refine xV (cs:=#[.int .i64 0,.int .i64 0]) WX rfl (fun _=>rfl) (fun _=>rfl) gW rfl zQ (fun b8 w4 hb8 s2 hr=>?_);refine yv ?_;refine zX rfl (fun c23=>?_) (fun c23=>?_)
  ·refine ZX ?_;exact⟨oy (H7 hkl c23 (fun j hj h=>hno j hj h)),hB.u⟩
  refine zn7 ?_;refine xv ((gr[i]'hi).ln.length - (k + 1)) oM agA ?_;replace hB:=hB.tr0 s2
  exact⟨k + 1,by omega,rfl,rfl,hB,fun j hj h=>by
    by_cases e:j=k
    · subst e;exact c23
    · exact hno j hj oM⟩
 have hall:tgt (gr[i]'hi).ln f= -1:=H6 (fun j hj=>hno j hj oM);refine yZ ?_;exact⟨oy hall,hB⟩
end Go.Proofs.YtbcpgfnfiekbiaaGreatDoor
namespace Go.Proofs.YtbcpgfnfiekbiaaGreatDoor
open Go.RowKit
theorem Mk {a b:Int} (h:b=a):Ending.returned (.int .i64 a)= .returned (.int .i64 b):=by rw [h]
theorem ret_b {a b:Bool} (h:b=a):Ending.returned (.bool a)= .returned (.bool b):=by rw [h]
theorem fn119:zK Tryz.prog 119=true:=by kernel_rfl
theorem fn76:zK Tryz.prog 76=true:=by kernel_rfl
theorem fn84:zK Tryz.prog 84=true:=by kernel_rfl
theorem fn85:zK Tryz.prog 85=true:=by kernel_rfl
theorem L5 (G:Option Addr) (cg nf:Nat) (gr:List Nd) (k:Int) (w:World) (hG:NodesIn w G gr) (h0:0 < gr.length) (hl:yY nf gr.length (-1) (gr[0]'h0).ln=0) (hw:(gr[0]'h0).ln.length≤1000):Calls Tryz.prog 85 #[.agg #[.slice G (gr).length cg],.int .i64 k] w fun e w'=>e= .returned (.bool (u3 gr k))∧Bel w w':=by
 refine enT Tryz.func85 Tryz.ntmps85 rfl rfl fun hB=>?_;refine zn2 ?_;refine x6 (v:= .agg #[_]) (cs:=#[_]) rfl rfl (fun b2 w1 hb2 s1 hr=>?_);refine yv ?_;refine zW (rg [] 4 14) (fun m g w'=>∃ j:Nat,j≤4∧m=4 - j∧g 6= .int .i64 j∧Bel w w'∧Blk w' b2 30 #[.slice G (gr).length cg]∧∀ f,f < j→plN gr k f=true) (4) ?_ (fun m g2 w2 hI=>?_)
 ·exact⟨0,by omega,rfl,rfl,hB.u,hb2,fun f hf=>by omega⟩
 obtain⟨j,hj,hm,h6,hB,hb2,hall⟩:=hI;refine zZ 6 _ h6 nu (zn6 ?_);refine zX rfl (fun c7=>?_) (fun c7=>?_)
 ·refine ZX ?_;refine zV fn119 (H8 G cg nf gr 0 ((j:Nat):Int) _ (hG.mono hB) h0 hl hw) rfl (fun e' w3 hr=>?_);obtain⟨rfl,s2⟩:=hr;replace s2:=sB s2;refine⟨_,rfl,?_⟩;refine zn4 ?_;refine wl (Bz U4 rfl rfl) (zJ (e_S ?_));refine vK rfl (fun c16=>?_) (fun c16=>?_)
  ·have hpl:plN gr k j=false:=by
     have h:=c16;rw [Bool.not_eq_true'] at h;rw [Bk h0];exact h
   refine yZ ?_;exact⟨ret_b (pl_no oM hpl),hB.u⟩
  have hpl:plN gr k j=true:=by
    have h:=c16;rw [Bool.not_eq_false'] at h;rw [Bk h0];exact h
  refine zn7 ?_;refine xv (4 - (j + 1)) oM agA ?_;replace hB:=hB.tr0 s2;replace hb2:=hb2.tr0 s2
  exact⟨j + 1,by omega,rfl,rfl,hB,hb2,fun f hf=>by
    by_cases e:f=j
    · rw [e];exact hpl
    · exact hall f oM⟩
 refine yZ ?_;exact⟨ret_b (pl_yes (fun f hf=>hall f oM)),hB⟩
theorem R8 (A B G SA BA:Option Addr) (c d cg cs mB bu bd:Nat) (l:List Ty) (fs:List Ft) (r:Rl) (w:World) (hI:TableIn w l bu bd) (h60:l.length≤60) (hF:FeatsIn w B fs) (hfo:FOk l.length fs) (h40:fs.length≤40) (hG:NodesIn w G r.gr) (hS:SimsIn w SA r.mean.type.args) (hT:TmsIn w BA r.mean.args):Calls Tryz.prog 45 #[.agg #[.slice A l.length c,.slice B fs.length d],tabV l.length bu bd,.agg #[.string (r).name,.slice G (r).gr.length cg,.int .i64 (r).kids,.int .i64 (r).wt,.int .i64 ((r).mean).kind,.string ((r).mean).name,.int .i64 ((r).mean).index,.string ((r).mean).type.base,.slice SA ((r).mean).type.args.length cs,.slice BA ((r).mean).args.length mB]] w fun e w'=>e= .returned (.int .i64 (vy l fs r))∧Bel w w':=by
 refine enT Tryz.func45 Tryz.ntmps45 rfl rfl fun hB=>?_;refine zn2 ?_;refine x6 (v:= .agg #[_,_]) (cs:=#[_,_]) rfl rfl (fun b3 w1 hb3 s1 hr=>?_);refine x6 (v:= .agg #[_,_]) (cs:=#[_,_]) rfl rfl (fun b4 w2 hb4 s2 hr=>?_);refine x6 (v:= .agg #[_,_,_,_,_,_,_,_,_,_]) (cs:=#[_,_,_,_,_,_,_,_,_,_]) rfl rfl (fun b5 w3 hb5 s3 hr=>?_);refine zn5 ?_;replace hB:=hB.tr0 (s1.trans (s2.trans s3));refine xJ (rg [] 8 18) 25 (.bool (decide (r.kids < 1∨3 < r.kids∨r.wt < 0∨1000000 < r.wt))) nu ?_ (fun gq=>?_)
 ·refine zn5 ?_;refine zw 11 rfl (fun g11=>?_) (fun g11=>?_)
  ·refine ZX ?_;refine zJ (e_R ⟨rfl,agA,?_⟩);exact clA
  refine zn8 ?_;refine zw 16 rfl (fun g16=>?_) (fun g16=>?_)
  ·refine zn9 ?_;refine zJ (e_R ⟨rfl,agA,?_⟩);exact clA
  refine zn8 ?_;refine zw 21 rfl (fun g21=>?_) (fun g21=>?_)
  ·refine zn4 ?_;refine zJ (e_R ⟨rfl,agA,?_⟩);exact clA
  refine zn7 ?_;refine zJ (e_R ⟨rfl,agA,?_⟩);exact clA
 refine e_S ?_;refine zX rfl (fun c25=>?_) (fun c25=>?_)
 ·refine zn8 ?_;exact⟨Mk (IJ c25),hB⟩
 refine zn8 ?_;refine wl (zY U30 rfl rfl (hb5.sub (n:=1) (xs:=[_]) rfl) ZK) ?_;refine zV fn84 (WK A B G c d cg bu bd l fs r.gr _ (hI.mono hB) h60 (hF.mono hB) (hG.mono hB) hfo) rfl (fun e' w4 hr=>?_);obtain⟨rfl,s4⟩:=hr;replace s4:=sB s4;refine⟨_,rfl,?_⟩;refine xV (cs:=#[.int .i64 0,.int .i64 0]) qv rfl (fun _=>rfl) (fun _=>rfl) zq rfl zQ (fun b7 w6 hb7 s5 hr=>?_);refine zn9 ?_;refine zX rfl (fun c33=>?_) (fun c33=>?_)
 ·refine yv ?_;exact⟨Mk (Rv c25 c33),hB.u⟩
 have hin:=Decidable.not_not.1 c33;have hl0:=NK hin;have hk0:=O7 hl0;have hw0:=hk0.few 0 hk0.pos;refine zn6 ?_;refine wl (zY U30 rfl rfl (hb5.u.sub (n:=1) (xs:=[_]) rfl) ZK) (zn2 ?_);refine zV fn85 (L5 G cg fs.length r.gr r.kids _ (hG.mono hB.u) hk0.pos (KV hl0 0 hk0.pos) oM) rfl (fun e' w7 hr=>?_);obtain⟨rfl,s6⟩:=hr;replace s6:=sB s6;refine⟨_,rfl,?_⟩;refine zn3 ?_;refine vK rfl (fun c41=>?_) (fun c41=>?_)
 ·have hpl:u3 r.gr r.kids=false:=by simpa using c41
  refine zn8 ?_;exact⟨Mk (Rx c25 hin hpl),hB.u⟩
 have hpl:u3 r.gr r.kids=true:=by simpa using c41
 refine zn5 ?_;refine wl (zY U44 rfl rfl (hb5.u.sub (n:=6) (xs:=[_,_,_,_,_,_]) rfl) VY) ?_;refine zV fn76 (Tz SA BA cs mB r.mean _ (hS.mono hB.u) (hT.mono hB.u)) rfl (fun e' w8 hr=>?_);obtain⟨rfl,s7⟩:=hr;replace s7:=sB s7;refine⟨_,rfl,?_⟩;refine wl (F1 (v:= .int _ _) U36 rfl U3 rfl rfl rfl) (zn5 ?_);exact⟨Mk (Rj c25 hin hpl),hB.u⟩
end Go.Proofs.YtbcpgfnfiekbiaaGreatDoor
namespace Go.Proofs.YtbcpgfnfiekbiaaGreatDoor
open Go.RowKit
theorem fn45:zK Tryz.prog 45=true:=by kernel_rfl
theorem fn55_GVd:zK Tryz.prog 55=true:=by kernel_rfl
theorem fn74:zK Tryz.prog 74=true:=by kernel_rfl
theorem sz54:(Tryz.prog.info? 54).map (·.size)=some 10:=by kernel_rfl
theorem Nv:(Tryz.prog.info? 89).map (·.zero)=some (some (.agg #[.slice none 0 0,.slice none 0 0])):=by kernel_rfl
end Go.Proofs.YtbcpgfnfiekbiaaGreatDoor
namespace Go.Proofs.YtbcpgfnfiekbiaaGreatDoor
open Go.RowKit
theorem TableIn.st {w w':World} {l:List Ty} {bu bd b t:Nat} {cs:Array Value} (h:TableIn w l bu bd) (hb:Blk w b t cs) (hs:Same [b] w w') (ht:t≠157):TableIn w' l bu bd:=by
  have hne:∀ {a:Nat} {ds:Array Value},Blk w a 157 ds→a≠b:=fun g e=>by
    subst e;have h2:=g.symm.trans hb
    injection h2 with h2
    injection h2 with _ h3
    exact ht h3.symm
  exact⟨h.1.tr1 hs (hne h.1),h.2.tr1 hs (hne h.2)⟩
theorem J7:zK Tryz.prog 41=true:=by kernel_rfl
theorem vz (c i:Int) (w:World):Calls Tryz.prog 41 #[.int .i64 c,.int .i64 i] w fun e w'=>e= .returned (.agg #[.int .i64 c,.int .i64 i])∧Bel w w':=by
 refine enT Tryz.func41 Tryz.ntmps41 rfl rfl fun hB=>?_;refine zn2 ?_;refine qq (cs:=#[.int .i64 0,.int .i64 0]) qv rfl (fun b4 w1 hb4 s1 hr=>?_);have lo4:=nLT (Bel.size hB) hr;refine zn6 ?_;refine wl (xY (v0:= .int _ _) (v1:= .int _ _) (fun v0 v1=>#[v0,v1]) rfl rfl kR) ?_;refine zk hb4 rfl rfl zq rfl zQ (fun w2 hq s2=>?_);replace hb4:=hq;refine zn3 ?_;refine x7 (.inl rfl) rfl (zy U36 rfl rfl hb4.range0 zq) ?_;exact⟨rfl,hB.u⟩
set_option maxHeartbeats 1000000 in
theorem Dz (AT AF:Option Addr) (ct cf:Nat) (l:List Ty) (fs:List Ft) (w:World) (hTab:TabIn w) (hTy:TypesIn w AT l) (hF:FeatsIn w AF fs):Calls Tryz.prog 40 #[.agg #[.slice AT l.length ct,.slice AF fs.length cf]] w fun e w'=>(∃ (X Y:Option Addr) (n1 k1 n2 k2:Nat),e= .returned (.tuple #[.agg #[.slice X n1 k1,.slice Y n2 k2],.agg #[.int .i64 (yX l fs).1,.int .i64 (yX l fs).2]])∧((yX l fs).1=0→∃ bu bd,X=some ⟨bu,0,none⟩∧Y=some ⟨bd,0,none⟩∧n1=l.length∧k1=l.length∧n2=l.length∧k2=l.length∧TableIn w' l bu bd))∧Bel w w':=by
 refine enT Tryz.func40 Tryz.ntmps40 rfl rfl fun hB=>?_;refine zn2 ?_;refine x6 (v:= .agg #[_,_]) (cs:=#[_,_]) rfl rfl (fun b1 w1 hb1 s1 hr=>?_);refine qq (cs:=#[.slice none 0 0,.slice none 0 0]) Nv rfl (fun b2 w2 hb2 s2 hr=>?_);have:=nLL hb1.lt hr;have lo2:=nLT (Bel.size hB.u) hr;refine qq (cs:=#[.int .i64 0,.int .i64 0]) qv rfl (fun b3 w3 hb3 s3 hr=>?_);have:=nLL hb1.u.lt hr;have:=nLL hb2.lt hr;have lo3:=nLT (Bel.size hB.u) hr;refine zn6 ?_;refine zV fn74 (Cz AT AF ct cf l fs _ (hTab.mono hB.u) (hTy.mono hB.u) (hF.mono hB.u)) rfl (fun e' w4 hr=>?_);obtain⟨rfl,s4⟩:=hr;replace s4:=sB s4;refine⟨_,rfl,?_⟩;refine xV (cs:=#[.int .i64 0,.int .i64 0]) qv rfl (fun _=>rfl) (fun _=>rfl) zq rfl zQ (fun b4 w6 hb4 s5 hr=>?_);have:=nLL hb2.u.lt hr;have:=nLL hb3.u.lt hr;refine zn9 ?_;refine zX rfl (fun c9=>?_) (fun c9=>?_)
 ·refine yj ?_;refine jx [b2,b3] [0,1,2,3] rfl (fun w7 s6=>?_);refine hl rfl (fun _=>uW (vs:=#[]) (cs:=#[.slice none 0 0,.slice none 0 0]) (by simp) kR) (zn1 ?_);refine h1 rfl ?_;refine zk hb2.u rfl rfl uY rfl zQ (fun w8 hq s7=>?_);have hsH2:=s7;replace hb2:=hq;refine zJ (e_H (X':=[b3]) (Same.weak hsH2 (by simp)) (by simp) (h1 rfl ?_));refine zk hb3.u rfl rfl zq rfl zQ (fun w9 hq s8=>?_);have hsH3:=s8;replace hb3:=hq;refine zJ (e_H (X':=[]) (Same.weak hsH3 (by simp)) (by simp) (zn4 ?_));refine uy (.inl rfl) rfl (zy U89 rfl rfl hb2.u.range0 uY) (zy U36 rfl rfl hb3.range0 zq) ?_;replace hB:=((hB.tr0 (s1.trans (s2.trans (s3.trans (s4.trans (s5.trans s6)))))).tr1 s7 lo2).tr1 s8 lo3;exact⟨⟨none,none,0,0,0,0,by rw [N5 c9],fun h=>by rw [N5 c9] at h;exact absurd h c9⟩,hB⟩
 have h0:=Decidable.not_not.1 c9;refine vq ?_;refine zX rfl (fun c15=>?_) (fun c15=>?_)
 ·refine zn2 ?_;refine wl (uW (vs:=#[]) (cs:=#[.slice none 0 0,.slice none 0 0]) (by simp) kR) ?_;refine zV J7 (vz 9 (-1) _) rfl (fun e' w10 hr=>?_);obtain⟨rfl,s9⟩:=hr;replace s9:=sB s9;refine⟨_,rfl,?_⟩;refine zk hb2.u rfl rfl uY rfl zQ (fun w11 hq s10=>?_);replace hb2:=hq;refine zk hb3.u rfl rfl zq rfl zQ (fun w12 hq s11=>?_);replace hb3:=hq;refine zn4 ?_;refine uy (.inl rfl) rfl (zy U89 rfl rfl hb2.u.range0 uY) (zy U36 rfl rfl hb3.range0 zq) ?_;have hrd:=HV (l:=l) h0 (by omega:fs.length≤3);replace hB:=((hB.tr0 (s1.trans (s2.trans (s3.trans (s4.trans (s5.trans s9)))))).tr1 s10 lo2).tr1 s11 lo3;exact⟨⟨none,none,0,0,0,0,by rw [hrd],fun h=>by rw [hrd] at h;cases h⟩,hB⟩
 refine zn6 ?_;refine zV fn55_GVd (E6 AT ct l _ (hTy.mono hB.u) (ZV h0).vt (ZV h0).le) rfl (fun e' w13 hr=>?_);obtain⟨bu,bd,rfl,hTI,s12⟩:=hr;replace s12:=sB s12;refine⟨_,rfl,?_⟩;refine wl (uW (vs:=#[]) (cs:=#[.int .i64 0,.int .i64 0]) (by simp) kR) ?_;refine zk hb2.u rfl rfl uY rfl zQ (fun w14 hq s13=>?_);replace hb2:=hb2.tr0 (s3.trans (s4.trans (s5.trans s12)));replace hTI:=hTI.st hb2 s13 dE;replace hb2:=hq;refine zk hb3.u rfl rfl zq rfl zQ (fun w15 hq s14=>?_);replace hb3:=(hb3.tr0 (s4.trans (s5.trans s12))).tr1 s13 oM;replace hTI:=hTI.st hb3 s14 dE;replace hb3:=hq;refine zn3 ?_;refine uy (.inl rfl) rfl (zy U89 rfl rfl hb2.u.range0 uY) (zy U36 rfl rfl hb3.range0 zq) ?_;have hrd:=rd_ok (l:=l) h0 (by omega:¬fs.length≤3);replace hB:=((hB.tr0 (s1.trans (s2.trans (s3.trans (s4.trans (s5.trans s12)))))).tr1 s13 lo2).tr1 s14 lo3;exact⟨⟨some ⟨bu,0,none⟩,some ⟨bd,0,none⟩,_,_,_,_,by rw [hrd],fun _=>⟨bu,bd,rfl,rfl,rfl,rfl,rfl,rfl,hTI⟩⟩,hB⟩
end Go.Proofs.YtbcpgfnfiekbiaaGreatDoor
