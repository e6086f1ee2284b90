/- What these functions of the program compute, at every world: glosswright/glosswrightref1.TypeOf. -/
import Derived.Test.YtdkfnakncaggoaaGreatDoorU
import Derived.Test.YtdkfnakncaggoaaGreatDoorName
import Derived.Test.YtdkfnakncaggoaaGreatDoorNBd
import Derived.Test.YtdkfnakncaggoaaGreatDoorNSv
import Derived.Test.YtdkfnakncaggoaaGreatDoorNTy
namespace Go.Proofs.YtdkfnakncaggoaaGreatDoor
open Go.RowKit
theorem fn114:zQ Tryz.prog 114=true:=by kernel_rfl
theorem fn115:zQ Tryz.prog 115=true:=by kernel_rfl
theorem fn116:zQ Tryz.prog 116=true:=by kernel_rfl
set_option maxRecDepth 100000 in
set_option maxHeartbeats 8000000 in
theorem TY (tv:Tv) (A B:Option Addr) (c m:Nat) (w:World) (hS:SimsIn w A tv.tm.type.args) (hT:TmsIn w B tv.tm.args) (hv2:tv.size≤200) (hok:tv.ok 0):Calls Tryz.prog 95 #[.agg #[.int .i64 (Tv.tm tv).kind,.string (Tv.tm tv).name,.int .i64 (Tv.tm tv).index,.string (Tv.tm tv).type.base,.slice A (Tv.tm tv).type.args.length c,.slice B (Tv.tm tv).args.length m]] w fun e w'=>(∃ (s:ByteArray) (A':Option Addr) (n c':Nat),e= .returned (.tuple #[.agg #[.string s,.slice A' n c'],.bool (tyv [] tv).isSome]))∧Bel w w':=by
 refine enter Tryz.func95 Tryz.ntmps95 rfl (Nat.le_of_ble_eq_true rfl) ?_;have hB:Bel w w:=Below.refl _ _;refine zn2 ?_;refine qW (v:= .agg #[_,_,_,_,_,_]) (cs:=#[_,_,_,_,_,_]) rfl rfl (fun b1 w1 hb1 hs hr=>?_);replace hB:=hB.tr0 hs;clear hr;refine qZ (cs:=#[.string ⟨#[]⟩,.slice none 0 0]) Vx rfl (fun b2 w2 hb2 hs hr=>?_);have lo2:=nLT (Bel.size hB) hr;replace hB:=hB.tr0 hs;replace hb1:=hb1.tr0 hs;clear hr;refine zn6 ?_;refine zV fn113 (rows0_any tv A B c m w hS hT om _ hB) rfl (fun e' w3 hr=>?_);obtain⟨⟨q,cap4,zs,rfl,ho4,hR4⟩,hs⟩:=hr;replace hs:=sB hs;replace hB:=hB.tr0 hs;replace hb1:=hb1.tr0 hs;replace hb2:=hb2.tr0 hs;obtain⟨wr,hwr⟩:∃ z,z=w3:=⟨_,rfl⟩
 have hBr:Bel wr w3:=by rw [hwr];exact Below.refl _ _
 have hrd:RdT w wr q (rws (-1) 0 tv):=by rw [hwr];exact rdt_of ho4 hR4
 have hql:q < wr.heap.size:=by rw [hwr];exact(ho4.lt q (List.mem_singleton.2 rfl)).2
 have hlr:(rws (-1) 0 tv).length=tv.size:=Q6 _ _ _;have hvp:=tv.pos;have hnd:QZ (rws (-1) 0 tv) 0 [] tv:=O3 (fun j h=>by rw [Nat.zero_add];exact List.getElem?_eq_getElem h) .nil dE;refine⟨_,rfl,?_⟩;refine zn7 ?_;refine wl_mk (m:=tv.size) U50 in52 rfl rfl om om (fun b14 w4 hb14 hs hr=>?_);have:=nLL hb2.lt hr;have lo14:=nLT (Bel.size hB) hr;have lo_hBr_b14:=nLT (Bel.size hBr) hr;replace hB:=hB.tr0 hs;replace hb2:=hb2.tr0 hs;replace hBr:=hBr.tr0 hs;clear hr;refine zn8 ?_;refine wl (jV (c:=((tv.size:Nat):Int) - 1) rfl rfl rfl om) (zn4 ?_);refine q8 [3,6,7,8,9,18,19,20,21,22,23,24,25,26,27,28,29,30,31,32,33,34,35,36,37,38,39,40,41,42,43,44,45,46,47,48,49,50,51,52,53,54,55,56,57,58,59,60,61,62,63,64,65,66,67,68,69,70,71,72,73,74,75,76,77,78,79,80,81,82,83,84,85,86,87,88,89,90,91,92,93,94,95,96,97,98,99,100,101,102,103] (fun mm g w'=>∃ (i:Nat) (z:Int) (F H:Nat→Value),i≤tv.size∧mm=i∧z + 1=i∧g 6= .int .i64 z∧Bel w w'∧Bel wr w'∧Blk w' b2 52 #[.string ⟨#[]⟩,.slice none 0 0]∧Blk w' b14 52 (o6 tv.size F H)∧TI (rws (-1) 0 tv) tv.size i F H w') (tv.size) ?_ (fun m g4 w5 hI=>?_)
 ·exact⟨tv.size,_,_,_,Nat.le_refl _,rfl,by omega,rfl,hB,hBr,hb2,(by rw [← row2_made];exact hb14),TI.start _ _ _⟩
 obtain⟨i,z,F,H,hi,hmi,hzi,h6,hB,hBr,hb2,hb14,hTI⟩:=hI;have hBk:Bel w5 w5:=Below.refl _ _;refine zJ 6 (.int .i64 z) h6 nu (zn7 ?_);refine zw rfl (fun c19=>?_) (fun c19=>?_)
 ·obtain⟨p,rfl⟩:∃ p:Nat,z=p:=⟨z.toNat,by omega⟩
  obtain rfl:i=p + 1:=by omega
  have hpn:p < tv.size:=by omega
  have hpl:p < (nds [] tv).length:=by rw [JZ];exact hpn
  obtain⟨hnp,hokp,hGp,hszp,hsome⟩:=IK hnd hok (by simp) p hpl;rw [Nat.zero_add] at hnp;have hcx:=IJ tv [] p hpl;rw [List.length_nil] at hcx
  generalize (nds [] tv)[p].1=Γp at hnp hokp hGp hsome hcx
  generalize (nds [] tv)[p].2=vp at hnp hokp hszp hsome hcx
  obtain⟨r,hr,hkk⟩:=nd_row hnp;obtain⟨A7,c7,K7,ck7,hrr,hrt2,hrs,hrk⟩:=hrd p r hr;refine zn8 ?_;refine wl (yQ (i:=p) U167 Bv rfl rfl hpn rfl) (wl (zW I1 rfl rfl (hBr.range hql hrr) Bv) ?_);refine xV (cs:=#[.int .i64 0,.string ⟨#[]⟩,.string ⟨#[]⟩,.slice none 0 0,.int .i64 0,.slice none 0 0,.int .i64 0]) ze170 rfl (fun _=>rfl) (fun _=>rfl) Bv rfl zK (fun b7 w7 hb7 hs hr=>?_);replace hB:=hB.tr0 hs;replace hb2:=hb2.tr0 hs;replace hBr:=hBr.tr0 hs;replace hb14:=hb14.tr0 hs;replace hBk:=hBk.tr0 hs;clear hr;refine Zk ?_;refine zw rfl (fun c28=>?_) (fun c28=>?_)
  ·obtain⟨nm,τ,rfl,hrt⟩:=nd_con hnp hr c28;rw [hrt] at hrs;have hZ:SameQ [b14] w7 w7:=Same.refl _ _;have hTI2:=hTI.mono hBk;have hb14z:=hb14;have hBz:=hB;have hBkz:=hBk;refine zn4 ?_;refine wl (zW U52 rfl rfl (hb7.sub (n:=2) (xs:=[_,_]) rfl) xy) (wl (yQ (i:=p) U50 xy rfl rfl hpn rfl) ?_);refine K9 hb14 rfl rfl xy (by rw [ZQ];show 0 + p * 2 + 2≤tv.size * 2;omega) zK Jx (fun w8 hq hs=>?_);replace hB:=hB.tr1 hs lo14;replace hb2:=hb2.tr1 hs om;replace hBr:=hBr.tr1 hs lo_hBr_b14;replace hZ:=SameQ.trans hZ hs (by simp);replace hb14:=hq;rw [hrt] at hb14;have hTI3:=hTI2.put  hpn hb14z hb14 hZ (TyAt.con hr c28 hrt) (hrs.mono hBz);refine zn6 ?_;refine wl (jV rfl rfl rfl om) (zn2 ?_);refine xv (p) om agA ?_;exact⟨p,_,_,_,by omega,rfl,by omega,rfl,hB,hBr,hb2,hb14,hTI3⟩
  refine zn6 ?_;refine zw rfl (fun c35=>?_) (fun c35=>?_)
  ·obtain⟨i2,rfl,hri,hup,hch⟩:=nd_var hnp hr c35;have hti:=List.getElem?_eq_getElem hokp;have hZ:SameQ [b14] w7 w7:=Same.refl _ _;have hTI2:=hTI.mono hBk;have hb14z:=hb14;have hBz:=hB;have hBkz:=hBk;refine zn6 ?_;refine zV fn114 (FW hrd hlr hBr hql hr hri hup hch hti (by have:i2 < Γp.length:=hokp;omega)) rfl (fun e' w9 hr=>?_);obtain⟨⟨u,ru,rfl,hru,hrut⟩,hs⟩:=hr;replace hs:=sB hs;replace hB:=hB.tr0 hs;replace hb2:=hb2.tr0 hs;replace hBr:=hBr.tr0 hs;replace hb14:=hb14.tr0 hs;replace hZ:=SameQ.trans hZ hs (by simp);obtain⟨A8,c8,K8,ck8,_,hr2,hs8,_⟩:=hrd u ru hru;rw [hrut] at hr2 hs8;refine⟨_,rfl,?_⟩;refine wl (yQ (i:=u) U167 Bv rfl rfl (by have h:=(List.getElem?_eq_some_iff.1 hru).1;rw [hlr] at h;exact h) rfl) ?_;refine zn1 ?_;refine wl (zW U52 rfl rfl (hBr.range hql hr2) xy) (wl (yQ (i:=p) U50 xy rfl rfl hpn rfl) ?_);refine K9 hb14 rfl rfl xy (by rw [ZQ];show 0 + p * 2 + 2≤tv.size * 2;omega) zK Jx (fun w10 hq hs=>?_);replace hB:=hB.tr1 hs lo14;replace hb2:=hb2.tr1 hs om;replace hBr:=hBr.tr1 hs lo_hBr_b14;replace hZ:=SameQ.trans hZ hs (by simp);replace hb14:=hq;have hTI3:=hTI2.put  hpn hb14z hb14 hZ (TyAt.var hr c35 hri hch hti) (hs8.mono hBz);refine zn6 ?_;refine wl (jV rfl rfl rfl om) (zn2 ?_);refine xv (p) om agA ?_;exact⟨p,_,_,_,by omega,rfl,by omega,rfl,hB,hBr,hb2,hb14,hTI3⟩
  refine zn6 ?_;refine zw rfl (fun c47=>?_) (fun c47=>?_)
  ·obtain⟨τ,x,rfl,hrt,hrk2,hnx⟩:=nd_abs hnp hr c47;have hp1:p + 1 < tv.size:=by have:=nd_lt hnx;rw [hlr] at this;exact this
   obtain⟨ρ,Aρ,cρ,hρ,hF1,hH1,hSρ⟩:=hTI.t (p + 1) (Nat.le_refl _) hp1;have hk0l:0 < r.kids.length:=by rw [hrk2];exact Nat.zero_lt_succ _
   obtain⟨kg,rfl,hkg,hk0⟩:=hrk 0 hk0l;have e0:r.kids[0]'hk0l=((p + 1:Nat):Int):=by simp [hrk2]
   rw [e0] at hk0;refine yk 13 [49,50,51,52,53,54,55,56,57,58,59,60,61] (fun _=>false) (fun ix v wv=>match ix with | 0=>v= .slice (some ⟨b14,0,none⟩) tv.size tv.size | 1=>v= .int .i64 ((p:Nat):Int) | 2=>v= .pointer (some ⟨b7,0 + 2,none⟩) | 3=>v= .agg #[.string r.typ.base,.slice A7 r.typ.args.length c7] | 4=>v= .slice (some ⟨b14,0,none⟩) tv.size tv.size | 5=>v= .pointer (some ⟨b7,0 + 5,none⟩) | 6=>v= .slice (some ⟨kg,0,none⟩) r.kids.length ck7 | 7=>v= .pointer (some ⟨kg,0 + 0 * 1,none⟩) | 8=>v= .int .i64 ((p + 1:Nat):Int) | 9=>v= .pointer (some ⟨b14,0 + (p + 1) * 2,none⟩) | 10=>v= .agg #[.string ρ.sm.base,.slice Aρ ρ.sm.args.length cρ] | 11=>∃ b,v= .agg #[.string ⟨#[]⟩,.slice (some ⟨b,0,none⟩) 2 2]∧SimsIn wv (some ⟨b,0,none⟩) [r.typ,ρ.sm] | 12=>v= .pointer (some ⟨b14,0 + p * 2,none⟩) | _=>True) kR kR ?_ ?_ ?_
   ·intro ix v wv wv2 h hs
    match ix,h with
    | 0,h=>exact h
    | 1,h=>exact h
    | 2,h=>exact h
    | 3,h=>exact h
    | 4,h=>exact h
    | 5,h=>exact h
    | 6,h=>exact h
    | 7,h=>exact h
    | 8,h=>exact h
    | 9,h=>exact h
    | 10,h=>exact h
    | 11,h=>
     obtain⟨b60,e60,hs60⟩:=h;exact⟨b60,e60,hs60.mono hs.bel⟩
    | 12,h=>exact h
    | _ + 13,h=>exact trivial
   ·intro ix o hix hoq gg wx hs hd hdis
    match ix,hix,hoq with
    | 0,_,hoq=>
     cases sI hoq;exact oV (x9 (v:= .slice _ _ _) rfl) rfl
    | 1,_,hoq=>
     cases sI hoq;exact oV (x9 (v:= .int _ _) rfl) rfl
    | 2,_,hoq=>
     cases sI hoq;exact oV (vX I1 xy dE rfl rfl rfl) rfl
    | 3,_,hoq=>
     cases sI hoq;replace hb7:=hb7.tr0 hs;refine z4 51 (.pointer (some ⟨b7,0 + 2,none⟩)) (hd 2 (zz kR)) nu ?_;exact oV (zW U52 rfl rfl (hb7.sub (n:=2) (xs:=[_,_]) rfl) xy) rfl
    | 4,_,hoq=>
     cases sI hoq;exact oV (x9 (v:= .slice _ _ _) rfl) rfl
    | 5,_,hoq=>
     cases sI hoq;exact oV (vX I1 VX dE rfl rfl rfl) rfl
    | 6,_,hoq=>
     cases sI hoq;replace hb7:=hb7.tr0 hs;refine z4 54 (.pointer (some ⟨b7,0 + 5,none⟩)) (hd 5 (zz kR)) nu ?_;exact oV (qk (v:= .slice _ _ _) U69 rfl rfl (hb7.cell rfl)) rfl
    | 7,_,hoq=>
     cases sI hoq;refine z4 55 (.slice (some ⟨kg,0,none⟩) r.kids.length ck7) (hd 6 (zz kR)) nu ?_;exact oV (yQ (i:=0) U69 qw rfl rfl hk0l rfl) rfl
    | 8,_,hoq=>
     cases sI hoq;replace hBr:=hBr.tr0 hs;refine z4 56 (.pointer (some ⟨kg,0 + 0 * 1,none⟩)) (hd 7 (zz kR)) nu ?_;exact oV (qk (v:= .int _ _) U3 rfl rfl (hBr.cell hkg hk0)) rfl
    | 9,_,hoq=>
     cases sI hoq;refine z4 53 (.slice (some ⟨b14,0,none⟩) tv.size tv.size) (hd 4 (zz kR)) nu (z4 57 (.int .i64 ((p + 1:Nat):Int)) (hd 8 (zz kR)) nu ?_);exact oV (yQ (i:=(p + 1)) U50 xy rfl rfl hp1 rfl) rfl
    | 10,_,hoq=>
     cases sI hoq;replace hb14:=hb14.tr0 hs;refine z4 58 (.pointer (some ⟨b14,0 + (p + 1) * 2,none⟩)) (hd 9 (zz kR)) nu ?_;exact oV (zW U52 rfl rfl (Jj hb14 hp1 hF1 hH1) xy) rfl
    | 11,_,hoq=>
     cases sI hoq;replace hB:=hB.tr0 hs;replace hBk:=hBk.tr0 hs;refine z4 52 (.agg #[.string r.typ.base,.slice A7 r.typ.args.length c7]) (hd 3 (zz kR)) nu (z4 59 (.agg #[.string ρ.sm.base,.slice Aρ ρ.sm.args.length cρ]) (hd 10 (zz kR)) nu ?_);refine qx fn115 (to_any A7 Aρ c7 cρ r.typ ρ.sm wx (hrs.mono hB) (hSρ.mono hBk)) rfl (fun e' w2 hr=>?_);obtain⟨⟨b60,rfl,hs60⟩,hs⟩:=hr;exact⟨_,rfl,sB hs,⟨_,rfl,hs60⟩,zX⟩
    | 12,_,hoq=>
     cases sI hoq;refine z4 49 (.slice (some ⟨b14,0,none⟩) tv.size tv.size) (hd 0 (zz kR)) nu (z4 50 (.int .i64 ((p:Nat):Int)) (hd 1 (zz kR)) nu ?_);exact oV (yQ (i:=p) U50 xy rfl rfl hpn rfl) rfl
    | _ + 13,hix,_=>exact absurd hix om
   intro gg w11 hs hR hdis;replace hB:=hB.tr0 hs;replace hb2:=hb2.tr0 hs;replace hBr:=hBr.tr0 hs;replace hb14:=hb14.tr0 hs;replace hBk:=hBk.tr0 hs;obtain⟨b60,e60,hs60⟩:=hR 11 dE;have hZ:SameQ [b14] w11 w11:=Same.refl _ _;have hTI2:=hTI.mono hBk;have hb14z:=hb14;have hBz:=hB;have hBkz:=hBk;refine qK 60 (.agg #[.string ⟨#[]⟩,.slice (some ⟨b60,0,none⟩) 2 2]) e60 nu (qK 61 (.pointer (some ⟨b14,0 + p * 2,none⟩)) (hR 12 dE) nu ?_);refine K9 hb14 rfl rfl xy (by rw [ZQ];show 0 + p * 2 + 2≤tv.size * 2;omega) zK Jx (fun w12 hq hs=>?_);replace hB:=hB.tr1 hs lo14;replace hb2:=hb2.tr1 hs om;replace hBr:=hBr.tr1 hs lo_hBr_b14;replace hZ:=SameQ.trans hZ hs (by simp);replace hb14:=hq;rw [hrt] at hs60;have hTI3:=hTI2.put  hpn hb14z hb14 hZ ((TyAt.abs hr c47 hrt hρ:TyAt _ _ (Ts.f τ ρ))) (hs60);refine zn6 ?_;refine wl (jV rfl rfl rfl om) (zn2 ?_);refine xv (p) om agA ?_;exact⟨p,_,_,_,by omega,rfl,by omega,rfl,hB,hBr,hb2,hb14,hTI3⟩
  refine zn6 ?_;refine zw rfl (fun c62=>?_) (fun c62=>?_)
  ·obtain⟨x,y,rfl,hrk2,hnx,hny⟩:=nd_app hnp hr c62;have hp1:p + 1 < tv.size:=by have:=nd_lt hnx;rw [hlr] at this;exact this
   have hp2:p + 1 + x.size < tv.size:=by have:=nd_lt hny;rw [hlr] at this;exact this
   obtain⟨α,Aα,cα,hα,hF1,hH1,hSα⟩:=hTI.t (p + 1) (Nat.le_refl _) hp1;obtain⟨β,Aβ,cβ,hβ,hF2,hH2,hSβ⟩:=hTI.t (p + 1 + x.size) om hp2;have hk0l:0 < r.kids.length:=by rw [hrk2];exact Nat.zero_lt_succ _
   have hk1l:1 < r.kids.length:=by rw [hrk2];exact Nat.one_lt_two
   obtain⟨kg,rfl,hkg,hk0⟩:=hrk 0 hk0l;obtain⟨_,e9,_,hk1⟩:=hrk 1 hk1l;cases e9;have e0:r.kids[0]'hk0l=((p + 1:Nat):Int):=by simp [hrk2]
   have e1:r.kids[1]'hk1l=((p + 1 + x.size:Nat):Int):=by simp [hrk2]
   rw [e0] at hk0;rw [e1] at hk1;refine xX ?_;have hszB:=Bel.size hB;have hszR:=Bel.size hBr;have hszK:=Bel.size hBk;have lt2W:=hb2.lt;have lt14W:=hb14.lt;have lt7W:=hb7.lt;refine Tq 18 [64,65,66,67,68,69,70,71,72,73,74,75,76,77,8,9] [] (fun ix=>Nat.beq ix 16 || Nat.beq ix 17) (fun st ix v la ha wv=>match ix with | 0=>v= .slice (some ⟨b14,0,none⟩) tv.size tv.size | 1=>v= .pointer (some ⟨b7,0 + 5,none⟩) | 2=>v= .slice (some ⟨kg,0,none⟩) r.kids.length ck7 | 3=>v= .pointer (some ⟨kg,0 + 0 * 1,none⟩) | 4=>v= .int .i64 ((p + 1:Nat):Int) | 5=>v= .pointer (some ⟨b14,0 + (p + 1) * 2,none⟩) | 6=>v= .agg #[.string α.sm.base,.slice Aα α.sm.args.length cα] | 7=>v= .slice (some ⟨b14,0,none⟩) tv.size tv.size | 8=>v= .pointer (some ⟨b7,0 + 5,none⟩) | 9=>v= .slice (some ⟨kg,0,none⟩) r.kids.length ck7 | 10=>v= .pointer (some ⟨kg,0 + 1 * 1,none⟩) | 11=>v= .int .i64 ((p + 1 + x.size:Nat):Int) | 12=>v= .pointer (some ⟨b14,0 + (p + 1 + x.size) * 2,none⟩) | 13=>v= .agg #[.string β.sm.base,.slice Aβ β.sm.args.length cβ] | 14=>∃ b:Nat,v= .pointer (some ⟨b,0,none⟩)∧w7.heap.size≤b∧(st 16=false→Blk wv b 52 #[.string ⟨#[]⟩,.slice none 0 0])∧(st 16=true→Blk wv b 52 #[.string α.sm.base,.slice Aα α.sm.args.length cα])∧la≤b∧b < ha | 15=>∃ b:Nat,v= .pointer (some ⟨b,0,none⟩)∧w7.heap.size≤b∧(st 17=false→Blk wv b 52 #[.string ⟨#[]⟩,.slice none 0 0])∧(st 17=true→Blk wv b 52 #[.string β.sm.base,.slice Aβ β.sm.args.length cβ])∧la≤b∧b < ha | 16=>True | 17=>True | _=>True) kR kR kR ?_ ?_ ?_
   ·intro st ix v la ha wv wv2 h hs
    match ix,h with
    | 0,h=>exact h
    | 1,h=>exact h
    | 2,h=>exact h
    | 3,h=>exact h
    | 4,h=>exact h
    | 5,h=>exact h
    | 6,h=>exact h
    | 7,h=>exact h
    | 8,h=>exact h
    | 9,h=>exact h
    | 10,h=>exact h
    | 11,h=>exact h
    | 12,h=>exact h
    | 13,h=>exact h
    | 14,h=>
     obtain⟨b8,e8,lo8,hz8,hy8,la8,ha8⟩:=h;exact⟨b8,e8,lo8,fun h=>(hz8 h).tr0 hs,fun h=>(hy8 h).tr0 hs,la8,ha8⟩
    | 15,h=>
     obtain⟨b9,e9,lo9,hz9,hy9,la9,ha9⟩:=h;exact⟨b9,e9,lo9,fun h=>(hz9 h).tr0 hs,fun h=>(hy9 h).tr0 hs,la9,ha9⟩
    | 16,h=>exact h
    | 17,h=>exact h
    | _ + 18,h=>exact trivial
   ·intro st ix o hix hoq hns gg wx la ha hs hd
    match ix,hix,hoq,hns with
    | 0,_,hoq,hns=>
     cases sI hoq;show OS _ _ _ _ _ _;refine xZ (x9 (v:= .slice _ _ _) rfl) ⟨Same.refl _ _,?_⟩;exact rfl
    | 1,_,hoq,hns=>
     cases sI hoq;show OS _ _ _ _ _ _;refine xZ (vX I1 VX dE rfl rfl rfl) ⟨Same.refl _ _,?_⟩;exact rfl
    | 2,_,hoq,hns=>
     cases sI hoq;show OS _ _ _ _ _ _;replace hb7:=hb7.tr0 hs;refine z4 65 (.pointer (some ⟨b7,0 + 5,none⟩)) (hd 1 _ (zz kR) rfl) nu ?_;refine xZ (qk (v:= .slice _ _ _) U69 rfl rfl (hb7.cell rfl)) ⟨Same.refl _ _,?_⟩;exact rfl
    | 3,_,hoq,hns=>
     cases sI hoq;show OS _ _ _ _ _ _;refine z4 66 (.slice (some ⟨kg,0,none⟩) r.kids.length ck7) (hd 2 _ (zz kR) rfl) nu ?_;refine xZ (yQ (i:=0) U69 qw rfl rfl hk0l rfl) ⟨Same.refl _ _,?_⟩;exact rfl
    | 4,_,hoq,hns=>
     cases sI hoq;show OS _ _ _ _ _ _;replace hBr:=hBr.tr0 hs;refine z4 67 (.pointer (some ⟨kg,0 + 0 * 1,none⟩)) (hd 3 _ (zz kR) rfl) nu ?_;refine xZ (qk (v:= .int _ _) U3 rfl rfl (hBr.cell hkg hk0)) ⟨Same.refl _ _,?_⟩;exact rfl
    | 5,_,hoq,hns=>
     cases sI hoq;show OS _ _ _ _ _ _;refine z4 64 (.slice (some ⟨b14,0,none⟩) tv.size tv.size) (hd 0 _ (zz kR) rfl) nu (z4 68 (.int .i64 ((p + 1:Nat):Int)) (hd 4 _ (zz kR) rfl) nu ?_);refine xZ (yQ (i:=(p + 1)) U50 xy rfl rfl hp1 rfl) ⟨Same.refl _ _,?_⟩;exact rfl
    | 6,_,hoq,hns=>
     cases sI hoq;show OS _ _ _ _ _ _;replace hb14:=hb14.tr0 hs;refine z4 69 (.pointer (some ⟨b14,0 + (p + 1) * 2,none⟩)) (hd 5 _ (zz kR) rfl) nu ?_;refine xZ (zW U52 rfl rfl (Jj hb14 hp1 hF1 hH1) xy) ⟨Same.refl _ _,?_⟩;exact rfl
    | 7,_,hoq,hns=>
     cases sI hoq;show OS _ _ _ _ _ _;refine xZ (x9 (v:= .slice _ _ _) rfl) ⟨Same.refl _ _,?_⟩;exact rfl
    | 8,_,hoq,hns=>
     cases sI hoq;show OS _ _ _ _ _ _;refine xZ (vX I1 VX dE rfl rfl rfl) ⟨Same.refl _ _,?_⟩;exact rfl
    | 9,_,hoq,hns=>
     cases sI hoq;show OS _ _ _ _ _ _;replace hb7:=hb7.tr0 hs;refine z4 72 (.pointer (some ⟨b7,0 + 5,none⟩)) (hd 8 _ (zz kR) rfl) nu ?_;refine xZ (qk (v:= .slice _ _ _) U69 rfl rfl (hb7.cell rfl)) ⟨Same.refl _ _,?_⟩;exact rfl
    | 10,_,hoq,hns=>
     cases sI hoq;show OS _ _ _ _ _ _;refine z4 73 (.slice (some ⟨kg,0,none⟩) r.kids.length ck7) (hd 9 _ (zz kR) rfl) nu ?_;refine xZ (yQ (i:=1) U69 qw rfl rfl hk1l rfl) ⟨Same.refl _ _,?_⟩;exact rfl
    | 11,_,hoq,hns=>
     cases sI hoq;show OS _ _ _ _ _ _;replace hBr:=hBr.tr0 hs;refine z4 74 (.pointer (some ⟨kg,0 + 1 * 1,none⟩)) (hd 10 _ (zz kR) rfl) nu ?_;refine xZ (qk (v:= .int _ _) U3 rfl rfl (hBr.cell hkg hk1)) ⟨Same.refl _ _,?_⟩;exact rfl
    | 12,_,hoq,hns=>
     cases sI hoq;show OS _ _ _ _ _ _;refine z4 71 (.slice (some ⟨b14,0,none⟩) tv.size tv.size) (hd 7 _ (zz kR) rfl) nu (z4 75 (.int .i64 ((p + 1 + x.size:Nat):Int)) (hd 11 _ (zz kR) rfl) nu ?_);refine xZ (yQ (i:=(p + 1 + x.size)) U50 xy rfl rfl hp2 rfl) ⟨Same.refl _ _,?_⟩;exact rfl
    | 13,_,hoq,hns=>
     cases sI hoq;show OS _ _ _ _ _ _;replace hb14:=hb14.tr0 hs;refine z4 76 (.pointer (some ⟨b14,0 + (p + 1 + x.size) * 2,none⟩)) (hd 12 _ (zz kR) rfl) nu ?_;refine xZ (zW U52 rfl rfl (Jj hb14 hp2 hF2 hH2) xy) ⟨Same.refl _ _,?_⟩;exact rfl
    | 14,_,hoq,hns=>
     cases sI hoq;show OS _ _ _ _ _ _;have hs0:=hs;refine jx (fun ops Q K=>?_);refine qZ (cs:=#[.string ⟨#[]⟩,.slice none 0 0]) Vx rfl (fun b8 w1 hb8 hs hr=>?_);exact K _ _ ⟨hs,_,rfl,nLT hs0.size hr,fun _=>hb8,(fun h=>absurd (hns 16 rfl kR) (by rw [h];decide)),hr,hb8.lt⟩
    | 15,_,hoq,hns=>
     cases sI hoq;show OS _ _ _ _ _ _;have hs0:=hs;refine jx (fun ops Q K=>?_);refine qZ (cs:=#[.string ⟨#[]⟩,.slice none 0 0]) Vx rfl (fun b9 w1 hb9 hs hr=>?_);exact K _ _ ⟨hs,_,rfl,nLT hs0.size hr,fun _=>hb9,(fun h=>absurd (hns 17 rfl kR) (by rw [h];decide)),hr,hb9.lt⟩
    | 16,_,hoq,hns=>
     cases sI hoq;show st 16=false→(∀ j k,j ∈ _→k ∈ _→j≠k→ha j≤la k∨ha k≤la j)→OS _ _ _ _ _ _;intro hn hI;have hs0:=hs;obtain⟨b8,e8,lo8,hz8,hy8,la8,ha8⟩:=hd 14 _ (zz kR) rfl;refine z4 70 (.agg #[.string α.sm.base,.slice Aα α.sm.args.length cα]) (hd 6 _ (zz kR) rfl) nu (z4 8 (.pointer (some ⟨b8,0,none⟩)) e8 nu ?_);have hzb:=hz8 hn;have hdj:=hI 14 15 (zz kR) (zz kR) dE;refine os_wl0 (fun ops Q K=>?_);refine zk hzb rfl rfl xy rfl zK (fun w2 hq hs2=>?_);have K2:=K w2;refine K2 ⟨hs0.freshL hs2 (fun g hg=>by rw [List.mem_singleton.1 hg];exact .inr lo8),hs2.size,?_,fun kx ox hne hox h=>?_⟩
     ·exact trivial
     match kx,hne,hox,h with
     | 0,_,_,h=>exact h
     | 1,_,_,h=>exact h
     | 2,_,_,h=>exact h
     | 3,_,_,h=>exact h
     | 4,_,_,h=>exact h
     | 5,_,_,h=>exact h
     | 6,_,_,h=>exact h
     | 7,_,_,h=>exact h
     | 8,_,_,h=>exact h
     | 9,_,_,h=>exact h
     | 10,_,_,h=>exact h
     | 11,_,_,h=>exact h
     | 12,_,_,h=>exact h
     | 13,_,_,h=>exact h
     | 14,_,hox,h=>
      obtain rfl:_=ox:=Option.some.inj hox;obtain⟨bx,ex,lox,hzx,hyx,lax,hax⟩:=h;have hbx:bx=b8:=by
        have h:=ex.symm.trans e8;cases h;rfl
      subst hbx;exact⟨bx,ex,lox,(fun h=>by cases (show true=false from h)),fun _=>hq,lax,hax⟩
     | 15,_,hox,h=>
      obtain rfl:_=ox:=Option.some.inj hox;obtain⟨bx,ex,lox,hzx,hyx,lax,hax⟩:=h;exact⟨bx,ex,lox,fun h=>(hzx h).tr hs2 (fun hm=>by have:=List.mem_singleton.1 hm;omega),fun h=>(hyx h).tr hs2 (fun hm=>by have:=List.mem_singleton.1 hm;omega),lax,hax⟩
     | 16,hne,_,_=>exact absurd rfl hne
     | 17,_,_,h=>exact h
     | _ + 18,_,_,_=>exact trivial
    | 17,_,hoq,hns=>
     cases sI hoq;show st 17=false→(∀ j k,j ∈ _→k ∈ _→j≠k→ha j≤la k∨ha k≤la j)→OS _ _ _ _ _ _;intro hn hI;have hs0:=hs;obtain⟨b9,e9,lo9,hz9,hy9,la9,ha9⟩:=hd 15 _ (zz kR) rfl;refine z4 77 (.agg #[.string β.sm.base,.slice Aβ β.sm.args.length cβ]) (hd 13 _ (zz kR) rfl) nu (z4 9 (.pointer (some ⟨b9,0,none⟩)) e9 nu ?_);have hzb:=hz9 hn;have hdj:=hI 14 15 (zz kR) (zz kR) dE;refine os_wl0 (fun ops Q K=>?_);refine zk hzb rfl rfl xy rfl zK (fun w2 hq hs2=>?_);have K2:=K w2;refine K2 ⟨hs0.freshL hs2 (fun g hg=>by rw [List.mem_singleton.1 hg];exact .inr lo9),hs2.size,?_,fun kx ox hne hox h=>?_⟩
     ·exact trivial
     match kx,hne,hox,h with
     | 0,_,_,h=>exact h
     | 1,_,_,h=>exact h
     | 2,_,_,h=>exact h
     | 3,_,_,h=>exact h
     | 4,_,_,h=>exact h
     | 5,_,_,h=>exact h
     | 6,_,_,h=>exact h
     | 7,_,_,h=>exact h
     | 8,_,_,h=>exact h
     | 9,_,_,h=>exact h
     | 10,_,_,h=>exact h
     | 11,_,_,h=>exact h
     | 12,_,_,h=>exact h
     | 13,_,_,h=>exact h
     | 14,_,hox,h=>
      obtain rfl:_=ox:=Option.some.inj hox;obtain⟨bx,ex,lox,hzx,hyx,lax,hax⟩:=h;exact⟨bx,ex,lox,fun h=>(hzx h).tr hs2 (fun hm=>by have:=List.mem_singleton.1 hm;omega),fun h=>(hyx h).tr hs2 (fun hm=>by have:=List.mem_singleton.1 hm;omega),lax,hax⟩
     | 15,_,hox,h=>
      obtain rfl:_=ox:=Option.some.inj hox;obtain⟨bx,ex,lox,hzx,hyx,lax,hax⟩:=h;have hbx:bx=b9:=by
        have h:=ex.symm.trans e9;cases h;rfl
      subst hbx;exact⟨bx,ex,lox,(fun h=>by cases (show true=false from h)),fun _=>hq,lax,hax⟩
     | 16,_,_,h=>exact h
     | 17,hne,_,_=>exact absurd rfl hne
     | _ + 18,_,_,_=>exact trivial
    | _ + 18,hix,_,_=>exact absurd hix om
   intro st gg w13 la ha hall hs hR hI;have hs0:=hs;replace hB:=hB.tr0 hs;replace hb2:=hb2.tr0 hs;replace hBr:=hBr.tr0 hs;replace hb14:=hb14.tr0 hs;replace hBk:=hBk.tr0 hs;have d6:gg 70= .agg #[.string α.sm.base,.slice Aα α.sm.args.length cα]:=hR 6 _ rfl;have e70:=d6;have d13:gg 77= .agg #[.string β.sm.base,.slice Aβ β.sm.args.length cβ]:=hR 13 _ rfl;have e77:=d13;have d14:∃ b:Nat,gg 8= .pointer (some ⟨b,0,none⟩)∧w7.heap.size≤b∧(st 16=false→Blk w13 b 52 #[.string ⟨#[]⟩,.slice none 0 0])∧(st 16=true→Blk w13 b 52 #[.string α.sm.base,.slice Aα α.sm.args.length cα])∧(la 14)≤b∧b < (ha 14):=hR 14 _ rfl;obtain⟨b8,e8,lo8,hz8,hy8,la8,ha8⟩:=d14;have d15:∃ b:Nat,gg 9= .pointer (some ⟨b,0,none⟩)∧w7.heap.size≤b∧(st 17=false→Blk w13 b 52 #[.string ⟨#[]⟩,.slice none 0 0])∧(st 17=true→Blk w13 b 52 #[.string β.sm.base,.slice Aβ β.sm.args.length cβ])∧(la 15)≤b∧b < (ha 15):=hR 15 _ rfl;obtain⟨b9,e9,lo9,hz9,hy9,la9,ha9⟩:=d15;have hb8:=hy8 (hall 16 dE rfl);have hb9:=hy9 (hall 17 dE rfl);refine qK 70 (.agg #[.string α.sm.base,.slice Aα α.sm.args.length cα]) e70 nu (qK 77 (.agg #[.string β.sm.base,.slice Aβ β.sm.args.length cβ]) e77 nu (qK 8 (.pointer (some ⟨b8,0,none⟩)) e8 nu (qK 9 (.pointer (some ⟨b9,0,none⟩)) e9 nu (zn4 ?_))));by_cases qa:α.sm.base=⟨#[]⟩
   ·obtain⟨a,ρ,rfl⟩:=ts_fun qa;obtain⟨ub,uo,A5,c5,rfl,hub,hur,hus⟩:=hSα.at_ (k:=0) (by simp [Ts.sm,Sm.args]);obtain⟨_,_,A6,c6,e6,_,hur2,hus2⟩:=hSα.at_ (k:=1) (by simp [Ts.sm,Sm.args]);cases e6
    change SimsIn _ A5 a.sm.args at hus
    change SimsIn _ A6 ρ.sm.args at hus2
    change World.rangeAt _ ub (uo + 0 * 2) [.string a.sm.base,.slice A5 a.sm.args.length c5] at hur
    change World.rangeAt _ ub (uo + 1 * 2) [.string ρ.sm.base,.slice A6 ρ.sm.args.length c6] at hur2
    have htxα:=nd_txt hnx hokp.1 hGp (by have:x.size + y.size + 1≤tv.size:=hszp;omega) hα;have htxβ:=nd_txt hny hokp.2 hGp (by have:x.size + y.size + 1≤tv.size:=hszp;omega) hβ;have htxa:a.txt.length≤1000000:=by simp only [Ts.txt,List.length_cons,List.length_append] at htxα;omega
    refine jW 18 [78,79,80,81,82,83,84,85,86,87,88,89,90,91,92,93,94,95] (fun _=>false) (fun ix v wv=>match ix with | 0=>v= .pointer (some ⟨b8,0,none⟩) | 1=>v= .string (Ts.f a ρ).sm.base | 2=>v= .bool false | 3=>v= .bool false | 4=>v= .pointer (some ⟨b8,0 + 1,none⟩) | 5=>v= .slice (some ⟨ub,uo,none⟩) 2 cα | 6=>v= .int .i64 ((2:Nat):Int) | 7=>v= .bool false | 8=>v= .bool false | 9=>v= .bool false | 10=>v= .pointer (some ⟨b8,0 + 1,none⟩) | 11=>v= .slice (some ⟨ub,uo,none⟩) 2 cα | 12=>v= .pointer (some ⟨ub,uo + 0 * 2,none⟩) | 13=>v= .agg #[.string a.sm.base,.slice A5 a.sm.args.length c5] | 14=>v= .agg #[.string β.sm.base,.slice Aβ β.sm.args.length cβ] | 15=>v= .bool (a.eqb β) | 16=>v= .bool (!(a.eqb β)) | 17=>v= .bool (!(a.eqb β)) | _=>True) kR kR ?_ ?_ ?_
    ·intro ix v wv wv2 h hs
     match ix,h with
     | 0,h=>exact h
     | 1,h=>exact h
     | 2,h=>exact h
     | 3,h=>exact h
     | 4,h=>exact h
     | 5,h=>exact h
     | 6,h=>exact h
     | 7,h=>exact h
     | 8,h=>exact h
     | 9,h=>exact h
     | 10,h=>exact h
     | 11,h=>exact h
     | 12,h=>exact h
     | 13,h=>exact h
     | 14,h=>exact h
     | 15,h=>exact h
     | 16,h=>exact h
     | 17,h=>exact h
     | _ + 18,h=>exact trivial
    ·intro ix o hix hoq gg wx hs hd hdis
     match ix,hix,hoq with
     | 0,_,hoq=>
      cases sI hoq;refine⟨fun _=>?_,fun hw=>Bool.noConfusion (show true=false from hw)⟩;exact oV (vX U52 WQ dE rfl rfl rfl) rfl
     | 1,_,hoq=>
      cases sI hoq;replace hb8:=hb8.tr0 hs;refine⟨fun _=>?_,fun hw=>Bool.noConfusion (show true=false from hw)⟩;refine z4 78 (.pointer (some ⟨b8,0,none⟩)) (hd 0 (zz kR)) nu ?_;exact oV (qk (v:= .string _) U9 rfl rfl (hb8.cell rfl)) rfl
     | 2,_,hoq=>
      cases sI hoq;refine⟨fun _=>?_,fun hw=>Bool.noConfusion (show true=false from hw)⟩;refine z4 79 (.string (Ts.f a ρ).sm.base) (hd 1 (zz kR)) nu ?_;exact oV (RW rfl rfl) (congrArg Value.bool (decide_eq_false (fun h=>h rfl)))
     | 3,_,hoq=>
      cases sI hoq;refine⟨fun _=>?_,fun hw=>Bool.noConfusion (show true=false from hw)⟩;refine z4 80 (.bool false) (hd 2 (zz kR)) nu ?_;exact oV (x9 (v:= .bool _) rfl) rfl
     | 4,_,hoq=>
      cases sI hoq;have e81:gg 81= .bool false:=hd 3 (zz kR);refine zx 81 false rfl e81 (fun _=>?_) (fun h=>absurd h dE);refine z4 81 (.bool false) e81 nu ?_;exact oV (vX U52 EV dE rfl rfl rfl) rfl
     | 5,_,hoq=>
      cases sI hoq;replace hb8:=hb8.tr0 hs;have e81:gg 81= .bool false:=hd 3 (zz kR);refine zx 81 false rfl e81 (fun _=>?_) (fun h=>absurd h dE);refine z4 81 (.bool false) e81 nu (z4 82 (.pointer (some ⟨b8,0 + 1,none⟩)) (hd 4 (zz kR)) nu ?_);exact oV (qk (v:= .slice _ _ _) U50 rfl rfl (hb8.cell rfl)) rfl
     | 6,_,hoq=>
      cases sI hoq;have e81:gg 81= .bool false:=hd 3 (zz kR);refine zx 81 false rfl e81 (fun _=>?_) (fun h=>absurd h dE);refine z4 81 (.bool false) e81 nu (z4 83 (.slice (some ⟨ub,uo,none⟩) 2 cα) (hd 5 (zz kR)) nu ?_);exact oV (I6 U50 rfl) rfl
     | 7,_,hoq=>
      cases sI hoq;have e81:gg 81= .bool false:=hd 3 (zz kR);refine zx 81 false rfl e81 (fun _=>?_) (fun h=>absurd h dE);refine z4 81 (.bool false) e81 nu (z4 84 (.int .i64 ((2:Nat):Int)) (hd 6 (zz kR)) nu ?_);exact oV (H4 rfl rfl) (congrArg Value.bool (decide_eq_false dE))
     | 8,_,hoq=>
      cases sI hoq;refine⟨fun _=>?_,fun hw=>Bool.noConfusion (show true=false from hw)⟩;refine z4 81 (.bool false) (hd 3 (zz kR)) nu (z4 85 (.bool false) (hd 7 (zz kR)) nu ?_);exact oV (Qz (v:= .bool _) rfl rfl) rfl
     | 9,_,hoq=>
      cases sI hoq;refine⟨fun _=>?_,fun hw=>Bool.noConfusion (show true=false from hw)⟩;refine z4 86 (.bool false) (hd 8 (zz kR)) nu ?_;exact oV (x9 (v:= .bool _) rfl) rfl
     | 10,_,hoq=>
      cases sI hoq;have e87:gg 87= .bool false:=hd 9 (zz kR);refine zx 87 false rfl e87 (fun _=>?_) (fun h=>absurd h dE);refine z4 87 (.bool false) e87 nu ?_;exact oV (vX U52 EV dE rfl rfl rfl) rfl
     | 11,_,hoq=>
      cases sI hoq;replace hb8:=hb8.tr0 hs;have e87:gg 87= .bool false:=hd 9 (zz kR);refine zx 87 false rfl e87 (fun _=>?_) (fun h=>absurd h dE);refine z4 87 (.bool false) e87 nu (z4 88 (.pointer (some ⟨b8,0 + 1,none⟩)) (hd 10 (zz kR)) nu ?_);exact oV (qk (v:= .slice _ _ _) U50 rfl rfl (hb8.cell rfl)) rfl
     | 12,_,hoq=>
      cases sI hoq;have e87:gg 87= .bool false:=hd 9 (zz kR);refine zx 87 false rfl e87 (fun _=>?_) (fun h=>absurd h dE);refine z4 87 (.bool false) e87 nu (z4 89 (.slice (some ⟨ub,uo,none⟩) 2 cα) (hd 11 (zz kR)) nu ?_);exact oV (yQ (i:=0) U50 xy rfl rfl dE rfl) rfl
     | 13,_,hoq=>
      cases sI hoq;replace hBk:=hBk.tr0 hs;have e87:gg 87= .bool false:=hd 9 (zz kR);refine zx 87 false rfl e87 (fun _=>?_) (fun h=>absurd h dE);refine z4 87 (.bool false) e87 nu (z4 90 (.pointer (some ⟨ub,uo + 0 * 2,none⟩)) (hd 12 (zz kR)) nu ?_);exact oV (zW U52 rfl rfl (hBk.range hub hur) xy) rfl
     | 14,_,hoq=>
      cases sI hoq;replace hb9:=hb9.tr0 hs;have e87:gg 87= .bool false:=hd 9 (zz kR);refine zx 87 false rfl e87 (fun _=>?_) (fun h=>absurd h dE);refine z4 87 (.bool false) e87 nu ?_;exact oV (zW U52 rfl rfl hb9.range0 xy) rfl
     | 15,_,hoq=>
      cases sI hoq;replace hBk:=hBk.tr0 hs;have e87:gg 87= .bool false:=hd 9 (zz kR);refine zx 87 false rfl e87 (fun _=>?_) (fun h=>absurd h dE);refine z4 87 (.bool false) e87 nu (z4 91 (.agg #[.string a.sm.base,.slice A5 a.sm.args.length c5]) (hd 13 (zz kR)) nu (z4 92 (.agg #[.string β.sm.base,.slice Aβ β.sm.args.length cβ]) (hd 14 (zz kR)) nu ?_));refine qx fn116 (GJ A5 Aβ c5 cβ a β wx (hus.mono hBk) (hSβ.mono hBk) htxa htxβ) rfl (fun e' w2 hr=>?_);obtain⟨rfl,hs⟩:=hr;exact⟨_,rfl,sB hs,rfl,zX⟩
     | 16,_,hoq=>
      cases sI hoq;have e87:gg 87= .bool false:=hd 9 (zz kR);refine zx 87 false rfl e87 (fun _=>?_) (fun h=>absurd h dE);refine z4 87 (.bool false) e87 nu (z4 93 (.bool (a.eqb β)) (hd 15 (zz kR)) nu ?_);exact oV (gJ rfl) rfl
     | 17,_,hoq=>
      cases sI hoq;refine⟨fun _=>?_,fun hw=>Bool.noConfusion (show true=false from hw)⟩;refine z4 87 (.bool false) (hd 9 (zz kR)) nu (z4 94 (.bool (!(a.eqb β))) (hd 16 (zz kR)) nu ?_);exact oV (Qz (v:= .bool _) rfl rfl) rfl
     | _ + 18,hix,_=>exact absurd hix om
    intro gg w14 hs hR hdis;replace hB:=hB.tr0 hs;replace hb2:=hb2.tr0 hs;replace hBr:=hBr.tr0 hs;replace hb14:=hb14.tr0 hs;replace hBk:=hBk.tr0 hs;replace hb8:=hb8.tr0 hs;refine qK 95 (.bool (!(a.eqb β))) (hR 17 dE) nu (zZ (e_S ?_));refine j7 rfl (fun c95=>?_) (fun c95=>?_)
    ·have hne:a.eqb β=false:=by simpa using c95
     have hfail:tyv Γp (.app x y)=none:=ty_no hnp hr c62 hrk2 hα hβ (fun ρ2 e=>by rw [(Ts.f.inj e).1,Ts.eqb_iff.2 rfl] at hne;cases hne);have hff:(tyv [] tv).isSome=false:=by
       cases hq:(tyv [] tv).isSome with
       | false=>rfl
       | true=>have:=hsome hq;rw [hfail] at this;cases this
     refine zn2 ?_;refine wl (uw (vs:=#[]) (cs:=#[.string ⟨#[]⟩,.slice none 0 0]) (by simp) kR) ?_;refine zk hb2 rfl rfl xy rfl zK (fun w15 hq hs=>?_);replace hB:=hB.tr1 hs lo2;replace hb2:=hq;refine vx ?_;refine X0 (.inl rfl) rfl (zy U52 rfl rfl hb2.range0 xy) rfl ?_;exact⟨⟨_,_,_,_,by rw [hff];rfl⟩,hB⟩
    have heq:a=β:=Ts.eqb_iff.1 (by simpa using c95);refine uY (e_S ?_);have hZ:SameQ [b14] w14 w14:=Same.refl _ _;have hTI2:=hTI.mono hBk;have hb14z:=hb14;have hBz:=hB;have hBkz:=hBk;refine zn5 ?_;refine wl (yQ (i:=1) U50 xy rfl rfl (by show 1 < 2;decide) rfl) (wl (zW U52 rfl rfl (hBkz.range hub hur2) xy) (wl (yQ (i:=p) U50 xy rfl rfl hpn rfl) ?_));refine K9 hb14 rfl rfl xy (by rw [ZQ];show 0 + p * 2 + 2≤tv.size * 2;omega) zK Jx (fun w16 hq hs=>?_);replace hB:=hB.tr1 hs lo14;replace hb2:=hb2.tr1 hs om;replace hBr:=hBr.tr1 hs lo_hBr_b14;replace hZ:=SameQ.trans hZ hs (by simp);replace hb14:=hq;have hTI3:=hTI2.put  hpn hb14z hb14 hZ (TyAt.app hr c62 hrk2 hα (heq ▸ hβ)) (hus2.mono hBkz);refine zn6 ?_;refine wl (jV rfl rfl rfl om) (zn2 ?_);refine xv (p) om agA ?_;exact⟨p,_,_,_,by omega,rfl,by omega,rfl,hB,hBr,hb2,hb14,hTI3⟩
   have hfail:tyv Γp (.app x y)=none:=ty_no hnp hr c62 hrk2 hα hβ (fun ρ e=>qa (by rw [e];rfl));have hff:(tyv [] tv).isSome=false:=by
     cases hq:(tyv [] tv).isSome with
     | false=>rfl
     | true=>have:=hsome hq;rw [hfail] at this;cases this
   refine jW 18 [78,79,80,81,82,83,84,85,86,87,88,89,90,91,92,93,94,95] (fun _=>false) (fun ix v wv=>match ix with | 0=>v= .pointer (some ⟨b8,0,none⟩) | 1=>v= .string α.sm.base | 2=>v= .bool true | 3=>v= .bool true | 4=>v=undef | 5=>v=undef | 6=>v=undef | 7=>v=undef | 8=>v= .bool true | 9=>v= .bool true | 10=>v=undef | 11=>v=undef | 12=>v=undef | 13=>v=undef | 14=>v=undef | 15=>v=undef | 16=>v=undef | 17=>v= .bool true | _=>True) kR kR ?_ ?_ ?_
   ·intro ix v wv wv2 h hs
    match ix,h with
    | 0,h=>exact h
    | 1,h=>exact h
    | 2,h=>exact h
    | 3,h=>exact h
    | 4,h=>exact h
    | 5,h=>exact h
    | 6,h=>exact h
    | 7,h=>exact h
    | 8,h=>exact h
    | 9,h=>exact h
    | 10,h=>exact h
    | 11,h=>exact h
    | 12,h=>exact h
    | 13,h=>exact h
    | 14,h=>exact h
    | 15,h=>exact h
    | 16,h=>exact h
    | 17,h=>exact h
    | _ + 18,h=>exact trivial
   ·intro ix o hix hoq gg wx hs hd hdis
    match ix,hix,hoq with
    | 0,_,hoq=>
     cases sI hoq;refine⟨fun _=>?_,fun hw=>Bool.noConfusion (show true=false from hw)⟩;exact oV (vX U52 WQ dE rfl rfl rfl) rfl
    | 1,_,hoq=>
     cases sI hoq;replace hb8:=hb8.tr0 hs;refine⟨fun _=>?_,fun hw=>Bool.noConfusion (show true=false from hw)⟩;refine z4 78 (.pointer (some ⟨b8,0,none⟩)) (hd 0 (zz kR)) nu ?_;exact oV (qk (v:= .string _) U9 rfl rfl (hb8.cell rfl)) rfl
    | 2,_,hoq=>
     cases sI hoq;refine⟨fun _=>?_,fun hw=>Bool.noConfusion (show true=false from hw)⟩;refine z4 79 (.string α.sm.base) (hd 1 (zz kR)) nu ?_;exact oV (RW rfl rfl) (congrArg Value.bool (decide_eq_true qa))
    | 3,_,hoq=>
     cases sI hoq;refine⟨fun _=>?_,fun hw=>Bool.noConfusion (show true=false from hw)⟩;refine z4 80 (.bool true) (hd 2 (zz kR)) nu ?_;exact oV (x9 (v:= .bool _) rfl) rfl
    | 4,_,hoq=>
     cases sI hoq;have e81:gg 81= .bool true:=hd 3 (zz kR);exact zx 81 true rfl e81 (fun h=>absurd h dE) (fun _=>rfl)
    | 5,_,hoq=>
     cases sI hoq;have e81:gg 81= .bool true:=hd 3 (zz kR);have e82:gg 82=undef:=hd 4 (zz kR);exact zx 81 true rfl e81 (fun h=>absurd h dE) (fun _=>rfl)
    | 6,_,hoq=>
     cases sI hoq;have e81:gg 81= .bool true:=hd 3 (zz kR);have e83:gg 83=undef:=hd 5 (zz kR);exact zx 81 true rfl e81 (fun h=>absurd h dE) (fun _=>rfl)
    | 7,_,hoq=>
     cases sI hoq;have e81:gg 81= .bool true:=hd 3 (zz kR);have e84:gg 84=undef:=hd 6 (zz kR);exact zx 81 true rfl e81 (fun h=>absurd h dE) (fun _=>rfl)
    | 8,_,hoq=>
     cases sI hoq;have e85:gg 85=undef:=hd 7 (zz kR);refine⟨fun _=>?_,fun hw=>Bool.noConfusion (show true=false from hw)⟩;refine z4 81 (.bool true) (hd 3 (zz kR)) nu ?_;exact oV (Q9 (v:= .bool _) rfl rfl) rfl
    | 9,_,hoq=>
     cases sI hoq;refine⟨fun _=>?_,fun hw=>Bool.noConfusion (show true=false from hw)⟩;refine z4 86 (.bool true) (hd 8 (zz kR)) nu ?_;exact oV (x9 (v:= .bool _) rfl) rfl
    | 10,_,hoq=>
     cases sI hoq;have e87:gg 87= .bool true:=hd 9 (zz kR);exact zx 87 true rfl e87 (fun h=>absurd h dE) (fun _=>rfl)
    | 11,_,hoq=>
     cases sI hoq;have e87:gg 87= .bool true:=hd 9 (zz kR);have e88:gg 88=undef:=hd 10 (zz kR);exact zx 87 true rfl e87 (fun h=>absurd h dE) (fun _=>rfl)
    | 12,_,hoq=>
     cases sI hoq;have e87:gg 87= .bool true:=hd 9 (zz kR);have e89:gg 89=undef:=hd 11 (zz kR);exact zx 87 true rfl e87 (fun h=>absurd h dE) (fun _=>rfl)
    | 13,_,hoq=>
     cases sI hoq;have e87:gg 87= .bool true:=hd 9 (zz kR);have e90:gg 90=undef:=hd 12 (zz kR);exact zx 87 true rfl e87 (fun h=>absurd h dE) (fun _=>rfl)
    | 14,_,hoq=>
     cases sI hoq;have e87:gg 87= .bool true:=hd 9 (zz kR);exact zx 87 true rfl e87 (fun h=>absurd h dE) (fun _=>rfl)
    | 15,_,hoq=>
     cases sI hoq;have e87:gg 87= .bool true:=hd 9 (zz kR);have e91:gg 91=undef:=hd 13 (zz kR);have e92:gg 92=undef:=hd 14 (zz kR);exact zx 87 true rfl e87 (fun h=>absurd h dE) (fun _=>rfl)
    | 16,_,hoq=>
     cases sI hoq;have e87:gg 87= .bool true:=hd 9 (zz kR);have e93:gg 93=undef:=hd 15 (zz kR);exact zx 87 true rfl e87 (fun h=>absurd h dE) (fun _=>rfl)
    | 17,_,hoq=>
     cases sI hoq;have e94:gg 94=undef:=hd 16 (zz kR);refine⟨fun _=>?_,fun hw=>Bool.noConfusion (show true=false from hw)⟩;refine z4 87 (.bool true) (hd 9 (zz kR)) nu ?_;exact oV (Q9 (v:= .bool _) rfl rfl) rfl
    | _ + 18,hix,_=>exact absurd hix om
   intro gg w17 hs hR hdis;replace hB:=hB.tr0 hs;replace hb2:=hb2.tr0 hs;refine qK 95 (.bool true) (hR 17 dE) nu (zn5 ?_);refine wl (uw (vs:=#[]) (cs:=#[.string ⟨#[]⟩,.slice none 0 0]) (by simp) kR) ?_;refine zk hb2 rfl rfl xy rfl zK (fun w18 hq hs=>?_);replace hB:=hB.tr1 hs lo2;replace hb2:=hq;refine vx ?_;refine X0 (.inl rfl) rfl (zy U52 rfl rfl hb2.range0 xy) rfl ?_;exact⟨⟨_,_,_,_,by rw [hff];rfl⟩,hB⟩
  rcases hkk with h | h | h | h
  · exact absurd h c28
  · exact absurd h c35
  · exact absurd h c47
  · exact absurd h c62
 obtain⟨τ0,A0,c0,hT0,hF0,hH0,hS0⟩:=hTI.t 0 om hvp;have hty:tyv [] tv=some τ0:=hT0 _ _ hnd;refine zn8 ?_;refine wl (yQ (i:=0) U50 xy rfl rfl hvp rfl) (wl (zW U52 rfl rfl (Jj hb14 hvp hF0 hH0) xy) ?_);refine zk hb2 rfl rfl xy rfl zK (fun w19 hq hs=>?_);replace hB:=hB.tr1 hs lo2;replace hb2:=hq;refine zn4 ?_;refine X0 (.inl rfl) rfl (zy U52 rfl rfl hb2.range0 xy) rfl ?_;exact⟨⟨_,_,_,_,by rw [hty];rfl⟩,hB⟩
end Go.Proofs.YtdkfnakncaggoaaGreatDoor
