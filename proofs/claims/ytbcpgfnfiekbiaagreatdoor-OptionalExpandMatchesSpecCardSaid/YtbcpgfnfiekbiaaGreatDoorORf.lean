/- What these functions of the program compute, at every world: glosswright/glosswrightref1.TermFault. What these functions of the program compute, at every world: glosswright/glosswrightref3.MeaningFault, glosswright/glosswrightref3.LexFault, glosswright/glosswrightref3.RuleFault. What these functions of the program compute, at every world: glosswright/glosswrightref4.Ready, glosswright/glosswrightref4.OptionalFault. -/
import Derived.Test.YtbcpgfnfiekbiaaGreatDoorU
import Derived.Test.YtbcpgfnfiekbiaaGreatDoorTrm
import Derived.Test.YtbcpgfnfiekbiaaGreatDoorNN1
import Derived.Test.YtbcpgfnfiekbiaaGreatDoorEng7
import Derived.Test.YtbcpgfnfiekbiaaGreatDoorORd
import Derived.Test.YtbcpgfnfiekbiaaGreatDoorGrm
import Derived.Test.YtbcpgfnfiekbiaaGreatDoorEng4
import Derived.Test.YtbcpgfnfiekbiaaGreatDoorHLaw
namespace Go.Proofs.YtbcpgfnfiekbiaaGreatDoor
open Go.RowKit
theorem fn47:zK Tryz.prog 47=true:=by kernel_rfl
theorem fn86:zK Tryz.prog 86=true:=by kernel_rfl
theorem fn87:zK Tryz.prog 87=true:=by kernel_rfl
theorem fn88:zK Tryz.prog 88=true:=by kernel_rfl
theorem in146:(Tryz.prog.info? 146).map (fun i=>(i.zero,i.size,i.bytes))=some (some (.agg #[.int .i64 0,.string ⟨#[]⟩,.int .i64 0,.string ⟨#[]⟩,.slice none 0 0,.slice none 0 0,.int .i64 0,.int .i64 0]),8,112):=by kernel_rfl
theorem PV:(Tryz.prog.info? 146).map (·.size)=some 8:=by kernel_rfl
theorem ze146:(Tryz.prog.info? 146).map (·.zero)=some (some (.agg #[.int .i64 0,.string ⟨#[]⟩,.int .i64 0,.string ⟨#[]⟩,.slice none 0 0,.slice none 0 0,.int .i64 0,.int .i64 0])):=by kernel_rfl
theorem ze44:(Tryz.prog.info? 44).map (·.zero)=some (some (.agg #[.int .i64 0,.string ⟨#[]⟩,.int .i64 0,.string ⟨#[]⟩,.slice none 0 0,.slice none 0 0])):=by kernel_rfl
set_option maxRecDepth 100000 in
set_option maxHeartbeats 8000000 in
theorem VV (A B:Option Addr) (c mB:Nat) (t:Tm) (w:World) (hS:SimsIn w A t.type.args) (hT:TmsIn w B t.args):Calls Tryz.prog 46 #[.agg #[.int .i64 (t).kind,.string (t).name,.int .i64 (t).index,.string (t).type.base,.slice A (t).type.args.length c,.slice B (t).args.length mB]] w fun e w'=>e= .returned (flV (tmF t))∧Bel w w':=by
 have hR0:twk t 1 0 0=tst [(t,1,0)] 0:=(tst_one t 1 0 0).symm;refine enT Tryz.func46 Tryz.ntmps46 rfl rfl fun hB=>?_;refine zn2 ?_;refine x6 (v:= .agg #[_,_,_,_,_,_]) (cs:=#[_,_,_,_,_,_]) rfl rfl (fun b1 w1 hb1 s1 hr=>?_);refine qq (cs:=#[.int .i64 0,.int .i64 0]) qv rfl (fun b2 w2 hb2 s2 hr=>?_);have lo2:=nLT (Bel.size hB.u) hr;refine zn5 ?_;refine wl (Qz (v0:= .agg _) (v1:= .int _ _) (v2:= .int _ _) (fun v0 v1 v2=>#[(qx v0 0),(qx v0 1),(qx v0 2),(qx v0 3),(qx v0 4),(qx v0 5),v1,v2]) rfl rfl rfl kR) ?_;refine qw (cs:=#[_,_,_,_,_,_,_,_]) [(0,.agg _)] rfl G8 PV ze146 dE dE kR rfl (fun b16 w3 hb16 s3 hr=>?_);have lo16:=nLT (Bel.size hB.u) hr;refine yv ?_;refine zW (rg (rg [] 3 9) 17 151) (fun mm g w'=>∃ (st:List (Tm×Nat×Nat)) (vs:List Value) (q cap3 n:Nat),mm=201 - n∧n≤200∧st.length≤2 * n + 1∧g 3= .slice (some ⟨q,0,none⟩) st.length cap3∧g 4= .int .i64 n∧Bel w w'∧Blk w' b1 44 #[.int .i64 (t).kind,.string (t).name,.int .i64 (t).index,.string (t).type.base,.slice A (t).type.args.length c,.slice B (t).args.length mB]∧Blk w' b2 36 #[.int .i64 0,.int .i64 0]∧Own w' w.heap.size 146 8 (some ⟨q,0,none⟩) st.length cap3 vs∧StkT w st vs∧twk t 1 0 0=tst st.reverse n∧∀ x ∈ st,x.2.2 < x.2.1) (201) ?_ (fun m g3 w4 hI=>?_)
 ·replace hB:=hB.tr0 (s1.trans (s2.trans s3));replace hb1:=hb1.tr0 (s2.trans s3);replace hb2:=hb2.tr0 s3;exact⟨[(t,1,0)],_,_,_,0,rfl,by omega,by simp,rfl,rfl,hB,hb1,hb2,KX (m:=1) hb16 lo16 rfl dE,.snoc .nil hS hT,hR0,fun x hx=>by rw [List.mem_singleton.1 hx];exact Nat.zero_lt_one⟩
 obtain⟨st,vs,q,cap3,n,hm,hn,hsl,h3,h4,hB,hb1,hb2,ho,hstk,hR,hbd⟩:=hI;have or_ho_b1:=Zx ho hb1 dE;have or_ho_b2:=Zx ho hb2 dE;refine zZ 3 _ h3 nu (zZ 4 _ h4 nu (zn8 ?_));refine zX rfl (fun c19=>?_) (fun c19=>?_)
 ·obtain⟨st1,vs1,t1,d1,e1,A1,B1,c1,m1,rfl,rfl,hst1,hs1,ht1⟩:=hstk.pop oM;have hlen:(st1 ++ [(t1,d1,e1)]).length=st1.length + 1:=by simp
  rw [YZ] at hR;have hbd1:e1 < d1:=hbd (t1,d1,e1) (List.mem_append_right _ (List.mem_singleton.2 rfl));replace hbd:∀ x ∈ st1,x.2.2 < x.2.1:=fun x hx=>hbd x (List.mem_append_left _ hx)
  refine zn9 ?_;refine wl (j8 (c:=(st1.length:Int)) rfl rfl (by rw [hlen];omega) oM) (wl (xk (i:=st1.length) G8 PV rfl rfl (by rw [hlen];omega) rfl) (wl (zY U146 rfl rfl (own_top ho hst1.len) PV) ?_));refine xV (cs:=#[.int .i64 0,.string ⟨#[]⟩,.int .i64 0,.string ⟨#[]⟩,.slice none 0 0,.slice none 0 0,.int .i64 0,.int .i64 0]) ze146 rfl (fun _=>rfl) (fun _=>rfl) PV rfl zQ (fun b5 w6 hb5 s4 hr=>?_);have or_ho_b5:=(fun g hg=>nLL (ho.lt g hg).2 hr)
  refine zn7 ?_;refine wl (j8 (c:=(st1.length:Int)) rfl rfl (by rw [hlen];omega) oM) ?_;replace ho:=ho.tr0 s4;refine wl (RW (h:=st1.length) G8 PV rfl rfl (by have:=ho.cap_le;omega)) (zn4 ?_);replace hB:=hB.tr0 s4;replace hb1:=hb1.tr0 s4;replace hb2:=hb2.tr0 s4;replace ho:Own w6 w.heap.size 146 8 (some ⟨q,0,none⟩) st1.length cap3 vs1:=by
    have h:=ho.take (k':=st1.length) oM oM
    rwa [List.take_append_of_le_length (by rw [hst1.len];exact Nat.le_refl _),List.take_of_length_le (by rw [hst1.len];exact Nat.le_refl _)] at h
  refine zn2 ?_;refine wl (zY U44 rfl rfl (hb5.sub (n:=6) (xs:=[_,_,_,_,_,_]) rfl) VY) ?_;refine xV (cs:=#[.int .i64 0,.string ⟨#[]⟩,.int .i64 0,.string ⟨#[]⟩,.slice none 0 0,.slice none 0 0]) ze44 rfl (fun _=>rfl) (fun _=>rfl) VY rfl zQ (fun b6 w8 hb6 s5 hr=>?_);have or_ho_b6:=(fun g hg=>nLL (ho.lt g hg).2 hr)
  refine zn9 ?_;replace hB:=hB.tr0 s5;replace hb1:=hb1.tr0 s5;replace hb2:=hb2.tr0 s5;replace ho:=ho.tr0 s5;replace hb5:=hb5.tr0 s5;refine xJ [35,36,37,38,39,40,41] 41 (.bool (decide (200 < n + 1∨40 < d1))) nu ?_ (fun gq=>?_)
  ·refine zn4 ?_;refine zw 37 rfl (fun g37=>?_) (fun g37=>?_)
   ·refine zn4 ?_;refine zJ (e_R ⟨rfl,agA,?_⟩);exact clA
   refine zn7 ?_;refine zJ (e_R ⟨rfl,agA,?_⟩);exact clA
  refine e_S ?_;refine yy (rg [7,8,9] 42 93) (fun g w'=>g 7= .int .i64 (ndX n d1 e1 t1)∧Bel w w'∧Blk w' b1 44 #[.int .i64 (t).kind,.string (t).name,.int .i64 (t).index,.string (t).type.base,.slice A (t).type.args.length c,.slice B (t).args.length mB]∧Blk w' b2 36 #[.int .i64 0,.int .i64 0]∧Blk w' b5 146 #[.int .i64 (t1).kind,.string (t1).name,.int .i64 (t1).index,.string (t1).type.base,.slice A1 (t1).type.args.length c1,.slice B1 (t1).args.length m1,.int .i64 (d1:Nat),.int .i64 (e1:Nat)]∧Blk w' b6 44 #[.int .i64 t1.kind,.string t1.name,.int .i64 t1.index,.string t1.type.base,.slice A1 t1.type.args.length c1,.slice B1 t1.args.length m1]∧Own w' w.heap.size 146 8 (some ⟨q,0,none⟩) st1.length cap3 vs1) ?_ (fun gx1 w9 hI=>?_)
  ·refine zX rfl (fun c41=>?_) (fun c41=>?_)
   ·have hcd:(ndX n d1 e1 t1)=1:=if_pos c41;refine zn3 ?_;refine e_R ⟨agA,?_⟩;exact⟨by rw [hcd];rfl,hB,hb1,hb2,hb5,hb6,ho⟩
   refine yj ?_;refine xJ (rg [] 42 8) 49 (.bool (decide (t1.kind < 1∨4 < t1.kind))) nu ?_ (fun gq=>?_)
   ·refine zn5 ?_;refine zw 45 rfl (fun g45=>?_) (fun g45=>?_)
    ·refine zn4 ?_;refine zJ (e_R ⟨rfl,agA,?_⟩);exact clA
    refine zn7 ?_;refine zJ (e_R ⟨rfl,agA,?_⟩);exact clA
   refine e_S ?_;refine zX rfl (fun c49=>?_) (fun c49=>?_)
   ·have hcd:=ndX_4 (b:=e1) c41 c49;refine zn3 ?_;refine e_R ⟨agA,?_⟩;exact⟨by rw [hcd];rfl,hB,hb1,hb2,hb5,hb6,ho⟩
   obtain⟨kk,hkk⟩:∃ kk:Nat,t1.kind=kk:=⟨t1.kind.toNat,by omega⟩
   have h1k:1≤kk:=by omega
   have h4k:kk≤4:=by omega
   refine yj ?_;rw [hkk] at hb6;refine Oy ?_;refine qw (cs:=#[_,_,_,_,_]) [(0,.int _ _),(1,.int _ _),(2,.int _ _),(3,.int _ _),(4,.int _ _)] rfl U66 qX ow dE dE kR rfl (fun b50 w10 hb50 s6 hr=>?_);refine zn3 ?_;refine wl (qV (v:= .int _ _) U3 rfl rfl (hb50.cell (arg_at oM))) (zn4 ?_);replace hb6:=hb6.tr0 s6;rw [← hkk] at hb6;replace ho:=ho.tr0 s6;refine yy (rg [9] 55 40) (fun g w'=>(g 9= .bool (decide (zOk kk t1)))∧Same [] w10 w') ?_ (fun g14 w11 hI=>?_)
   ·have hZ:SameQ [] w10 w10:=Same.refl _ _;refine zn7 ?_;refine zw 60 rfl (fun g60=>?_) (fun g60=>?_)
    ·refine zn8 ?_;refine zw 64 rfl (fun g64=>?_) (fun g64=>?_)
     ·refine QJ ?_;refine zw 74 rfl (fun g74=>?_) (fun g74=>?_)
      ·refine QJ ?_;refine zw 84 rfl (fun g84=>?_) (fun g84=>?_)
       ·refine QJ ?_;refine e_R ⟨agA,?_⟩;refine⟨?_,hZ⟩;simp only [zOk]
        first | exact congrArg Value.bool (decide_eq_true (by grind)).symm | exact congrArg Value.bool (decide_eq_false (by grind)).symm | exact congrArg Value.bool (decide_eq_decide.2 (by grind)) | exact congrArg Value.bool (by grind)
       refine yv ?_;refine zw 89 rfl (fun g89=>?_) (fun g89=>?_)
       ·refine zn8 ?_;refine e_R ⟨agA,?_⟩;refine⟨?_,hZ⟩;simp only [zOk]
        first | exact congrArg Value.bool (decide_eq_true (by grind)).symm | exact congrArg Value.bool (decide_eq_false (by grind)).symm | exact congrArg Value.bool (decide_eq_decide.2 (by grind)) | exact congrArg Value.bool (by grind)
       refine zn3 ?_;refine wl (zY U41 rfl rfl (hb6.sub (n:=2) (xs:=[_,_]) rfl) x9) (zn1 ?_);refine zV fn86 (Xj A1 c1 t1.type _) rfl (fun e' w12 hr=>?_);obtain⟨rfl,s7⟩:=hr;replace s7:=sB s7;replace hZ:=SameQ.trans hZ s7 (by simp);refine⟨_,rfl,?_⟩;refine zn5 ?_;refine e_R ⟨agA,?_⟩;refine⟨?_,hZ⟩;simp only [zOk]
       first | exact congrArg Value.bool (decide_eq_true (by grind)).symm | exact congrArg Value.bool (decide_eq_false (by grind)).symm | exact congrArg Value.bool (decide_eq_decide.2 (by grind)) | exact congrArg Value.bool (by grind)
      refine yv ?_;refine zw 80 rfl (fun g80=>?_) (fun g80=>?_)
      ·refine zn8 ?_;refine zw 84 rfl (fun g84=>?_) (fun g84=>?_)
       ·refine QJ ?_;refine e_R ⟨agA,?_⟩;refine⟨?_,hZ⟩;simp only [zOk]
        first | exact congrArg Value.bool (decide_eq_true (by grind)).symm | exact congrArg Value.bool (decide_eq_false (by grind)).symm | exact congrArg Value.bool (decide_eq_decide.2 (by grind)) | exact congrArg Value.bool (by grind)
       refine yv ?_;refine zw 89 rfl (fun g89=>?_) (fun g89=>?_)
       ·refine zn8 ?_;refine e_R ⟨agA,?_⟩;refine⟨?_,hZ⟩;simp only [zOk]
        first | exact congrArg Value.bool (decide_eq_true (by grind)).symm | exact congrArg Value.bool (decide_eq_false (by grind)).symm | exact congrArg Value.bool (decide_eq_decide.2 (by grind)) | exact congrArg Value.bool (by grind)
       refine zn3 ?_;refine wl (zY U41 rfl rfl (hb6.sub (n:=2) (xs:=[_,_]) rfl) x9) (zn1 ?_);refine zV fn86 (Xj A1 c1 t1.type _) rfl (fun e' w13 hr=>?_);obtain⟨rfl,s8⟩:=hr;replace s8:=sB s8;replace hZ:=SameQ.trans hZ s8 (by simp);refine⟨_,rfl,?_⟩;refine zn5 ?_;refine e_R ⟨agA,?_⟩;refine⟨?_,hZ⟩;simp only [zOk]
       first | exact congrArg Value.bool (decide_eq_true (by grind)).symm | exact congrArg Value.bool (decide_eq_false (by grind)).symm | exact congrArg Value.bool (decide_eq_decide.2 (by grind)) | exact congrArg Value.bool (by grind)
      refine Nk ?_;refine e_R ⟨agA,?_⟩;refine⟨?_,hZ⟩;simp only [zOk]
      first | exact congrArg Value.bool (decide_eq_true (by grind)).symm | exact congrArg Value.bool (decide_eq_false (by grind)).symm | exact congrArg Value.bool (decide_eq_decide.2 (by grind)) | exact congrArg Value.bool (by grind)
     refine yv ?_;refine zw 70 rfl (fun g70=>?_) (fun g70=>?_)
     ·refine zn8 ?_;refine zw 74 rfl (fun g74=>?_) (fun g74=>?_)
      ·refine QJ ?_;refine zw 84 rfl (fun g84=>?_) (fun g84=>?_)
       ·refine QJ ?_;refine e_R ⟨agA,?_⟩;refine⟨?_,hZ⟩;simp only [zOk]
        first | exact congrArg Value.bool (decide_eq_true (by grind)).symm | exact congrArg Value.bool (decide_eq_false (by grind)).symm | exact congrArg Value.bool (decide_eq_decide.2 (by grind)) | exact congrArg Value.bool (by grind)
       refine yv ?_;refine zw 89 rfl (fun g89=>?_) (fun g89=>?_)
       ·refine zn8 ?_;refine e_R ⟨agA,?_⟩;refine⟨?_,hZ⟩;simp only [zOk]
        first | exact congrArg Value.bool (decide_eq_true (by grind)).symm | exact congrArg Value.bool (decide_eq_false (by grind)).symm | exact congrArg Value.bool (decide_eq_decide.2 (by grind)) | exact congrArg Value.bool (by grind)
       refine zn3 ?_;refine wl (zY U41 rfl rfl (hb6.sub (n:=2) (xs:=[_,_]) rfl) x9) (zn1 ?_);refine zV fn86 (Xj A1 c1 t1.type _) rfl (fun e' w14 hr=>?_);obtain⟨rfl,s9⟩:=hr;replace s9:=sB s9;replace hZ:=SameQ.trans hZ s9 (by simp);refine⟨_,rfl,?_⟩;refine zn5 ?_;refine e_R ⟨agA,?_⟩;refine⟨?_,hZ⟩;simp only [zOk]
       first | exact congrArg Value.bool (decide_eq_true (by grind)).symm | exact congrArg Value.bool (decide_eq_false (by grind)).symm | exact congrArg Value.bool (decide_eq_decide.2 (by grind)) | exact congrArg Value.bool (by grind)
      refine yv ?_;refine zw 80 rfl (fun g80=>?_) (fun g80=>?_)
      ·refine zn8 ?_;refine zw 84 rfl (fun g84=>?_) (fun g84=>?_)
       ·refine QJ ?_;refine e_R ⟨agA,?_⟩;refine⟨?_,hZ⟩;simp only [zOk]
        first | exact congrArg Value.bool (decide_eq_true (by grind)).symm | exact congrArg Value.bool (decide_eq_false (by grind)).symm | exact congrArg Value.bool (decide_eq_decide.2 (by grind)) | exact congrArg Value.bool (by grind)
       refine yv ?_;refine zw 89 rfl (fun g89=>?_) (fun g89=>?_)
       ·refine zn8 ?_;refine e_R ⟨agA,?_⟩;refine⟨?_,hZ⟩;simp only [zOk]
        first | exact congrArg Value.bool (decide_eq_true (by grind)).symm | exact congrArg Value.bool (decide_eq_false (by grind)).symm | exact congrArg Value.bool (decide_eq_decide.2 (by grind)) | exact congrArg Value.bool (by grind)
       refine zn3 ?_;refine wl (zY U41 rfl rfl (hb6.sub (n:=2) (xs:=[_,_]) rfl) x9) (zn1 ?_);refine zV fn86 (Xj A1 c1 t1.type _) rfl (fun e' w15 hr=>?_);obtain⟨rfl,s10⟩:=hr;replace s10:=sB s10;replace hZ:=SameQ.trans hZ s10 (by simp);refine⟨_,rfl,?_⟩;refine zn5 ?_;refine e_R ⟨agA,?_⟩;refine⟨?_,hZ⟩;simp only [zOk]
       first | exact congrArg Value.bool (decide_eq_true (by grind)).symm | exact congrArg Value.bool (decide_eq_false (by grind)).symm | exact congrArg Value.bool (decide_eq_decide.2 (by grind)) | exact congrArg Value.bool (by grind)
      refine Nk ?_;refine e_R ⟨agA,?_⟩;refine⟨?_,hZ⟩;simp only [zOk]
      first | exact congrArg Value.bool (decide_eq_true (by grind)).symm | exact congrArg Value.bool (decide_eq_false (by grind)).symm | exact congrArg Value.bool (decide_eq_decide.2 (by grind)) | exact congrArg Value.bool (by grind)
     refine zn26 ?_;refine e_R ⟨agA,?_⟩;refine⟨?_,hZ⟩;simp only [zOk]
     first | exact congrArg Value.bool (decide_eq_true (by grind)).symm | exact congrArg Value.bool (decide_eq_false (by grind)).symm | exact congrArg Value.bool (decide_eq_decide.2 (by grind)) | exact congrArg Value.bool (by grind)
    refine zn30 ?_;refine zn6 ?_;refine e_R ⟨agA,?_⟩;refine⟨?_,hZ⟩;simp only [zOk]
    first | exact congrArg Value.bool (decide_eq_true (by grind)).symm | exact congrArg Value.bool (decide_eq_false (by grind)).symm | exact congrArg Value.bool (decide_eq_decide.2 (by grind)) | exact congrArg Value.bool (by grind)
   obtain⟨h9,s11⟩:=hI;refine gV 9 _ h9 nu (zn7 ?_);replace ho:=ho.tr0 s11;refine zX rfl (fun c96=>?_) (fun c96=>?_)
   ·have hcd:=ndX_5 (b:=e1) c41 hkk h1k h4k c96;refine zn3 ?_;refine e_R ⟨agA,?_⟩;replace hB:=hB.tr0 (s6.trans s11);replace hb1:=hb1.tr0 (s6.trans s11);replace hb2:=hb2.tr0 (s6.trans s11);replace hb5:=hb5.tr0 (s6.trans s11);replace hb6:=hb6.tr0 s11;exact⟨by rw [hcd];rfl,hB,hb1,hb2,hb5,hb6,ho⟩
   have hzk:zOk kk t1:=Classical.not_not.1 c96;have hcz:=ndX_z (b:=e1) c41 hkk h1k h4k hzk;refine yj ?_;refine yy (rg [] 97 9) (fun g w'=>(g 105= .bool (decide (kk=1∧¬xj t1.name=true)))∧Same [] w11 w') ?_ (fun g17 w16 hI=>?_)
   ·have hZ:SameQ [] w11 w11:=Same.refl _ _;refine zn5 ?_;refine zw 100 rfl (fun g100=>?_) (fun g100=>?_)
    ·refine zn5 ?_;refine zV fn87 (name1_any _ _) rfl (fun e' w17 hr=>?_);obtain⟨rfl,rfl⟩:=hr;refine⟨_,rfl,?_⟩;refine zn4 ?_;refine e_R ⟨agA,?_⟩;refine⟨?_,hZ⟩
     first | exact congrArg Value.bool (decide_eq_true (by grind)).symm | exact congrArg Value.bool (decide_eq_false (by grind)).symm | exact congrArg Value.bool (decide_eq_decide.2 (by grind)) | exact congrArg Value.bool (by grind)
    refine zn6 ?_;refine e_R ⟨agA,?_⟩;refine⟨?_,hZ⟩
    first | exact congrArg Value.bool (decide_eq_true (by grind)).symm | exact congrArg Value.bool (decide_eq_false (by grind)).symm | exact congrArg Value.bool (decide_eq_decide.2 (by grind)) | exact congrArg Value.bool (by grind)
   obtain⟨h105,s12⟩:=hI;refine gV 105 _ h105 nu (e_S ?_);replace ho:=ho.tr0 s12;refine zX rfl (fun c105=>?_) (fun c105=>?_)
   ·have hcd:(ndX n d1 e1 t1)=10:=by rw [hcz,if_pos c105.1,if_neg c105.2]
    refine zn3 ?_;refine e_R ⟨agA,?_⟩;replace hB:=hB.tr0 (s6.trans (s11.trans s12));replace hb1:=hb1.tr0 (s6.trans (s11.trans s12));replace hb2:=hb2.tr0 (s6.trans (s11.trans s12));replace hb5:=hb5.tr0 (s6.trans (s11.trans s12));replace hb6:=hb6.tr0 (s11.trans s12);exact⟨by rw [hcd];rfl,hB,hb1,hb2,hb5,hb6,ho⟩
   refine yj ?_;refine yy (rg [] 106 14) (fun g w'=>(g 119= .bool (decide ((kk=1∨kk=3)∧smF t1.type≠0)))∧Same [] w16 w') ?_ (fun g19 w18 hI=>?_)
   ·have hZ:SameQ [] w16 w16:=Same.refl _ _;refine zn5 ?_;refine zw 109 rfl (fun g109=>?_) (fun g109=>?_)
    ·refine zn8 ?_;refine wl (zY U41 rfl rfl (hb6.u.sub (n:=2) (xs:=[_,_]) rfl) x9) (zn1 ?_);refine zV fn88 (Ev A1 c1 t1.type _ (hs1.mono hB.u)) rfl (fun e' w19 hr=>?_);obtain⟨rfl,s13⟩:=hr;replace s13:=sB s13;replace hZ:=SameQ.trans hZ s13 (by simp);refine⟨_,rfl,?_⟩;refine zn4 ?_;refine e_R ⟨agA,?_⟩;refine⟨?_,hZ⟩
     first | exact congrArg Value.bool (decide_eq_true (by grind)).symm | exact congrArg Value.bool (decide_eq_false (by grind)).symm | exact congrArg Value.bool (decide_eq_decide.2 (by grind)) | exact congrArg Value.bool (by grind)
    refine zn8 ?_;refine zw 114 rfl (fun g114=>?_) (fun g114=>?_)
    ·refine zn3 ?_;refine wl (zY U41 rfl rfl (hb6.u.sub (n:=2) (xs:=[_,_]) rfl) x9) (zn1 ?_);refine zV fn88 (Ev A1 c1 t1.type _ (hs1.mono hB.u)) rfl (fun e' w20 hr=>?_);obtain⟨rfl,s14⟩:=hr;replace s14:=sB s14;replace hZ:=SameQ.trans hZ s14 (by simp);refine⟨_,rfl,?_⟩;refine zn4 ?_;refine e_R ⟨agA,?_⟩;refine⟨?_,hZ⟩
     first | exact congrArg Value.bool (decide_eq_true (by grind)).symm | exact congrArg Value.bool (decide_eq_false (by grind)).symm | exact congrArg Value.bool (decide_eq_decide.2 (by grind)) | exact congrArg Value.bool (by grind)
    refine zn6 ?_;refine e_R ⟨agA,?_⟩;refine⟨?_,hZ⟩
    first | exact congrArg Value.bool (decide_eq_true (by grind)).symm | exact congrArg Value.bool (decide_eq_false (by grind)).symm | exact congrArg Value.bool (decide_eq_decide.2 (by grind)) | exact congrArg Value.bool (by grind)
   obtain⟨h119,s15⟩:=hI;refine gV 119 _ h119 nu (e_S ?_);replace ho:=ho.tr0 s15;refine zX rfl (fun c119=>?_) (fun c119=>?_)
   ·have hcd:(ndX n d1 e1 t1)=12:=by rw [hcz];clear hcz;grind
    refine zn3 ?_;refine e_R ⟨agA,?_⟩;replace hB:=hB.tr0 (s6.trans (s11.trans (s12.trans s15)));replace hb1:=hb1.tr0 (s6.trans (s11.trans (s12.trans s15)));replace hb2:=hb2.tr0 (s6.trans (s11.trans (s12.trans s15)));replace hb5:=hb5.tr0 (s6.trans (s11.trans (s12.trans s15)));replace hb6:=hb6.tr0 (s11.trans (s12.trans s15));exact⟨by rw [hcd];rfl,hB,hb1,hb2,hb5,hb6,ho⟩
   refine yj ?_;replace hB:=hB.tr0 (s6.trans (s11.trans (s12.trans s15)));replace hb1:=hb1.tr0 (s6.trans (s11.trans (s12.trans s15)));replace hb2:=hb2.tr0 (s6.trans (s11.trans (s12.trans s15)));replace hb5:=hb5.tr0 (s6.trans (s11.trans (s12.trans s15)));replace hb6:=hb6.tr0 (s11.trans (s12.trans s15));refine xJ (rg [] 120 15) 134 (.bool (decide (kk=2∧(t1.index < 0∨(e1:Int)≤t1.index)))) nu ?_ (fun gq=>?_)
   ·refine zn5 ?_;refine zw 123 rfl (fun g123=>?_) (fun g123=>?_)
    ·refine zn8 ?_;refine zw 127 rfl (fun g127=>?_) (fun g127=>?_)
     ·refine zn8 ?_;refine zJ (e_R ⟨rfl,agA,?_⟩);show Value.bool _=Value.bool _
      first | exact congrArg Value.bool (decide_eq_true (by grind)).symm | exact congrArg Value.bool (decide_eq_false (by grind)).symm | exact congrArg Value.bool (decide_eq_decide.2 (by grind)) | exact congrArg Value.bool (by grind)
     refine ky ?_;refine zJ (e_R ⟨rfl,agA,?_⟩);show Value.bool _=Value.bool _
     first | exact congrArg Value.bool (decide_eq_true (by grind)).symm | exact congrArg Value.bool (decide_eq_false (by grind)).symm | exact congrArg Value.bool (decide_eq_decide.2 (by grind)) | exact congrArg Value.bool (by grind)
    refine vq ?_;refine zJ (e_R ⟨rfl,agA,?_⟩);show Value.bool _=Value.bool _
    first | exact congrArg Value.bool (decide_eq_true (by grind)).symm | exact congrArg Value.bool (decide_eq_false (by grind)).symm | exact congrArg Value.bool (decide_eq_decide.2 (by grind)) | exact congrArg Value.bool (by grind)
   refine e_S ?_;refine zX rfl (fun c134=>?_) (fun c134=>?_)
   ·have hcd:(ndX n d1 e1 t1)=15:=by rw [hcz];clear hcz;grind
    refine zn3 ?_;refine e_R ⟨agA,?_⟩;exact⟨by rw [hcd];rfl,hB,hb1,hb2,hb5,hb6,ho⟩
   have hcd:(ndX n d1 e1 t1)=0:=by rw [hcz];clear hcz;grind
   refine M7 ?_;refine e_R ⟨agA,?_⟩;exact⟨by rw [hcd];rfl,hB,hb1,hb2,hb5,hb6,ho⟩
  obtain⟨h7,hB,hb1,hb2,hb5,hb6,ho⟩:=hI;refine gV 7 _ h7 nu (zn8 ?_);refine zX rfl (fun c136=>?_) (fun c136=>?_)
  ·rw [ndX_bad c136] at hR;have hF:tmF t=((ndX n d1 e1 t1),(n:Int)):=by rw [N2 (by rw [hR];exact c136),hR]
   refine zn4 ?_;refine wl (xY (v0:= .int _ _) (v1:= .int _ _) (fun v0 v1=>#[v0,v1]) rfl rfl kR) ?_;refine zk hb2 rfl rfl zq rfl zQ (fun w21 hq s16=>?_);replace hb2:=hq;refine zn9 ?_;refine x7 (.inl rfl) rfl (zy U36 rfl rfl hb2.range0 zq) ?_;replace hB:=hB.tr1 s16 lo2;exact⟨by rw [hF];rfl,hB⟩
  obtain⟨hR2,⟨hd40,hn200⟩,hcd0⟩:=ndX_go (r:=st1.reverse) (Classical.not_not.1 c136);rw [hR2] at hR;have hal:=ndC_len hcd0;refine J9 ?_;refine yy [10,145,146] (fun g w'=>g 10= .int .i64 ((inB t1 e1:Nat):Int)∧Bel w w'∧Blk w' b1 44 #[.int .i64 (t).kind,.string (t).name,.int .i64 (t).index,.string (t).type.base,.slice A (t).type.args.length c,.slice B (t).args.length mB]∧Blk w' b2 36 #[.int .i64 0,.int .i64 0]∧Blk w' b5 146 #[.int .i64 (t1).kind,.string (t1).name,.int .i64 (t1).index,.string (t1).type.base,.slice A1 (t1).type.args.length c1,.slice B1 (t1).args.length m1,.int .i64 (d1:Nat),.int .i64 (e1:Nat)]∧Blk w' b6 44 #[.int .i64 t1.kind,.string t1.name,.int .i64 t1.index,.string t1.type.base,.slice A1 t1.type.args.length c1,.slice B1 t1.args.length m1]∧Own w' w.heap.size 146 8 (some ⟨q,0,none⟩) st1.length cap3 vs1) ?_ (fun gx2 w22 hI=>?_)
  ·refine zX rfl (fun c144=>?_) (fun c144=>?_)
   ·have hin:inB t1 e1=e1 + 1:=if_pos c144;refine zn5 ?_;refine e_R ⟨agA,?_⟩;exact⟨by rw [hin];rfl,hB,hb1,hb2,hb5,hb6,ho⟩
   have hin:inB t1 e1=e1:=if_neg c144;refine M7 ?_;refine e_R ⟨agA,?_⟩;exact⟨by rw [hin];rfl,hB,hb1,hb2,hb5,hb6,ho⟩
  obtain⟨h10,hB,hb1,hb2,hb5,hb6,ho⟩:=hI;refine gV 10 _ h10 nu (zn6 ?_);refine wl (j8 rfl rfl rfl oM) (zn4 ?_);refine zW (rg [3,11] 151 17) (fun mm g w'=>∃ (i:Nat) (z:Int) (st2:List (Tm×Nat×Nat)) (vs2:List Value) (q2 cap2:Nat),i≤t1.args.length∧mm=i∧z + 1=i∧g 11= .int .i64 z∧g 3= .slice (some ⟨q2,0,none⟩) st2.length cap2∧st2.length=st1.length + (t1.args.length - i)∧st2.reverse=(t1.args.drop i).map (fun y=>(y,d1 + 1,inB t1 e1)) ++ st1.reverse∧Bel w w'∧Blk w' b1 44 #[.int .i64 (t).kind,.string (t).name,.int .i64 (t).index,.string (t).type.base,.slice A (t).type.args.length c,.slice B (t).args.length mB]∧Blk w' b2 36 #[.int .i64 0,.int .i64 0]∧Blk w' b5 146 #[.int .i64 (t1).kind,.string (t1).name,.int .i64 (t1).index,.string (t1).type.base,.slice A1 (t1).type.args.length c1,.slice B1 (t1).args.length m1,.int .i64 (d1:Nat),.int .i64 (e1:Nat)]∧Blk w' b6 44 #[.int .i64 t1.kind,.string t1.name,.int .i64 t1.index,.string t1.type.base,.slice A1 t1.type.args.length c1,.slice B1 t1.args.length m1]∧Own w' w.heap.size 146 8 (some ⟨q2,0,none⟩) st2.length cap2 vs2∧StkT w st2 vs2∧(∀ x ∈ st2,x.2.2 < x.2.1)∧∀ g ∈ aL (some (⟨q2,0,none⟩:Addr)),g≠b5) (t1.args.length) ?_ (fun m g29 w23 hI=>?_)
  ·exact⟨t1.args.length,_,st1,vs1,q,cap3,Nat.le_refl _,rfl,by omega,rfl,rfl,by omega,by rw [List.drop_length];rfl,hB,hb1,hb2,hb5,hb6,ho,hst1,hbd,fun g hg=>by have:=or_ho_b5 g hg;omega⟩
  obtain⟨i,z,st2,vs2,q2,cap2,hi,hmi,hzi,h11,h3,hl2,hrv,hB,hb1,hb2,hb5,hb6,ho,hstk2,hbd2,or_ho_b5⟩:=hI;have or_ho_b1:=Zx ho hb1 dE;have or_ho_b2:=Zx ho hb2 dE;have or_ho_b6:=Zx ho hb6 dE;refine zZ 11 _ h11 nu (zZ 3 _ h3 nu (zn7 ?_));refine zX rfl (fun c152=>?_) (fun c152=>?_)
  ·obtain⟨p,rfl⟩:∃ p:Nat,z=p:=⟨z.toNat,by omega⟩
   obtain rfl:i=p + 1:=by omega
   have hpl:p < t1.args.length:=by omega
   obtain⟨tb,to,A9,c9,B9,m9,rfl,htb,htr,hs9,ht9⟩:=ht1.at_ hpl;have hrv2:(st2 ++ [((t1.args[p]'hpl),d1 + 1,inB t1 e1)]).reverse=(t1.args.drop p).map (fun y=>(y,d1 + 1,inB t1 e1)) ++ st1.reverse:=by
     rw [YZ,hrv,List.drop_eq_getElem_cons hpl];rfl
   refine zn4 ?_;have zo:=fun g hg=>(ho.lt g hg).2
   have lt5W:=hb5.lt;refine kz [] [12] [0,1,2,3,4,5,6,7,8,9,10,11,12,13] rfl (fun w24 s17=>?_);have hs0:=s17;refine zn4 ?_;refine hl rfl (fun _=>xk (i:=p) U42 VY rfl rfl hpl rfl) (zn5 ?_);refine hl rfl (fun _=>Qz (v0:= .agg _) (v1:= .int _ _) (v2:= .int _ _) (fun v0 v1 v2=>#[(qx v0 0),(qx v0 1),(qx v0 2),(qx v0 3),(qx v0 4),(qx v0 5),v1,v2]) rfl rfl rfl kR) (h1 rfl ?_);refine qw (cs:=#[_,_,_,_,_,_,_,_]) [(0,.agg _)] rfl G8 PV ze146 dE dE kR rfl (fun b166 w25 hb166 s18 hr=>?_);have:=nLL hb1.u.lt hr;have:=nLL hb2.u.lt hr;have:=nLL hb5.u.lt hr;have:=nLL hb6.u.lt hr;have hsH11:=s18;refine zJ (M5 hsH11 (h1 rfl ?_));replace ho:=ho.tr0 (s17.trans s18);refine vX G8 in146 rfl dE ho hb166 rfl rfl rfl zQ dE oM oM (Bel.size hB.u) (fun g167 cap167 w26 ho167 hs2 hg167=>?_);replace hB:=hB.tr0 (s17.trans s18);replace hB:=hB.tr hs2 (fun g hg=>nLT (Nat.le_refl _) (ho.lt g hg).1);replace hb1:=hb1.tr0 (s17.trans s18);replace hb1:=hb1.tb hs2 (fun g hg=>by have:=or_ho_b1 g hg;omega);replace hb2:=hb2.tr0 (s17.trans s18);replace hb2:=hb2.tb hs2 (fun g hg=>by have:=or_ho_b2 g hg;omega);replace hb5:=hb5.tr0 (s17.trans s18);replace hb5:=hb5.tb hs2 (fun g hg=>by have:=or_ho_b5 g hg;omega);replace hb6:=hb6.tr0 (s17.trans s18);replace hb6:=hb6.tb hs2 (fun g hg=>by have:=or_ho_b6 g hg;omega);replace hs0:=hs0.trans s18;obtain⟨g167,cap167,e167,ho167,hg167⟩:∃ g cap,(.slice (some ⟨g167,0,none⟩) (st2.length + 1) cap167:Value)= .slice (some ⟨g,0,none⟩) (st2.length + 1) cap∧Own w26 w.heap.size 146 8 (some ⟨g,0,none⟩) (st2.length + 1) cap (vs2 ++ [.int .i64 ((t1.args[p]'hpl)).kind,.string ((t1.args[p]'hpl)).name,.int .i64 ((t1.args[p]'hpl)).index,.string ((t1.args[p]'hpl)).type.base,.slice A9 ((t1.args[p]'hpl)).type.args.length c9,.slice B9 ((t1.args[p]'hpl)).args.length m9,.int .i64 ((d1:Nat) + 1:Int),.int .i64 ((inB t1 e1:Nat):Int)])∧(g=q2∨w23.heap.size≤g):=⟨_,_,rfl,ho167,hg167.imp (fun h=>(List.singleton_inj.1 h).symm) (fun h=>nLT hs0.size h)⟩
   cases e167;refine zJ (V0 [] ?_);have q1:(st2 ++ [((t1.args[p]'hpl),d1 + 1,inB t1 e1)]).length=st2.length + 1:=by simp
   have ho:Own w26 w.heap.size 146 8 (some ⟨g167,0,none⟩) (st2 ++ [((t1.args[p]'hpl),d1 + 1,inB t1 e1)]).length cap167 (vs2 ++ [.int .i64 ((t1.args[p]'hpl)).kind,.string ((t1.args[p]'hpl)).name,.int .i64 ((t1.args[p]'hpl)).index,.string ((t1.args[p]'hpl)).type.base,.slice A9 ((t1.args[p]'hpl)).type.args.length c9,.slice B9 ((t1.args[p]'hpl)).args.length m9,.int .i64 ((d1:Nat) + 1:Int),.int .i64 ((inB t1 e1:Nat):Int)]):=by rw [q1];exact ho167
   have or_ho_b5n:∀ g ∈ aL (some (⟨g167,0,none⟩:Addr)),g≠b5:=fun g hg=>by
     rw [List.mem_singleton.1 hg];rcases hg167 with h | h
     · show g167≠b5
       rw [h];exact or_ho_b5 q2 (List.mem_singleton.2 rfl)
     · show g167≠b5
       omega
   refine zn6 ?_;refine wl (j8 rfl rfl rfl oM) (zn2 ?_);refine xv (p) oM agA ?_
   exact⟨p,_,st2 ++ [((t1.args[p]'hpl),d1 + 1,inB t1 e1)],_,_,_,by omega,rfl,by omega,rfl,(by rw [q1];rfl),(by rw [q1,hl2];omega),hrv2,hB,hb1,hb2,hb5,hb6,ho,.snoc hstk2 hs9 ht9,(fun x hx=>by
     rcases List.mem_append.1 hx with h | h
     · exact hbd2 x h
     · rw [List.mem_singleton.1 h];show inB t1 e1 < d1 + 1;have:=inB_le t1 e1;omega),or_ho_b5n⟩
  obtain rfl:i=0:=by omega
  rw [List.drop_zero] at hrv;have hR2:twk t 1 0 0=tst st2.reverse (n + 1):=by rw [hR,hrv]
  have hl3:st2.length=st1.length + t1.args.length:=by rw [hl2,Nat.sub_zero]
  refine vq ?_;refine xv (201 - (n + 1)) oM agA ?_;exact⟨st2,vs2,_,_,n + 1,rfl,by omega,by omega,rfl,rfl,hB,hb1,hb2,ho,hstk2,hR2,hbd2⟩
 have hst:st= []:=List.length_eq_zero_iff.1 oM;subst hst;have hz:(twk t 1 0 0).2.1=0:=by rw [hR];rfl
 obtain⟨tv,rfl,hok,_,hv2⟩:=Ij t 1 0 0 hz;have hF:=H5 hz;refine zn9 ?_;refine zV fn47 (E1 tv A B c mB _ _ (Below.refl _ _) (hS.mono hB) (hT.mono hB) oM hok) rfl (fun e' w27 hr=>?_);obtain⟨⟨sX,AX,nX,cX,rfl,_⟩,s19⟩:=hr;replace s19:=sB s19;refine⟨_,rfl,?_⟩;refine wmT rfl (wl (j5 (v:= .agg _) rfl rfl) (wl (j5 (v:= .bool _) rfl rfl) ?_));refine xV (cs:=#[.string ⟨#[]⟩,.slice none 0 0]) ov rfl (fun _=>rfl) (fun _=>rfl) x9 rfl zQ (fun b12 w29 hb12 s20 hr=>?_);refine zn9 ?_;refine vK rfl (fun c174=>?_) (fun c174=>?_)
 ·rw [if_neg (by simpa using c174)] at hF;refine zn2 ?_;refine wl (xY (v0:= .int _ _) (v1:= .int _ _) (fun v0 v1=>#[v0,v1]) rfl rfl kR) ?_;refine zk hb2.u rfl rfl zq rfl zQ (fun w30 hq s21=>?_);replace hb2:=hq;refine zn4 ?_;refine x7 (.inl rfl) rfl (zy U36 rfl rfl hb2.range0 zq) ?_;replace hB:=(hB.tr0 (s19.trans s20)).tr1 s21 lo2;exact⟨by rw [hF];rfl,hB⟩
 rw [if_pos (by simpa using c174)] at hF;refine zn4 ?_;refine wl (uW (vs:=#[]) (cs:=#[.int .i64 0,.int .i64 0]) (by simp) kR) ?_;refine zk hb2.u rfl rfl zq rfl zQ (fun w31 hq s22=>?_);replace hb2:=hq;refine zn3 ?_;refine x7 (.inl rfl) rfl (zy U36 rfl rfl hb2.range0 zq) ?_;replace hB:=(hB.tr0 (s19.trans s20)).tr1 s22 lo2;exact⟨by rw [hF];rfl,hB⟩
end Go.Proofs.YtbcpgfnfiekbiaaGreatDoor
namespace Go.Proofs.YtbcpgfnfiekbiaaGreatDoor
open Go.RowKit
theorem fn33:zK Tryz.prog 33=true:=by kernel_rfl
theorem fn46:zK Tryz.prog 46=true:=by kernel_rfl
theorem fn63:zK Tryz.prog 63=true:=by kernel_rfl
theorem fn64:zK Tryz.prog 64=true:=by kernel_rfl
theorem Lv (SA BA:Option Addr) (cs mB:Nat) (t:Tm) (w:World) (hS:SimsIn w SA t.type.args) (hT:TmsIn w BA t.args):Calls Tryz.prog 64 #[.agg #[.int .i64 (t).kind,.string (t).name,.int .i64 (t).index,.string (t).type.base,.slice SA (t).type.args.length cs,.slice BA (t).args.length mB]] w fun e w'=>e= .returned (flV (tmF t))∧Bel w w':=by
 refine enT Tryz.func64 Tryz.ntmps64 rfl rfl fun hB=>?_;refine zn2 ?_;refine x6 (v:= .agg #[_,_,_,_,_,_]) (cs:=#[_,_,_,_,_,_]) rfl rfl (fun b1 w1 hb1 s1 hr=>?_);refine qq (cs:=#[.int .i64 0,.int .i64 0]) qv rfl (fun b2 w2 hb2 s2 hr=>?_);have lo2:=nLT (Bel.size hB.u) hr;refine zn5 ?_;refine zV fn46 (VV SA BA cs mB t _ (hS.mono hB.u) (hT.mono hB.u)) rfl (fun e' w3 hr=>?_);obtain⟨rfl,s3⟩:=hr;replace s3:=sB s3;refine⟨_,rfl,?_⟩;refine zk hb2.u rfl rfl zq rfl zQ (fun w4 hq s4=>?_);replace hb2:=hq;refine zn3 ?_;refine x7 (.inl rfl) rfl (zy U36 rfl rfl hb2.range0 zq) ?_;exact⟨qK rfl,hB.u⟩
theorem D2 (A B G SA BA:Option Addr) (c d cg cs mB:Nat) (l:List Ty) (fs:List Ft) (r:Rl) (w:World) (hTy:TypesIn w A l) (hv:VT l) (h60:l.length≤60) (hF:FeatsIn w B fs) (hfo:FOk l.length fs) (hG:NodesIn w G r.gr) (hS:SimsIn w SA r.mean.type.args) (hT:TmsIn w BA r.mean.args):Calls Tryz.prog 31 #[.agg #[.slice A l.length c,.slice B fs.length d],.agg #[.string (r).name,.slice G (r).gr.length cg,.int .i64 (r).kids,.int .i64 (r).wt,.int .i64 ((r).mean).kind,.string ((r).mean).name,.int .i64 ((r).mean).index,.string ((r).mean).type.base,.slice SA ((r).mean).type.args.length cs,.slice BA ((r).mean).args.length mB]] w fun e w'=>e= .returned (.int .i64 (vy l fs r))∧Bel w w':=by
 refine enT Tryz.func31 Tryz.ntmps31 rfl rfl fun hB=>?_;refine zn2 ?_;refine x6 (v:= .agg #[_,_]) (cs:=#[_,_]) rfl rfl (fun b2 w1 hb2 s1 hr=>?_);refine x6 (v:= .agg #[_,_,_,_,_,_,_,_,_,_]) (cs:=#[_,_,_,_,_,_,_,_,_,_]) rfl rfl (fun b3 w2 hb3 s2 hr=>?_);refine zn5 ?_;replace hB:=hB.tr0 (s1.trans s2);refine xJ (rg [] 7 18) 24 (.bool (decide (r.kids < 1∨3 < r.kids∨r.wt < 0∨1000000 < r.wt))) nu ?_ (fun gq=>?_)
 ·refine zn5 ?_;refine zw 10 rfl (fun g10=>?_) (fun g10=>?_)
  ·refine ZX ?_;refine zJ (e_R ⟨rfl,agA,?_⟩);exact clA
  refine zn8 ?_;refine zw 15 rfl (fun g15=>?_) (fun g15=>?_)
  ·refine zn9 ?_;refine zJ (e_R ⟨rfl,agA,?_⟩);exact clA
  refine zn8 ?_;refine zw 20 rfl (fun g20=>?_) (fun g20=>?_)
  ·refine zn4 ?_;refine zJ (e_R ⟨rfl,agA,?_⟩);exact clA
  refine zn7 ?_;refine zJ (e_R ⟨rfl,agA,?_⟩);exact clA
 refine e_S ?_;refine zX rfl (fun c24=>?_) (fun c24=>?_)
 ·refine zn8 ?_;exact⟨Mk (IJ c24),hB⟩
 refine zn7 ?_;refine wl (zY U30 rfl rfl (hb3.sub (n:=1) (xs:=[_]) rfl) ZK) ?_;refine zV fn33 (inh_any A B G c d cg l fs r.gr _ (hTy.mono hB) hv h60 (hF.mono hB) (hG.mono hB) hfo) rfl (fun e' w3 hr=>?_);obtain⟨rfl,s3⟩:=hr;replace s3:=sB s3;refine⟨_,rfl,?_⟩;refine xV (cs:=#[.int .i64 0,.int .i64 0]) qv rfl (fun _=>rfl) (fun _=>rfl) zq rfl zQ (fun b5 w5 hb5 s4 hr=>?_);refine zn9 ?_;refine zX rfl (fun c31=>?_) (fun c31=>?_)
 ·refine yv ?_;exact⟨Mk (Rv c24 c31),hB.u⟩
 have hin:=Decidable.not_not.1 c31;have hk0:=O7 (NK hin);have h0:=hk0.pos;refine zn9 ?_;refine zW (rg [4,6] 34 14) (fun m g w'=>∃ j:Nat,j≤4∧m=4 - j∧g 34= .int .i64 j∧Bel w w'∧Blk w' b3 54 #[.string (r).name,.slice G (r).gr.length cg,.int .i64 (r).kids,.int .i64 (r).wt,.int .i64 ((r).mean).kind,.string ((r).mean).name,.int .i64 ((r).mean).index,.string ((r).mean).type.base,.slice SA ((r).mean).type.args.length cs,.slice BA ((r).mean).args.length mB]∧∀ f,f < j→plN r.gr r.kids f=true) (4) ?_ (fun m g7 w6 hI=>?_)
 ·exact⟨0,by omega,rfl,rfl,hB.u,hb3.u,fun f hf=>by omega⟩
 obtain⟨j,hj,hm,h34,hB,hb3,hall⟩:=hI;refine zZ 34 _ h34 nu (zn6 ?_);refine zX rfl (fun c35=>?_) (fun c35=>?_)
 ·refine vq ?_;refine jx [] [0,1,2,5,6,7,8,3,4,9] rfl (fun w7 s5=>?_);refine zn1 ?_;refine hlS rfl U30 rfl rfl (hb3.u.sub (n:=1) (xs:=[_]) rfl) ZK (zn5 ?_);refine hcl (fun v wv=>v= .int .i64 (tgt (r.gr[0]'h0).ln ((j:Nat):Int))) rfl fn63 (R9 G cg r.gr 0 ((j:Nat):Int) w7 (hG.mono hB.u) h0) rfl (fun e' w2 hr=>?_) (fun v40 w8 s6 d40=>?_)
  ·obtain⟨rfl,s7⟩:=hr;exact⟨_,rfl,sB s7,rfl⟩
  have e40:=d40;subst e40;refine zn1 ?_;refine hl rfl (fun _=>Bz U4 rfl rfl) (h_end (e_S ?_));refine vK rfl (fun c46=>?_) (fun c46=>?_)
  ·have hpl:plN r.gr r.kids j=false:=by
     have h:=c46;rw [Bool.not_eq_true'] at h;rw [Bk h0];exact h
   refine yZ ?_;exact⟨Mk (Rx c24 hin (pl_no oM hpl)),hB.u⟩
  have hpl:plN r.gr r.kids j=true:=by
    have h:=c46;rw [Bool.not_eq_false'] at h;rw [Bk h0];exact h
  refine zn7 ?_;refine xv (4 - (j + 1)) oM agA ?_;replace hB:=hB.tr0 (s5.trans s6);replace hb3:=hb3.tr0 (s5.trans s6)
  exact⟨j + 1,by omega,rfl,rfl,hB,hb3,fun f hf=>by
    by_cases e:f=j
    · rw [e];exact hpl
    · exact hall f oM⟩
 refine zn8 ?_;refine wl (zY U44 rfl rfl (hb3.sub (n:=6) (xs:=[_,_,_,_,_,_]) rfl) VY) ?_;refine zV fn64 (Lv SA BA cs mB r.mean _ (hS.mono hB) (hT.mono hB)) rfl (fun e' w9 hr=>?_);obtain⟨rfl,s8⟩:=hr;replace s8:=sB s8;refine⟨_,rfl,?_⟩;refine wl (F1 (v:= .int _ _) U36 rfl U3 rfl rfl rfl) (zn5 ?_);exact⟨Mk (Rj c24 hin (pl_yes (fun f hf=>hall f oM))),hB.u⟩
end Go.Proofs.YtbcpgfnfiekbiaaGreatDoor
namespace Go.Proofs.YtbcpgfnfiekbiaaGreatDoor
open Go.RowKit
theorem TyIs.size {t:Tm} {v:Tv} {τ:Ts} (h:TyIs t v τ):τ.size≤100000:=by
  have h1:=Jk (Γ:=[]) (v:=v) (τ:=τ) h.2.1 (fun σ hσ=>by cases hσ) h.2.2.2;have h2:=h.2.2.1;omega
theorem OX:∀ τ:Ts,(qJ τ).length≤τ.size∧∀ σ ∈ qJ τ,σ.size≤τ.size
  | .b _=>⟨Nat.zero_le _,fun σ h=>by cases h⟩
  | .f a r=>by
    have h:=OX r
    refine⟨by simp only [qJ,List.length_cons,Ts.size];omega,fun σ hσ=>?_⟩
    simp only [Ts.size]
    rcases List.mem_cons.1 hσ with rfl | hσ
    · omega
    · have:=h.2 σ hσ;omega
theorem Jv {t:Tm} {v:Tv} {τ:Ts} (h:TyIs t v τ) (A B:Option Addr) (c m:Nat) (w0 w:World) (hB0:Bel w0 w) (hS:SimsIn w0 A t.type.args) (hT:TmsIn w0 B t.args):Calls Tryz.prog 47 #[.agg #[.int .i64 (t).kind,.string (t).name,.int .i64 (t).index,.string (t).type.base,.slice A (t).type.args.length c,.slice B (t).args.length m]] w fun e w'=>(∃ A' c',e= .returned (.tuple #[.agg #[.string τ.sm.base,.slice A' τ.sm.args.length c'],.bool true])∧TyS (nwX w0 w []) w' A' τ)∧Bel w w':=by
  obtain⟨rfl,hok,hsz,hty⟩:=h;refine(E1 v A B c m w0 w hB0 hS hT hsz hok).mono fun e w' h=>?_
  obtain⟨⟨s,A',n,c',rfl,h2⟩,hB⟩:=h;obtain⟨rfl,rfl,h3⟩:=h2 τ hty;exact⟨⟨A',c',by rw [hty];rfl,h3⟩,hB⟩
theorem fn29_ORf:zK Tryz.prog 29=true:=by kernel_rfl
theorem W5:zK Tryz.prog 31=true:=by kernel_rfl
theorem fn48:zK Tryz.prog 48=true:=by kernel_rfl
theorem HZ (AT AF:Option Addr) (ct cf:Nat) (l:List Ty) (fs:List Ft) (w:World) (hct:l.length≤ct) (hcf:fs.length≤cf) (hTy:TypesIn w AT l) (hF:FeatsIn w AF fs):Calls Tryz.prog 12 #[.agg #[.slice AT l.length ct,.slice AF fs.length cf]] w fun e w'=>e= .returned (flV (yX l fs))∧Bel w w':=by
 refine enT Tryz.func12 Tryz.ntmps12 rfl rfl fun hB=>?_;refine zn2 ?_;refine x6 (v:= .agg #[_,_]) (cs:=#[_,_]) rfl rfl (fun b1 w1 hb1 s1 hr=>?_);refine qq (cs:=#[.int .i64 0,.int .i64 0]) qv rfl (fun b2 w2 hb2 s2 hr=>?_);have lo2:=nLT (Bel.size hB.u) hr;refine zn6 ?_;refine zV fn29_ORf (Pz AT AF ct cf l fs _ hct hcf (hTy.mono hB.u) (hF.mono hB.u)) rfl (fun e' w3 hr=>?_);obtain⟨rfl,s3⟩:=hr;replace s3:=sB s3;refine⟨_,rfl,?_⟩;refine xV (cs:=#[.int .i64 0,.int .i64 0]) qv rfl (fun _=>rfl) (fun _=>rfl) zq rfl zQ (fun b3 w5 hb3 s4 hr=>?_);refine zn9 ?_;refine zX rfl (fun c8=>?_) (fun c8=>?_)
 ·refine zn3 ?_;refine zk hb2.u rfl rfl zq rfl zQ (fun w6 hq s5=>?_);replace hb2:=hq;refine zn4 ?_;refine x7 (.inl rfl) rfl (zy U36 rfl rfl hb2.range0 zq) ?_;exact⟨qK (N5 c8),hB.u⟩
 have h0:=Decidable.not_not.1 c8;refine vq ?_;refine zX rfl (fun c13=>?_) (fun c13=>?_)
 ·refine zn2 ?_;refine wl (xY (v0:= .int _ _) (v1:= .int _ _) (fun v0 v1=>#[v0,v1]) rfl rfl kR) ?_;refine zk hb2.u rfl rfl zq rfl zQ (fun w7 hq s6=>?_);replace hb2:=hq;refine zn4 ?_;refine x7 (.inl rfl) rfl (zy U36 rfl rfl hb2.range0 zq) ?_;exact⟨qK (HV h0 oM),hB.u⟩
 refine zn4 ?_;refine wl (uW (vs:=#[]) (cs:=#[.int .i64 0,.int .i64 0]) (by simp) kR) ?_;refine zk hb2.u rfl rfl zq rfl zQ (fun w8 hq s7=>?_);replace hb2:=hq;refine zn3 ?_;refine x7 (.inl rfl) rfl (zy U36 rfl rfl hb2.range0 zq) ?_;exact⟨qK (rd_ok h0 oM),hB.u⟩
set_option maxRecDepth 100000 in
set_option maxHeartbeats 4000000 in
theorem D7 (AT AF:Option Addr) (ct cf:Nat) (l:List Ty) (fs:List Ft) (r:Orl) (G SA BA OA:Option Addr) (cg cs cb co:Nat) (w:World) (hh0:(qZ l fs).1=0) (hTy:TypesIn w AT l) (hF:FeatsIn w AF fs) (hP:OrP w r G SA BA OA):Calls Tryz.prog 13 #[.agg #[.slice AT l.length ct,.slice AF fs.length cf],.agg #[.string (r.rule).name,.slice G (r.rule).gr.length cg,.int .i64 (r.rule).kids,.int .i64 (r.rule).wt,.int .i64 ((r.rule).mean).kind,.string ((r.rule).mean).name,.int .i64 ((r.rule).mean).index,.string ((r.rule).mean).type.base,.slice SA ((r.rule).mean).type.args.length cs,.slice BA ((r.rule).mean).args.length cb,.slice OA r.om.length co]] w fun e w'=>e= .returned (flV (Q0 l fs r))∧Bel w w':=by
 have hfo:=O9 hh0;have hS:=ZV hh0;have hmo:=hP.o.1;unfold yJ at hmo;refine enT Tryz.func13 Tryz.ntmps13 rfl rfl fun hB=>?_;refine zn2 ?_;refine x6 (v:= .agg #[_,_]) (cs:=#[_,_]) rfl rfl (fun b2 w1 hb2 t1 hr=>?_);refine x6 (v:= .agg #[_,_,_,_,_,_,_,_,_,_,_]) (cs:=#[_,_,_,_,_,_,_,_,_,_,_]) rfl rfl (fun b3 w2 hb3 t2 hr=>?_);refine qq (cs:=#[.int .i64 0,.int .i64 0]) qv rfl (fun b4 w3 hb4 t3 hr=>?_);have lo4:=nLT (Bel.size hB.u) hr;refine zn8 ?_;refine zV YY (V9 r.rule.name _) rfl (fun e' w4 hr=>?_);obtain⟨rfl,t4⟩:=hr;replace t4:=sB t4;refine⟨_,rfl,?_⟩;refine zn3 ?_;refine vK rfl (fun c19=>?_) (fun c19=>?_)
 ·have hnm:xj r.rule.name=false:=by simpa using c19
  refine zn2 ?_;refine wl (xY (v0:= .int _ _) (v1:= .int _ _) (fun v0 v1=>#[v0,v1]) rfl rfl kR) ?_;refine zk hb4.u rfl rfl zq rfl zQ (fun w5 hq t5=>?_);replace hb4:=hq;refine zn4 ?_;refine x7 (.inl rfl) rfl (zy U36 rfl rfl hb4.range0 zq) ?_;exact⟨qK (BX hnm),hB.u⟩
 have hnm:xj r.rule.name=true:=by simpa using c19
 refine zn7 ?_;refine wl (zY U54 rfl rfl (hb3.u.sub (n:=10) (xs:=[_,_,_,_,_,_,_,_,_,_]) rfl) yQ) ?_;refine zV W5 (D2 AT AF G SA BA ct cf cg cs cb l fs r.rule _ (hTy.mono hB.u) hS.vt hS.le (hF.mono hB.u) hfo (hP.g.mono hB.u) (hP.s.mono hB.u) (hP.t.mono hB.u)) rfl (fun e' w6 hr=>?_);obtain⟨rfl,t6⟩:=hr;replace t6:=sB t6;refine⟨_,rfl,?_⟩;refine zn9 ?_;refine zX rfl (fun c26=>?_) (fun c26=>?_)
 ·refine zn3 ?_;refine wl (xY (v0:= .int _ _) (v1:= .int _ _) (fun v0 v1=>#[v0,v1]) rfl rfl kR) ?_;refine zk hb4.u rfl rfl zq rfl zQ (fun w7 hq t7=>?_);replace hb4:=hq;refine zn4 ?_;refine x7 (.inl rfl) rfl (zy U36 rfl rfl hb4.range0 zq) ?_;exact⟨qK (BQ hnm c26),hB.u⟩
 have hr0:vy l fs r.rule=0:=Decidable.not_not.1 c26;obtain⟨hkd,htm⟩:=Zw hr0;obtain⟨v,τ,hm⟩:=Jw htm;have hτs:=hm.size;have hτl:=(OX τ).1;refine vq ?_;refine wl (j8 (c:=r.rule.kids - 1) rfl rfl rfl oM) (zn3 ?_);refine zX rfl (fun c36=>?_) (fun c36=>?_)
 ·refine zn2 ?_;refine wl (xY (v0:= .int _ _) (v1:= .int _ _) (fun v0 v1=>#[v0,v1]) rfl rfl kR) ?_;refine zk hb4.u rfl rfl zq rfl zQ (fun w8 hq t8=>?_);replace hb4:=hq;refine zn4 ?_;refine x7 (.inl rfl) rfl (zy U36 rfl rfl hb4.range0 zq) ?_;exact⟨qK (BJ hnm hr0 oM),hB.u⟩
 have h36:¬r.rule.kids≤(r.om.length:Int):=by omega
 refine yZ ?_;refine zW (rg (rg [] 6 9) 41 92) (fun m g w'=>∃ i:Nat,i≤r.om.length∧m=r.om.length - i∧g 41= .int .i64 i∧Bel w w'∧Blk w' b2 25 #[.slice AT l.length ct,.slice AF fs.length cf]∧Blk w' b3 57 #[.string (r.rule).name,.slice G (r.rule).gr.length cg,.int .i64 (r.rule).kids,.int .i64 (r.rule).wt,.int .i64 ((r.rule).mean).kind,.string ((r.rule).mean).name,.int .i64 ((r.rule).mean).index,.string ((r.rule).mean).type.base,.slice SA ((r.rule).mean).type.args.length cs,.slice BA ((r.rule).mean).args.length cb,.slice OA r.om.length co]∧Blk w' b4 36 #[.int .i64 0,.int .i64 0]∧x8 (omN r) 0 r.om.length=x8 (omN r) i (r.om.length - i)) (r.om.length) ?_ (fun m g9 w9 hI=>?_)
 ·exact⟨0,Nat.zero_le _,rfl,rfl,hB.u,hb2.u,hb3.u,hb4.u,rfl⟩
 obtain⟨i,hi,hm9,h41,hB,hb2,hb3,hb4,hO'⟩:=hI;refine zZ 41 _ h41 nu (zn6 ?_);refine zX rfl (fun c42=>?_) (fun c42=>?_)
 ·have hil:i < r.om.length:=by omega
  obtain⟨ob,oo,Sx,csx,Bx,cbx,rfl,hob,hor,hsx,htx⟩:=hP.o.at_ hil;refine zn9 ?_;refine qq (cs:=#[.int .i64 0,.int .i64 0,.int .i64 0,.string ⟨#[]⟩,.int .i64 0,.string ⟨#[]⟩,.slice none 0 0,.slice none 0 0]) ze99 rfl (fun b7 w10 hb7 t9 hr=>?_);have:=nLL hb2.lt hr;have:=nLL hb3.lt hr;have:=nLL hb4.lt hr;have lo7:=nLT (Bel.size hB) hr;refine waI rfl ?_;refine zk hb7 rfl rfl OW rfl zQ (fun w11 hq t10=>?_);replace hb7:=hq;refine zn4 ?_;replace hB:=(hB.tr0 t9).tr1 t10 lo7;replace hb4:=(hb4.tr0 t9).tr1 t10 oM;refine xJ (rg [] 46 21) 66 (.bool (decide ((r.om[i]).kid < 1∨r.rule.kids < (r.om[i]).kid∨(r.om[i]).wt < 0∨1000000 < (r.om[i]).wt))) nu ?_ (fun gq=>?_)
  ·refine zn5 ?_;refine zw 49 rfl (fun g49=>?_) (fun g49=>?_)
   ·refine J9 ?_;refine zJ (e_R ⟨rfl,agA,?_⟩);exact clA
   refine ZX ?_;refine zw 57 rfl (fun g57=>?_) (fun g57=>?_)
   ·refine zn9 ?_;refine zJ (e_R ⟨rfl,agA,?_⟩);exact clA
   refine zn8 ?_;refine zw 62 rfl (fun g62=>?_) (fun g62=>?_)
   ·refine zn4 ?_;refine zJ (e_R ⟨rfl,agA,?_⟩);exact clA
   refine zn7 ?_;refine zJ (e_R ⟨rfl,agA,?_⟩);exact clA
  refine e_S ?_;refine zX rfl (fun c66=>?_) (fun c66=>?_)
  ·refine zn3 ?_;refine wl (xY (v0:= .int _ _) (v1:= .int _ _) (fun v0 v1=>#[v0,v1]) rfl rfl kR) ?_;refine zk hb4 rfl rfl zq rfl zQ (fun w12 hq t11=>?_);replace hb4:=hq;refine zn9 ?_;refine x7 (.inl rfl) rfl (zy U36 rfl rfl hb4.range0 zq) ?_;exact⟨qK (Z4 hnm hr0 h36 (hO'.trans (qQ oM (om3 hil c66) dE))),hB.u⟩
  have hkr:1≤(r.om[i]).kid∧(r.om[i]).kid≤r.rule.kids:=⟨by omega,by omega⟩
  refine zn4 ?_;replace hb2:=(hb2.tr0 t9).tr1 t10 oM;replace hb3:=(hb3.tr0 t9).tr1 t10 oM;by_cases qz:i=0
  ·have hlk:Q2 r i=0:=by rw [qz];rfl
   have hnk:¬(r.om[i]).kid≤Q2 r i:=by omega
   refine jx [] [0,1,2,3,4,5,6,7,8,9,10,11,12,13] rfl (fun w13 t12=>?_);refine zn1 ?_;refine hle rfl (fun _=>r_gtr rfl rfl) (congrArg Value.bool (decide_eq_false oM)) (zn21 ?_);refine wl (zY U44 rfl rfl (hb7.u.sub (n:=6) (xs:=[_,_,_,_,_,_]) rfl) qW) ?_;refine zV fn46 (VV Sx Bx csx cbx (r.om[i]).mean _ (hsx.mono hB.u) (htx.mono hB.u)) rfl (fun e' w14 hr=>?_);obtain⟨rfl,t13⟩:=hr;replace t13:=sB t13;refine⟨_,rfl,?_⟩;refine xV (cs:=#[.int .i64 0,.int .i64 0]) qv rfl (fun _=>rfl) (fun _=>rfl) zq rfl zQ (fun b8 w16 hb8 t14 hr=>?_);refine zn9 ?_;refine zX rfl (fun c90=>?_) (fun c90=>?_)
   ·refine zn5 ?_;refine wl (xY (v0:= .int _ _) (v1:= .int _ _) (fun v0 v1=>#[v0,v1]) rfl rfl kR) ?_;refine zk hb4.u rfl rfl zq rfl zQ (fun w17 hq t15=>?_);replace hb4:=hq;refine zn9 ?_;refine x7 (.inl rfl) rfl (zy U36 rfl rfl hb4.range0 zq) ?_;exact⟨qK (Z4 hnm hr0 h36 (hO'.trans (qQ oM (omT hil c66 hnk c90) c90))),hB.u⟩
   have htx0:=Decidable.not_not.1 c90;obtain⟨u,σ,hu⟩:=Jw htx0;refine zn6 ?_;refine wl (zY U44 rfl rfl (hb3.u.sub (n:=6) (xs:=[_,_,_,_,_,_]) rfl) qW) ?_;refine zV fn47 (Jv hm SA BA cs cb _ _ (Below.refl _ _) (hP.s.mono hB.u) (hP.t.mono hB.u)) rfl (fun e' w18 hr=>?_);obtain⟨⟨Av,cv,rfl,hSv⟩,t16⟩:=hr;replace t16:=sB t16;obtain⟨wV,hwV⟩:∃ x,x=w18:=⟨_,rfl⟩
   have hBV:Bel wV w18:=by rw [hwV];exact Below.refl _ _
   rw [← hwV] at hSv;refine⟨_,rfl,?_⟩;refine wmT rfl (wl (j5 (v:= .agg _) rfl rfl) (wl (j5 (v:= .bool _) rfl rfl) ?_));refine xV (cs:=#[.string ⟨#[]⟩,.slice none 0 0]) ov rfl (fun _=>rfl) (fun _=>rfl) x9 rfl zQ (fun b9 w20 hb9 t17 hr=>?_);refine zn6 ?_;refine zV fn48 (IV (fun _=>True) τ Av cv _ oM ((hSv.mono hBV.u).imp (fun _ _ _=>trivial) _) (fun _ _=>trivial)) rfl (fun e' w21 hr=>?_);obtain⟨⟨A11,c11,s11,A12,n12,c12,rfl,hSG⟩,t18⟩:=hr;replace t18:=sB t18;obtain⟨wG,hwG⟩:∃ x,x=w21:=⟨_,rfl⟩
   have hBG:Bel wG w21:=by rw [hwG];exact Below.refl _ _
   rw [← hwG] at hSG;refine⟨_,rfl,?_⟩;refine wmT rfl (wl (j5 (v:= .slice _ _ _) rfl rfl) (wl (j5 (v:= .agg _) rfl rfl) ?_));refine qq (cs:=#[.string ⟨#[]⟩,.slice none 0 0]) ov rfl (fun b12 w22 hb12 t19 hr=>?_);have:=nLL hb2.u.lt hr;have:=nLL hb3.u.lt hr;have:=nLL hb4.u.lt hr;have:=nLL hb7.u.lt hr;have:=nLL hb8.u.lt hr;have:=nLL hb9.u.lt hr;have lo12:=nLT (Bel.size hB.u) hr;have lo_hBV_b12:=nLT (Bel.size hBV.u) hr;have lo_hBG_b12:=nLT (Bel.size hBG) hr;refine waS rfl ?_;refine zk hb12 rfl rfl x9 rfl zQ (fun w23 hq t20=>?_);replace hb12:=hq;refine zn5 ?_;refine wl (zY U44 rfl rfl (hb7.u.sub (n:=6) (xs:=[_,_,_,_,_,_]) rfl) qW) ?_;refine zV fn47 (Jv hu Sx Bx csx cbx _ _ (Below.refl _ _) (hsx.mono hB.u) (htx.mono hB.u)) rfl (fun e' w24 hr=>?_);obtain⟨⟨Au,cu2,rfl,hSu⟩,t21⟩:=hr;replace t21:=sB t21;obtain⟨wU,hwU⟩:∃ x,x=w24:=⟨_,rfl⟩
   have hBU:Bel wU w24:=by rw [hwU];exact Below.refl _ _
   rw [← hwU] at hSu;refine⟨_,rfl,?_⟩;refine wmT rfl (wl (j5 (v:= .agg _) rfl rfl) (wl (j5 (v:= .bool _) rfl rfl) ?_));refine xV (cs:=#[.string ⟨#[]⟩,.slice none 0 0]) ov rfl (fun _=>rfl) (fun _=>rfl) x9 rfl zQ (fun b13 w26 hb13 t22 hr=>?_);refine zn4 ?_;replace hB:=((hB.tr0 (t12.trans (t13.trans (t14.trans (t16.trans (t17.trans (t18.trans t19))))))).tr1 t20 lo12).tr0 (t21.trans t22);replace hb4:=((hb4.tr0 (t12.trans (t13.trans (t14.trans (t16.trans (t17.trans (t18.trans t19))))))).tr1 t20 oM).tr0 (t21.trans t22);by_cases qa:((qJ τ).length:Int) < r.rule.kids
   ·have hno:¬KJ r r.om[i]:=fun⟨v2,τ2,u2,σ2,L2,g1,_,g3,_⟩=>by
      obtain⟨rfl,rfl⟩:=hm.det g1;rw [oW,if_neg oM] at g3;cases g3
    refine jx [] [0,1,2,3,4,5,6,7,8,9,10,11,12,13,14,15,16] rfl (fun w27 t23=>?_);refine zn5 ?_;refine hle rfl (fun _=>RY rfl rfl) (congrArg Value.bool (decide_eq_true oM)) (J9 ?_);refine wl (xY (v0:= .int _ _) (v1:= .int _ _) (fun v0 v1=>#[v0,v1]) rfl rfl kR) ?_;refine zk hb4.u rfl rfl zq rfl zQ (fun w28 hq t24=>?_);replace hb4:=hq;refine zn8 ?_;refine x7 (.inl rfl) rfl (zy U36 rfl rfl hb4.range0 zq) ?_;exact⟨qK (Z4 hnm hr0 h36 (hO'.trans (qQ oM (L8 hil c66 hnk htx0 hno) dE))),hB.u⟩
   have hkl:((r.om[i]).kid - 1).toNat < (qJ τ).length:=by omega
   have hL:Q7 r.rule.kids.toNat τ=some ((qJ τ).take r.rule.kids.toNat):=by rw [oW,if_pos oM]
   obtain⟨σa,hσa⟩:∃ x,x=(qJ τ)[((r.om[i]).kid - 1).toNat]:=⟨_,rfl⟩
   have hLg:((qJ τ).take r.rule.kids.toNat)[((r.om[i]).kid - 1).toNat]? =some σa:=by
     rw [List.getElem?_take,if_pos oM,List.getElem?_eq_getElem hkl,hσa]
   have htx1:σa.txt.length≤1000000:=by
     have h1:=Ts.txt_le σa;have h2:=(OX τ).2 σa (by rw [hσa];exact List.getElem_mem hkl);have h3:=hm.size;omega
   have htx2:σ.txt.length≤1000000:=by
     have h1:=Ts.txt_le σ;have h3:=hu.size;omega
   obtain⟨sb,Aσ,cσ,rfl,_,hsb,hrx,hsx2⟩:=hSG ((r.om[i]).kid - 1).toNat hkl;rw [← hσa] at hrx hsx2;have hki:(r.om[i]).kid - 1=(((r.om[i]).kid - 1).toNat:Nat):=by omega
   refine jx [] [0,1,2,3,4,5,6,7,8,9,10,11,12,13,14,15,16] rfl (fun w29 t25=>?_);refine zn5 ?_;refine hle rfl (fun _=>RY rfl rfl) (congrArg Value.bool (decide_eq_false oM)) (zn4 ?_);refine hg 119 rfl rfl rfl (fun _ _=>j8 (c:=((((r.om[i]).kid - 1).toNat:Nat):Int)) rfl rfl hki oM) (hg 119 rfl rfl rfl (fun _ _=>xk (i:=((r.om[i]).kid - 1).toNat) U39 x9 rfl rfl hkl rfl) (hgS 119 rfl rfl rfl U41 rfl rfl (hBG.u.range hsb hrx) x9 (zn1 ?_)));refine h1 rfl (zn1 ?_);refine zV fn49 (IQ Aσ Au cσ cu2 σa σ w29 ((hsx2.sims _).mono hBG.u) ((hSu.sims _).mono hBU.u) htx1 htx2) rfl (fun e' w30 hr=>?_);obtain⟨rfl,t26⟩:=hr;replace t26:=sB t26;have hsH14:=t26;refine⟨_,rfl,?_⟩;refine zJ (M5 hsH14 (zn4 ?_));refine vK rfl (fun c129=>?_) (fun c129=>?_)
   ·have hno:¬KJ r r.om[i]:=fun⟨v2,τ2,u2,σ2,L2,g1,g2,g3,g4⟩=>by
      obtain⟨rfl,rfl⟩:=hm.det g1;obtain⟨rfl,rfl⟩:=hu.det g2;obtain rfl:=Option.some.inj (hL.symm.trans g3);obtain rfl:=Option.some.inj (hLg.symm.trans g4);rw [Ts.eqb_iff.2 rfl] at c129;cases c129
    refine zn3 ?_;refine wl (xY (v0:= .int _ _) (v1:= .int _ _) (fun v0 v1=>#[v0,v1]) rfl rfl kR) ?_;refine zk hb4.u rfl rfl zq rfl zQ (fun w31 hq t27=>?_);replace hb4:=hq;refine zn8 ?_;refine x7 (.inl rfl) rfl (zy U36 rfl rfl hb4.range0 zq) ?_;exact⟨qK (Z4 hnm hr0 h36 (hO'.trans (qQ oM (L8 hil c66 hnk htx0 hno) dE))),hB.u⟩
   have hok:KJ r r.om[i]:=by
     have h1:σa.eqb σ=true:=by simpa using c129
     exact⟨v,τ,u,σ,_,hm,hu,hL,by rw [hLg,Ts.eqb_iff.1 h1]⟩
   refine zn7 ?_;refine xv (r.om.length - (i + 1)) oM agA ?_;exact⟨i + 1,by omega,rfl,rfl,hB.u,hb2.u,hb3.u,hb4.u,hO'.trans (yw hil (om0 hil c66 hnk htx0 hok))⟩
  have hlk:Q2 r i=(r.om[i - 1]).kid:=by
    have h:=last_at (r:=r) (i:=i - 1) oM
    rwa [Nat.sub_add_cancel oM] at h
  obtain⟨ob2,oo2,Sx2,csx2,Bx2,cbx2,hoe2,_,hor2,_,_⟩:=hP.o.at_ (k:=i - 1) oM;obtain⟨rfl,rfl⟩:ob2=ob∧oo2=oo:=by cases hoe2;exact⟨rfl,rfl⟩
  refine jx [] [0,1,2,3,4,5,6,7,8,9,10,11,12,13] rfl (fun w32 t28=>?_);refine zn1 ?_;refine hle rfl (fun _=>r_gtr rfl rfl) (congrArg Value.bool (decide_eq_true oM)) (zn6 ?_);refine hg 71 rfl rfl rfl (fun _ _=>j8 (c:=((i - 1:Nat):Int)) rfl rfl oM oM) (hg 71 rfl rfl rfl (fun _ _=>xk (i:=(i - 1)) U55 OW rfl rfl oM rfl) (zn1 ?_));refine hg1 (v:= .int _ _) 71 rfl rfl rfl U3 rfl rfl (hB.u.cell hob (hor2 0 _ rfl)) (zn4 ?_);refine zX rfl (fun c82=>?_) (fun c82=>?_)
  ·have hnk:(r.om[i]).kid≤Q2 r i:=by rw [hlk];exact c82
   refine zn3 ?_;refine wl (xY (v0:= .int _ _) (v1:= .int _ _) (fun v0 v1=>#[v0,v1]) rfl rfl kR) ?_;refine zk hb4.u rfl rfl zq rfl zQ (fun w33 hq t29=>?_);replace hb4:=hq;refine zn9 ?_;refine x7 (.inl rfl) rfl (zy U36 rfl rfl hb4.range0 zq) ?_;exact⟨qK (Z4 hnm hr0 h36 (hO'.trans (qQ oM (om13 hil c66 hnk) dE))),hB.u⟩
  have hnk:¬(r.om[i]).kid≤Q2 r i:=by omega
  refine zn6 ?_;refine wl (zY U44 rfl rfl (hb7.u.sub (n:=6) (xs:=[_,_,_,_,_,_]) rfl) qW) ?_;refine zV fn46 (VV Sx Bx csx cbx (r.om[i]).mean _ (hsx.mono hB.u) (htx.mono hB.u)) rfl (fun e' w34 hr=>?_);obtain⟨rfl,t30⟩:=hr;replace t30:=sB t30;refine⟨_,rfl,?_⟩;refine xV (cs:=#[.int .i64 0,.int .i64 0]) qv rfl (fun _=>rfl) (fun _=>rfl) zq rfl zQ (fun b8 w36 hb8 t31 hr=>?_);refine zn9 ?_;refine zX rfl (fun c90=>?_) (fun c90=>?_)
  ·refine zn5 ?_;refine wl (xY (v0:= .int _ _) (v1:= .int _ _) (fun v0 v1=>#[v0,v1]) rfl rfl kR) ?_;refine zk hb4.u rfl rfl zq rfl zQ (fun w37 hq t32=>?_);replace hb4:=hq;refine zn9 ?_;refine x7 (.inl rfl) rfl (zy U36 rfl rfl hb4.range0 zq) ?_;exact⟨qK (Z4 hnm hr0 h36 (hO'.trans (qQ oM (omT hil c66 hnk c90) c90))),hB.u⟩
  have htx0:=Decidable.not_not.1 c90;obtain⟨u,σ,hu⟩:=Jw htx0;refine zn6 ?_;refine wl (zY U44 rfl rfl (hb3.u.sub (n:=6) (xs:=[_,_,_,_,_,_]) rfl) qW) ?_;refine zV fn47 (Jv hm SA BA cs cb _ _ (Below.refl _ _) (hP.s.mono hB.u) (hP.t.mono hB.u)) rfl (fun e' w38 hr=>?_);obtain⟨⟨Av,cv,rfl,hSv⟩,t33⟩:=hr;replace t33:=sB t33;obtain⟨wV,hwV⟩:∃ x,x=w38:=⟨_,rfl⟩
  have hBV:Bel wV w38:=by rw [hwV];exact Below.refl _ _
  rw [← hwV] at hSv;refine⟨_,rfl,?_⟩;refine wmT rfl (wl (j5 (v:= .agg _) rfl rfl) (wl (j5 (v:= .bool _) rfl rfl) ?_));refine xV (cs:=#[.string ⟨#[]⟩,.slice none 0 0]) ov rfl (fun _=>rfl) (fun _=>rfl) x9 rfl zQ (fun b9 w40 hb9 t34 hr=>?_);refine zn6 ?_;refine zV fn48 (IV (fun _=>True) τ Av cv _ oM ((hSv.mono hBV.u).imp (fun _ _ _=>trivial) _) (fun _ _=>trivial)) rfl (fun e' w41 hr=>?_);obtain⟨⟨A11,c11,s11,A12,n12,c12,rfl,hSG⟩,t35⟩:=hr;replace t35:=sB t35;obtain⟨wG,hwG⟩:∃ x,x=w41:=⟨_,rfl⟩
  have hBG:Bel wG w41:=by rw [hwG];exact Below.refl _ _
  rw [← hwG] at hSG;refine⟨_,rfl,?_⟩;refine wmT rfl (wl (j5 (v:= .slice _ _ _) rfl rfl) (wl (j5 (v:= .agg _) rfl rfl) ?_));refine qq (cs:=#[.string ⟨#[]⟩,.slice none 0 0]) ov rfl (fun b12 w42 hb12 t36 hr=>?_);have:=nLL hb2.u.lt hr;have:=nLL hb3.u.lt hr;have:=nLL hb4.u.lt hr;have:=nLL hb7.u.lt hr;have:=nLL hb8.u.lt hr;have:=nLL hb9.u.lt hr;have lo12:=nLT (Bel.size hB.u) hr;have lo_hBV_b12:=nLT (Bel.size hBV.u) hr;have lo_hBG_b12:=nLT (Bel.size hBG) hr;refine waS rfl ?_;refine zk hb12 rfl rfl x9 rfl zQ (fun w43 hq t37=>?_);replace hb12:=hq;refine zn5 ?_;refine wl (zY U44 rfl rfl (hb7.u.sub (n:=6) (xs:=[_,_,_,_,_,_]) rfl) qW) ?_;refine zV fn47 (Jv hu Sx Bx csx cbx _ _ (Below.refl _ _) (hsx.mono hB.u) (htx.mono hB.u)) rfl (fun e' w44 hr=>?_);obtain⟨⟨Au,cu2,rfl,hSu⟩,t38⟩:=hr;replace t38:=sB t38;obtain⟨wU,hwU⟩:∃ x,x=w44:=⟨_,rfl⟩
  have hBU:Bel wU w44:=by rw [hwU];exact Below.refl _ _
  rw [← hwU] at hSu;refine⟨_,rfl,?_⟩;refine wmT rfl (wl (j5 (v:= .agg _) rfl rfl) (wl (j5 (v:= .bool _) rfl rfl) ?_));refine xV (cs:=#[.string ⟨#[]⟩,.slice none 0 0]) ov rfl (fun _=>rfl) (fun _=>rfl) x9 rfl zQ (fun b13 w46 hb13 t39 hr=>?_);refine zn4 ?_;replace hB:=((hB.tr0 (t28.trans (t30.trans (t31.trans (t33.trans (t34.trans (t35.trans t36))))))).tr1 t37 lo12).tr0 (t38.trans t39);replace hb4:=((hb4.tr0 (t28.trans (t30.trans (t31.trans (t33.trans (t34.trans (t35.trans t36))))))).tr1 t37 oM).tr0 (t38.trans t39);by_cases qa:((qJ τ).length:Int) < r.rule.kids
  ·have hno:¬KJ r r.om[i]:=fun⟨v2,τ2,u2,σ2,L2,g1,_,g3,_⟩=>by
     obtain⟨rfl,rfl⟩:=hm.det g1;rw [oW,if_neg oM] at g3;cases g3
   refine jx [] [0,1,2,3,4,5,6,7,8,9,10,11,12,13,14,15,16] rfl (fun w47 t40=>?_);refine zn5 ?_;refine hle rfl (fun _=>RY rfl rfl) (congrArg Value.bool (decide_eq_true oM)) (J9 ?_);refine wl (xY (v0:= .int _ _) (v1:= .int _ _) (fun v0 v1=>#[v0,v1]) rfl rfl kR) ?_;refine zk hb4.u rfl rfl zq rfl zQ (fun w48 hq t41=>?_);replace hb4:=hq;refine zn8 ?_;refine x7 (.inl rfl) rfl (zy U36 rfl rfl hb4.range0 zq) ?_;exact⟨qK (Z4 hnm hr0 h36 (hO'.trans (qQ oM (L8 hil c66 hnk htx0 hno) dE))),hB.u⟩
  have hkl:((r.om[i]).kid - 1).toNat < (qJ τ).length:=by omega
  have hL:Q7 r.rule.kids.toNat τ=some ((qJ τ).take r.rule.kids.toNat):=by rw [oW,if_pos oM]
  obtain⟨σa,hσa⟩:∃ x,x=(qJ τ)[((r.om[i]).kid - 1).toNat]:=⟨_,rfl⟩
  have hLg:((qJ τ).take r.rule.kids.toNat)[((r.om[i]).kid - 1).toNat]? =some σa:=by
    rw [List.getElem?_take,if_pos oM,List.getElem?_eq_getElem hkl,hσa]
  have htx1:σa.txt.length≤1000000:=by
    have h1:=Ts.txt_le σa;have h2:=(OX τ).2 σa (by rw [hσa];exact List.getElem_mem hkl);have h3:=hm.size;omega
  have htx2:σ.txt.length≤1000000:=by
    have h1:=Ts.txt_le σ;have h3:=hu.size;omega
  obtain⟨sb,Aσ,cσ,rfl,_,hsb,hrx,hsx2⟩:=hSG ((r.om[i]).kid - 1).toNat hkl;rw [← hσa] at hrx hsx2;have hki:(r.om[i]).kid - 1=(((r.om[i]).kid - 1).toNat:Nat):=by omega
  refine jx [] [0,1,2,3,4,5,6,7,8,9,10,11,12,13,14,15,16] rfl (fun w49 t42=>?_);refine zn5 ?_;refine hle rfl (fun _=>RY rfl rfl) (congrArg Value.bool (decide_eq_false oM)) (zn4 ?_);refine hg 119 rfl rfl rfl (fun _ _=>j8 (c:=((((r.om[i]).kid - 1).toNat:Nat):Int)) rfl rfl hki oM) (hg 119 rfl rfl rfl (fun _ _=>xk (i:=((r.om[i]).kid - 1).toNat) U39 x9 rfl rfl hkl rfl) (hgS 119 rfl rfl rfl U41 rfl rfl (hBG.u.range hsb hrx) x9 (zn1 ?_)));refine h1 rfl (zn1 ?_);refine zV fn49 (IQ Aσ Au cσ cu2 σa σ w49 ((hsx2.sims _).mono hBG.u) ((hSu.sims _).mono hBU.u) htx1 htx2) rfl (fun e' w50 hr=>?_);obtain⟨rfl,t43⟩:=hr;replace t43:=sB t43;have hsH14:=t43;refine⟨_,rfl,?_⟩;refine zJ (M5 hsH14 (zn4 ?_));refine vK rfl (fun c129=>?_) (fun c129=>?_)
  ·have hno:¬KJ r r.om[i]:=fun⟨v2,τ2,u2,σ2,L2,g1,g2,g3,g4⟩=>by
     obtain⟨rfl,rfl⟩:=hm.det g1;obtain⟨rfl,rfl⟩:=hu.det g2;obtain rfl:=Option.some.inj (hL.symm.trans g3);obtain rfl:=Option.some.inj (hLg.symm.trans g4);rw [Ts.eqb_iff.2 rfl] at c129;cases c129
   refine zn3 ?_;refine wl (xY (v0:= .int _ _) (v1:= .int _ _) (fun v0 v1=>#[v0,v1]) rfl rfl kR) ?_;refine zk hb4.u rfl rfl zq rfl zQ (fun w51 hq t44=>?_);replace hb4:=hq;refine zn8 ?_;refine x7 (.inl rfl) rfl (zy U36 rfl rfl hb4.range0 zq) ?_;exact⟨qK (Z4 hnm hr0 h36 (hO'.trans (qQ oM (L8 hil c66 hnk htx0 hno) dE))),hB.u⟩
  have hok:KJ r r.om[i]:=by
    have h1:σa.eqb σ=true:=by simpa using c129
    exact⟨v,τ,u,σ,_,hm,hu,hL,by rw [hLg,Ts.eqb_iff.1 h1]⟩
  refine zn7 ?_;refine xv (r.om.length - (i + 1)) oM agA ?_;exact⟨i + 1,by omega,rfl,rfl,hB.u,hb2.u,hb3.u,hb4.u,hO'.trans (yw hil (om0 hil c66 hnk htx0 hok))⟩
 have hOz:x8 (omN r) 0 r.om.length=(0,0):=hO'.trans (vk oM);refine zn7 ?_;refine wl (uW (vs:=#[]) (cs:=#[.int .i64 0,.int .i64 0]) (by simp) kR) ?_;refine zk hb4 rfl rfl zq rfl zQ (fun w52 hq t45=>?_);replace hb4:=hq;refine zn3 ?_;refine x7 (.inl rfl) rfl (zy U36 rfl rfl hb4.range0 zq) ?_;exact⟨qK (Z4 hnm hr0 h36 hOz),hB.u⟩
end Go.Proofs.YtbcpgfnfiekbiaaGreatDoor
