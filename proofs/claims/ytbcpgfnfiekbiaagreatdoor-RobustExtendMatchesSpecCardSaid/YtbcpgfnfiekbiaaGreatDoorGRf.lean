/- What these functions of the program compute, at every world: glosswright/glosswrightref1.TermFault. What these functions of the program compute, at every world: glosswright/glosswrightref3.MeaningFault, glosswright/glosswrightref3.LexFault, glosswright/glosswrightref3.RuleFault. -/
import Derived.Test.YtbcpgfnfiekbiaaGreatDoorU
import Derived.Test.YtbcpgfnfiekbiaaGreatDoorTrm
import Derived.Test.YtbcpgfnfiekbiaaGreatDoorNN1
import Derived.Test.YtbcpgfnfiekbiaaGreatDoorStk
import Derived.Test.YtbcpgfnfiekbiaaGreatDoorNTv
namespace Go.Proofs.YtbcpgfnfiekbiaaGreatDoor
open Go.RowKit
theorem fn47:zZ Tryz.prog 47=true:=by kernel_rfl
theorem fn86:zZ Tryz.prog 86=true:=by kernel_rfl
theorem fn87:zZ Tryz.prog 87=true:=by kernel_rfl
theorem fn88:zZ Tryz.prog 88=true:=by kernel_rfl
theorem in146:(Tryz.prog.info? 146).map (fun i=>(i.zero,i.size,i.bytes))=some (some (.agg #[.int .i64 0,.string ⟨#[]⟩,.int .i64 0,.string ⟨#[]⟩,.slice none 0 0,.slice none 0 0,.int .i64 0,.int .i64 0]),8,112):=by kernel_rfl
theorem D4:(Tryz.prog.info? 146).map (·.size)=some 8:=by kernel_rfl
theorem ze146:(Tryz.prog.info? 146).map (·.zero)=some (some (.agg #[.int .i64 0,.string ⟨#[]⟩,.int .i64 0,.string ⟨#[]⟩,.slice none 0 0,.slice none 0 0,.int .i64 0,.int .i64 0])):=by kernel_rfl
theorem ze44:(Tryz.prog.info? 44).map (·.zero)=some (some (.agg #[.int .i64 0,.string ⟨#[]⟩,.int .i64 0,.string ⟨#[]⟩,.slice none 0 0,.slice none 0 0])):=by kernel_rfl
set_option maxRecDepth 100000 in
set_option maxHeartbeats 8000000 in
theorem WY (A B:Option Addr) (c mB:Nat) (t:Tm) (w:World) (hS:SimsIn w A t.type.args) (hT:TmsIn w B t.args):Calls Tryz.prog 46 #[.agg #[.int .i64 (t).kind,.string (t).name,.int .i64 (t).index,.string (t).type.base,.slice A (t).type.args.length c,.slice B (t).args.length mB]] w fun e w'=>e= .returned (flV (tmF t))∧Bel w w':=by
 have hR0:twk t 1 0 0=tst [(t,1,0)] 0:=(tst_one t 1 0 0).symm;refine enT Tryz.func46 Tryz.ntmps46 rfl rfl fun hB=>?_;refine zn2 ?_;refine qK (v:= .agg #[_,_,_,_,_,_]) (cs:=#[_,_,_,_,_,_]) rfl rfl (fun b1 w1 hb1 s1 hr=>?_);refine zY (cs:=#[.int .i64 0,.int .i64 0]) qk rfl (fun b2 w2 hb2 s2 hr=>?_);have lo2:=nLT (Bel.size hB.u) hr;refine zn5 ?_;refine wl (I5 (v0:= .agg _) (v1:= .int _ _) (v2:= .int _ _) (fun v0 v1 v2=>#[(qy v0 0),(qy v0 1),(qy v0 2),(qy v0 3),(qy v0 4),(qy v0 5),v1,v2]) rfl rfl rfl kR) ?_;refine qv (cs:=#[_,_,_,_,_,_,_,_]) [(0,.agg _)] rfl G7 D4 ze146 dE dE kR rfl (fun b16 w3 hb16 s3 hr=>?_);have lo16:=nLT (Bel.size hB.u) hr;refine yw ?_;refine zK (rg (rg [] 3 9) 17 151) (fun mm g w'=>∃ (st:List (Tm×Nat×Nat)) (vs:List Value) (q cap3 n:Nat),mm=201 - n∧n≤200∧st.length≤2 * n + 1∧g 3= .slice (some ⟨q,0,none⟩) st.length cap3∧g 4= .int .i64 n∧Bel w w'∧Blk w' b1 44 #[.int .i64 (t).kind,.string (t).name,.int .i64 (t).index,.string (t).type.base,.slice A (t).type.args.length c,.slice B (t).args.length mB]∧Blk w' b2 36 #[.int .i64 0,.int .i64 0]∧Own w' w.heap.size 146 8 (some ⟨q,0,none⟩) st.length cap3 vs∧StkT w st vs∧twk t 1 0 0=tst st.reverse n∧∀ x ∈ st,x.2.2 < x.2.1) (201) ?_ (fun m g3 w4 hI=>?_)
 ·replace hB:=hB.tr0 (s1.trans (s2.trans s3));replace hb1:=hb1.tr0 (s2.trans s3);replace hb2:=hb2.tr0 s3;exact⟨[(t,1,0)],_,_,_,0,rfl,by omega,by simp,rfl,rfl,hB,hb1,hb2,VW (m:=1) hb16 lo16 rfl dE,.snoc .nil hS hT,hR0,fun x hx=>by rw [List.mem_singleton.1 hx];exact Nat.zero_lt_one⟩
 obtain⟨st,vs,q,cap3,n,hm,hn,hsl,h3,h4,hB,hb1,hb2,ho,hstk,hR,hbd⟩:=hI;have or_ho_b1:=Zy ho hb1 dE;have or_ho_b2:=Zy ho hb2 dE;refine zQ 3 _ h3 nu (zQ 4 _ h4 nu (zn8 ?_));refine zy rfl (fun c19=>?_) (fun c19=>?_)
 ·obtain⟨st1,vs1,t1,d1,e1,A1,B1,c1,m1,rfl,rfl,hst1,hs1,ht1⟩:=hstk.pop om;have hlen:(st1 ++ [(t1,d1,e1)]).length=st1.length + 1:=by simp
  rw [V6] at hR;have hbd1:e1 < d1:=hbd (t1,d1,e1) (List.mem_append_right _ (List.mem_singleton.2 rfl));replace hbd:∀ x ∈ st1,x.2.2 < x.2.1:=fun x hx=>hbd x (List.mem_append_left _ hx)
  refine zn9 ?_;refine wl (kW (c:=(st1.length:Int)) rfl rfl (by rw [hlen];omega) om) (wl (xw (i:=st1.length) G7 D4 rfl rfl (by rw [hlen];omega) rfl) (wl (zV U146 rfl rfl (own_top ho hst1.len) D4) ?_));refine xW (cs:=#[.int .i64 0,.string ⟨#[]⟩,.int .i64 0,.string ⟨#[]⟩,.slice none 0 0,.slice none 0 0,.int .i64 0,.int .i64 0]) ze146 rfl (fun _=>rfl) (fun _=>rfl) D4 rfl zX (fun b5 w6 hb5 s4 hr=>?_);have or_ho_b5:=(fun g hg=>nLL (ho.lt g hg).2 hr)
  refine zn7 ?_;refine wl (kW (c:=(st1.length:Int)) rfl rfl (by rw [hlen];omega) om) ?_;replace ho:=ho.tr0 s4;refine wl (Dj (h:=st1.length) G7 D4 rfl rfl (by have:=ho.cap_le;omega)) (zn4 ?_);replace hB:=hB.tr0 s4;replace hb1:=hb1.tr0 s4;replace hb2:=hb2.tr0 s4;replace ho:Own w6 w.heap.size 146 8 (some ⟨q,0,none⟩) st1.length cap3 vs1:=by
    have h:=ho.take (k':=st1.length) om om
    rwa [List.take_append_of_le_length (by rw [hst1.len];exact Nat.le_refl _),List.take_of_length_le (by rw [hst1.len];exact Nat.le_refl _)] at h
  refine zn2 ?_;refine wl (zV U44 rfl rfl (hb5.sub (n:=6) (xs:=[_,_,_,_,_,_]) rfl) Yy) ?_;refine xW (cs:=#[.int .i64 0,.string ⟨#[]⟩,.int .i64 0,.string ⟨#[]⟩,.slice none 0 0,.slice none 0 0]) ze44 rfl (fun _=>rfl) (fun _=>rfl) Yy rfl zX (fun b6 w8 hb6 s5 hr=>?_);have or_ho_b6:=(fun g hg=>nLL (ho.lt g hg).2 hr)
  refine zn9 ?_;replace hB:=hB.tr0 s5;replace hb1:=hb1.tr0 s5;replace hb2:=hb2.tr0 s5;replace ho:=ho.tr0 s5;replace hb5:=hb5.tr0 s5;refine x6 [35,36,37,38,39,40,41] 41 (.bool (decide (200 < n + 1∨40 < d1))) nu ?_ (fun gq=>?_)
  ·refine zn4 ?_;refine zx 37 rfl (fun g37=>?_) (fun g37=>?_)
   ·refine zn4 ?_;refine zw (e_R ⟨rfl,agA,?_⟩);exact clA
   refine zn7 ?_;refine zw (e_R ⟨rfl,agA,?_⟩);exact clA
  refine e_S ?_;refine y7 (rg [7,8,9] 42 93) (fun g w'=>g 7= .int .i64 (ndX n d1 e1 t1)∧Bel w w'∧Blk w' b1 44 #[.int .i64 (t).kind,.string (t).name,.int .i64 (t).index,.string (t).type.base,.slice A (t).type.args.length c,.slice B (t).args.length mB]∧Blk w' b2 36 #[.int .i64 0,.int .i64 0]∧Blk w' b5 146 #[.int .i64 (t1).kind,.string (t1).name,.int .i64 (t1).index,.string (t1).type.base,.slice A1 (t1).type.args.length c1,.slice B1 (t1).args.length m1,.int .i64 (d1:Nat),.int .i64 (e1:Nat)]∧Blk w' b6 44 #[.int .i64 t1.kind,.string t1.name,.int .i64 t1.index,.string t1.type.base,.slice A1 t1.type.args.length c1,.slice B1 t1.args.length m1]∧Own w' w.heap.size 146 8 (some ⟨q,0,none⟩) st1.length cap3 vs1) ?_ (fun gx1 w9 hI=>?_)
  ·refine zy rfl (fun c41=>?_) (fun c41=>?_)
   ·have hcd:(ndX n d1 e1 t1)=1:=if_pos c41;refine zn3 ?_;refine e_R ⟨agA,?_⟩;exact⟨by rw [hcd];rfl,hB,hb1,hb2,hb5,hb6,ho⟩
   refine xv ?_;refine x6 (rg [] 42 8) 49 (.bool (decide (t1.kind < 1∨4 < t1.kind))) nu ?_ (fun gq=>?_)
   ·refine zn5 ?_;refine zx 45 rfl (fun g45=>?_) (fun g45=>?_)
    ·refine zn4 ?_;refine zw (e_R ⟨rfl,agA,?_⟩);exact clA
    refine zn7 ?_;refine zw (e_R ⟨rfl,agA,?_⟩);exact clA
   refine e_S ?_;refine zy rfl (fun c49=>?_) (fun c49=>?_)
   ·have hcd:=ndX_4 (b:=e1) c41 c49;refine zn3 ?_;refine e_R ⟨agA,?_⟩;exact⟨by rw [hcd];rfl,hB,hb1,hb2,hb5,hb6,ho⟩
   obtain⟨kk,hkk⟩:∃ kk:Nat,t1.kind=kk:=⟨t1.kind.toNat,by omega⟩
   have h1k:1≤kk:=by omega
   have h4k:kk≤4:=by omega
   refine xv ?_;rw [hkk] at hb6;refine P2 ?_;refine qv (cs:=#[_,_,_,_,_]) [(0,.int _ _),(1,.int _ _),(2,.int _ _),(3,.int _ _),(4,.int _ _)] rfl U66 qX uJ dE dE kR rfl (fun b50 w10 hb50 s6 hr=>?_);refine zn3 ?_;refine wl (qZ (v:= .int _ _) U3 rfl rfl (hb50.cell (arg_at om))) (zn4 ?_);replace hb6:=hb6.tr0 s6;rw [← hkk] at hb6;replace ho:=ho.tr0 s6;refine y7 (rg [9] 55 40) (fun g w'=>(g 9= .bool (decide (zOk kk t1)))∧Same [] w10 w') ?_ (fun g14 w11 hI=>?_)
   ·have hZ:SameQ [] w10 w10:=Same.refl _ _;refine zn7 ?_;refine zx 60 rfl (fun g60=>?_) (fun g60=>?_)
    ·refine zn8 ?_;refine zx 64 rfl (fun g64=>?_) (fun g64=>?_)
     ·refine Z6 ?_;refine zx 74 rfl (fun g74=>?_) (fun g74=>?_)
      ·refine Z6 ?_;refine zx 84 rfl (fun g84=>?_) (fun g84=>?_)
       ·refine Z6 ?_;refine e_R ⟨agA,?_⟩;refine⟨?_,hZ⟩;simp only [zOk]
        first | exact congrArg Value.bool (decide_eq_true (by grind)).symm | exact congrArg Value.bool (decide_eq_false (by grind)).symm | exact congrArg Value.bool (decide_eq_decide.2 (by grind)) | exact congrArg Value.bool (by grind)
       refine yw ?_;refine zx 89 rfl (fun g89=>?_) (fun g89=>?_)
       ·refine zn8 ?_;refine e_R ⟨agA,?_⟩;refine⟨?_,hZ⟩;simp only [zOk]
        first | exact congrArg Value.bool (decide_eq_true (by grind)).symm | exact congrArg Value.bool (decide_eq_false (by grind)).symm | exact congrArg Value.bool (decide_eq_decide.2 (by grind)) | exact congrArg Value.bool (by grind)
       refine zn3 ?_;refine wl (zV U41 rfl rfl (hb6.sub (n:=2) (xs:=[_,_]) rfl) xJ) (zn1 ?_);refine zJ fn86 (XW A1 c1 t1.type _) rfl (fun e' w12 hr=>?_);obtain⟨rfl,s7⟩:=hr;replace s7:=sB s7;replace hZ:=SameQ.trans hZ s7 (by simp);refine⟨_,rfl,?_⟩;refine zn5 ?_;refine e_R ⟨agA,?_⟩;refine⟨?_,hZ⟩;simp only [zOk]
       first | exact congrArg Value.bool (decide_eq_true (by grind)).symm | exact congrArg Value.bool (decide_eq_false (by grind)).symm | exact congrArg Value.bool (decide_eq_decide.2 (by grind)) | exact congrArg Value.bool (by grind)
      refine yw ?_;refine zx 80 rfl (fun g80=>?_) (fun g80=>?_)
      ·refine zn8 ?_;refine zx 84 rfl (fun g84=>?_) (fun g84=>?_)
       ·refine Z6 ?_;refine e_R ⟨agA,?_⟩;refine⟨?_,hZ⟩;simp only [zOk]
        first | exact congrArg Value.bool (decide_eq_true (by grind)).symm | exact congrArg Value.bool (decide_eq_false (by grind)).symm | exact congrArg Value.bool (decide_eq_decide.2 (by grind)) | exact congrArg Value.bool (by grind)
       refine yw ?_;refine zx 89 rfl (fun g89=>?_) (fun g89=>?_)
       ·refine zn8 ?_;refine e_R ⟨agA,?_⟩;refine⟨?_,hZ⟩;simp only [zOk]
        first | exact congrArg Value.bool (decide_eq_true (by grind)).symm | exact congrArg Value.bool (decide_eq_false (by grind)).symm | exact congrArg Value.bool (decide_eq_decide.2 (by grind)) | exact congrArg Value.bool (by grind)
       refine zn3 ?_;refine wl (zV U41 rfl rfl (hb6.sub (n:=2) (xs:=[_,_]) rfl) xJ) (zn1 ?_);refine zJ fn86 (XW A1 c1 t1.type _) rfl (fun e' w13 hr=>?_);obtain⟨rfl,s8⟩:=hr;replace s8:=sB s8;replace hZ:=SameQ.trans hZ s8 (by simp);refine⟨_,rfl,?_⟩;refine zn5 ?_;refine e_R ⟨agA,?_⟩;refine⟨?_,hZ⟩;simp only [zOk]
       first | exact congrArg Value.bool (decide_eq_true (by grind)).symm | exact congrArg Value.bool (decide_eq_false (by grind)).symm | exact congrArg Value.bool (decide_eq_decide.2 (by grind)) | exact congrArg Value.bool (by grind)
      refine IK ?_;refine e_R ⟨agA,?_⟩;refine⟨?_,hZ⟩;simp only [zOk]
      first | exact congrArg Value.bool (decide_eq_true (by grind)).symm | exact congrArg Value.bool (decide_eq_false (by grind)).symm | exact congrArg Value.bool (decide_eq_decide.2 (by grind)) | exact congrArg Value.bool (by grind)
     refine yw ?_;refine zx 70 rfl (fun g70=>?_) (fun g70=>?_)
     ·refine zn8 ?_;refine zx 74 rfl (fun g74=>?_) (fun g74=>?_)
      ·refine Z6 ?_;refine zx 84 rfl (fun g84=>?_) (fun g84=>?_)
       ·refine Z6 ?_;refine e_R ⟨agA,?_⟩;refine⟨?_,hZ⟩;simp only [zOk]
        first | exact congrArg Value.bool (decide_eq_true (by grind)).symm | exact congrArg Value.bool (decide_eq_false (by grind)).symm | exact congrArg Value.bool (decide_eq_decide.2 (by grind)) | exact congrArg Value.bool (by grind)
       refine yw ?_;refine zx 89 rfl (fun g89=>?_) (fun g89=>?_)
       ·refine zn8 ?_;refine e_R ⟨agA,?_⟩;refine⟨?_,hZ⟩;simp only [zOk]
        first | exact congrArg Value.bool (decide_eq_true (by grind)).symm | exact congrArg Value.bool (decide_eq_false (by grind)).symm | exact congrArg Value.bool (decide_eq_decide.2 (by grind)) | exact congrArg Value.bool (by grind)
       refine zn3 ?_;refine wl (zV U41 rfl rfl (hb6.sub (n:=2) (xs:=[_,_]) rfl) xJ) (zn1 ?_);refine zJ fn86 (XW A1 c1 t1.type _) rfl (fun e' w14 hr=>?_);obtain⟨rfl,s9⟩:=hr;replace s9:=sB s9;replace hZ:=SameQ.trans hZ s9 (by simp);refine⟨_,rfl,?_⟩;refine zn5 ?_;refine e_R ⟨agA,?_⟩;refine⟨?_,hZ⟩;simp only [zOk]
       first | exact congrArg Value.bool (decide_eq_true (by grind)).symm | exact congrArg Value.bool (decide_eq_false (by grind)).symm | exact congrArg Value.bool (decide_eq_decide.2 (by grind)) | exact congrArg Value.bool (by grind)
      refine yw ?_;refine zx 80 rfl (fun g80=>?_) (fun g80=>?_)
      ·refine zn8 ?_;refine zx 84 rfl (fun g84=>?_) (fun g84=>?_)
       ·refine Z6 ?_;refine e_R ⟨agA,?_⟩;refine⟨?_,hZ⟩;simp only [zOk]
        first | exact congrArg Value.bool (decide_eq_true (by grind)).symm | exact congrArg Value.bool (decide_eq_false (by grind)).symm | exact congrArg Value.bool (decide_eq_decide.2 (by grind)) | exact congrArg Value.bool (by grind)
       refine yw ?_;refine zx 89 rfl (fun g89=>?_) (fun g89=>?_)
       ·refine zn8 ?_;refine e_R ⟨agA,?_⟩;refine⟨?_,hZ⟩;simp only [zOk]
        first | exact congrArg Value.bool (decide_eq_true (by grind)).symm | exact congrArg Value.bool (decide_eq_false (by grind)).symm | exact congrArg Value.bool (decide_eq_decide.2 (by grind)) | exact congrArg Value.bool (by grind)
       refine zn3 ?_;refine wl (zV U41 rfl rfl (hb6.sub (n:=2) (xs:=[_,_]) rfl) xJ) (zn1 ?_);refine zJ fn86 (XW A1 c1 t1.type _) rfl (fun e' w15 hr=>?_);obtain⟨rfl,s10⟩:=hr;replace s10:=sB s10;replace hZ:=SameQ.trans hZ s10 (by simp);refine⟨_,rfl,?_⟩;refine zn5 ?_;refine e_R ⟨agA,?_⟩;refine⟨?_,hZ⟩;simp only [zOk]
       first | exact congrArg Value.bool (decide_eq_true (by grind)).symm | exact congrArg Value.bool (decide_eq_false (by grind)).symm | exact congrArg Value.bool (decide_eq_decide.2 (by grind)) | exact congrArg Value.bool (by grind)
      refine IK ?_;refine e_R ⟨agA,?_⟩;refine⟨?_,hZ⟩;simp only [zOk]
      first | exact congrArg Value.bool (decide_eq_true (by grind)).symm | exact congrArg Value.bool (decide_eq_false (by grind)).symm | exact congrArg Value.bool (decide_eq_decide.2 (by grind)) | exact congrArg Value.bool (by grind)
     refine zn26 ?_;refine e_R ⟨agA,?_⟩;refine⟨?_,hZ⟩;simp only [zOk]
     first | exact congrArg Value.bool (decide_eq_true (by grind)).symm | exact congrArg Value.bool (decide_eq_false (by grind)).symm | exact congrArg Value.bool (decide_eq_decide.2 (by grind)) | exact congrArg Value.bool (by grind)
    refine zn30 ?_;refine zn6 ?_;refine e_R ⟨agA,?_⟩;refine⟨?_,hZ⟩;simp only [zOk]
    first | exact congrArg Value.bool (decide_eq_true (by grind)).symm | exact congrArg Value.bool (decide_eq_false (by grind)).symm | exact congrArg Value.bool (decide_eq_decide.2 (by grind)) | exact congrArg Value.bool (by grind)
   obtain⟨h9,s11⟩:=hI;refine ky 9 _ h9 nu (zn7 ?_);replace ho:=ho.tr0 s11;refine zy rfl (fun c96=>?_) (fun c96=>?_)
   ·have hcd:=ndX_5 (b:=e1) c41 hkk h1k h4k c96;refine zn3 ?_;refine e_R ⟨agA,?_⟩;replace hB:=hB.tr0 (s6.trans s11);replace hb1:=hb1.tr0 (s6.trans s11);replace hb2:=hb2.tr0 (s6.trans s11);replace hb5:=hb5.tr0 (s6.trans s11);replace hb6:=hb6.tr0 s11;exact⟨by rw [hcd];rfl,hB,hb1,hb2,hb5,hb6,ho⟩
   have hzk:zOk kk t1:=Classical.not_not.1 c96;have hcz:=ndX_z (b:=e1) c41 hkk h1k h4k hzk;refine xv ?_;refine y7 (rg [] 97 9) (fun g w'=>(g 105= .bool (decide (kk=1∧¬xK t1.name=true)))∧Same [] w11 w') ?_ (fun g17 w16 hI=>?_)
   ·have hZ:SameQ [] w11 w11:=Same.refl _ _;refine zn5 ?_;refine zx 100 rfl (fun g100=>?_) (fun g100=>?_)
    ·refine zn5 ?_;refine zJ fn87 (name1_any _ _) rfl (fun e' w17 hr=>?_);obtain⟨rfl,rfl⟩:=hr;refine⟨_,rfl,?_⟩;refine zn4 ?_;refine e_R ⟨agA,?_⟩;refine⟨?_,hZ⟩
     first | exact congrArg Value.bool (decide_eq_true (by grind)).symm | exact congrArg Value.bool (decide_eq_false (by grind)).symm | exact congrArg Value.bool (decide_eq_decide.2 (by grind)) | exact congrArg Value.bool (by grind)
    refine zn6 ?_;refine e_R ⟨agA,?_⟩;refine⟨?_,hZ⟩
    first | exact congrArg Value.bool (decide_eq_true (by grind)).symm | exact congrArg Value.bool (decide_eq_false (by grind)).symm | exact congrArg Value.bool (decide_eq_decide.2 (by grind)) | exact congrArg Value.bool (by grind)
   obtain⟨h105,s12⟩:=hI;refine ky 105 _ h105 nu (e_S ?_);replace ho:=ho.tr0 s12;refine zy rfl (fun c105=>?_) (fun c105=>?_)
   ·have hcd:(ndX n d1 e1 t1)=10:=by rw [hcz,if_pos c105.1,if_neg c105.2]
    refine zn3 ?_;refine e_R ⟨agA,?_⟩;replace hB:=hB.tr0 (s6.trans (s11.trans s12));replace hb1:=hb1.tr0 (s6.trans (s11.trans s12));replace hb2:=hb2.tr0 (s6.trans (s11.trans s12));replace hb5:=hb5.tr0 (s6.trans (s11.trans s12));replace hb6:=hb6.tr0 (s11.trans s12);exact⟨by rw [hcd];rfl,hB,hb1,hb2,hb5,hb6,ho⟩
   refine xv ?_;refine y7 (rg [] 106 14) (fun g w'=>(g 119= .bool (decide ((kk=1∨kk=3)∧smF t1.type≠0)))∧Same [] w16 w') ?_ (fun g19 w18 hI=>?_)
   ·have hZ:SameQ [] w16 w16:=Same.refl _ _;refine zn5 ?_;refine zx 109 rfl (fun g109=>?_) (fun g109=>?_)
    ·refine zn8 ?_;refine wl (zV U41 rfl rfl (hb6.u.sub (n:=2) (xs:=[_,_]) rfl) xJ) (zn1 ?_);refine zJ fn88 (O1 A1 c1 t1.type _ (hs1.mono hB.u)) rfl (fun e' w19 hr=>?_);obtain⟨rfl,s13⟩:=hr;replace s13:=sB s13;replace hZ:=SameQ.trans hZ s13 (by simp);refine⟨_,rfl,?_⟩;refine zn4 ?_;refine e_R ⟨agA,?_⟩;refine⟨?_,hZ⟩
     first | exact congrArg Value.bool (decide_eq_true (by grind)).symm | exact congrArg Value.bool (decide_eq_false (by grind)).symm | exact congrArg Value.bool (decide_eq_decide.2 (by grind)) | exact congrArg Value.bool (by grind)
    refine zn8 ?_;refine zx 114 rfl (fun g114=>?_) (fun g114=>?_)
    ·refine zn3 ?_;refine wl (zV U41 rfl rfl (hb6.u.sub (n:=2) (xs:=[_,_]) rfl) xJ) (zn1 ?_);refine zJ fn88 (O1 A1 c1 t1.type _ (hs1.mono hB.u)) rfl (fun e' w20 hr=>?_);obtain⟨rfl,s14⟩:=hr;replace s14:=sB s14;replace hZ:=SameQ.trans hZ s14 (by simp);refine⟨_,rfl,?_⟩;refine zn4 ?_;refine e_R ⟨agA,?_⟩;refine⟨?_,hZ⟩
     first | exact congrArg Value.bool (decide_eq_true (by grind)).symm | exact congrArg Value.bool (decide_eq_false (by grind)).symm | exact congrArg Value.bool (decide_eq_decide.2 (by grind)) | exact congrArg Value.bool (by grind)
    refine zn6 ?_;refine e_R ⟨agA,?_⟩;refine⟨?_,hZ⟩
    first | exact congrArg Value.bool (decide_eq_true (by grind)).symm | exact congrArg Value.bool (decide_eq_false (by grind)).symm | exact congrArg Value.bool (decide_eq_decide.2 (by grind)) | exact congrArg Value.bool (by grind)
   obtain⟨h119,s15⟩:=hI;refine ky 119 _ h119 nu (e_S ?_);replace ho:=ho.tr0 s15;refine zy rfl (fun c119=>?_) (fun c119=>?_)
   ·have hcd:(ndX n d1 e1 t1)=12:=by rw [hcz];clear hcz;grind
    refine zn3 ?_;refine e_R ⟨agA,?_⟩;replace hB:=hB.tr0 (s6.trans (s11.trans (s12.trans s15)));replace hb1:=hb1.tr0 (s6.trans (s11.trans (s12.trans s15)));replace hb2:=hb2.tr0 (s6.trans (s11.trans (s12.trans s15)));replace hb5:=hb5.tr0 (s6.trans (s11.trans (s12.trans s15)));replace hb6:=hb6.tr0 (s11.trans (s12.trans s15));exact⟨by rw [hcd];rfl,hB,hb1,hb2,hb5,hb6,ho⟩
   refine xv ?_;replace hB:=hB.tr0 (s6.trans (s11.trans (s12.trans s15)));replace hb1:=hb1.tr0 (s6.trans (s11.trans (s12.trans s15)));replace hb2:=hb2.tr0 (s6.trans (s11.trans (s12.trans s15)));replace hb5:=hb5.tr0 (s6.trans (s11.trans (s12.trans s15)));replace hb6:=hb6.tr0 (s11.trans (s12.trans s15));refine x6 (rg [] 120 15) 134 (.bool (decide (kk=2∧(t1.index < 0∨(e1:Int)≤t1.index)))) nu ?_ (fun gq=>?_)
   ·refine zn5 ?_;refine zx 123 rfl (fun g123=>?_) (fun g123=>?_)
    ·refine zn8 ?_;refine zx 127 rfl (fun g127=>?_) (fun g127=>?_)
     ·refine zn8 ?_;refine zw (e_R ⟨rfl,agA,?_⟩);show Value.bool _=Value.bool _
      first | exact congrArg Value.bool (decide_eq_true (by grind)).symm | exact congrArg Value.bool (decide_eq_false (by grind)).symm | exact congrArg Value.bool (decide_eq_decide.2 (by grind)) | exact congrArg Value.bool (by grind)
     refine kJ ?_;refine zw (e_R ⟨rfl,agA,?_⟩);show Value.bool _=Value.bool _
     first | exact congrArg Value.bool (decide_eq_true (by grind)).symm | exact congrArg Value.bool (decide_eq_false (by grind)).symm | exact congrArg Value.bool (decide_eq_decide.2 (by grind)) | exact congrArg Value.bool (by grind)
    refine yx ?_;refine zw (e_R ⟨rfl,agA,?_⟩);show Value.bool _=Value.bool _
    first | exact congrArg Value.bool (decide_eq_true (by grind)).symm | exact congrArg Value.bool (decide_eq_false (by grind)).symm | exact congrArg Value.bool (decide_eq_decide.2 (by grind)) | exact congrArg Value.bool (by grind)
   refine e_S ?_;refine zy rfl (fun c134=>?_) (fun c134=>?_)
   ·have hcd:(ndX n d1 e1 t1)=15:=by rw [hcz];clear hcz;grind
    refine zn3 ?_;refine e_R ⟨agA,?_⟩;exact⟨by rw [hcd];rfl,hB,hb1,hb2,hb5,hb6,ho⟩
   have hcd:(ndX n d1 e1 t1)=0:=by rw [hcz];clear hcz;grind
   refine Y5 ?_;refine e_R ⟨agA,?_⟩;exact⟨by rw [hcd];rfl,hB,hb1,hb2,hb5,hb6,ho⟩
  obtain⟨h7,hB,hb1,hb2,hb5,hb6,ho⟩:=hI;refine ky 7 _ h7 nu (zn8 ?_);refine zy rfl (fun c136=>?_) (fun c136=>?_)
  ·rw [ndX_bad c136] at hR;have hF:tmF t=((ndX n d1 e1 t1),(n:Int)):=by rw [Ck (by rw [hR];exact c136),hR]
   refine zn4 ?_;refine wl (yv (v0:= .int _ _) (v1:= .int _ _) (fun v0 v1=>#[v0,v1]) rfl rfl kR) ?_;refine zj hb2 rfl rfl z4 rfl zX (fun w21 hq s16=>?_);replace hb2:=hq;refine zn9 ?_;refine x8 (.inl rfl) rfl (zk U36 rfl rfl hb2.range0 z4) ?_;replace hB:=hB.tr1 s16 lo2;exact⟨by rw [hF];rfl,hB⟩
  obtain⟨hR2,⟨hd40,hn200⟩,hcd0⟩:=ndX_go (r:=st1.reverse) (Classical.not_not.1 c136);rw [hR2] at hR;have hal:=ndC_len hcd0;refine N9 ?_;refine y7 [10,145,146] (fun g w'=>g 10= .int .i64 ((inB t1 e1:Nat):Int)∧Bel w w'∧Blk w' b1 44 #[.int .i64 (t).kind,.string (t).name,.int .i64 (t).index,.string (t).type.base,.slice A (t).type.args.length c,.slice B (t).args.length mB]∧Blk w' b2 36 #[.int .i64 0,.int .i64 0]∧Blk w' b5 146 #[.int .i64 (t1).kind,.string (t1).name,.int .i64 (t1).index,.string (t1).type.base,.slice A1 (t1).type.args.length c1,.slice B1 (t1).args.length m1,.int .i64 (d1:Nat),.int .i64 (e1:Nat)]∧Blk w' b6 44 #[.int .i64 t1.kind,.string t1.name,.int .i64 t1.index,.string t1.type.base,.slice A1 t1.type.args.length c1,.slice B1 t1.args.length m1]∧Own w' w.heap.size 146 8 (some ⟨q,0,none⟩) st1.length cap3 vs1) ?_ (fun gx2 w22 hI=>?_)
  ·refine zy rfl (fun c144=>?_) (fun c144=>?_)
   ·have hin:inB t1 e1=e1 + 1:=if_pos c144;refine zn5 ?_;refine e_R ⟨agA,?_⟩;exact⟨by rw [hin];rfl,hB,hb1,hb2,hb5,hb6,ho⟩
   have hin:inB t1 e1=e1:=if_neg c144;refine Y5 ?_;refine e_R ⟨agA,?_⟩;exact⟨by rw [hin];rfl,hB,hb1,hb2,hb5,hb6,ho⟩
  obtain⟨h10,hB,hb1,hb2,hb5,hb6,ho⟩:=hI;refine ky 10 _ h10 nu (zn6 ?_);refine wl (kW rfl rfl rfl om) (zn4 ?_);refine zK (rg [3,11] 151 17) (fun mm g w'=>∃ (i:Nat) (z:Int) (st2:List (Tm×Nat×Nat)) (vs2:List Value) (q2 cap2:Nat),i≤t1.args.length∧mm=i∧z + 1=i∧g 11= .int .i64 z∧g 3= .slice (some ⟨q2,0,none⟩) st2.length cap2∧st2.length=st1.length + (t1.args.length - i)∧st2.reverse=(t1.args.drop i).map (fun y=>(y,d1 + 1,inB t1 e1)) ++ st1.reverse∧Bel w w'∧Blk w' b1 44 #[.int .i64 (t).kind,.string (t).name,.int .i64 (t).index,.string (t).type.base,.slice A (t).type.args.length c,.slice B (t).args.length mB]∧Blk w' b2 36 #[.int .i64 0,.int .i64 0]∧Blk w' b5 146 #[.int .i64 (t1).kind,.string (t1).name,.int .i64 (t1).index,.string (t1).type.base,.slice A1 (t1).type.args.length c1,.slice B1 (t1).args.length m1,.int .i64 (d1:Nat),.int .i64 (e1:Nat)]∧Blk w' b6 44 #[.int .i64 t1.kind,.string t1.name,.int .i64 t1.index,.string t1.type.base,.slice A1 t1.type.args.length c1,.slice B1 t1.args.length m1]∧Own w' w.heap.size 146 8 (some ⟨q2,0,none⟩) st2.length cap2 vs2∧StkT w st2 vs2∧(∀ x ∈ st2,x.2.2 < x.2.1)∧∀ g ∈ aL (some (⟨q2,0,none⟩:Addr)),g≠b5) (t1.args.length) ?_ (fun m g29 w23 hI=>?_)
  ·exact⟨t1.args.length,_,st1,vs1,q,cap3,Nat.le_refl _,rfl,by omega,rfl,rfl,by omega,by rw [List.drop_length];rfl,hB,hb1,hb2,hb5,hb6,ho,hst1,hbd,fun g hg=>by have:=or_ho_b5 g hg;omega⟩
  obtain⟨i,z,st2,vs2,q2,cap2,hi,hmi,hzi,h11,h3,hl2,hrv,hB,hb1,hb2,hb5,hb6,ho,hstk2,hbd2,or_ho_b5⟩:=hI;have or_ho_b1:=Zy ho hb1 dE;have or_ho_b2:=Zy ho hb2 dE;have or_ho_b6:=Zy ho hb6 dE;refine zQ 11 _ h11 nu (zQ 3 _ h3 nu (zn7 ?_));refine zy rfl (fun c152=>?_) (fun c152=>?_)
  ·obtain⟨p,rfl⟩:∃ p:Nat,z=p:=⟨z.toNat,by omega⟩
   obtain rfl:i=p + 1:=by omega
   have hpl:p < t1.args.length:=by omega
   obtain⟨tb,to,A9,c9,B9,m9,rfl,htb,htr,hs9,ht9⟩:=ht1.at_ hpl;have hrv2:(st2 ++ [((t1.args[p]'hpl),d1 + 1,inB t1 e1)]).reverse=(t1.args.drop p).map (fun y=>(y,d1 + 1,inB t1 e1)) ++ st1.reverse:=by
     rw [V6,hrv,List.drop_eq_getElem_cons hpl];rfl
   refine zn4 ?_;have zo:=fun g hg=>(ho.lt g hg).2
   have lt5W:=hb5.lt;refine kX [] [12] [0,1,2,3,4,5,6,7,8,9,10,11,12,13] rfl (fun w24 s17=>?_);have hs0:=s17;refine zn4 ?_;refine hl rfl (fun _=>xw (i:=p) U42 Yy rfl rfl hpl rfl) (zn5 ?_);refine hl rfl (fun _=>I5 (v0:= .agg _) (v1:= .int _ _) (v2:= .int _ _) (fun v0 v1 v2=>#[(qy v0 0),(qy v0 1),(qy v0 2),(qy v0 3),(qy v0 4),(qy v0 5),v1,v2]) rfl rfl rfl kR) (h1 rfl ?_);refine qv (cs:=#[_,_,_,_,_,_,_,_]) [(0,.agg _)] rfl G7 D4 ze146 dE dE kR rfl (fun b166 w25 hb166 s18 hr=>?_);have:=nLL hb1.u.lt hr;have:=nLL hb2.u.lt hr;have:=nLL hb5.u.lt hr;have:=nLL hb6.u.lt hr;have hsH11:=s18;refine zw (J5 hsH11 (h1 rfl ?_));replace ho:=ho.tr0 (s17.trans s18);refine vW G7 in146 rfl dE ho hb166 rfl rfl rfl zX dE om om (Bel.size hB.u) (fun g167 cap167 w26 ho167 hs2 hg167=>?_);replace hB:=hB.tr0 (s17.trans s18);replace hB:=hB.tr hs2 (fun g hg=>nLT (Nat.le_refl _) (ho.lt g hg).1);replace hb1:=hb1.tr0 (s17.trans s18);replace hb1:=hb1.tb hs2 (fun g hg=>by have:=or_ho_b1 g hg;omega);replace hb2:=hb2.tr0 (s17.trans s18);replace hb2:=hb2.tb hs2 (fun g hg=>by have:=or_ho_b2 g hg;omega);replace hb5:=hb5.tr0 (s17.trans s18);replace hb5:=hb5.tb hs2 (fun g hg=>by have:=or_ho_b5 g hg;omega);replace hb6:=hb6.tr0 (s17.trans s18);replace hb6:=hb6.tb hs2 (fun g hg=>by have:=or_ho_b6 g hg;omega);replace hs0:=hs0.trans s18;obtain⟨g167,cap167,e167,ho167,hg167⟩:∃ g cap,(.slice (some ⟨g167,0,none⟩) (st2.length + 1) cap167:Value)= .slice (some ⟨g,0,none⟩) (st2.length + 1) cap∧Own w26 w.heap.size 146 8 (some ⟨g,0,none⟩) (st2.length + 1) cap (vs2 ++ [.int .i64 ((t1.args[p]'hpl)).kind,.string ((t1.args[p]'hpl)).name,.int .i64 ((t1.args[p]'hpl)).index,.string ((t1.args[p]'hpl)).type.base,.slice A9 ((t1.args[p]'hpl)).type.args.length c9,.slice B9 ((t1.args[p]'hpl)).args.length m9,.int .i64 ((d1:Nat) + 1:Int),.int .i64 ((inB t1 e1:Nat):Int)])∧(g=q2∨w23.heap.size≤g):=⟨_,_,rfl,ho167,hg167.imp (fun h=>(List.singleton_inj.1 h).symm) (fun h=>nLT hs0.size h)⟩
   cases e167;refine zw (Q5 [] ?_);have q1:(st2 ++ [((t1.args[p]'hpl),d1 + 1,inB t1 e1)]).length=st2.length + 1:=by simp
   have ho:Own w26 w.heap.size 146 8 (some ⟨g167,0,none⟩) (st2 ++ [((t1.args[p]'hpl),d1 + 1,inB t1 e1)]).length cap167 (vs2 ++ [.int .i64 ((t1.args[p]'hpl)).kind,.string ((t1.args[p]'hpl)).name,.int .i64 ((t1.args[p]'hpl)).index,.string ((t1.args[p]'hpl)).type.base,.slice A9 ((t1.args[p]'hpl)).type.args.length c9,.slice B9 ((t1.args[p]'hpl)).args.length m9,.int .i64 ((d1:Nat) + 1:Int),.int .i64 ((inB t1 e1:Nat):Int)]):=by rw [q1];exact ho167
   have or_ho_b5n:∀ g ∈ aL (some (⟨g167,0,none⟩:Addr)),g≠b5:=fun g hg=>by
     rw [List.mem_singleton.1 hg];rcases hg167 with h | h
     · show g167≠b5
       rw [h];exact or_ho_b5 q2 (List.mem_singleton.2 rfl)
     · show g167≠b5
       omega
   refine zn6 ?_;refine wl (kW rfl rfl rfl om) (zn2 ?_);refine qV (p) om agA ?_
   exact⟨p,_,st2 ++ [((t1.args[p]'hpl),d1 + 1,inB t1 e1)],_,_,_,by omega,rfl,by omega,rfl,(by rw [q1];rfl),(by rw [q1,hl2];omega),hrv2,hB,hb1,hb2,hb5,hb6,ho,.snoc hstk2 hs9 ht9,(fun x hx=>by
     rcases List.mem_append.1 hx with h | h
     · exact hbd2 x h
     · rw [List.mem_singleton.1 h];show inB t1 e1 < d1 + 1;have:=inB_le t1 e1;omega),or_ho_b5n⟩
  obtain rfl:i=0:=by omega
  rw [List.drop_zero] at hrv;have hR2:twk t 1 0 0=tst st2.reverse (n + 1):=by rw [hR,hrv]
  have hl3:st2.length=st1.length + t1.args.length:=by rw [hl2,Nat.sub_zero]
  refine yx ?_;refine qV (201 - (n + 1)) om agA ?_;exact⟨st2,vs2,_,_,n + 1,rfl,by omega,by omega,rfl,rfl,hB,hb1,hb2,ho,hstk2,hR2,hbd2⟩
 have hst:st= []:=List.length_eq_zero_iff.1 om;subst hst;have hz:(twk t 1 0 0).2.1=0:=by rw [hR];rfl
 obtain⟨tv,rfl,hok,_,hv2⟩:=Ew t 1 0 0 hz;have hF:=tmF_ok hz;refine zn9 ?_;refine zJ fn47 (WX tv A B c mB _ (hS.mono hB) (hT.mono hB) om hok) rfl (fun e' w27 hr=>?_);obtain⟨⟨sX,AX,nX,cX,rfl⟩,s19⟩:=hr;replace s19:=sB s19;refine⟨_,rfl,?_⟩;refine wmT rfl (wl (jw (v:= .agg _) rfl rfl) (wl (jw (v:= .bool _) rfl rfl) ?_));refine xW (cs:=#[.string ⟨#[]⟩,.slice none 0 0]) K0 rfl (fun _=>rfl) (fun _=>rfl) xJ rfl zX (fun b12 w29 hb12 s20 hr=>?_);refine zn9 ?_;refine vw rfl (fun c174=>?_) (fun c174=>?_)
 ·rw [if_neg (by simpa using c174)] at hF;refine zn2 ?_;refine wl (yv (v0:= .int _ _) (v1:= .int _ _) (fun v0 v1=>#[v0,v1]) rfl rfl kR) ?_;refine zj hb2.u rfl rfl z4 rfl zX (fun w30 hq s21=>?_);replace hb2:=hq;refine zn4 ?_;refine x8 (.inl rfl) rfl (zk U36 rfl rfl hb2.range0 z4) ?_;replace hB:=(hB.tr0 (s19.trans s20)).tr1 s21 lo2;exact⟨by rw [hF];rfl,hB⟩
 rw [if_pos (by simpa using c174)] at hF;refine zn4 ?_;refine wl (uv (vs:=#[]) (cs:=#[.int .i64 0,.int .i64 0]) (by simp) kR) ?_;refine zj hb2.u rfl rfl z4 rfl zX (fun w31 hq s22=>?_);replace hb2:=hq;refine zn3 ?_;refine x8 (.inl rfl) rfl (zk U36 rfl rfl hb2.range0 z4) ?_;replace hB:=(hB.tr0 (s19.trans s20)).tr1 s22 lo2;exact⟨by rw [hF];rfl,hB⟩
end Go.Proofs.YtbcpgfnfiekbiaaGreatDoor
namespace Go.Proofs.YtbcpgfnfiekbiaaGreatDoor
open Go.RowKit
theorem fn33:zZ Tryz.prog 33=true:=by kernel_rfl
theorem fn34:zZ Tryz.prog 34=true:=by kernel_rfl
theorem fn46:zZ Tryz.prog 46=true:=by kernel_rfl
theorem fn63:zZ Tryz.prog 63=true:=by kernel_rfl
theorem fn64:zZ Tryz.prog 64=true:=by kernel_rfl
theorem Oz (SA BA:Option Addr) (cs mB:Nat) (t:Tm) (w:World) (hS:SimsIn w SA t.type.args) (hT:TmsIn w BA t.args):Calls Tryz.prog 64 #[.agg #[.int .i64 (t).kind,.string (t).name,.int .i64 (t).index,.string (t).type.base,.slice SA (t).type.args.length cs,.slice BA (t).args.length mB]] w fun e w'=>e= .returned (flV (tmF t))∧Bel w w':=by
 refine enT Tryz.func64 Tryz.ntmps64 rfl rfl fun hB=>?_;refine zn2 ?_;refine qK (v:= .agg #[_,_,_,_,_,_]) (cs:=#[_,_,_,_,_,_]) rfl rfl (fun b1 w1 hb1 s1 hr=>?_);refine zY (cs:=#[.int .i64 0,.int .i64 0]) qk rfl (fun b2 w2 hb2 s2 hr=>?_);have lo2:=nLT (Bel.size hB.u) hr;refine zn5 ?_;refine zJ fn46 (WY SA BA cs mB t _ (hS.mono hB.u) (hT.mono hB.u)) rfl (fun e' w3 hr=>?_);obtain⟨rfl,s3⟩:=hr;replace s3:=sB s3;refine⟨_,rfl,?_⟩;refine zj hb2.u rfl rfl z4 rfl zX (fun w4 hq s4=>?_);replace hb2:=hq;refine zn3 ?_;refine x8 (.inl rfl) rfl (zk U36 rfl rfl hb2.range0 z4) ?_;exact⟨qQ rfl,hB.u⟩
theorem F8 (A B G SA BA:Option Addr) (c d cg cs mB:Nat) (l:List Ty) (fs:List Ft) (x:Lx) (w:World) (hTy:TypesIn w A l) (hv:VT l) (h60:l.length≤60) (hF:FeatsIn w B fs) (hfo:FOk l.length fs) (hG:NodesIn w G x.gr) (hS:SimsIn w SA x.mean.type.args) (hT:TmsIn w BA x.mean.args) (hsz:x.word.size < 9223372036854775807):Calls Tryz.prog 32 #[.agg #[.slice A l.length c,.slice B fs.length d],.agg #[.string (x).word,.slice G (x).gr.length cg,.int .i64 (x).wt,.int .i64 ((x).mean).kind,.string ((x).mean).name,.int .i64 ((x).mean).index,.string ((x).mean).type.base,.slice SA ((x).mean).type.args.length cs,.slice BA ((x).mean).args.length mB]] w fun e w'=>e= .returned (.int .i64 (Y0 l fs x))∧Bel w w':=by
 refine enT Tryz.func32 Tryz.ntmps32 rfl rfl fun hB=>?_;refine zn2 ?_;refine qK (v:= .agg #[_,_]) (cs:=#[_,_]) rfl rfl (fun b2 w1 hb2 s1 hr=>?_);refine qK (v:= .agg #[_,_,_,_,_,_,_,_,_]) (cs:=#[_,_,_,_,_,_,_,_,_]) rfl rfl (fun b3 w2 hb3 s2 hr=>?_);refine zn8 ?_;refine zJ fn34 (PY x.word _ hsz) rfl (fun e' w3 hr=>?_);obtain⟨rfl,s3⟩:=hr;replace s3:=sB s3;refine⟨_,rfl,?_⟩;refine zn3 ?_;refine vw rfl (fun c9=>?_) (fun c9=>?_)
 ·have hwd:yX x.word=false:=by simpa using c9
  refine zn8 ?_;exact⟨Zj (BK hwd),hB.u⟩
 have hwd:yX x.word=true:=by simpa using c9
 refine zn4 ?_;replace hB:=hB.tr0 (s1.trans (s2.trans s3));refine x6 (rg [] 10 8) 17 (.bool (decide (x.wt < 0∨1000000 < x.wt))) nu ?_ (fun gq=>?_)
 ·refine zn5 ?_;refine zx 13 rfl (fun g13=>?_) (fun g13=>?_)
  ·refine zn4 ?_;refine zw (e_R ⟨rfl,agA,?_⟩);exact clA
  refine zn7 ?_;refine zw (e_R ⟨rfl,agA,?_⟩);exact clA
 refine e_S ?_;refine zy rfl (fun c17=>?_) (fun c17=>?_)
 ·refine zn8 ?_;exact⟨Zj (L9 hwd c17),hB⟩
 refine zn7 ?_;refine wl (zV U30 rfl rfl (hb3.u.sub (n:=1) (xs:=[_]) rfl) uj) ?_;refine zJ fn33 (S7 A B G c d cg l fs x.gr _ (hTy.mono hB) hv h60 (hF.mono hB) (hG.mono hB) hfo) rfl (fun e' w4 hr=>?_);obtain⟨rfl,s4⟩:=hr;replace s4:=sB s4;refine⟨_,rfl,?_⟩;refine xW (cs:=#[.int .i64 0,.int .i64 0]) qk rfl (fun _=>rfl) (fun _=>rfl) z4 rfl zX (fun b5 w6 hb5 s5 hr=>?_);refine zn9 ?_;refine zy rfl (fun c24=>?_) (fun c24=>?_)
 ·refine yw ?_;exact⟨Zj (lx_gr hwd c17 c24),hB.u⟩
 have hin:=Decidable.not_not.1 c24;refine zn5 ?_;refine wl (zV U44 rfl rfl (hb3.u.sub (n:=6) (xs:=[_,_,_,_,_,_]) rfl) Yy) ?_;refine zJ fn64 (Oz SA BA cs mB x.mean _ (hS.mono hB.u) (hT.mono hB.u)) rfl (fun e' w7 hr=>?_);obtain⟨rfl,s6⟩:=hr;replace s6:=sB s6;refine⟨_,rfl,?_⟩;refine wl (Dk (v:= .int _ _) U36 rfl U3 rfl rfl rfl) (zn5 ?_);exact⟨Zj (lx_ok hwd c17 hin),hB.u⟩
theorem ruler_any (A B G SA BA:Option Addr) (c d cg cs mB:Nat) (l:List Ty) (fs:List Ft) (r:Rl) (w:World) (hTy:TypesIn w A l) (hv:VT l) (h60:l.length≤60) (hF:FeatsIn w B fs) (hfo:FOk l.length fs) (hG:NodesIn w G r.gr) (hS:SimsIn w SA r.mean.type.args) (hT:TmsIn w BA r.mean.args):Calls Tryz.prog 31 #[.agg #[.slice A l.length c,.slice B fs.length d],.agg #[.string (r).name,.slice G (r).gr.length cg,.int .i64 (r).kids,.int .i64 (r).wt,.int .i64 ((r).mean).kind,.string ((r).mean).name,.int .i64 ((r).mean).index,.string ((r).mean).type.base,.slice SA ((r).mean).type.args.length cs,.slice BA ((r).mean).args.length mB]] w fun e w'=>e= .returned (.int .i64 (X5 l fs r))∧Bel w w':=by
 refine enT Tryz.func31 Tryz.ntmps31 rfl rfl fun hB=>?_;refine zn2 ?_;refine qK (v:= .agg #[_,_]) (cs:=#[_,_]) rfl rfl (fun b2 w1 hb2 s1 hr=>?_);refine qK (v:= .agg #[_,_,_,_,_,_,_,_,_,_]) (cs:=#[_,_,_,_,_,_,_,_,_,_]) rfl rfl (fun b3 w2 hb3 s2 hr=>?_);refine zn5 ?_;replace hB:=hB.tr0 (s1.trans s2);refine x6 (rg [] 7 18) 24 (.bool (decide (r.kids < 1∨3 < r.kids∨r.wt < 0∨1000000 < r.wt))) nu ?_ (fun gq=>?_)
 ·refine zn5 ?_;refine zx 10 rfl (fun g10=>?_) (fun g10=>?_)
  ·refine gV ?_;refine zw (e_R ⟨rfl,agA,?_⟩);exact clA
  refine zn8 ?_;refine zx 15 rfl (fun g15=>?_) (fun g15=>?_)
  ·refine zn9 ?_;refine zw (e_R ⟨rfl,agA,?_⟩);exact clA
  refine zn8 ?_;refine zx 20 rfl (fun g20=>?_) (fun g20=>?_)
  ·refine zn4 ?_;refine zw (e_R ⟨rfl,agA,?_⟩);exact clA
  refine zn7 ?_;refine zw (e_R ⟨rfl,agA,?_⟩);exact clA
 refine e_S ?_;refine zy rfl (fun c24=>?_) (fun c24=>?_)
 ·refine zn8 ?_;exact⟨Zj (HZ c24),hB⟩
 refine zn7 ?_;refine wl (zV U30 rfl rfl (hb3.sub (n:=1) (xs:=[_]) rfl) uj) ?_;refine zJ fn33 (S7 A B G c d cg l fs r.gr _ (hTy.mono hB) hv h60 (hF.mono hB) (hG.mono hB) hfo) rfl (fun e' w3 hr=>?_);obtain⟨rfl,s3⟩:=hr;replace s3:=sB s3;refine⟨_,rfl,?_⟩;refine xW (cs:=#[.int .i64 0,.int .i64 0]) qk rfl (fun _=>rfl) (fun _=>rfl) z4 rfl zX (fun b5 w5 hb5 s4 hr=>?_);refine zn9 ?_;refine zy rfl (fun c31=>?_) (fun c31=>?_)
 ·refine yw ?_;exact⟨Zj (rl_gr c24 c31),hB.u⟩
 have hin:=Decidable.not_not.1 c31;have hk0:=Oy (E6 hin);have h0:=hk0.pos;refine zn9 ?_;refine zK (rg [4,6] 34 14) (fun m g w'=>∃ j:Nat,j≤4∧m=4 - j∧g 34= .int .i64 j∧Bel w w'∧Blk w' b3 54 #[.string (r).name,.slice G (r).gr.length cg,.int .i64 (r).kids,.int .i64 (r).wt,.int .i64 ((r).mean).kind,.string ((r).mean).name,.int .i64 ((r).mean).index,.string ((r).mean).type.base,.slice SA ((r).mean).type.args.length cs,.slice BA ((r).mean).args.length mB]∧∀ f,f < j→plN r.gr r.kids f=true) (4) ?_ (fun m g7 w6 hI=>?_)
 ·exact⟨0,by omega,rfl,rfl,hB.u,hb3.u,fun f hf=>by omega⟩
 obtain⟨j,hj,hm,h34,hB,hb3,hall⟩:=hI;refine zQ 34 _ h34 nu (zn6 ?_);refine zy rfl (fun c35=>?_) (fun c35=>?_)
 ·refine yx ?_;refine kZ [] [0,1,2,5,6,7,8,3,4,9] rfl (fun w7 s5=>?_);refine zn1 ?_;refine hlS rfl U30 rfl rfl (hb3.u.sub (n:=1) (xs:=[_]) rfl) uj (zn5 ?_);refine hcl (fun v wv=>v= .int .i64 (tgt (r.gr[0]'h0).ln ((j:Nat):Int))) rfl fn63 (R9 G cg r.gr 0 ((j:Nat):Int) w7 (hG.mono hB.u) h0) rfl (fun e' w2 hr=>?_) (fun v40 w8 s6 d40=>?_)
  ·obtain⟨rfl,s7⟩:=hr;exact⟨_,rfl,sB s7,rfl⟩
  have e40:=d40;subst e40;refine zn1 ?_;refine hl rfl (fun _=>Bq U4 rfl rfl) (h_end (e_S ?_));refine vw rfl (fun c46=>?_) (fun c46=>?_)
  ·have hpl:plN r.gr r.kids j=false:=by
     have h:=c46;rw [Bool.not_eq_true'] at h;rw [By h0];exact h
   refine y8 ?_;exact⟨Zj (rl_pl c24 hin (pl_no om hpl)),hB.u⟩
  have hpl:plN r.gr r.kids j=true:=by
    have h:=c46;rw [Bool.not_eq_false'] at h;rw [By h0];exact h
  refine zn7 ?_;refine qV (4 - (j + 1)) om agA ?_;replace hB:=hB.tr0 (s5.trans s6);replace hb3:=hb3.tr0 (s5.trans s6)
  exact⟨j + 1,by omega,rfl,rfl,hB,hb3,fun f hf=>by
    by_cases e:f=j
    · rw [e];exact hpl
    · exact hall f om⟩
 refine zn8 ?_;refine wl (zV U44 rfl rfl (hb3.sub (n:=6) (xs:=[_,_,_,_,_,_]) rfl) Yy) ?_;refine zJ fn64 (Oz SA BA cs mB r.mean _ (hS.mono hB) (hT.mono hB)) rfl (fun e' w9 hr=>?_);obtain⟨rfl,s8⟩:=hr;replace s8:=sB s8;refine⟨_,rfl,?_⟩;refine wl (Dk (v:= .int _ _) U36 rfl U3 rfl rfl rfl) (zn5 ?_);exact⟨Zj (rl_ok c24 hin (pl_yes (fun f hf=>hall f om))),hB.u⟩
end Go.Proofs.YtbcpgfnfiekbiaaGreatDoor
