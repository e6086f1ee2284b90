/- Regions of the function Small, each at every world. What these functions of the program compute, at every world: glosswright/glosswrightequal.Small. Small's rule for and, whose second daughter may be left out: both its forms are valid rules. No program in sight. -/
import Derived.Test.YtbcpgfnfiekbiaaGreatDoorU
import Derived.Test.YtbcpgfnfiekbiaaGreatDoorTrm
import Derived.Test.YtbcpgfnfiekbiaaGreatDoorDSmB
import Derived.Test.YtbcpgfnfiekbiaaGreatDoorORu
import Derived.Test.YtbcpgfnfiekbiaaGreatDoorDHo
import Derived.Test.YtbcpgfnfiekbiaaGreatDoorORd
import Derived.Test.YtbcpgfnfiekbiaaGreatDoorORf
import Derived.Test.YtbcpgfnfiekbiaaGreatDoorHLaw
namespace Go.Proofs.YtbcpgfnfiekbiaaGreatDoor
open Go.RowKit
variable {w wc:World} {b0 b1 b2 b3 b4 b5 b23 b93 base capt c12 c15:Nat} {At A12 A15:Option Addr} {cr:Array Value}
set_option maxHeartbeats 1000000 in
theorem small_r20 (hI:SmSt smallT smallF smallR b0 b1 b2 b3 b4 b5 b23 b93 base capt c12 c15 At A12 A15 cr 11 Yk w wc) (f:Fr) (Q:Exit→Act→World→Prop) (k7:f 7= .func (.func 22) #[] #[.pointer (some ⟨b5,0,none⟩)]) (k3:f 3= .pointer (some ⟨b3,0,none⟩)) (hPQ:PQ Q):WC Tryz.prog (sl (sr (sr (sr (sr (sr (sr (sr (sr (sr (sr (sr (sr (sr (sr (sr (sr (sr (sr (sr (sr (ob Tryz.f5.body)))))))))))))))))))))) (QRS 256 [169,170,171,172,173,174,175] f (fun _ w'=>SmSt smallT smallF smallR b0 b1 b2 b3 b4 b5 b23 b93 base capt c12 c15 At A12 A15 cr 12 Yj w w') Q) 256 f wc:=by
 have hb3:=hI.1.k3;have hP12:=hI.1.p12;refine zZ 7 _ k7 nu (zZ 3 _ k3 nu (zn3 ?_));refine zV QZ (uZ [] ⟨#[115,108,101,101,112]⟩ tyET _ _ _ _ hP12) rfl (fun e' w1 hr=>?_);obtain⟨⟨_,rfl,S171,c171,B171,m171,n171,rfl,hz171⟩,s1⟩:=hr;replace s1:=sB s1;refine⟨_,rfl,?_⟩;refine qw (cs:=#[_,_,_]) [(0,.int _ _),(1,.int _ _),(2,.int _ _)] rfl U66 qk qj dE dE kR rfl (fun b172 w2 hb172 s2 hr=>?_);refine qw (cs:=#[_]) [(0,.int _ _)] rfl U66 qk qj dE dE kR rfl (fun b173 w3 hb173 s3 hr=>?_);refine qw (cs:=#[_,_]) [(0,.slice _ _ _),(1,.slice _ _ _)] rfl U71 y8 xQ dE dE kR rfl (fun b174 w4 hb174 s4 hr=>?_);replace hI:=hI.tr0 (s1.trans (s2.trans (s3.trans s4)));obtain⟨hC,A,cap,xs,nL,hb5,ho,hL⟩:=hI;replace hz171:=hz171.tr0 (s2.trans (s3.trans s4));refine y6 rfl QQ (uQ ⟨#[115,108,101,101,112,115]⟩ 0 (Tv.con ⟨#[115,108,101,101,112]⟩ tyET) _ _ _ _ _ _ [[11,4,1],[4]] _ _ base _ _ _ _ _ _ _ _ _ Yk _ dE (qY (rs:=[[11,4,1],[4]]) hb174 (.cons ⟨_,_,rfl,(qy [11,4,1] hb172.u dE),by decide,by decide⟩ (.cons ⟨_,_,rfl,(qy [4] hb173.u dE),by decide,by decide⟩ .nil)) dE) hz171 hb5 ho hL hC.bs hC.l.1 dE) rfl rfl (fun e' w5 hr=>?_);obtain⟨rfl,A2,cap2,xs2,hb5n,hon,hL2,hS,hA2⟩:=hr;replace hC:=hC.add hS hb5 ho;refine⟨_,rfl,?_⟩;refine zJ ?_;refine e_R ⟨agA,?_⟩;exact⟨hC,_,_,_,_,hb5n,hon,hL2⟩
set_option maxHeartbeats 1000000 in
theorem small_r21 (hI:SmSt smallT smallF smallR b0 b1 b2 b3 b4 b5 b23 b93 base capt c12 c15 At A12 A15 cr 12 Yj w wc) (f:Fr) (Q:Exit→Act→World→Prop) (k7:f 7= .func (.func 22) #[] #[.pointer (some ⟨b5,0,none⟩)]) (k3:f 3= .pointer (some ⟨b3,0,none⟩)) (hPQ:PQ Q):WC Tryz.prog (sl (sr (sr (sr (sr (sr (sr (sr (sr (sr (sr (sr (sr (sr (sr (sr (sr (sr (sr (sr (sr (sr (ob Tryz.f5.body))))))))))))))))))))))) (QRS 256 [176,177,178,179,180,181,182] f (fun _ w'=>SmSt smallT smallF smallR b0 b1 b2 b3 b4 b5 b23 b93 base capt c12 c15 At A12 A15 cr 13 Yx w w') Q) 256 f wc:=by
 have hb3:=hI.1.k3;have hP12:=hI.1.p12;refine zZ 7 _ k7 nu (zZ 3 _ k3 nu (zn3 ?_));refine zV QZ (uZ [] ⟨#[115,108,101,101,112]⟩ tyET _ _ _ _ hP12) rfl (fun e' w1 hr=>?_);obtain⟨⟨_,rfl,S178,c178,B178,m178,n178,rfl,hz178⟩,s1⟩:=hr;replace s1:=sB s1;refine⟨_,rfl,?_⟩;refine qw (cs:=#[_,_,_]) [(0,.int _ _),(1,.int _ _),(2,.int _ _)] rfl U66 qk qj dE dE kR rfl (fun b179 w2 hb179 s2 hr=>?_);refine qw (cs:=#[_]) [(0,.int _ _)] rfl U66 qk qj dE dE kR rfl (fun b180 w3 hb180 s3 hr=>?_);refine qw (cs:=#[_,_]) [(0,.slice _ _ _),(1,.slice _ _ _)] rfl U71 y8 xQ dE dE kR rfl (fun b181 w4 hb181 s4 hr=>?_);replace hI:=hI.tr0 (s1.trans (s2.trans (s3.trans s4)));obtain⟨hC,A,cap,xs,nL,hb5,ho,hL⟩:=hI;replace hz178:=hz178.tr0 (s2.trans (s3.trans s4));refine y6 rfl QQ (uQ ⟨#[115,108,101,101,112]⟩ 0 (Tv.con ⟨#[115,108,101,101,112]⟩ tyET) _ _ _ _ _ _ [[11,4,1],[5]] _ _ base _ _ _ _ _ _ _ _ _ Yj _ dE (qY (rs:=[[11,4,1],[5]]) hb181 (.cons ⟨_,_,rfl,(qy [11,4,1] hb179.u dE),by decide,by decide⟩ (.cons ⟨_,_,rfl,(qy [5] hb180.u dE),by decide,by decide⟩ .nil)) dE) hz178 hb5 ho hL hC.bs hC.l.1 dE) rfl rfl (fun e' w5 hr=>?_);obtain⟨rfl,A2,cap2,xs2,hb5n,hon,hL2,hS,hA2⟩:=hr;replace hC:=hC.add hS hb5 ho;refine⟨_,rfl,?_⟩;refine zJ ?_;refine e_R ⟨agA,?_⟩;exact⟨hC,_,_,_,_,hb5n,hon,hL2⟩
set_option maxHeartbeats 1000000 in
theorem small_r22 (hI:SmSt smallT smallF smallR b0 b1 b2 b3 b4 b5 b23 b93 base capt c12 c15 At A12 A15 cr 13 Yx w wc) (f:Fr) (Q:Exit→Act→World→Prop) (k7:f 7= .func (.func 22) #[] #[.pointer (some ⟨b5,0,none⟩)]) (k4:f 4= .pointer (some ⟨b4,0,none⟩)) (hPQ:PQ Q):WC Tryz.prog (sl (sr (sr (sr (sr (sr (sr (sr (sr (sr (sr (sr (sr (sr (sr (sr (sr (sr (sr (sr (sr (sr (sr (ob Tryz.f5.body)))))))))))))))))))))))) (QRS 256 [183,184,185,186,187,188,189] f (fun _ w'=>SmSt smallT smallF smallR b0 b1 b2 b3 b4 b5 b23 b93 base capt c12 c15 At A12 A15 cr 14 Yq w w') Q) 256 f wc:=by
 have hb4:=hI.1.k4;have hP15:=hI.1.p15;refine zZ 7 _ k7 nu (zZ 4 _ k4 nu (zn3 ?_));refine zV QZ (uZ [] ⟨#[99,104,97,115,101]⟩ tyEET _ _ _ _ hP15) rfl (fun e' w1 hr=>?_);obtain⟨⟨_,rfl,S185,c185,B185,m185,n185,rfl,hz185⟩,s1⟩:=hr;replace s1:=sB s1;refine⟨_,rfl,?_⟩;refine qw (cs:=#[_,_,_]) [(0,.int _ _),(1,.int _ _),(2,.int _ _)] rfl U66 qk qj dE dE kR rfl (fun b186 w2 hb186 s2 hr=>?_);refine qw (cs:=#[_]) [(0,.int _ _)] rfl U66 qk qj dE dE kR rfl (fun b187 w3 hb187 s3 hr=>?_);refine qw (cs:=#[_,_]) [(0,.slice _ _ _),(1,.slice _ _ _)] rfl U71 y8 xQ dE dE kR rfl (fun b188 w4 hb188 s4 hr=>?_);replace hI:=hI.tr0 (s1.trans (s2.trans (s3.trans s4)));obtain⟨hC,A,cap,xs,nL,hb5,ho,hL⟩:=hI;replace hz185:=hz185.tr0 (s2.trans (s3.trans s4));refine y6 rfl QQ (uQ ⟨#[99,104,97,115,101,115]⟩ 0 (Tv.con ⟨#[99,104,97,115,101]⟩ tyEET) _ _ _ _ _ _ [[12,4,1],[4]] _ _ base _ _ _ _ _ _ _ _ _ Yx _ dE (qY (rs:=[[12,4,1],[4]]) hb188 (.cons ⟨_,_,rfl,(qy [12,4,1] hb186.u dE),by decide,by decide⟩ (.cons ⟨_,_,rfl,(qy [4] hb187.u dE),by decide,by decide⟩ .nil)) dE) hz185 hb5 ho hL hC.bs hC.l.1 dE) rfl rfl (fun e' w5 hr=>?_);obtain⟨rfl,A2,cap2,xs2,hb5n,hon,hL2,hS,hA2⟩:=hr;replace hC:=hC.add hS hb5 ho;refine⟨_,rfl,?_⟩;refine zJ ?_;refine e_R ⟨agA,?_⟩;exact⟨hC,_,_,_,_,hb5n,hon,hL2⟩
set_option maxHeartbeats 1000000 in
theorem small_r23 (hI:SmSt smallT smallF smallR b0 b1 b2 b3 b4 b5 b23 b93 base capt c12 c15 At A12 A15 cr 14 Yq w wc) (f:Fr) (Q:Exit→Act→World→Prop) (k7:f 7= .func (.func 22) #[] #[.pointer (some ⟨b5,0,none⟩)]) (k4:f 4= .pointer (some ⟨b4,0,none⟩)) (hPQ:PQ Q):WC Tryz.prog (sl (sr (sr (sr (sr (sr (sr (sr (sr (sr (sr (sr (sr (sr (sr (sr (sr (sr (sr (sr (sr (sr (sr (sr (ob Tryz.f5.body))))))))))))))))))))))))) (QRS 256 [190,191,192,193,194,195,196] f (fun _ w'=>SmSt smallT smallF smallR b0 b1 b2 b3 b4 b5 b23 b93 base capt c12 c15 At A12 A15 cr 15 Yz w w') Q) 256 f wc:=by
 have hb4:=hI.1.k4;have hP15:=hI.1.p15;refine zZ 7 _ k7 nu (zZ 4 _ k4 nu (zn3 ?_));refine zV QZ (uZ [] ⟨#[99,104,97,115,101]⟩ tyEET _ _ _ _ hP15) rfl (fun e' w1 hr=>?_);obtain⟨⟨_,rfl,S192,c192,B192,m192,n192,rfl,hz192⟩,s1⟩:=hr;replace s1:=sB s1;refine⟨_,rfl,?_⟩;refine qw (cs:=#[_,_,_]) [(0,.int _ _),(1,.int _ _),(2,.int _ _)] rfl U66 qk qj dE dE kR rfl (fun b193 w2 hb193 s2 hr=>?_);refine qw (cs:=#[_]) [(0,.int _ _)] rfl U66 qk qj dE dE kR rfl (fun b194 w3 hb194 s3 hr=>?_);refine qw (cs:=#[_,_]) [(0,.slice _ _ _),(1,.slice _ _ _)] rfl U71 y8 xQ dE dE kR rfl (fun b195 w4 hb195 s4 hr=>?_);replace hI:=hI.tr0 (s1.trans (s2.trans (s3.trans s4)));obtain⟨hC,A,cap,xs,nL,hb5,ho,hL⟩:=hI;replace hz192:=hz192.tr0 (s2.trans (s3.trans s4));refine y6 rfl QQ (uQ ⟨#[99,104,97,115,101]⟩ 0 (Tv.con ⟨#[99,104,97,115,101]⟩ tyEET) _ _ _ _ _ _ [[12,4,1],[5]] _ _ base _ _ _ _ _ _ _ _ _ Yq _ dE (qY (rs:=[[12,4,1],[5]]) hb195 (.cons ⟨_,_,rfl,(qy [12,4,1] hb193.u dE),by decide,by decide⟩ (.cons ⟨_,_,rfl,(qy [5] hb194.u dE),by decide,by decide⟩ .nil)) dE) hz192 hb5 ho hL hC.bs hC.l.1 dE) rfl rfl (fun e' w5 hr=>?_);obtain⟨rfl,A2,cap2,xs2,hb5n,hon,hL2,hS,hA2⟩:=hr;replace hC:=hC.add hS hb5 ho;refine⟨_,rfl,?_⟩;refine zJ ?_;refine e_R ⟨agA,?_⟩;exact⟨hC,_,_,_,_,hb5n,hon,hL2⟩
set_option maxHeartbeats 1000000 in
theorem small_r24 (hI:SmSt smallT smallF smallR b0 b1 b2 b3 b4 b5 b23 b93 base capt c12 c15 At A12 A15 cr 15 Yz w wc) (f:Fr) (Q:Exit→Act→World→Prop) (k7:f 7= .func (.func 22) #[] #[.pointer (some ⟨b5,0,none⟩)]) (k4:f 4= .pointer (some ⟨b4,0,none⟩)) (hPQ:PQ Q):WC Tryz.prog (sl (sr (sr (sr (sr (sr (sr (sr (sr (sr (sr (sr (sr (sr (sr (sr (sr (sr (sr (sr (sr (sr (sr (sr (sr (ob Tryz.f5.body)))))))))))))))))))))))))) (QRS 256 [197,198,199,200,201,202,203] f (fun _ w'=>SmSt smallT smallF smallR b0 b1 b2 b3 b4 b5 b23 b93 base capt c12 c15 At A12 A15 cr 16 Y9 w w') Q) 256 f wc:=by
 have hb4:=hI.1.k4;have hP15:=hI.1.p15;refine zZ 7 _ k7 nu (zZ 4 _ k4 nu (zn3 ?_));refine zV QZ (uZ [] ⟨#[115,101,101]⟩ tyEET _ _ _ _ hP15) rfl (fun e' w1 hr=>?_);obtain⟨⟨_,rfl,S199,c199,B199,m199,n199,rfl,hz199⟩,s1⟩:=hr;replace s1:=sB s1;refine⟨_,rfl,?_⟩;refine qw (cs:=#[_,_,_]) [(0,.int _ _),(1,.int _ _),(2,.int _ _)] rfl U66 qk qj dE dE kR rfl (fun b200 w2 hb200 s2 hr=>?_);refine qw (cs:=#[_]) [(0,.int _ _)] rfl U66 qk qj dE dE kR rfl (fun b201 w3 hb201 s3 hr=>?_);refine qw (cs:=#[_,_]) [(0,.slice _ _ _),(1,.slice _ _ _)] rfl U71 y8 xQ dE dE kR rfl (fun b202 w4 hb202 s4 hr=>?_);replace hI:=hI.tr0 (s1.trans (s2.trans (s3.trans s4)));obtain⟨hC,A,cap,xs,nL,hb5,ho,hL⟩:=hI;replace hz199:=hz199.tr0 (s2.trans (s3.trans s4));refine y6 rfl QQ (uQ ⟨#[115,101,101,115]⟩ 1 (Tv.con ⟨#[115,101,101]⟩ tyEET) _ _ _ _ _ _ [[12,4,1],[4]] _ _ base _ _ _ _ _ _ _ _ _ Yz _ dE (qY (rs:=[[12,4,1],[4]]) hb202 (.cons ⟨_,_,rfl,(qy [12,4,1] hb200.u dE),by decide,by decide⟩ (.cons ⟨_,_,rfl,(qy [4] hb201.u dE),by decide,by decide⟩ .nil)) dE) hz199 hb5 ho hL hC.bs hC.l.1 dE) rfl rfl (fun e' w5 hr=>?_);obtain⟨rfl,A2,cap2,xs2,hb5n,hon,hL2,hS,hA2⟩:=hr;replace hC:=hC.add hS hb5 ho;refine⟨_,rfl,?_⟩;refine zJ ?_;refine e_R ⟨agA,?_⟩;exact⟨hC,_,_,_,_,hb5n,hon,hL2⟩
set_option maxHeartbeats 1000000 in
theorem small_r25 (hI:SmSt smallT smallF smallR b0 b1 b2 b3 b4 b5 b23 b93 base capt c12 c15 At A12 A15 cr 16 Y9 w wc) (f:Fr) (Q:Exit→Act→World→Prop) (k7:f 7= .func (.func 22) #[] #[.pointer (some ⟨b5,0,none⟩)]) (k4:f 4= .pointer (some ⟨b4,0,none⟩)) (hPQ:PQ Q):WC Tryz.prog (sl (sr (sr (sr (sr (sr (sr (sr (sr (sr (sr (sr (sr (sr (sr (sr (sr (sr (sr (sr (sr (sr (sr (sr (sr (sr (ob Tryz.f5.body))))))))))))))))))))))))))) (QRS 256 [204,205,206,207,208,209,210] f (fun _ w'=>SmSt smallT smallF smallR b0 b1 b2 b3 b4 b5 b23 b93 base capt c12 c15 At A12 A15 cr 17 Y8 w w') Q) 256 f wc:=by
 have hb4:=hI.1.k4;have hP15:=hI.1.p15;refine zZ 7 _ k7 nu (zZ 4 _ k4 nu (zn3 ?_));refine zV QZ (uZ [] ⟨#[115,101,101]⟩ tyEET _ _ _ _ hP15) rfl (fun e' w1 hr=>?_);obtain⟨⟨_,rfl,S206,c206,B206,m206,n206,rfl,hz206⟩,s1⟩:=hr;replace s1:=sB s1;refine⟨_,rfl,?_⟩;refine qw (cs:=#[_,_,_]) [(0,.int _ _),(1,.int _ _),(2,.int _ _)] rfl U66 qk qj dE dE kR rfl (fun b207 w2 hb207 s2 hr=>?_);refine qw (cs:=#[_]) [(0,.int _ _)] rfl U66 qk qj dE dE kR rfl (fun b208 w3 hb208 s3 hr=>?_);refine qw (cs:=#[_,_]) [(0,.slice _ _ _),(1,.slice _ _ _)] rfl U71 y8 xQ dE dE kR rfl (fun b209 w4 hb209 s4 hr=>?_);replace hI:=hI.tr0 (s1.trans (s2.trans (s3.trans s4)));obtain⟨hC,A,cap,xs,nL,hb5,ho,hL⟩:=hI;replace hz206:=hz206.tr0 (s2.trans (s3.trans s4));refine y6 rfl QQ (uQ ⟨#[115,101,101]⟩ 1 (Tv.con ⟨#[115,101,101]⟩ tyEET) _ _ _ _ _ _ [[12,4,1],[5]] _ _ base _ _ _ _ _ _ _ _ _ Y9 _ dE (qY (rs:=[[12,4,1],[5]]) hb209 (.cons ⟨_,_,rfl,(qy [12,4,1] hb207.u dE),by decide,by decide⟩ (.cons ⟨_,_,rfl,(qy [5] hb208.u dE),by decide,by decide⟩ .nil)) dE) hz206 hb5 ho hL hC.bs hC.l.1 dE) rfl rfl (fun e' w5 hr=>?_);obtain⟨rfl,A2,cap2,xs2,hb5n,hon,hL2,hS,hA2⟩:=hr;replace hC:=hC.add hS hb5 ho;refine⟨_,rfl,?_⟩;refine zJ ?_;refine e_R ⟨agA,?_⟩;exact⟨hC,_,_,_,_,hb5n,hon,hL2⟩
set_option maxHeartbeats 1000000 in
theorem small_r26 (hI:SmSt smallT smallF smallR b0 b1 b2 b3 b4 b5 b23 b93 base capt c12 c15 At A12 A15 cr 17 Y8 w wc) (f:Fr) (Q:Exit→Act→World→Prop) (k7:f 7= .func (.func 22) #[] #[.pointer (some ⟨b5,0,none⟩)]) (k2:f 2= .pointer (some ⟨b2,0,none⟩)) (hPQ:PQ Q):WC Tryz.prog (sl (sr (sr (sr (sr (sr (sr (sr (sr (sr (sr (sr (sr (sr (sr (sr (sr (sr (sr (sr (sr (sr (sr (sr (sr (sr (sr (ob Tryz.f5.body)))))))))))))))))))))))))))) (QRS 256 [211,212,213,214,215,216,217,218] f (fun _ w'=>SmSt smallT smallF smallR b0 b1 b2 b3 b4 b5 b23 b93 base capt c12 c15 At A12 A15 cr 18 Y7 w w') Q) 256 f wc:=by
 have hb2:=hI.1.k2;refine zZ 7 _ k7 nu (zZ 2 _ k2 nu (zn4 ?_));refine zV Y1 (gj [] (Ts.b true) (Ts.b true) _ _ _ _ _ _ _ (by simp) (Fz.triv _ _ TS (fun _=>SimsIn.nil)) (Fz.triv _ _ TS (fun _=>SimsIn.nil))) rfl (fun e' w1 hr=>?_);obtain⟨⟨_,rfl,A214,c214,n214,rfl,hz214⟩,s1⟩:=hr;replace s1:=sB s1;refine⟨_,rfl,?_⟩;refine zV QZ (uZ [] ⟨#[110,111,116]⟩ (Ts.f (Ts.b true) (Ts.b true)) _ _ _ _ hz214) rfl (fun e' w2 hr=>?_);obtain⟨⟨_,rfl,S215,c215,B215,m215,n215,rfl,hz215⟩,s2⟩:=hr;replace s2:=sB s2;refine⟨_,rfl,?_⟩;refine qw (cs:=#[_]) [(0,.int _ _)] rfl U66 qk qj dE dE kR rfl (fun b216 w3 hb216 s3 hr=>?_);refine qw (cs:=#[_]) [(0,.slice _ _ _)] rfl U71 y8 xQ dE dE kR rfl (fun b217 w4 hb217 s4 hr=>?_);replace hI:=hI.tr0 (s1.trans (s2.trans (s3.trans s4)));obtain⟨hC,A,cap,xs,nL,hb5,ho,hL⟩:=hI;replace hz215:=hz215.tr0 (s3.trans s4);refine y6 rfl QQ (uQ ⟨#[110,111,116]⟩ 0 (Tv.con ⟨#[110,111,116]⟩ (Ts.f (Ts.b true) (Ts.b true))) _ _ _ _ _ _ [[13]] _ _ base _ _ _ _ _ _ _ _ _ Y8 _ dE (qY (rs:=[[13]]) hb217 (.cons ⟨_,_,rfl,(qy [13] hb216.u dE),by decide,by decide⟩ .nil) dE) hz215 hb5 ho hL hC.bs hC.l.1 dE) rfl rfl (fun e' w5 hr=>?_);obtain⟨rfl,A2,cap2,xs2,hb5n,hon,hL2,hS,hA2⟩:=hr;replace hC:=hC.add hS hb5 ho;refine⟨_,rfl,?_⟩;refine zJ ?_;refine e_R ⟨agA,?_⟩;exact⟨hC,_,_,_,_,hb5n,hon,hL2⟩
set_option maxHeartbeats 1000000 in
theorem small_r27 (hI:SmSt smallT smallF smallR b0 b1 b2 b3 b4 b5 b23 b93 base capt c12 c15 At A12 A15 cr 18 Y7 w wc) (f:Fr) (Q:Exit→Act→World→Prop) (k7:f 7= .func (.func 22) #[] #[.pointer (some ⟨b5,0,none⟩)]) (k2:f 2= .pointer (some ⟨b2,0,none⟩)) (hPQ:PQ Q):WC Tryz.prog (sl (sr (sr (sr (sr (sr (sr (sr (sr (sr (sr (sr (sr (sr (sr (sr (sr (sr (sr (sr (sr (sr (sr (sr (sr (sr (sr (sr (ob Tryz.f5.body))))))))))))))))))))))))))))) (QRS 256 [219,220,221,222,223,224,225,226,227,228] f (fun _ w'=>SmSt smallT smallF smallR b0 b1 b2 b3 b4 b5 b23 b93 base capt c12 c15 At A12 A15 cr 19 Y6 w w') Q) 256 f wc:=by
 have hb2:=hI.1.k2;refine zZ 7 _ k7 nu (zZ 2 _ k2 nu ?_);refine kK 9 [219,220,221,222,223,224,225,226,227] (fun _=>false) (fun ix v wv=>match ix with | 0=>v= .func (.func 22) #[] #[.pointer (some ⟨b5,0,none⟩)] | 1=>v= .agg #[.string ((Ts.b true)).sm.base,.slice none ((Ts.b true)).sm.args.length 0] | 2=>v= .agg #[.string ((Ts.b true)).sm.base,.slice none ((Ts.b true)).sm.args.length 0] | 3=>v= .agg #[.string ((Ts.b true)).sm.base,.slice none ((Ts.b true)).sm.args.length 0] | 4=>SmD [] (Ts.f (Ts.b true) (Ts.b true)) wv (v) | 5=>SmD [] (Ts.f (Ts.b true) (Ts.f (Ts.b true) (Ts.b true))) wv (v) | 6=>TmD [] (Tv.con ⟨#[97,110,100]⟩ (Ts.f (Ts.b true) (Ts.f (Ts.b true) (Ts.b true)))) wv (v) | 7=>IsP [14] wv (v) | 8=>RsP [[14]] wv (v) | _=>True) kR kR ?_ ?_ ?_
 ·intro ix v wv wv2 h s1
  match ix,h with
  | 0,h=>exact h
  | 1,h=>exact h
  | 2,h=>exact h
  | 3,h=>exact h
  | 4,h=>
   obtain⟨A223,c223,n223,e223,hz223⟩:=h;exact⟨A223,c223,n223,e223,hz223.tr0 s1⟩
  | 5,h=>
   obtain⟨A224,c224,n224,e224,hz224⟩:=h;exact⟨A224,c224,n224,e224,hz224.tr0 s1⟩
  | 6,h=>
   obtain⟨S225,c225,B225,m225,n225,e225,hz225⟩:=h;exact⟨S225,c225,B225,m225,n225,e225,hz225.tr0 s1⟩
  | 7,h=>
   exact IsP.tr0 h s1
  | 8,h=>
   exact RsP.tr0 h s1
  | _ + 9,h=>exact trivial
 ·intro ix o hix hoq gg wx s2 hd hdis
  match ix,hix,hoq with
  | 0,_,hoq=>
   cases sI hoq;exact oVq (yq (v:= .func _ _ _) rfl) rfl
  | 1,_,hoq=>
   cases sI hoq;exact oVq (zY U41 rfl rfl hb2.u.range0 xw) rfl
  | 2,_,hoq=>
   cases sI hoq;exact oVq (zY U41 rfl rfl hb2.u.range0 xw) rfl
  | 3,_,hoq=>
   cases sI hoq;exact oVq (zY U41 rfl rfl hb2.u.range0 xw) rfl
  | 4,_,hoq=>
   cases sI hoq;refine zx 221 _ (hd 2 (zj kR)) nu (zx 222 _ (hd 3 (zj kR)) nu ?_);refine vQ Y1 (gj [] (Ts.b true) (Ts.b true) _ _ _ _ _ _ wx (by simp) (Fz.triv _ _ TS (fun _=>SimsIn.nil)) (Fz.triv _ _ TS (fun _=>SimsIn.nil))) rfl (fun e' w2 hr=>?_);obtain⟨⟨_,rfl,hd⟩,s3⟩:=hr;exact⟨_,rfl,sB s3,hd,xX⟩
  | 5,_,hoq=>
   cases sI hoq;obtain⟨A223,c223,n223,e223,hz223⟩:=hd 4 (zj kR);refine zx 220 _ (hd 1 (zj kR)) nu (zx 223 _ e223 nu ?_);refine vQ Y1 (gj [] (Ts.b true) (Ts.f (Ts.b true) (Ts.b true)) _ _ _ _ _ _ wx (by simp) (Fz.triv _ _ TS (fun _=>SimsIn.nil)) hz223) rfl (fun e' w2 hr=>?_);obtain⟨⟨_,rfl,hd⟩,s4⟩:=hr;exact⟨_,rfl,sB s4,hd,xX⟩
  | 6,_,hoq=>
   cases sI hoq;obtain⟨A224,c224,n224,e224,hz224⟩:=hd 5 (zj kR);refine zx 224 _ e224 nu ?_;refine vQ QZ (uZ [] ⟨#[97,110,100]⟩ (Ts.f (Ts.b true) (Ts.f (Ts.b true) (Ts.b true))) _ _ _ wx hz224) rfl (fun e' w2 hr=>?_);obtain⟨⟨_,rfl,hd⟩,s5⟩:=hr;exact⟨_,rfl,sB s5,hd,xX⟩
  | 7,_,hoq=>
   cases sI hoq;exact vY [14] rfl U66 qk qj
  | 8,_,hoq=>
   cases sI hoq;obtain⟨b226,e226,hin226⟩:=hd 7 (zj kR);refine zx 226 _ e226 nu ?_;refine jk (fun ops Q K=>?_);refine qw (cs:=#[_]) [(0,.slice _ _ _)] rfl U71 y8 xQ dE dE kR rfl (fun b227 w1 hb227 s6 hr=>?_);exact K _ _ ⟨s6,⟨_,rfl,qY (rs:=[[14]]) hb227 (.cons ⟨_,_,rfl,(hin226.mono s6.bel),by decide,by decide⟩ .nil) dE⟩,fRq hr hb227.lt⟩
  | _ + 9,hix,_=>exact absurd hix oM
 intro gg w2 s7 hR hdis;obtain⟨S225,c225,B225,m225,n225,e225,hz225⟩:=hR 6 dE;obtain⟨b227,e227,hrw227⟩:=hR 8 dE;refine xK 219 _ (hR 0 dE) nu (xK 225 _ e225 nu (xK 227 _ e227 nu ?_));replace hI:=hI.tr0 s7;obtain⟨hC,A,cap,xs,nL,hb5,ho,hL⟩:=hI;refine y6 rfl QQ (uQ ⟨#[97,110,100]⟩ 0 (Tv.con ⟨#[97,110,100]⟩ (Ts.f (Ts.b true) (Ts.f (Ts.b true) (Ts.b true)))) _ _ _ _ _ _ [[14]] _ _ base _ _ _ _ _ _ _ _ _ Y7 _ dE hrw227 hz225 hb5 ho hL hC.bs hC.l.1 dE) rfl rfl (fun e' w3 hr=>?_);obtain⟨rfl,A2,cap2,xs2,hb5n,hon,hL2,hS,hA2⟩:=hr;replace hC:=hC.add hS hb5 ho;refine⟨_,rfl,?_⟩;refine zJ ?_;refine e_R ⟨agA,?_⟩;exact⟨hC,_,_,_,_,hb5n,hon,hL2⟩
set_option maxHeartbeats 1000000 in
theorem small_r28 (hI:SmSt smallT smallF smallR b0 b1 b2 b3 b4 b5 b23 b93 base capt c12 c15 At A12 A15 cr 19 Y6 w wc) (f:Fr) (Q:Exit→Act→World→Prop) (k7:f 7= .func (.func 22) #[] #[.pointer (some ⟨b5,0,none⟩)]) (k1:f 1= .pointer (some ⟨b1,0,none⟩)) (k3:f 3= .pointer (some ⟨b3,0,none⟩)) (hPQ:PQ Q):WC Tryz.prog (sl (sr (sr (sr (sr (sr (sr (sr (sr (sr (sr (sr (sr (sr (sr (sr (sr (sr (sr (sr (sr (sr (sr (sr (sr (sr (sr (sr (sr (ob Tryz.f5.body)))))))))))))))))))))))))))))) (QRS 256 [229,230,231,232,233,234,235,236,237,238,239] f (fun _ w'=>SmSt smallT smallF smallR b0 b1 b2 b3 b4 b5 b23 b93 base capt c12 c15 At A12 A15 cr 20 Y5 w w') Q) 256 f wc:=by
 have hb1:=hI.1.k1;have hb3:=hI.1.k3;have hP12:=hI.1.p12;refine zZ 7 _ k7 nu (zZ 1 _ k1 nu (zZ 3 _ k3 nu ?_));refine kK 10 [229,230,231,232,233,234,235,236,237,238] (fun _=>false) (fun ix v wv=>match ix with | 0=>v= .func (.func 22) #[] #[.pointer (some ⟨b5,0,none⟩)] | 1=>v= .agg #[.string (tyET).sm.base,.slice A12 (tyET).sm.args.length c12] | 2=>TmD [] (Tv.var 0) wv (v) | 3=>v= .agg #[.string ((Ts.b false)).sm.base,.slice none ((Ts.b false)).sm.args.length 0] | 4=>TmD [] (Tv.con ⟨#[114,101,120]⟩ (Ts.b false)) wv (v) | 5=>TmD [] (Tv.app (Tv.var 0) (Tv.con ⟨#[114,101,120]⟩ (Ts.b false))) wv (v) | 6=>TmD [] (Tv.abs tyET (Tv.app (Tv.var 0) (Tv.con ⟨#[114,101,120]⟩ (Ts.b false)))) wv (v) | 7=>IsP [7,4,1] wv (v) | 8=>IsP [4] wv (v) | 9=>RsP [[7,4,1],[4]] wv (v) | _=>True) kR kR ?_ ?_ ?_
 ·intro ix v wv wv2 h s1
  match ix,h with
  | 0,h=>exact h
  | 1,h=>exact h
  | 2,h=>
   obtain⟨S231,c231,B231,m231,n231,e231,hz231⟩:=h;exact⟨S231,c231,B231,m231,n231,e231,hz231.tr0 s1⟩
  | 3,h=>exact h
  | 4,h=>
   obtain⟨S233,c233,B233,m233,n233,e233,hz233⟩:=h;exact⟨S233,c233,B233,m233,n233,e233,hz233.tr0 s1⟩
  | 5,h=>
   obtain⟨S234,c234,B234,m234,n234,e234,hz234⟩:=h;exact⟨S234,c234,B234,m234,n234,e234,hz234.tr0 s1⟩
  | 6,h=>
   obtain⟨S235,c235,B235,m235,n235,e235,hz235⟩:=h;exact⟨S235,c235,B235,m235,n235,e235,hz235.tr0 s1⟩
  | 7,h=>
   exact IsP.tr0 h s1
  | 8,h=>
   exact IsP.tr0 h s1
  | 9,h=>
   exact RsP.tr0 h s1
  | _ + 10,h=>exact trivial
 ·intro ix o hix hoq gg wx s2 hd hdis
  match ix,hix,hoq with
  | 0,_,hoq=>
   cases sI hoq;exact oVq (yq (v:= .func _ _ _) rfl) rfl
  | 1,_,hoq=>
   cases sI hoq;exact oVq (zY U41 rfl rfl hb3.u.range0 xw) rfl
  | 2,_,hoq=>
   cases sI hoq;refine vQ Q3 (vw [] 0 wx) rfl (fun e' w2 hr=>?_);obtain⟨⟨_,rfl,hd⟩,s3⟩:=hr;exact⟨_,rfl,sB s3,hd,xX⟩
  | 3,_,hoq=>
   cases sI hoq;exact oVq (zY U41 rfl rfl hb1.u.range0 xw) rfl
  | 4,_,hoq=>
   cases sI hoq;refine zx 232 _ (hd 3 (zj kR)) nu ?_;refine vQ QZ (uZ [] ⟨#[114,101,120]⟩ (Ts.b false) _ _ _ wx (Fz.triv _ _ TS (fun _=>SimsIn.nil))) rfl (fun e' w2 hr=>?_);obtain⟨⟨_,rfl,hd⟩,s4⟩:=hr;exact⟨_,rfl,sB s4,hd,xX⟩
  | 5,_,hoq=>
   cases sI hoq;obtain⟨S231,c231,B231,m231,n231,e231,hz231⟩:=hd 2 (zj kR);obtain⟨S233,c233,B233,m233,n233,e233,hz233⟩:=hd 4 (zj kR);refine zx 231 _ e231 nu (zx 233 _ e233 nu ?_);refine vQ Xy (oY [] (Tv.var 0) (Tv.con ⟨#[114,101,120]⟩ (Ts.b false)) _ _ _ _ _ _ _ _ _ _ wx (by simp) hz231 hz233) rfl (fun e' w2 hr=>?_);obtain⟨⟨_,rfl,hd⟩,s5⟩:=hr;exact⟨_,rfl,sB s5,hd,xX⟩
  | 6,_,hoq=>
   cases sI hoq;obtain⟨S234,c234,B234,m234,n234,e234,hz234⟩:=hd 5 (zj kR);refine zx 230 _ (hd 1 (zj kR)) nu (zx 234 _ e234 nu ?_);replace hP12:=hP12.tr0 s2;refine vQ Q4 (u5 [] tyET (Tv.app (Tv.var 0) (Tv.con ⟨#[114,101,120]⟩ (Ts.b false))) _ _ _ _ _ _ _ _ wx (by simp) hP12 hz234) rfl (fun e' w2 hr=>?_);obtain⟨⟨_,rfl,hd⟩,s6⟩:=hr;exact⟨_,rfl,sB s6,hd,xX⟩
  | 7,_,hoq=>
   cases sI hoq;exact vY [7,4,1] rfl U66 qk qj
  | 8,_,hoq=>
   cases sI hoq;exact vY [4] rfl U66 qk qj
  | 9,_,hoq=>
   cases sI hoq;obtain⟨b236,e236,hin236⟩:=hd 7 (zj kR);obtain⟨b237,e237,hin237⟩:=hd 8 (zj kR);refine zx 236 _ e236 nu (zx 237 _ e237 nu ?_);refine jk (fun ops Q K=>?_);refine qw (cs:=#[_,_]) [(0,.slice _ _ _),(1,.slice _ _ _)] rfl U71 y8 xQ dE dE kR rfl (fun b238 w1 hb238 s7 hr=>?_);exact K _ _ ⟨s7,⟨_,rfl,qY (rs:=[[7,4,1],[4]]) hb238 (.cons ⟨_,_,rfl,(hin236.mono s7.bel),by decide,by decide⟩ (.cons ⟨_,_,rfl,(hin237.mono s7.bel),by decide,by decide⟩ .nil)) dE⟩,fRq hr hb238.lt⟩
  | _ + 10,hix,_=>exact absurd hix oM
 intro gg w2 s8 hR hdis;obtain⟨S235,c235,B235,m235,n235,e235,hz235⟩:=hR 6 dE;obtain⟨b238,e238,hrw238⟩:=hR 9 dE;refine xK 229 _ (hR 0 dE) nu (xK 235 _ e235 nu (xK 238 _ e238 nu ?_));replace hI:=hI.tr0 s8;obtain⟨hC,A,cap,xs,nL,hb5,ho,hL⟩:=hI;refine y6 rfl QQ (uQ ⟨#[114,101,120]⟩ 0 (Tv.abs tyET (Tv.app (Tv.var 0) (Tv.con ⟨#[114,101,120]⟩ (Ts.b false)))) _ _ _ _ _ _ [[7,4,1],[4]] _ _ base _ _ _ _ _ _ _ _ _ Y6 _ dE hrw238 hz235 hb5 ho hL hC.bs hC.l.1 dE) rfl rfl (fun e' w3 hr=>?_);obtain⟨rfl,A2,cap2,xs2,hb5n,hon,hL2,hS,hA2⟩:=hr;replace hC:=hC.add hS hb5 ho;refine⟨_,rfl,?_⟩;refine zJ ?_;refine e_R ⟨agA,?_⟩;exact⟨hC,_,_,_,_,hb5n,hon,hL2⟩
set_option maxHeartbeats 1000000 in
theorem small_r29 (hI:SmSt smallT smallF smallR b0 b1 b2 b3 b4 b5 b23 b93 base capt c12 c15 At A12 A15 cr 20 Y5 w wc) (f:Fr) (Q:Exit→Act→World→Prop) (k7:f 7= .func (.func 22) #[] #[.pointer (some ⟨b5,0,none⟩)]) (k1:f 1= .pointer (some ⟨b1,0,none⟩)) (k3:f 3= .pointer (some ⟨b3,0,none⟩)) (hPQ:PQ Q):WC Tryz.prog (sl (sr (sr (sr (sr (sr (sr (sr (sr (sr (sr (sr (sr (sr (sr (sr (sr (sr (sr (sr (sr (sr (sr (sr (sr (sr (sr (sr (sr (sr (ob Tryz.f5.body))))))))))))))))))))))))))))))) (QRS 256 [240,241,242,243,244,245,246,247,248,249,250] f (fun _ w'=>SmSt smallT smallF smallR b0 b1 b2 b3 b4 b5 b23 b93 base capt c12 c15 At A12 A15 cr 21 Ej w w') Q) 256 f wc:=by
 have hb1:=hI.1.k1;have hb3:=hI.1.k3;have hP12:=hI.1.p12;refine zZ 7 _ k7 nu (zZ 1 _ k1 nu (zZ 3 _ k3 nu ?_));refine kK 10 [240,241,242,243,244,245,246,247,248,249] (fun _=>false) (fun ix v wv=>match ix with | 0=>v= .func (.func 22) #[] #[.pointer (some ⟨b5,0,none⟩)] | 1=>v= .agg #[.string (tyET).sm.base,.slice A12 (tyET).sm.args.length c12] | 2=>TmD [] (Tv.var 0) wv (v) | 3=>v= .agg #[.string ((Ts.b false)).sm.base,.slice none ((Ts.b false)).sm.args.length 0] | 4=>TmD [] (Tv.con ⟨#[109,105,97]⟩ (Ts.b false)) wv (v) | 5=>TmD [] (Tv.app (Tv.var 0) (Tv.con ⟨#[109,105,97]⟩ (Ts.b false))) wv (v) | 6=>TmD [] (Tv.abs tyET (Tv.app (Tv.var 0) (Tv.con ⟨#[109,105,97]⟩ (Ts.b false)))) wv (v) | 7=>IsP [7,4,1] wv (v) | 8=>IsP [4] wv (v) | 9=>RsP [[7,4,1],[4]] wv (v) | _=>True) kR kR ?_ ?_ ?_
 ·intro ix v wv wv2 h s1
  match ix,h with
  | 0,h=>exact h
  | 1,h=>exact h
  | 2,h=>
   obtain⟨S242,c242,B242,m242,n242,e242,hz242⟩:=h;exact⟨S242,c242,B242,m242,n242,e242,hz242.tr0 s1⟩
  | 3,h=>exact h
  | 4,h=>
   obtain⟨S244,c244,B244,m244,n244,e244,hz244⟩:=h;exact⟨S244,c244,B244,m244,n244,e244,hz244.tr0 s1⟩
  | 5,h=>
   obtain⟨S245,c245,B245,m245,n245,e245,hz245⟩:=h;exact⟨S245,c245,B245,m245,n245,e245,hz245.tr0 s1⟩
  | 6,h=>
   obtain⟨S246,c246,B246,m246,n246,e246,hz246⟩:=h;exact⟨S246,c246,B246,m246,n246,e246,hz246.tr0 s1⟩
  | 7,h=>
   exact IsP.tr0 h s1
  | 8,h=>
   exact IsP.tr0 h s1
  | 9,h=>
   exact RsP.tr0 h s1
  | _ + 10,h=>exact trivial
 ·intro ix o hix hoq gg wx s2 hd hdis
  match ix,hix,hoq with
  | 0,_,hoq=>
   cases sI hoq;exact oVq (yq (v:= .func _ _ _) rfl) rfl
  | 1,_,hoq=>
   cases sI hoq;exact oVq (zY U41 rfl rfl hb3.u.range0 xw) rfl
  | 2,_,hoq=>
   cases sI hoq;refine vQ Q3 (vw [] 0 wx) rfl (fun e' w2 hr=>?_);obtain⟨⟨_,rfl,hd⟩,s3⟩:=hr;exact⟨_,rfl,sB s3,hd,xX⟩
  | 3,_,hoq=>
   cases sI hoq;exact oVq (zY U41 rfl rfl hb1.u.range0 xw) rfl
  | 4,_,hoq=>
   cases sI hoq;refine zx 243 _ (hd 3 (zj kR)) nu ?_;refine vQ QZ (uZ [] ⟨#[109,105,97]⟩ (Ts.b false) _ _ _ wx (Fz.triv _ _ TS (fun _=>SimsIn.nil))) rfl (fun e' w2 hr=>?_);obtain⟨⟨_,rfl,hd⟩,s4⟩:=hr;exact⟨_,rfl,sB s4,hd,xX⟩
  | 5,_,hoq=>
   cases sI hoq;obtain⟨S242,c242,B242,m242,n242,e242,hz242⟩:=hd 2 (zj kR);obtain⟨S244,c244,B244,m244,n244,e244,hz244⟩:=hd 4 (zj kR);refine zx 242 _ e242 nu (zx 244 _ e244 nu ?_);refine vQ Xy (oY [] (Tv.var 0) (Tv.con ⟨#[109,105,97]⟩ (Ts.b false)) _ _ _ _ _ _ _ _ _ _ wx (by simp) hz242 hz244) rfl (fun e' w2 hr=>?_);obtain⟨⟨_,rfl,hd⟩,s5⟩:=hr;exact⟨_,rfl,sB s5,hd,xX⟩
  | 6,_,hoq=>
   cases sI hoq;obtain⟨S245,c245,B245,m245,n245,e245,hz245⟩:=hd 5 (zj kR);refine zx 241 _ (hd 1 (zj kR)) nu (zx 245 _ e245 nu ?_);replace hP12:=hP12.tr0 s2;refine vQ Q4 (u5 [] tyET (Tv.app (Tv.var 0) (Tv.con ⟨#[109,105,97]⟩ (Ts.b false))) _ _ _ _ _ _ _ _ wx (by simp) hP12 hz245) rfl (fun e' w2 hr=>?_);obtain⟨⟨_,rfl,hd⟩,s6⟩:=hr;exact⟨_,rfl,sB s6,hd,xX⟩
  | 7,_,hoq=>
   cases sI hoq;exact vY [7,4,1] rfl U66 qk qj
  | 8,_,hoq=>
   cases sI hoq;exact vY [4] rfl U66 qk qj
  | 9,_,hoq=>
   cases sI hoq;obtain⟨b247,e247,hin247⟩:=hd 7 (zj kR);obtain⟨b248,e248,hin248⟩:=hd 8 (zj kR);refine zx 247 _ e247 nu (zx 248 _ e248 nu ?_);refine jk (fun ops Q K=>?_);refine qw (cs:=#[_,_]) [(0,.slice _ _ _),(1,.slice _ _ _)] rfl U71 y8 xQ dE dE kR rfl (fun b249 w1 hb249 s7 hr=>?_);exact K _ _ ⟨s7,⟨_,rfl,qY (rs:=[[7,4,1],[4]]) hb249 (.cons ⟨_,_,rfl,(hin247.mono s7.bel),by decide,by decide⟩ (.cons ⟨_,_,rfl,(hin248.mono s7.bel),by decide,by decide⟩ .nil)) dE⟩,fRq hr hb249.lt⟩
  | _ + 10,hix,_=>exact absurd hix oM
 intro gg w2 s8 hR hdis;obtain⟨S246,c246,B246,m246,n246,e246,hz246⟩:=hR 6 dE;obtain⟨b249,e249,hrw249⟩:=hR 9 dE;refine xK 240 _ (hR 0 dE) nu (xK 246 _ e246 nu (xK 249 _ e249 nu ?_));replace hI:=hI.tr0 s8;obtain⟨hC,A,cap,xs,nL,hb5,ho,hL⟩:=hI;refine y6 rfl QQ (uQ ⟨#[109,105,97]⟩ 0 (Tv.abs tyET (Tv.app (Tv.var 0) (Tv.con ⟨#[109,105,97]⟩ (Ts.b false)))) _ _ _ _ _ _ [[7,4,1],[4]] _ _ base _ _ _ _ _ _ _ _ _ Y5 _ dE hrw249 hz246 hb5 ho hL hC.bs hC.l.1 dE) rfl rfl (fun e' w3 hr=>?_);obtain⟨rfl,A2,cap2,xs2,hb5n,hon,hL2,hS,hA2⟩:=hr;replace hC:=hC.add hS hb5 ho;refine⟨_,rfl,?_⟩;refine zJ ?_;refine e_R ⟨agA,?_⟩;exact⟨hC,_,_,_,_,hb5n,hon,hL2⟩
end Go.Proofs.YtbcpgfnfiekbiaaGreatDoor
namespace Go.Proofs.YtbcpgfnfiekbiaaGreatDoor
open Go.RowKit
theorem fn19:zK Tryz.prog 19=true:=by kernel_rfl
theorem fn20:zK Tryz.prog 20=true:=by kernel_rfl
theorem sz32:(Tryz.prog.info? 32).map (·.size)=some 5:=by kernel_rfl
theorem sz68_DSm:(Tryz.prog.info? 68).map (·.size)=some 3:=by kernel_rfl
theorem ze32:(Tryz.prog.info? 32).map (·.zero)=some (some (.agg #[.slice none 0 0,.slice none 0 0,.slice none 0 0,.slice none 0 0,.slice none 0 0])):=by kernel_rfl
theorem ze68_DSm:(Tryz.prog.info? 68).map (·.zero)=some (some (.agg #[.string ⟨#[]⟩,.int .i64 0,.int .i64 0])):=by kernel_rfl
theorem ze9:(Tryz.prog.info? 9).map (·.zero)=some (some (.string ⟨#[]⟩)):=by kernel_rfl
set_option maxHeartbeats 8000000 in
theorem small_d (w:World):Calls Tryz.prog 5 #[] w fun e w'=>(∃ v,e= .returned v∧GmD smallT smallF smallR smallX smallS w w' v)∧Bel w w':=by
 refine enT Tryz.func5 Tryz.ntmps5 rfl rfl fun hB=>?_;refine zn2 ?_;refine qq (cs:=#[.slice none 0 0,.slice none 0 0,.slice none 0 0,.slice none 0 0,.slice none 0 0]) ze32 rfl (fun b0 w1 hb0 s1 hr=>?_);have lo0:=nLT (Bel.size hB) hr;refine zn4 ?_;refine zV W7 (o7 _ _) rfl (fun e' w2 hr=>?_);obtain⟨rfl,s2⟩:=hr;replace s2:=sB s2;refine⟨_,rfl,?_⟩;refine zV W7 (o7 _ _) rfl (fun e' w3 hr=>?_);obtain⟨rfl,s3⟩:=hr;replace s3:=sB s3;refine⟨_,rfl,?_⟩;refine qq (cs:=#[.string ⟨#[]⟩,.slice none 0 0]) vx rfl (fun b1 w4 hb1 s4 hr=>?_);have:=nLL hb0.u.lt hr;have lo1:=nLT (Bel.size hB.u) hr;refine qq (cs:=#[.string ⟨#[]⟩,.slice none 0 0]) vx rfl (fun b2 w5 hb2 s5 hr=>?_);have:=nLL hb0.u.lt hr;have:=nLL hb1.lt hr;have lo2:=nLT (Bel.size hB.u) hr;refine zk hb1.u rfl rfl xw rfl zQ (fun w6 hq s6=>?_);replace hb1:=hq;refine zk hb2.u rfl rfl xw rfl zQ (fun w7 hq s7=>?_);replace hb2:=hq;refine zn6 ?_;refine zV Y1 (gj [] (Ts.b false) (Ts.b true) _ _ _ _ _ _ _ (by simp) (Fz.triv _ _ TS (fun _=>SimsIn.nil)) (Fz.triv _ _ TS (fun _=>SimsIn.nil))) rfl (fun e' w8 hr=>?_);obtain⟨⟨_,rfl,A12,c12,n12,rfl,hP12⟩,s8⟩:=hr;replace s8:=sB s8;refine⟨_,rfl,?_⟩;refine xV (cs:=#[.string ⟨#[]⟩,.slice none 0 0]) vx rfl (fun _=>rfl) (fun _=>rfl) xw rfl zQ (fun b3 w10 hb3 s9 hr=>?_);refine zn6 ?_;replace hP12:=hP12.tr0 s9;refine zV Y1 (gj [] (Ts.b false) (Ts.f (Ts.b false) (Ts.b true)) _ _ _ _ _ _ _ (by simp) (Fz.triv _ _ TS (fun _=>SimsIn.nil)) hP12) rfl (fun e' w11 hr=>?_);obtain⟨⟨_,rfl,A15,c15,n15,rfl,hP15⟩,s10⟩:=hr;replace s10:=sB s10;refine⟨_,rfl,?_⟩;refine xV (cs:=#[.string ⟨#[]⟩,.slice none 0 0]) vx rfl (fun _=>rfl) (fun _=>rfl) xw rfl zQ (fun b4 w13 hb4 s11 hr=>?_);refine zn4 ?_;refine qq (cs:=#[.slice none 0 0,.slice none 0 0,.slice none 0 0,.slice none 0 0,.slice none 0 0]) ze32 rfl (fun b5 w14 hb5 s12 hr=>?_);have or_b0_b5:b0 < b5:=nLL hb0.u.lt hr;have or_b1_b5:b1 < b5:=nLL hb1.u.lt hr;have or_b2_b5:b2 < b5:=nLL hb2.u.lt hr;have or_b3_b5:b3 < b5:=nLL hb3.u.lt hr;have or_b4_b5:b4 < b5:=nLL hb4.lt hr;have lo5:=nLT (Bel.size hB.u) hr;refine zn4 ?_;refine qw (cs:=#[_,_,_,_,_,_,_,_,_,_,_,_,_,_,_]) [(0,.string _),(1,.string _),(2,.string _),(3,.string _),(4,.string _),(5,.string _),(6,.string _),(7,.string _),(8,.string _),(9,.string _),(10,.string _),(11,.string _),(12,.string _),(13,.string _),(14,.string _)] rfl Tryz.underlying33 sz9_DHo ze9 dE dE kR rfl (fun b16 w15 hb16 s13 hr=>?_)
 refine qw (cs:=#[_,_,_,_,_,_,_,_,_,_,_,_,_,_,_]) [(0,.int _ _),(1,.int _ _),(2,.int _ _),(3,.int _ _),(4,.int _ _),(5,.int _ _),(6,.int _ _),(7,.int _ _),(8,.int _ _),(9,.int _ _),(10,.int _ _),(11,.int _ _),(12,.int _ _),(13,.int _ _),(14,.int _ _)] rfl U66 Cw qj dE dE kR rfl (fun b17 w16 hb17 s14 hr=>?_);refine wl (Qz (v0:= .string _) (v1:= .int _ _) (v2:= .int _ _) (fun v0 v1 v2=>#[v0,v1,v2]) rfl rfl rfl kR) (wl (Qz (v0:= .string _) (v1:= .int _ _) (v2:= .int _ _) (fun v0 v1 v2=>#[v0,v1,v2]) rfl rfl rfl kR) (wl (Qz (v0:= .string _) (v1:= .int _ _) (v2:= .int _ _) (fun v0 v1 v2=>#[v0,v1,v2]) rfl rfl rfl kR) (wl (Qz (v0:= .string _) (v1:= .int _ _) (v2:= .int _ _) (fun v0 v1 v2=>#[v0,v1,v2]) rfl rfl rfl kR) (wl (Qz (v0:= .string _) (v1:= .int _ _) (v2:= .int _ _) (fun v0 v1 v2=>#[v0,v1,v2]) rfl rfl rfl kR) ?_))));refine qw (cs:=#[_,_,_,_,_,_,_,_,_,_,_,_,_,_,_]) [(0,.agg _),(1,.agg _),(2,.agg _),(3,.agg _),(4,.agg _)] rfl U23 sz68_DSm ze68_DSm dE dE kR rfl (fun b23 w17 hb23 s15 hr=>?_);refine zV fn19 (P9 (some ⟨b16,0,none⟩) (some ⟨b17,0,none⟩) _ _ _ _ _ Hj Hx _ (TY Hj hb16.u) (qy Hx hb17.u dE) dE rfl) rfl (fun e' w18 hr=>?_);obtain⟨⟨At,capt,rfl,hTy⟩,s16⟩:=hr;replace s16:=sB s16;replace hb23:=hb23.tr0 s16;have hFe:=(Fz.blk (X:=[]) (ts:=TS) hb23 (by simp) (M1 dE dE dE _)).imp (fun _ h=>SZ smallF h dE);replace hTy:Fz [] _ TS w18 (fun w=>TypesIn w At smallT):=hTy;refine⟨_,rfl,?_⟩;refine zn1 ?_;replace hb5:=hb5.tr0 (s13.trans (s14.trans (s15.trans s16)));refine uK hb5 rfl rfl E9 (by first | decide | simp) zQ rfl (fun w19 hq s17=>?_);replace hP12:=hP12.tr0 (s10.trans (s11.trans (s12.trans (s13.trans (s14.trans (s15.trans s16))))));replace hP12:=hP12.sp1 s17 hb5 (.inl dE);replace hP15:=hP15.tr0 (s11.trans (s12.trans (s13.trans (s14.trans (s15.trans s16)))));replace hP15:=hP15.sp1 s17 hb5 (.inl dE);replace hTy:=hTy.sp1 s17 hb5 (.inl dE);replace hFe:=hFe.sp1 s17 hb5 (.inl dE);replace hb5:=hq;refine zn4 ?_;refine zV fn20 (Ly _) rfl (fun e' w20 hr=>?_);obtain⟨⟨bm,csm,nm,rfl,hbm,hTm⟩,s18⟩:=hr;replace s18:=sB s18;refine⟨_,rfl,?_⟩;refine zn4 ?_;refine yy (rg [] 27 68) (fun g w'=>Same [b5] w20 w'∧∃ b93 cr nRl,w20.heap.size≤b93∧Blk w' b93 54 cr∧Fz [] nRl TS w' (fun w=>RlCs w smallR cr.toList)∧Blk w' b5 32 #[.slice At 15 capt,.slice (some ⟨b23,0,none⟩) 5 5,.slice (some ⟨b93,0,none⟩) 6 6,.slice none 0 0,.slice none 0 0]) ?_ (fun g7 w21 hI=>?_)
 ·replace hb5:=hb5.tr0 s18;have hh:=fun f Q k0 k1 kq=>small_r7 hb5 hbm hTm f Q k0 k1 kq
  exact hh _ _ (by rfl) (by rfl) (by intro d;cases d <;> exact fun _ _ _ _ h=>h)
 obtain⟨hS5,b93,cr,nRl,hn93,hb93,hRl,hb5n⟩:=hI;have o593:b5 < b93:=nLL hb5.u.lt hn93;replace hB:=(((((hB.tr0 (s1.trans (s2.trans (s3.trans (s4.trans s5))))).tr1 s6 lo1).tr1 s7 lo2).tr0 (s8.trans (s9.trans (s10.trans (s11.trans (s12.trans (s13.trans (s14.trans (s15.trans s16))))))))).tr1 s17 lo5).tr0 s18;have lo93:=nLT (Bel.size hB) hn93;replace hB:=hB.tr1 hS5 lo5;replace hb0:=(((((hb0.tr0 (s2.trans (s3.trans (s4.trans s5)))).tr1 s6 oM).tr1 s7 oM).tr0 (s8.trans (s9.trans (s10.trans (s11.trans (s12.trans (s13.trans (s14.trans (s15.trans s16))))))))).tr1 s17 oM).tr0 s18;replace hb0:=hb0.tr1 hS5 oM;replace hb1:=(((hb1.tr1 s7 oM).tr0 (s8.trans (s9.trans (s10.trans (s11.trans (s12.trans (s13.trans (s14.trans (s15.trans s16))))))))).tr1 s17 oM).tr0 s18;replace hb1:=hb1.tr1 hS5 oM;replace hb2:=((hb2.tr0 (s8.trans (s9.trans (s10.trans (s11.trans (s12.trans (s13.trans (s14.trans (s15.trans s16))))))))).tr1 s17 oM).tr0 s18;replace hb2:=hb2.tr1 hS5 oM;replace hb3:=((hb3.tr0 (s10.trans (s11.trans (s12.trans (s13.trans (s14.trans (s15.trans s16))))))).tr1 s17 oM).tr0 s18;replace hb3:=hb3.tr1 hS5 oM;replace hb4:=((hb4.tr0 (s12.trans (s13.trans (s14.trans (s15.trans s16))))).tr1 s17 oM).tr0 s18;replace hb4:=hb4.tr1 hS5 oM;replace hb5:=hb5.tr0 s18;replace hTy:=hTy.tr0 s18;replace hTy:=hTy.sp1 hS5 hb5 (.inl dE);replace hFe:=hFe.tr0 s18;replace hFe:=hFe.sp1 hS5 hb5 (.inl dE);replace hP12:=hP12.tr0 s18;replace hP12:=hP12.sp1 hS5 hb5 (.inl dE);replace hP15:=hP15.tr0 s18;replace hP15:=hP15.sp1 hS5 hb5 (.inl dE);replace hb5:=hb5n;refine zn3 ?_;refine wl (r_mf rfl) (zn4 ?_);obtain⟨base,hbase⟩:∃ b,b=w21.heap.size:=⟨_,rfl⟩
 have hI:SmSt smallT smallF smallR b0 b1 b2 b3 b4 b5 b23 b93 base capt c12 c15 At A12 A15 cr 0 N3 w w21:=⟨⟨hB,Nat.le_of_eq hbase,hb0,hb1,hb2,hb3,hb4,hb93,by rw [hbase];exact hTy.and (hFe.and hRl),by rw [hbase];exact hP12.up,by rw [hbase];exact hP15.up,lo5,lo93,⟨or_b0_b5,or_b1_b5,or_b2_b5,or_b3_b5,or_b4_b5,o593⟩,⟨by rw [hbase];exact hb5.lt,by rw [hbase];exact hb93.lt⟩⟩,none,0,[],_,hb5,Own.nil _ _ _ _,Fz.triv [] _ TS (fun _=>LxData.nil)⟩
 refine yy [96,97,98,99,100,101] (fun g w'=>SmSt smallT smallF smallR b0 b1 b2 b3 b4 b5 b23 b93 base capt c12 c15 At A12 A15 cr 1 K6 w w') ?_ (fun g9 w22 hI=>?_)
 ·have hh:=fun f Q k0 kq=>small_r9 hI f Q k0 kq
  exact hh _ _ (by rfl) (by intro d;cases d <;> exact fun _ _ _ _ h=>h)
 obtain hI:=hI;refine e_S (yj ?_);refine yy [102,103,104,105,106,107] (fun g w'=>SmSt smallT smallF smallR b0 b1 b2 b3 b4 b5 b23 b93 base capt c12 c15 At A12 A15 cr 2 K5 w w') ?_ (fun g10 w23 hI=>?_)
 ·have hh:=fun f Q k0 kq=>small_r10 hI f Q k0 kq
  exact hh _ _ (by rfl) (by intro d;cases d <;> exact fun _ _ _ _ h=>h)
 obtain hI:=hI;refine e_S (yj ?_);refine yy [108,109,110,111,112] (fun g w'=>SmSt smallT smallF smallR b0 b1 b2 b3 b4 b5 b23 b93 base capt c12 c15 At A12 A15 cr 3 K4 w w') ?_ (fun g11 w24 hI=>?_)
 ·have hh:=fun f Q k0 kq=>small_r11 hI f Q k0 kq
  exact hh _ _ (by rfl) (by intro d;cases d <;> exact fun _ _ _ _ h=>h)
 obtain hI:=hI;refine e_S (yj ?_);refine yy [113,114,115,116,117,118,119] (fun g w'=>SmSt smallT smallF smallR b0 b1 b2 b3 b4 b5 b23 b93 base capt c12 c15 At A12 A15 cr 4 K3 w w') ?_ (fun g12 w25 hI=>?_)
 ·have hh:=fun f Q k0 k1 kq=>small_r12 hI f Q k0 k1 kq
  exact hh _ _ (by rfl) (by rfl) (by intro d;cases d <;> exact fun _ _ _ _ h=>h)
 obtain hI:=hI;refine e_S (yj ?_);refine yy [120,121,122,123,124,125,126] (fun g w'=>SmSt smallT smallF smallR b0 b1 b2 b3 b4 b5 b23 b93 base capt c12 c15 At A12 A15 cr 5 K1 w w') ?_ (fun g13 w26 hI=>?_)
 ·have hh:=fun f Q k0 k1 kq=>small_r13 hI f Q k0 k1 kq
  exact hh _ _ (by rfl) (by rfl) (by intro d;cases d <;> exact fun _ _ _ _ h=>h)
 obtain hI:=hI;refine e_S (yj ?_);refine yy [127,128,129,130,131,132,133] (fun g w'=>SmSt smallT smallF smallR b0 b1 b2 b3 b4 b5 b23 b93 base capt c12 c15 At A12 A15 cr 6 K0 w w') ?_ (fun g14 w27 hI=>?_)
 ·have hh:=fun f Q k0 k1 kq=>small_r14 hI f Q k0 k1 kq
  exact hh _ _ (by rfl) (by rfl) (by intro d;cases d <;> exact fun _ _ _ _ h=>h)
 obtain hI:=hI;refine e_S (yj ?_);refine yy [134,135,136,137,138,139,140] (fun g w'=>SmSt smallT smallF smallR b0 b1 b2 b3 b4 b5 b23 b93 base capt c12 c15 At A12 A15 cr 7 JY w w') ?_ (fun g15 w28 hI=>?_)
 ·have hh:=fun f Q k0 k1 kq=>small_r15 hI f Q k0 k1 kq
  exact hh _ _ (by rfl) (by rfl) (by intro d;cases d <;> exact fun _ _ _ _ h=>h)
 obtain hI:=hI;refine e_S (yj ?_);refine yy [141,142,143,144,145,146,147] (fun g w'=>SmSt smallT smallF smallR b0 b1 b2 b3 b4 b5 b23 b93 base capt c12 c15 At A12 A15 cr 8 JW w w') ?_ (fun g16 w29 hI=>?_)
 ·have hh:=fun f Q k0 k1 kq=>small_r16 hI f Q k0 k1 kq
  exact hh _ _ (by rfl) (by rfl) (by intro d;cases d <;> exact fun _ _ _ _ h=>h)
 obtain hI:=hI;refine e_S (yj ?_);refine yy [148,149,150,151,152,153,154] (fun g w'=>SmSt smallT smallF smallR b0 b1 b2 b3 b4 b5 b23 b93 base capt c12 c15 At A12 A15 cr 9 JV w w') ?_ (fun g17 w30 hI=>?_)
 ·have hh:=fun f Q k0 k1 kq=>small_r17 hI f Q k0 k1 kq
  exact hh _ _ (by rfl) (by rfl) (by intro d;cases d <;> exact fun _ _ _ _ h=>h)
 obtain hI:=hI;refine e_S (yj ?_);refine yy [155,156,157,158,159,160,161] (fun g w'=>SmSt smallT smallF smallR b0 b1 b2 b3 b4 b5 b23 b93 base capt c12 c15 At A12 A15 cr 10 Yv w w') ?_ (fun g18 w31 hI=>?_)
 ·have hh:=fun f Q k0 k1 kq=>small_r18 hI f Q k0 k1 kq
  exact hh _ _ (by rfl) (by rfl) (by intro d;cases d <;> exact fun _ _ _ _ h=>h)
 obtain hI:=hI;refine e_S (yj ?_);refine yy [162,163,164,165,166,167,168] (fun g w'=>SmSt smallT smallF smallR b0 b1 b2 b3 b4 b5 b23 b93 base capt c12 c15 At A12 A15 cr 11 Yk w w') ?_ (fun g19 w32 hI=>?_)
 ·have hh:=fun f Q k0 k1 kq=>small_r19 hI f Q k0 k1 kq
  exact hh _ _ (by rfl) (by rfl) (by intro d;cases d <;> exact fun _ _ _ _ h=>h)
 obtain hI:=hI;refine e_S (yj ?_);refine yy [169,170,171,172,173,174,175] (fun g w'=>SmSt smallT smallF smallR b0 b1 b2 b3 b4 b5 b23 b93 base capt c12 c15 At A12 A15 cr 12 Yj w w') ?_ (fun g20 w33 hI=>?_)
 ·have hh:=fun f Q k0 k1 kq=>small_r20 hI f Q k0 k1 kq
  exact hh _ _ (by rfl) (by rfl) (by intro d;cases d <;> exact fun _ _ _ _ h=>h)
 obtain hI:=hI;refine e_S (yj ?_);refine yy [176,177,178,179,180,181,182] (fun g w'=>SmSt smallT smallF smallR b0 b1 b2 b3 b4 b5 b23 b93 base capt c12 c15 At A12 A15 cr 13 Yx w w') ?_ (fun g21 w34 hI=>?_)
 ·have hh:=fun f Q k0 k1 kq=>small_r21 hI f Q k0 k1 kq
  exact hh _ _ (by rfl) (by rfl) (by intro d;cases d <;> exact fun _ _ _ _ h=>h)
 obtain hI:=hI;refine e_S (yj ?_);refine yy [183,184,185,186,187,188,189] (fun g w'=>SmSt smallT smallF smallR b0 b1 b2 b3 b4 b5 b23 b93 base capt c12 c15 At A12 A15 cr 14 Yq w w') ?_ (fun g22 w35 hI=>?_)
 ·have hh:=fun f Q k0 k1 kq=>small_r22 hI f Q k0 k1 kq
  exact hh _ _ (by rfl) (by rfl) (by intro d;cases d <;> exact fun _ _ _ _ h=>h)
 obtain hI:=hI;refine e_S (yj ?_);refine yy [190,191,192,193,194,195,196] (fun g w'=>SmSt smallT smallF smallR b0 b1 b2 b3 b4 b5 b23 b93 base capt c12 c15 At A12 A15 cr 15 Yz w w') ?_ (fun g23 w36 hI=>?_)
 ·have hh:=fun f Q k0 k1 kq=>small_r23 hI f Q k0 k1 kq
  exact hh _ _ (by rfl) (by rfl) (by intro d;cases d <;> exact fun _ _ _ _ h=>h)
 obtain hI:=hI;refine e_S (yj ?_);refine yy [197,198,199,200,201,202,203] (fun g w'=>SmSt smallT smallF smallR b0 b1 b2 b3 b4 b5 b23 b93 base capt c12 c15 At A12 A15 cr 16 Y9 w w') ?_ (fun g24 w37 hI=>?_)
 ·have hh:=fun f Q k0 k1 kq=>small_r24 hI f Q k0 k1 kq
  exact hh _ _ (by rfl) (by rfl) (by intro d;cases d <;> exact fun _ _ _ _ h=>h)
 obtain hI:=hI;refine e_S (yj ?_);refine yy [204,205,206,207,208,209,210] (fun g w'=>SmSt smallT smallF smallR b0 b1 b2 b3 b4 b5 b23 b93 base capt c12 c15 At A12 A15 cr 17 Y8 w w') ?_ (fun g25 w38 hI=>?_)
 ·have hh:=fun f Q k0 k1 kq=>small_r25 hI f Q k0 k1 kq
  exact hh _ _ (by rfl) (by rfl) (by intro d;cases d <;> exact fun _ _ _ _ h=>h)
 obtain hI:=hI;refine e_S (yj ?_);refine yy (rg [] 211 8) (fun g w'=>SmSt smallT smallF smallR b0 b1 b2 b3 b4 b5 b23 b93 base capt c12 c15 At A12 A15 cr 18 Y7 w w') ?_ (fun g26 w39 hI=>?_)
 ·have hh:=fun f Q k0 k1 kq=>small_r26 hI f Q k0 k1 kq
  exact hh _ _ (by rfl) (by rfl) (by intro d;cases d <;> exact fun _ _ _ _ h=>h)
 obtain hI:=hI;refine e_S (yj ?_);refine yy (rg [] 219 10) (fun g w'=>SmSt smallT smallF smallR b0 b1 b2 b3 b4 b5 b23 b93 base capt c12 c15 At A12 A15 cr 19 Y6 w w') ?_ (fun g27 w40 hI=>?_)
 ·have hh:=fun f Q k0 k1 kq=>small_r27 hI f Q k0 k1 kq
  exact hh _ _ (by rfl) (by rfl) (by intro d;cases d <;> exact fun _ _ _ _ h=>h)
 obtain hI:=hI;refine e_S (yj ?_);refine yy (rg [] 229 11) (fun g w'=>SmSt smallT smallF smallR b0 b1 b2 b3 b4 b5 b23 b93 base capt c12 c15 At A12 A15 cr 20 Y5 w w') ?_ (fun g28 w41 hI=>?_)
 ·have hh:=fun f Q k0 k1 k2 kq=>small_r28 hI f Q k0 k1 k2 kq
  exact hh _ _ (by rfl) (by rfl) (by rfl) (by intro d;cases d <;> exact fun _ _ _ _ h=>h)
 obtain hI:=hI;refine e_S (yj ?_);refine yy (rg [] 240 11) (fun g w'=>SmSt smallT smallF smallR b0 b1 b2 b3 b4 b5 b23 b93 base capt c12 c15 At A12 A15 cr 21 Ej w w') ?_ (fun g29 w42 hI=>?_)
 ·have hh:=fun f Q k0 k1 k2 kq=>small_r29 hI f Q k0 k1 k2 kq
  exact hh _ _ (by rfl) (by rfl) (by rfl) (by intro d;cases d <;> exact fun _ _ _ _ h=>h)
 obtain hI:=hI;refine e_S (yj ?_);obtain⟨hC,A,cap,xs,nL,hb5,ho,hL⟩:=hI;have hB:=hC.bel;have hb0:=hC.k0;have hb93:=hC.k93;have hD:=hC.dt;have lo5:=hC.lo5;obtain⟨o0,_,_,_,_,o9⟩:=hC.o;obtain⟨l5,l9⟩:=hC.l;refine Oy ?_;refine qw (cs:=#[_]) [(0,.int _ _)] rfl U66 Cw qj dE dE kR rfl (fun b251 w43 hb251 s19 hr=>?_);refine qw (cs:=#[_]) [(0,.slice _ _ _)] rfl U71 TZ xQ dE dE kR rfl (fun b252 w44 hb252 s20 hr=>?_);refine zV W6 (o5 _ _ [[6]] _ (qY (rs:=[[6]]) hb252 (.cons ⟨_,_,rfl,qy [6] hb251.u dE,by decide,by decide⟩ .nil) dE)) rfl (fun e' w45 hr=>?_);obtain⟨⟨Ast,cst,rfl,hSt⟩,s21⟩:=hr;replace s21:=sB s21;refine⟨_,rfl,?_⟩;refine zn1 ?_;replace hb5:=hb5.tr0 (s19.trans (s20.trans s21));refine uK hb5 rfl rfl E8 (by first | decide | simp) zQ rfl (fun w46 hq s22=>?_);replace hD:=hD.tr0 (s19.trans (s20.trans s21));replace hD:=hD.sp1 s22 hb5 (.inl dE);replace ho:=ho.tr0 (s19.trans (s20.trans s21));replace ho:=ho.tq s22;replace hL:=hL.tr0 (s19.trans (s20.trans s21));replace hL:=hL.sp1 s22 hb5 (.inl dE);replace hSt:=hSt.sp1 s22 hb5 (.inl dE);replace hb5:=hq;refine zn5 ?_;refine zk hb0.u rfl rfl sz32 rfl zQ (fun w47 hq s23=>?_);replace hb0:=(hb0.tr0 (s19.trans (s20.trans s21))).tr1 s22 oM;replace hD:=hD.sp1 s23 hb0 (.inl dE);replace ho:=ho.tq s23;replace hL:=hL.sp1 s23 hb0 (.inl dE);replace hSt:=hSt.sp1 s23 hb0 (.inl dE);replace hb0:=hq;refine zn3 ?_;refine x7 (.inl rfl) rfl (zy U32 rfl rfl hb0.range0 sz32) ?_;have hsb:∀ t ∈ [54,57],t ∈ TS:=by decide
 have hfin:=((hD.sub hsb).and ((((ho.fz (ts:=[54,57]) (M1 dE dE dE)).and (hL.sub hsb)).imp (fun _ h=>gof_lexes h.1 h.2)).and (hSt.sub hsb))).imp (Q:=fun w=>TypesIn w At smallT∧FeatsIn w (some ⟨b23,0,none⟩) smallF∧RlCs w smallR cr.toList∧LexesIn w A smallX∧NodesIn w Ast smallS) (fun _ h=>⟨h.1.1,h.1.2.1,h.1.2.2,h.2.1,h.2.2⟩);replace hB:=((hB.tr0 (s19.trans (s20.trans s21))).tr1 s22 lo5).tr1 s23 lo0;replace hb93:=((hb93.tr0 (s19.trans (s20.trans s21))).tr1 s22 oM).tr1 s23 oM;exact⟨⟨_,rfl,At,capt,some ⟨b23,0,none⟩,5,b93,cr,A,cap,Ast,cst,_,rfl,hC.lo93,(show (smallX).length≤cap from ho.cap_le),hb93,hfin⟩,hB⟩
end Go.Proofs.YtbcpgfnfiekbiaaGreatDoor
namespace Go.Proofs.YtbcpgfnfiekbiaaGreatDoor
open Go.RowKit
def andS:ByteArray:=⟨#[97,110,100]⟩
def tT:Ts:= .b true
def ttT:Ts:= .f tT (.f tT tT)
def andV:Tv:= .con andS ttT
def omX:Om:=⟨2,1,andV.tm⟩
def orX:Orl:=⟨smallR5.rl,[omX]⟩
def Tw:Ts:=(tyv [] smallR5.mean).getD tT
def sa0:Ts:=((qJ Tw)[0]?).getD tT
def sa2:Ts:=((qJ Tw)[2]?).getD tT
def redX:RlS:=⟨⟨#[110,112,45,97,110,100,45,50]⟩,[[1,0,1,1,3,2,4],[7,4,2],[5],[7],[7]],2,5,.abs sa0 (.abs sa2 (.app (.app (.app smallR5.mean (.var 1)) andV) (.var 0)))⟩
theorem KQ:rlB smallT smallF smallR5=true:=by decide +kernel
theorem rx_good:rlB smallT smallF redX=true:=by decide +kernel
theorem O5:(qZ smallT smallF).1=0:=by decide +kernel
theorem RX:(yX smallT smallF).1=0:=by rw [rd_ok O5 dE]
theorem tau5_is:TyIs smallR5.rl.mean smallR5.mean Tw:=by
  obtain⟨v,τ,h⟩:=Jw (t:=smallR5.rl.mean) (by
    have h:=KQ;simp only [rlB,Bool.and_eq_true] at h
    exact congrArg (·.1) (Cj h.2))
  obtain rfl:smallR5.mean=v:=Tv.tm_inj h.1;have e:Tw=τ:=by
    unfold Tw;rw [h.2.2.2];rfl
  rw [e];exact h
theorem and_is:TyIs omX.mean andV ttT:=by
  obtain⟨v,τ,h⟩:=Jw (t:=andV.tm) (congrArg (·.1) (Cj (x:=andV) (by decide +kernel)));obtain rfl:andV=v:=Tv.tm_inj h.1;obtain rfl:ttT=τ:=Option.some.inj h.2.2.2;exact h
theorem orx_ok:(Q0 smallT smallF orX).1=0:=by
  obtain⟨h1,h2⟩:=IK KQ
  have h3:x8 (omN orX) 0 orX.om.length=(0,0):=MJ (fun i hi=>by
    obtain rfl:i=0:=by have:orX.om.length=1:=rfl;omega
    refine om0 hi (show ¬((2:Int) < 1∨(3:Int) < 2∨(1:Int) < 0∨(1000000:Int) < 1) by decide) (show ¬(2:Int)≤0 by decide) (congrArg (·.1) (Cj (x:=andV) (by decide +kernel))) ⟨smallR5.mean,Tw,andV,ttT,(qJ Tw).take 3,tau5_is,and_is,?_,show ((qJ Tw).take 3)[1]? =some ttT from rfl⟩
    rw [oW];rfl)
  rw [Z4 h1 h2 dE h3]
theorem dl_r5:DL smallR5.rl.gr [0] [] [0,1,2,3,4,5]:=by
  repeat (first | exact DL.nil | (apply DL.old;· decide) | (apply DL.new;· decide))
def grX:List Nd:=grR (lfN orX (kW 1) 1) 3 smallR5.rl.gr
theorem dl_rx:DL grX [0] [] [0,1,2,3,5]:=by
  repeat (first | exact DL.nil | (apply DL.old;· decide) | (apply DL.new;· decide))
theorem red_0:kX smallT smallF orX (tyA orX) (kW 0)=smallR5.rl:=by
  rw [EQ rfl];show { smallR5.rl with gr:=J8 smallT smallF smallR5.rl.gr } =smallR5.rl;rw [I6 (ZW O5 (IK KQ).2).1 dl_r5];rfl
theorem red_1:kX smallT smallF orX (tyA orX) (kW 1)=redX.rl:=by
  rw [← H4 (r:=orX) tau5_is,Ky (K:=3) rfl rfl rfl rfl];have h:Vk (grR (lfN orX (kW 1) orX.om.length) 3 orX.rule.gr)=redX.rl.gr:=by
    show Vk grX=_;unfold Vk;rw [BZ dl_rx];rfl
  rw [h];rfl
theorem small_exp:Px smallT smallF kW [orX]=((0,0),[smallR5.rl,redX.rl]):=by
  refine Vw RX (Y2 dE (MJ (fun i hi=>?_)) ?_)
  · obtain rfl:i=0:=by have:[orX].length=1:=rfl;omega
    exact(J4 (r:=orX) hi rfl).trans orx_ok
  · have e:M8 smallT smallF tyA kW 0 [orX]= [(((0:Nat):Int),smallR5.rl),(((0:Nat):Int),redX.rl)]:=by
      rw [← red_0,← red_1];rfl
    rw [e,W9 (IK KQ).1 rfl (IK KQ).2 dE,W9 (IK rx_good).1 (by decide +kernel) (IK rx_good).2 dE];rfl
end Go.Proofs.YtbcpgfnfiekbiaaGreatDoor
