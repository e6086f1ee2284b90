/- What these functions compute, at every world: equal.Small, law3.plural; and plain laws. -/
import Derived.Test.YtndbjnkilegebaaGreatDoorU
import Derived.Test.YtndbjnkilegebaaGreatDoorZst
import Derived.Test.YtndbjnkilegebaaGreatDoorDSmA
import Derived.Test.YtndbjnkilegebaaGreatDoorLAq
import Derived.Test.YtndbjnkilegebaaGreatDoorLTa
import Derived.Test.YtndbjnkilegebaaGreatDoorLRr
namespace Go.Proofs.YtndbjnkilegebaaGreatDoor
open Go.RowKit Go.Proofs.Tryz
set_option maxHeartbeats 1000000
variable {A:Prop}{b t:Nat}{w:World}
section
theorem VQ:zw prog 19=true:=by kernel_rfl
variable {w wc:World} {b0 b1 b2 b3 b4 b5 b23 b93 base capt c12 c15:Nat} {At A12 A15:Option Addr} {cr:Array Value}
theorem sF{w:World}{x0 x1 x2:Int}(h:Blk w b t #[.int .i64 x0,.int .i64 x1,.int .i64 x2]):IntsIn w (some ⟨b,0,none⟩) [x0,x1,x2]:=qK _ h (by show 3<=_;decide)
theorem sE{w:World}{x0:Int}(h:Blk w b t #[.int .i64 x0]):IntsIn w (some ⟨b,0,none⟩) [x0]:=qK _ h (by show 1<=_;decide)
theorem sA (h:A:=by
 intro hI f Q k7 hPQ
 refine zQ 7 _ k7 nu (zn2 ?_);refine zW kR (quN_d _ _ _) rfl (fun e' w1 hr=>?_);obtain⟨⟨_,rfl,Sq1,cq1,Bq1,mq1,nq1,rfl,a1⟩,s1⟩:=hr;replace s1:=sB s1;refine⟨_,rfl,?_⟩;refine qZ (cs:=#[_,_,_]) [(0,.int _ _),(1,.int _ _),(2,.int _ _)] rfl U62 qJ qX dE dE kR rfl (fun bq2 w2 a4 s2 hr=>?_);refine qZ (cs:=#[_]) [(0,.int _ _)] rfl U62 qJ qX dE dE kR rfl (fun bq3 w3 a3 s3 hr=>?_);refine qZ (cs:=#[_,_]) [(0,.slice _ _ _),(1,.slice _ _ _)] rfl U69 yw xJ dE dE kR rfl (fun bq4 w4 a2 s4 hr=>?_);replace hI:=hI.tr0 (s1.t (s2.t (s3.t s4)));obtain⟨hC,A,cap,xs,nL,hb5,ho,hL⟩:=hI;replace a1:=a1.tr0 (s2.t (s3.t s4));refine yk rfl VQ (Zz _ _ (quN _ _) _ _ _ _ _ _ _ _ _ _ _ _ _ _ _ _ _ _ _ _ _ dE (xz a2 (.cons ⟨_,_,rfl,(sF a4.u),by decide,by decide⟩ (.cons ⟨_,_,rfl,(sE a3.u),by decide,by decide⟩ .nil)) dE) a1 hb5 ho hL hC.bs hC.l.1 dE) rfl rfl (fun e' w5 hr=>?_);obtain⟨rfl,A2,cap2,xs2,a5,hon,hL2,hS,hA2⟩:=hr;replace hC:=hC.add hS hb5 ho;refine⟨_,rfl,?_⟩;refine qY ?_;refine e_R ⟨agA,?_⟩;exact⟨hC,_,_,_,_,a5,hon,hL2⟩):A:=h
theorem sC (h:A:=by
 intro hI f Q k7 k3 hPQ
 have hb3:=hI.1.k3;have a8:=hI.1.p12;refine zQ 7 _ k7 nu (zQ 3 _ k3 nu (zn3 ?_));refine zW VZ (Z9 [] _ tyET _ _ _ _ a8) rfl (fun e' w1 hr=>?_);obtain⟨⟨_,rfl,Sq2,cq2,Bq2,mq2,nq2,rfl,a1⟩,s1⟩:=hr;replace s1:=sB s1;refine⟨_,rfl,?_⟩;refine qZ (cs:=#[_,_,_]) [(0,.int _ _),(1,.int _ _),(2,.int _ _)] rfl U62 qJ qX dE dE kR rfl (fun bq3 w2 a4 s2 hr=>?_);refine qZ (cs:=#[_]) [(0,.int _ _)] rfl U62 qJ qX dE dE kR rfl (fun bq4 w3 a3 s3 hr=>?_);refine qZ (cs:=#[_,_]) [(0,.slice _ _ _),(1,.slice _ _ _)] rfl U69 yw xJ dE dE kR rfl (fun bq5 w4 a2 s4 hr=>?_);replace hI:=hI.tr0 (s1.t (s2.t (s3.t s4)));obtain⟨hC,A,cap,xs,nL,hb5,ho,hL⟩:=hI;replace a1:=a1.tr0 (s2.t (s3.t s4));refine yk rfl VQ (Zz _ _ (Tv.con _ tyET) _ _ _ _ _ _ _ _ _ _ _ _ _ _ _ _ _ _ _ _ _ dE (xz a2 (.cons ⟨_,_,rfl,(sF a4.u),by decide,by decide⟩ (.cons ⟨_,_,rfl,(sE a3.u),by decide,by decide⟩ .nil)) dE) a1 hb5 ho hL hC.bs hC.l.1 dE) rfl rfl (fun e' w5 hr=>?_);obtain⟨rfl,A2,cap2,xs2,a5,hon,hL2,hS,hA2⟩:=hr;replace hC:=hC.add hS hb5 ho;refine⟨_,rfl,?_⟩;refine qY ?_;refine e_R ⟨agA,?_⟩;exact⟨hC,_,_,_,_,a5,hon,hL2⟩):A:=h
theorem sD (h:A:=by
 intro hI f Q k7 k4 hPQ
 have hb4:=hI.1.k4;have a8:=hI.1.p15;refine zQ 7 _ k7 nu (zQ 4 _ k4 nu (zn3 ?_));refine zW VZ (Z9 [] _ tyEET _ _ _ _ a8) rfl (fun e' w1 hr=>?_);obtain⟨⟨_,rfl,Sq2,cq2,Bq2,mq2,nq2,rfl,a1⟩,s1⟩:=hr;replace s1:=sB s1;refine⟨_,rfl,?_⟩;refine qZ (cs:=#[_,_,_]) [(0,.int _ _),(1,.int _ _),(2,.int _ _)] rfl U62 qJ qX dE dE kR rfl (fun bq3 w2 a4 s2 hr=>?_);refine qZ (cs:=#[_]) [(0,.int _ _)] rfl U62 qJ qX dE dE kR rfl (fun bq4 w3 a3 s3 hr=>?_);refine qZ (cs:=#[_,_]) [(0,.slice _ _ _),(1,.slice _ _ _)] rfl U69 yw xJ dE dE kR rfl (fun bq5 w4 a2 s4 hr=>?_);replace hI:=hI.tr0 (s1.t (s2.t (s3.t s4)));obtain⟨hC,A,cap,xs,nL,hb5,ho,hL⟩:=hI;replace a1:=a1.tr0 (s2.t (s3.t s4));refine yk rfl VQ (Zz _ _ (Tv.con _ tyEET) _ _ _ _ _ _ _ _ _ _ _ _ _ _ _ _ _ _ _ _ _ dE (xz a2 (.cons ⟨_,_,rfl,(sF a4.u),by decide,by decide⟩ (.cons ⟨_,_,rfl,(sE a3.u),by decide,by decide⟩ .nil)) dE) a1 hb5 ho hL hC.bs hC.l.1 dE) rfl rfl (fun e' w5 hr=>?_);obtain⟨rfl,A2,cap2,xs2,a5,hon,hL2,hS,hA2⟩:=hr;replace hC:=hC.add hS hb5 ho;refine⟨_,rfl,?_⟩;refine qY ?_;refine e_R ⟨agA,?_⟩;exact⟨hC,_,_,_,_,a5,hon,hL2⟩):A:=h
theorem small_r9 :∀(_hI:SmSt smallT smallF smallR b0 b1 b2 b3 b4 b5 b23 b93 base capt c12 c15 At A12 A15 cr 0 DW w wc) (f:Fr) (Q:Exit->Act->World->Prop) (_k7:f 7= .func (.func 19) #[] #[.pointer (some ⟨b5,0,none⟩)]) (_hPQ:PQ Q),WC prog (sl (sr (sr (sr (sr (sr (sr (sr (sr (sr (ob Tryz.f4.body))))))))))) (QRS 256 [96,97,98,99,100,101] f (fun _ w'=>SmSt smallT smallF smallR b0 b1 b2 b3 b4 b5 b23 b93 base capt c12 c15 At A12 A15 cr 1 Eq w w') Q) 256 f wc:=sA
theorem small_r10 :∀(_hI:SmSt smallT smallF smallR b0 b1 b2 b3 b4 b5 b23 b93 base capt c12 c15 At A12 A15 cr 1 Eq w wc) (f:Fr) (Q:Exit->Act->World->Prop) (_k7:f 7= .func (.func 19) #[] #[.pointer (some ⟨b5,0,none⟩)]) (_hPQ:PQ Q),WC prog (sl (sr (sr (sr (sr (sr (sr (sr (sr (sr (sr (ob Tryz.f4.body)))))))))))) (QRS 256 [102,103,104,105,106,107] f (fun _ w'=>SmSt smallT smallF smallR b0 b1 b2 b3 b4 b5 b23 b93 base capt c12 c15 At A12 A15 cr 2 Ez w w') Q) 256 f wc:=sA
theorem small_r11(hI:SmSt smallT smallF smallR b0 b1 b2 b3 b4 b5 b23 b93 base capt c12 c15 At A12 A15 cr 2 Ez w wc)(f:Fr)(Q:Exit->Act->World->Prop)(k7:f 7= .func (.func 19) #[] #[.pointer (some ⟨b5,0,none⟩)])(_hPQ:PQ Q):WC prog (sl (sr (sr (sr (sr (sr (sr (sr (sr (sr (sr (sr (ob Tryz.f4.body))))))))))))) (QRS 256 [108,109,110,111,112] f (fun _ w'=>SmSt smallT smallF smallR b0 b1 b2 b3 b4 b5 b23 b93 base capt c12 c15 At A12 A15 cr 3 E9 w w') Q) 256 f wc:=by
 refine zQ 7 _ k7 nu (zn2 ?_);refine zW kR (quY_d ⟨#[115,111,109,101]⟩ ⟨#[97,110,100]⟩ _) rfl (fun e' w1 hr=>?_);obtain⟨⟨_,rfl,S109,c109,B109,m109,n109,rfl,a1⟩,s1⟩:=hr;replace s1:=sB s1;refine⟨_,rfl,?_⟩;refine qZ (cs:=#[_]) [(0,.int _ _)] rfl U62 qJ qX dE dE kR rfl (fun b110 w2 a3 s2 hr=>?_);refine qZ (cs:=#[_]) [(0,.slice _ _ _)] rfl U69 yw xJ dE dE kR rfl (fun b111 w3 a2 s3 hr=>?_);replace hI:=hI.tr0 (s1.t (s2.t s3));obtain⟨hC,A,cap,xs,nL,hb5,ho,hL⟩:=hI;replace a1:=a1.tr0 (s2.t s3);refine yk rfl VQ (Zz ⟨#[110,111]⟩ 2 (quY ⟨#[115,111,109,101]⟩ ⟨#[97,110,100]⟩) _ _ _ _ _ _ [[10]] _ _ base _ _ _ _ _ _ _ _ _ Ez _ dE (xz (rs:=[[10]]) a2 (.cons ⟨_,_,rfl,(qK [10] a3.u dE),by decide,by decide⟩ .nil) dE) a1 hb5 ho hL hC.bs hC.l.1 dE) rfl rfl (fun e' w4 hr=>?_);obtain⟨rfl,A2,cap2,xs2,a4,hon,hL2,hS,hA2⟩:=hr;replace hC:=hC.add hS hb5 ho;refine⟨_,rfl,?_⟩;refine qY ?_;refine e_R ⟨agA,?_⟩;exact⟨hC,_,_,_,_,a4,hon,hL2⟩
theorem small_r12 :∀(_hI:SmSt smallT smallF smallR b0 b1 b2 b3 b4 b5 b23 b93 base capt c12 c15 At A12 A15 cr 3 E9 w wc) (f:Fr) (Q:Exit->Act->World->Prop) (_k7:f 7= .func (.func 19) #[] #[.pointer (some ⟨b5,0,none⟩)]) (_k3:f 3= .pointer (some ⟨b3,0,none⟩)) (_hPQ:PQ Q),WC prog (sl (sr (sr (sr (sr (sr (sr (sr (sr (sr (sr (sr (sr (ob Tryz.f4.body)))))))))))))) (QRS 256 [113,114,115,116,117,118,119] f (fun _ w'=>SmSt smallT smallF smallR b0 b1 b2 b3 b4 b5 b23 b93 base capt c12 c15 At A12 A15 cr 4 E8 w w') Q) 256 f wc:=sC
theorem small_r13 :∀(_hI:SmSt smallT smallF smallR b0 b1 b2 b3 b4 b5 b23 b93 base capt c12 c15 At A12 A15 cr 4 E8 w wc) (f:Fr) (Q:Exit->Act->World->Prop) (_k7:f 7= .func (.func 19) #[] #[.pointer (some ⟨b5,0,none⟩)]) (_k3:f 3= .pointer (some ⟨b3,0,none⟩)) (_hPQ:PQ Q),WC prog (sl (sr (sr (sr (sr (sr (sr (sr (sr (sr (sr (sr (sr (sr (ob Tryz.f4.body))))))))))))))) (QRS 256 [120,121,122,123,124,125,126] f (fun _ w'=>SmSt smallT smallF smallR b0 b1 b2 b3 b4 b5 b23 b93 base capt c12 c15 At A12 A15 cr 5 E7 w w') Q) 256 f wc:=sC
theorem small_r14 :∀(_hI:SmSt smallT smallF smallR b0 b1 b2 b3 b4 b5 b23 b93 base capt c12 c15 At A12 A15 cr 5 E7 w wc) (f:Fr) (Q:Exit->Act->World->Prop) (_k7:f 7= .func (.func 19) #[] #[.pointer (some ⟨b5,0,none⟩)]) (_k3:f 3= .pointer (some ⟨b3,0,none⟩)) (_hPQ:PQ Q),WC prog (sl (sr (sr (sr (sr (sr (sr (sr (sr (sr (sr (sr (sr (sr (sr (ob Tryz.f4.body)))))))))))))))) (QRS 256 [127,128,129,130,131,132,133] f (fun _ w'=>SmSt smallT smallF smallR b0 b1 b2 b3 b4 b5 b23 b93 base capt c12 c15 At A12 A15 cr 6 E6 w w') Q) 256 f wc:=sC
theorem small_r15 :∀(_hI:SmSt smallT smallF smallR b0 b1 b2 b3 b4 b5 b23 b93 base capt c12 c15 At A12 A15 cr 6 E6 w wc) (f:Fr) (Q:Exit->Act->World->Prop) (_k7:f 7= .func (.func 19) #[] #[.pointer (some ⟨b5,0,none⟩)]) (_k3:f 3= .pointer (some ⟨b3,0,none⟩)) (_hPQ:PQ Q),WC prog (sl (sr (sr (sr (sr (sr (sr (sr (sr (sr (sr (sr (sr (sr (sr (sr (ob Tryz.f4.body))))))))))))))))) (QRS 256 [134,135,136,137,138,139,140] f (fun _ w'=>SmSt smallT smallF smallR b0 b1 b2 b3 b4 b5 b23 b93 base capt c12 c15 At A12 A15 cr 7 E5 w w') Q) 256 f wc:=sC
theorem small_r16 :∀(_hI:SmSt smallT smallF smallR b0 b1 b2 b3 b4 b5 b23 b93 base capt c12 c15 At A12 A15 cr 7 E5 w wc) (f:Fr) (Q:Exit->Act->World->Prop) (_k7:f 7= .func (.func 19) #[] #[.pointer (some ⟨b5,0,none⟩)]) (_k3:f 3= .pointer (some ⟨b3,0,none⟩)) (_hPQ:PQ Q),WC prog (sl (sr (sr (sr (sr (sr (sr (sr (sr (sr (sr (sr (sr (sr (sr (sr (sr (ob Tryz.f4.body)))))))))))))))))) (QRS 256 [141,142,143,144,145,146,147] f (fun _ w'=>SmSt smallT smallF smallR b0 b1 b2 b3 b4 b5 b23 b93 base capt c12 c15 At A12 A15 cr 8 E4 w w') Q) 256 f wc:=sC
theorem small_r17 :∀(_hI:SmSt smallT smallF smallR b0 b1 b2 b3 b4 b5 b23 b93 base capt c12 c15 At A12 A15 cr 8 E4 w wc) (f:Fr) (Q:Exit->Act->World->Prop) (_k7:f 7= .func (.func 19) #[] #[.pointer (some ⟨b5,0,none⟩)]) (_k3:f 3= .pointer (some ⟨b3,0,none⟩)) (_hPQ:PQ Q),WC prog (sl (sr (sr (sr (sr (sr (sr (sr (sr (sr (sr (sr (sr (sr (sr (sr (sr (sr (ob Tryz.f4.body))))))))))))))))))) (QRS 256 [148,149,150,151,152,153,154] f (fun _ w'=>SmSt smallT smallF smallR b0 b1 b2 b3 b4 b5 b23 b93 base capt c12 c15 At A12 A15 cr 9 E3 w w') Q) 256 f wc:=sC
theorem small_r18 :∀(_hI:SmSt smallT smallF smallR b0 b1 b2 b3 b4 b5 b23 b93 base capt c12 c15 At A12 A15 cr 9 E3 w wc) (f:Fr) (Q:Exit->Act->World->Prop) (_k7:f 7= .func (.func 19) #[] #[.pointer (some ⟨b5,0,none⟩)]) (_k3:f 3= .pointer (some ⟨b3,0,none⟩)) (_hPQ:PQ Q),WC prog (sl (sr (sr (sr (sr (sr (sr (sr (sr (sr (sr (sr (sr (sr (sr (sr (sr (sr (sr (ob Tryz.f4.body)))))))))))))))))))) (QRS 256 [155,156,157,158,159,160,161] f (fun _ w'=>SmSt smallT smallF smallR b0 b1 b2 b3 b4 b5 b23 b93 base capt c12 c15 At A12 A15 cr 10 I8 w w') Q) 256 f wc:=sC
theorem small_r19 :∀(_hI:SmSt smallT smallF smallR b0 b1 b2 b3 b4 b5 b23 b93 base capt c12 c15 At A12 A15 cr 10 I8 w wc) (f:Fr) (Q:Exit->Act->World->Prop) (_k7:f 7= .func (.func 19) #[] #[.pointer (some ⟨b5,0,none⟩)]) (_k3:f 3= .pointer (some ⟨b3,0,none⟩)) (_hPQ:PQ Q),WC prog (sl (sr (sr (sr (sr (sr (sr (sr (sr (sr (sr (sr (sr (sr (sr (sr (sr (sr (sr (sr (ob Tryz.f4.body))))))))))))))))))))) (QRS 256 [162,163,164,165,166,167,168] f (fun _ w'=>SmSt smallT smallF smallR b0 b1 b2 b3 b4 b5 b23 b93 base capt c12 c15 At A12 A15 cr 11 I7 w w') Q) 256 f wc:=sC
end
section
variable {w wc:World} {b0 b1 b2 b3 b4 b5 b23 b93 base capt c12 c15:Nat} {At A12 A15:Option Addr} {cr:Array Value}
theorem small_r20 :∀(_hI:SmSt smallT smallF smallR b0 b1 b2 b3 b4 b5 b23 b93 base capt c12 c15 At A12 A15 cr 11 I7 w wc) (f:Fr) (Q:Exit->Act->World->Prop) (_k7:f 7= .func (.func 19) #[] #[.pointer (some ⟨b5,0,none⟩)]) (_k3:f 3= .pointer (some ⟨b3,0,none⟩)) (_hPQ:PQ Q),WC prog (sl (sr (sr (sr (sr (sr (sr (sr (sr (sr (sr (sr (sr (sr (sr (sr (sr (sr (sr (sr (sr (ob Tryz.f4.body)))))))))))))))))))))) (QRS 256 [169,170,171,172,173,174,175] f (fun _ w'=>SmSt smallT smallF smallR b0 b1 b2 b3 b4 b5 b23 b93 base capt c12 c15 At A12 A15 cr 12 I6 w w') Q) 256 f wc:=sC
theorem small_r21 :∀(_hI:SmSt smallT smallF smallR b0 b1 b2 b3 b4 b5 b23 b93 base capt c12 c15 At A12 A15 cr 12 I6 w wc) (f:Fr) (Q:Exit->Act->World->Prop) (_k7:f 7= .func (.func 19) #[] #[.pointer (some ⟨b5,0,none⟩)]) (_k3:f 3= .pointer (some ⟨b3,0,none⟩)) (_hPQ:PQ Q),WC prog (sl (sr (sr (sr (sr (sr (sr (sr (sr (sr (sr (sr (sr (sr (sr (sr (sr (sr (sr (sr (sr (sr (ob Tryz.f4.body))))))))))))))))))))))) (QRS 256 [176,177,178,179,180,181,182] f (fun _ w'=>SmSt smallT smallF smallR b0 b1 b2 b3 b4 b5 b23 b93 base capt c12 c15 At A12 A15 cr 13 I5 w w') Q) 256 f wc:=sC
theorem small_r22 :∀(_hI:SmSt smallT smallF smallR b0 b1 b2 b3 b4 b5 b23 b93 base capt c12 c15 At A12 A15 cr 13 I5 w wc) (f:Fr) (Q:Exit->Act->World->Prop) (_k7:f 7= .func (.func 19) #[] #[.pointer (some ⟨b5,0,none⟩)]) (_k4:f 4= .pointer (some ⟨b4,0,none⟩)) (_hPQ:PQ Q),WC prog (sl (sr (sr (sr (sr (sr (sr (sr (sr (sr (sr (sr (sr (sr (sr (sr (sr (sr (sr (sr (sr (sr (sr (ob Tryz.f4.body)))))))))))))))))))))))) (QRS 256 [183,184,185,186,187,188,189] f (fun _ w'=>SmSt smallT smallF smallR b0 b1 b2 b3 b4 b5 b23 b93 base capt c12 c15 At A12 A15 cr 14 I4 w w') Q) 256 f wc:=sD
theorem small_r23 :∀(_hI:SmSt smallT smallF smallR b0 b1 b2 b3 b4 b5 b23 b93 base capt c12 c15 At A12 A15 cr 14 I4 w wc) (f:Fr) (Q:Exit->Act->World->Prop) (_k7:f 7= .func (.func 19) #[] #[.pointer (some ⟨b5,0,none⟩)]) (_k4:f 4= .pointer (some ⟨b4,0,none⟩)) (_hPQ:PQ Q),WC prog (sl (sr (sr (sr (sr (sr (sr (sr (sr (sr (sr (sr (sr (sr (sr (sr (sr (sr (sr (sr (sr (sr (sr (sr (ob Tryz.f4.body))))))))))))))))))))))))) (QRS 256 [190,191,192,193,194,195,196] f (fun _ w'=>SmSt smallT smallF smallR b0 b1 b2 b3 b4 b5 b23 b93 base capt c12 c15 At A12 A15 cr 15 I3 w w') Q) 256 f wc:=sD
theorem small_r24 :∀(_hI:SmSt smallT smallF smallR b0 b1 b2 b3 b4 b5 b23 b93 base capt c12 c15 At A12 A15 cr 15 I3 w wc) (f:Fr) (Q:Exit->Act->World->Prop) (_k7:f 7= .func (.func 19) #[] #[.pointer (some ⟨b5,0,none⟩)]) (_k4:f 4= .pointer (some ⟨b4,0,none⟩)) (_hPQ:PQ Q),WC prog (sl (sr (sr (sr (sr (sr (sr (sr (sr (sr (sr (sr (sr (sr (sr (sr (sr (sr (sr (sr (sr (sr (sr (sr (sr (ob Tryz.f4.body)))))))))))))))))))))))))) (QRS 256 [197,198,199,200,201,202,203] f (fun _ w'=>SmSt smallT smallF smallR b0 b1 b2 b3 b4 b5 b23 b93 base capt c12 c15 At A12 A15 cr 16 I2 w w') Q) 256 f wc:=sD
theorem small_r25 :∀(_hI:SmSt smallT smallF smallR b0 b1 b2 b3 b4 b5 b23 b93 base capt c12 c15 At A12 A15 cr 16 I2 w wc) (f:Fr) (Q:Exit->Act->World->Prop) (_k7:f 7= .func (.func 19) #[] #[.pointer (some ⟨b5,0,none⟩)]) (_k4:f 4= .pointer (some ⟨b4,0,none⟩)) (_hPQ:PQ Q),WC prog (sl (sr (sr (sr (sr (sr (sr (sr (sr (sr (sr (sr (sr (sr (sr (sr (sr (sr (sr (sr (sr (sr (sr (sr (sr (sr (ob Tryz.f4.body))))))))))))))))))))))))))) (QRS 256 [204,205,206,207,208,209,210] f (fun _ w'=>SmSt smallT smallF smallR b0 b1 b2 b3 b4 b5 b23 b93 base capt c12 c15 At A12 A15 cr 17 I1 w w') Q) 256 f wc:=sD
theorem small_r26(hI:SmSt smallT smallF smallR b0 b1 b2 b3 b4 b5 b23 b93 base capt c12 c15 At A12 A15 cr 17 I1 w wc)(f:Fr)(Q:Exit->Act->World->Prop)(k7:f 7= .func (.func 19) #[] #[.pointer (some ⟨b5,0,none⟩)])(k2:f 2= .pointer (some ⟨b2,0,none⟩))(_hPQ:PQ Q):WC prog (sl (sr (sr (sr (sr (sr (sr (sr (sr (sr (sr (sr (sr (sr (sr (sr (sr (sr (sr (sr (sr (sr (sr (sr (sr (sr (sr (ob Tryz.f4.body)))))))))))))))))))))))))))) (QRS 256 [211,212,213,214,215,216,217,218] f (fun _ w'=>SmSt smallT smallF smallR b0 b1 b2 b3 b4 b5 b23 b93 base capt c12 c15 At A12 A15 cr 18 I0 w w') Q) 256 f wc:=by
 have hb2:=hI.1.k2;refine zQ 7 _ k7 nu (zQ 2 _ k2 nu (zn4 ?_));refine zW KZ (Qk [] (Ts.b true) (Ts.b true) _ _ _ _ _ _ _ (by simp) (Fz.triv _ _ TS (fun _=>SimsIn.nil)) (Fz.triv _ _ TS (fun _=>SimsIn.nil))) rfl (fun e' w1 hr=>?_);obtain⟨⟨_,rfl,A214,c214,n214,rfl,a2⟩,s1⟩:=hr;replace s1:=sB s1;refine⟨_,rfl,?_⟩;refine zW VZ (Z9 [] ⟨#[110,111,116]⟩ (Ts.f (Ts.b true) (Ts.b true)) _ _ _ _ a2) rfl (fun e' w2 hr=>?_);obtain⟨⟨_,rfl,S215,c215,B215,m215,n215,rfl,a1⟩,s2⟩:=hr;replace s2:=sB s2;refine⟨_,rfl,?_⟩;refine qZ (cs:=#[_]) [(0,.int _ _)] rfl U62 qJ qX dE dE kR rfl (fun b216 w3 a4 s3 hr=>?_);refine qZ (cs:=#[_]) [(0,.slice _ _ _)] rfl U69 yw xJ dE dE kR rfl (fun b217 w4 a3 s4 hr=>?_);replace hI:=hI.tr0 (s1.t (s2.t (s3.t s4)));obtain⟨hC,A,cap,xs,nL,hb5,ho,hL⟩:=hI;replace a1:=a1.tr0 (s3.t s4);refine yk rfl VQ (Zz ⟨#[110,111,116]⟩ 0 (Tv.con ⟨#[110,111,116]⟩ (Ts.f (Ts.b true) (Ts.b true))) _ _ _ _ _ _ [[13]] _ _ base _ _ _ _ _ _ _ _ _ I1 _ dE (xz (rs:=[[13]]) a3 (.cons ⟨_,_,rfl,(qK [13] a4.u dE),by decide,by decide⟩ .nil) dE) a1 hb5 ho hL hC.bs hC.l.1 dE) rfl rfl (fun e' w5 hr=>?_);obtain⟨rfl,A2,cap2,xs2,a5,hon,hL2,hS,hA2⟩:=hr;replace hC:=hC.add hS hb5 ho;refine⟨_,rfl,?_⟩;refine qY ?_;refine e_R ⟨agA,?_⟩;exact⟨hC,_,_,_,_,a5,hon,hL2⟩
theorem small_r27(hI:SmSt smallT smallF smallR b0 b1 b2 b3 b4 b5 b23 b93 base capt c12 c15 At A12 A15 cr 18 I0 w wc)(f:Fr)(Q:Exit->Act->World->Prop)(k7:f 7= .func (.func 19) #[] #[.pointer (some ⟨b5,0,none⟩)])(k2:f 2= .pointer (some ⟨b2,0,none⟩))(_hPQ:PQ Q):WC prog (sl (sr (sr (sr (sr (sr (sr (sr (sr (sr (sr (sr (sr (sr (sr (sr (sr (sr (sr (sr (sr (sr (sr (sr (sr (sr (sr (sr (ob Tryz.f4.body))))))))))))))))))))))))))))) (QRS 256 [219,220,221,222,223,224,225,226,227,228] f (fun _ w'=>SmSt smallT smallF smallR b0 b1 b2 b3 b4 b5 b23 b93 base capt c12 c15 At A12 A15 cr 19 KY w w') Q) 256 f wc:=by
 have bg:=hI.1.k2;refine zQ 7 _ k7 nu (zQ 2 _ k2 nu ?_);refine uX 9 [219,220,221,222,223,224,225,226,227] (fun _=>false) (fun ix v wv=>match ix with|0=>v= .func (.func 19) #[] #[.pointer (some ⟨b5,0,none⟩)]|1=>v= .agg cM|2=>v= .agg cM|3=>v= .agg cM|4=>SmD [] (Ts.f (Ts.b true) (Ts.b true)) wv (v)|5=>SmD [] (Ts.f (Ts.b true) (Ts.f (Ts.b true) (Ts.b true))) wv (v)|6=>TmD [] (Tv.con ⟨#[97,110,100]⟩ (Ts.f (Ts.b true) (Ts.f (Ts.b true) (Ts.b true)))) wv (v)|7=>IsP [14] wv (v)|8=>RsP [[14]] wv (v)|_=>True) kR kR ?_ ?_ ?_
 ·intro ix v wv wv2 h s1
  match ix,h with
  | 0,h=>exact h
  | 1,h=>exact h
  | 2,h=>exact h
  | 3,h=>exact h
  | 4,h=>
   obtain⟨bd,b9,ao,ac,a3⟩:=h;exact⟨bd,b9,ao,ac,a3.tr0 s1⟩
  | 5,h=>
   obtain⟨bc,b8,an,ab,a2⟩:=h;exact⟨bc,b8,an,ab,a2.tr0 s1⟩
  | 6,h=>
   obtain⟨ba,b7,bb,b6,ad,a9,a1⟩:=h;exact⟨ba,b7,bb,b6,ad,a9,a1.tr0 s1⟩
  | 7,h=>
   exact IsP.tr0 h s1
  | 8,h=>
   exact RsP.tr0 h s1
  | _+9,h=>exact trivial
 ·intro ix o hix hoq gg wx s2 hd be
  match ix,hix,hoq with
  | 0,_,hoq=>
   cases sI hoq;exact oVq (x6 (v:= .func _ _ _) rfl) rfl
  | 1,_,hoq=>
   cases sI hoq;exact oVq (qw U31 rfl rfl bg.u.range0 vx) rfl
  | 2,_,hoq=>
   cases sI hoq;exact oVq (qw U31 rfl rfl bg.u.range0 vx) rfl
  | 3,_,hoq=>
   cases sI hoq;exact oVq (qw U31 rfl rfl bg.u.range0 vx) rfl
  | 4,_,hoq=>
   cases sI hoq;refine aZ 221 (hd 2 a6) (aZ 222 (hd 3 a6) ?_);refine vw KZ (Qk [] (Ts.b true) (Ts.b true) _ _ _ _ _ _ wx (by simp) (Fz.triv _ _ TS (fun _=>SimsIn.nil)) (Fz.triv _ _ TS (fun _=>SimsIn.nil))) rfl (fun e' w2 hr=>?_);obtain⟨⟨_,rfl,hd⟩,s3⟩:=hr;exact⟨_,rfl,sB s3,hd,y6⟩
  | 5,_,hoq=>
   cases sI hoq;obtain⟨bd,b9,ao,ac,a3⟩:=hd 4 (zj kR);refine aZ 220 (hd 1 a6) (zq 223 _ ac nu ?_);refine vw KZ (Qk [] (Ts.b true) (Ts.f (Ts.b true) (Ts.b true)) _ _ _ _ _ _ wx (by simp) (Fz.triv _ _ TS (fun _=>SimsIn.nil)) a3) rfl (fun e' w2 hr=>?_);obtain⟨⟨_,rfl,hd⟩,s4⟩:=hr;exact⟨_,rfl,sB s4,hd,y6⟩
  | 6,_,hoq=>
   cases sI hoq;obtain⟨bc,b8,an,ab,a2⟩:=hd 5 (zj kR);refine zq 224 _ ab nu ?_;refine vw VZ (Z9 [] ⟨#[97,110,100]⟩ (Ts.f (Ts.b true) (Ts.f (Ts.b true) (Ts.b true))) _ _ _ wx a2) rfl (fun e' w2 hr=>?_);obtain⟨⟨_,rfl,hd⟩,s5⟩:=hr;exact⟨_,rfl,sB s5,hd,y6⟩
  | 7,_,hoq=>
   cases sI hoq;exact jK [14] rfl U62 qJ qX
  | 8,_,hoq=>
   cases sI hoq;obtain⟨b226,bi,a8⟩:=hd 7 (zj kR);refine zq 226 _ bi nu ?_;refine jq (fun ops Q K=>?_);refine qZ (cs:=#[_]) [(0,.slice _ _ _)] rfl U69 yw xJ dE dE kR rfl (fun bj w1 a4 s6 hr=>?_);exact K _ _ ⟨s6,⟨_,rfl,xz (rs:=[[14]]) a4 (.cons ⟨_,_,rfl,(a8.mono s6.bel),by decide,by decide⟩ .nil) dE⟩,fRq hr a4.lt⟩
  | _+9,hix,_=>exact absurd hix oG
 intro gg w2 s7 hR be;obtain⟨ba,b7,bb,b6,ad,a9,a1⟩:=hR 6 dE;obtain⟨bj,bh,a5⟩:=hR 8 dE;refine x8 219 _ (hR 0 dE) nu (x8 225 _ a9 nu (x8 227 _ bh nu ?_));replace hI:=hI.tr0 s7;obtain⟨hC,A,cap,xs,nL,hb5,ho,hL⟩:=hI;refine yk rfl VQ (Zz ⟨#[97,110,100]⟩ 0 (Tv.con ⟨#[97,110,100]⟩ (Ts.f (Ts.b true) (Ts.f (Ts.b true) (Ts.b true)))) _ _ _ _ _ _ [[14]] _ _ base _ _ _ _ _ _ _ _ _ I0 _ dE a5 a1 hb5 ho hL hC.bs hC.l.1 dE) rfl rfl (fun e' w3 hr=>?_);obtain⟨rfl,A2,cap2,xs2,bf,hon,hL2,hS,hA2⟩:=hr;replace hC:=hC.add hS hb5 ho;refine⟨_,rfl,?_⟩;refine qY ?_;refine e_R ⟨agA,?_⟩;exact⟨hC,_,_,_,_,bf,hon,hL2⟩
theorem small_r28(hI:SmSt smallT smallF smallR b0 b1 b2 b3 b4 b5 b23 b93 base capt c12 c15 At A12 A15 cr 19 KY w wc)(f:Fr)(Q:Exit->Act->World->Prop)(k7:f 7= .func (.func 19) #[] #[.pointer (some ⟨b5,0,none⟩)])(k1:f 1= .pointer (some ⟨b1,0,none⟩))(k3:f 3= .pointer (some ⟨b3,0,none⟩))(_hPQ:PQ Q):WC prog (sl (sr (sr (sr (sr (sr (sr (sr (sr (sr (sr (sr (sr (sr (sr (sr (sr (sr (sr (sr (sr (sr (sr (sr (sr (sr (sr (sr (sr (ob Tryz.f4.body)))))))))))))))))))))))))))))) (QRS 256 [229,230,231,232,233,234,235,236,237,238,239] f (fun _ w'=>SmSt smallT smallF smallR b0 b1 b2 b3 b4 b5 b23 b93 base capt c12 c15 At A12 A15 cr 20 KW w w') Q) 256 f wc:=by
 have hb1:=hI.1.k1;have hb3:=hI.1.k3;have ac:=hI.1.p12;refine zQ 7 _ k7 nu (zQ 1 _ k1 nu (zQ 3 _ k3 nu ?_));refine uX 10 [229,230,231,232,233,234,235,236,237,238] (fun _=>false) (fun ix v wv=>match ix with|0=>v= .func (.func 19) #[] #[.pointer (some ⟨b5,0,none⟩)]|1=>v= .agg #[.string (tyET).sm.base,.slice A12 (tyET).sm.args.length c12]|2=>TmD [] (Tv.var 0) wv (v)|3=>v= .agg #[.string ((Ts.b false)).sm.base,.slice none ((Ts.b false)).sm.args.length 0]|4=>TmD [] (Tv.con ⟨#[114,101,120]⟩ (Ts.b false)) wv (v)|5=>TmD [] (Tv.app (Tv.var 0) (Tv.con ⟨#[114,101,120]⟩ (Ts.b false))) wv (v)|6=>TmD [] (Tv.abs tyET (Tv.app (Tv.var 0) (Tv.con ⟨#[114,101,120]⟩ (Ts.b false)))) wv (v)|7=>IsP [7,4,1] wv (v)|8=>IsP [4] wv (v)|9=>RsP [[7,4,1],[4]] wv (v)|_=>True) kR kR ?_ ?_ ?_
 ·intro ix v wv wv2 h s1
  match ix,h with
  | 0,h=>exact h
  | 1,h=>exact h
  | 2,h=>
   obtain⟨bn,bi,bt,be,ba,b6,a4⟩:=h;exact⟨bn,bi,bt,be,ba,b6,a4.tr0 s1⟩
  | 3,h=>exact h
  | 4,h=>
   obtain⟨bm,bh,br,bd,b9,ao,a3⟩:=h;exact⟨bm,bh,br,bd,b9,ao,a3.tr0 s1⟩
  | 5,h=>
   obtain⟨bk,bg,bq,bc,b8,an,a2⟩:=h;exact⟨bk,bg,bq,bc,b8,an,a2.tr0 s1⟩
  | 6,h=>
   obtain⟨bj,bf,bo,bb,b7,ad,a1⟩:=h;exact⟨bj,bf,bo,bb,b7,ad,a1.tr0 s1⟩
  | 7,h=>
   exact IsP.tr0 h s1
  | 8,h=>
   exact IsP.tr0 h s1
  | 9,h=>
   exact RsP.tr0 h s1
  | _+10,h=>exact trivial
 ·intro ix o hix hoq gg wx s2 hd bu
  match ix,hix,hoq with
  | 0,_,hoq=>
   cases sI hoq;exact oVq (x6 (v:= .func _ _ _) rfl) rfl
  | 1,_,hoq=>
   cases sI hoq;exact oVq (qw U31 rfl rfl hb3.u.range0 vx) rfl
  | 2,_,hoq=>
   cases sI hoq;refine vw YQ (jw [] 0 wx) rfl (fun e' w2 hr=>?_);obtain⟨⟨_,rfl,hd⟩,s3⟩:=hr;exact⟨_,rfl,sB s3,hd,y6⟩
  | 3,_,hoq=>
   cases sI hoq;exact oVq (qw U31 rfl rfl hb1.u.range0 vx) rfl
  | 4,_,hoq=>
   cases sI hoq;refine aZ 232 (hd 3 a6) ?_;refine vw VZ (Z9 [] ⟨#[114,101,120]⟩ (Ts.b false) _ _ _ wx (Fz.triv _ _ TS (fun _=>SimsIn.nil))) rfl (fun e' w2 hr=>?_);obtain⟨⟨_,rfl,hd⟩,s4⟩:=hr;exact⟨_,rfl,sB s4,hd,y6⟩
  | 5,_,hoq=>
   cases sI hoq;obtain⟨bn,bi,bt,be,ba,b6,a4⟩:=hd 2 (zj kR);obtain⟨bm,bh,br,bd,b9,ao,a3⟩:=hd 4 (zj kR);refine zq 231 _ b6 nu (zq 233 _ ao nu ?_);refine vw K5 (Qx [] (Tv.var 0) (Tv.con ⟨#[114,101,120]⟩ (Ts.b false)) _ _ _ _ _ _ _ _ _ _ wx (by simp) a4 a3) rfl (fun e' w2 hr=>?_);obtain⟨⟨_,rfl,hd⟩,s5⟩:=hr;exact⟨_,rfl,sB s5,hd,y6⟩
  | 6,_,hoq=>
   cases sI hoq;obtain⟨bk,bg,bq,bc,b8,an,a2⟩:=hd 5 (zj kR);refine aZ 230 (hd 1 a6) (zq 234 _ an nu ?_);replace ac:=ac.tr0 s2;refine vw YX (gw [] tyET (Tv.app (Tv.var 0) (Tv.con ⟨#[114,101,120]⟩ (Ts.b false))) _ _ _ _ _ _ _ _ wx (by simp) ac a2) rfl (fun e' w2 hr=>?_);obtain⟨⟨_,rfl,hd⟩,s6⟩:=hr;exact⟨_,rfl,sB s6,hd,y6⟩
  | 7,_,hoq=>
   cases sI hoq;exact jK [7,4,1] rfl U62 qJ qX
  | 8,_,hoq=>
   cases sI hoq;exact jK [4] rfl U62 qJ qX
  | 9,_,hoq=>
   cases sI hoq;obtain⟨b236,bz,ab⟩:=hd 7 (zj kR);obtain⟨b237,bx,a9⟩:=hd 8 (zj kR);refine zq 236 _ bz nu (zq 237 _ bx nu ?_);refine jq (fun ops Q K=>?_);refine qZ (cs:=#[_,_]) [(0,.slice _ _ _),(1,.slice _ _ _)] rfl U69 yw xJ dE dE kR rfl (fun c0 w1 a5 s7 hr=>?_);exact K _ _ ⟨s7,⟨_,rfl,xz (rs:=[[7,4,1],[4]]) a5 (.cons ⟨_,_,rfl,(ab.mono s7.bel),by decide,by decide⟩ (.cons ⟨_,_,rfl,(a9.mono s7.bel),by decide,by decide⟩ .nil)) dE⟩,fRq hr a5.lt⟩
  | _+10,hix,_=>exact absurd hix oG
 intro gg w2 s8 hR bu;obtain⟨bj,bf,bo,bb,b7,ad,a1⟩:=hR 6 dE;obtain⟨c0,bw,a8⟩:=hR 9 dE;refine x8 229 _ (hR 0 dE) nu (x8 235 _ ad nu (x8 238 _ bw nu ?_));replace hI:=hI.tr0 s8;obtain⟨hC,A,cap,xs,nL,hb5,ho,hL⟩:=hI;refine yk rfl VQ (Zz ⟨#[114,101,120]⟩ 0 (Tv.abs tyET (Tv.app (Tv.var 0) (Tv.con ⟨#[114,101,120]⟩ (Ts.b false)))) _ _ _ _ _ _ [[7,4,1],[4]] _ _ base _ _ _ _ _ _ _ _ _ KY _ dE a8 a1 hb5 ho hL hC.bs hC.l.1 dE) rfl rfl (fun e' w3 hr=>?_);obtain⟨rfl,A2,cap2,xs2,bv,hon,hL2,hS,hA2⟩:=hr;replace hC:=hC.add hS hb5 ho;refine⟨_,rfl,?_⟩;refine qY ?_;refine e_R ⟨agA,?_⟩;exact⟨hC,_,_,_,_,bv,hon,hL2⟩
theorem small_r29(hI:SmSt smallT smallF smallR b0 b1 b2 b3 b4 b5 b23 b93 base capt c12 c15 At A12 A15 cr 20 KW w wc)(f:Fr)(Q:Exit->Act->World->Prop)(k7:f 7= .func (.func 19) #[] #[.pointer (some ⟨b5,0,none⟩)])(k1:f 1= .pointer (some ⟨b1,0,none⟩))(k3:f 3= .pointer (some ⟨b3,0,none⟩))(_hPQ:PQ Q):WC prog (sl (sr (sr (sr (sr (sr (sr (sr (sr (sr (sr (sr (sr (sr (sr (sr (sr (sr (sr (sr (sr (sr (sr (sr (sr (sr (sr (sr (sr (sr (ob Tryz.f4.body))))))))))))))))))))))))))))))) (QRS 256 [240,241,242,243,244,245,246,247,248,249,250] f (fun _ w'=>SmSt smallT smallF smallR b0 b1 b2 b3 b4 b5 b23 b93 base capt c12 c15 At A12 A15 cr 21 Bz w w') Q) 256 f wc:=by
 have hb1:=hI.1.k1;have hb3:=hI.1.k3;have ac:=hI.1.p12;refine zQ 7 _ k7 nu (zQ 1 _ k1 nu (zQ 3 _ k3 nu ?_));refine uX 10 [240,241,242,243,244,245,246,247,248,249] (fun _=>false) (fun ix v wv=>match ix with|0=>v= .func (.func 19) #[] #[.pointer (some ⟨b5,0,none⟩)]|1=>v= .agg #[.string (tyET).sm.base,.slice A12 (tyET).sm.args.length c12]|2=>TmD [] (Tv.var 0) wv (v)|3=>v= .agg #[.string ((Ts.b false)).sm.base,.slice none ((Ts.b false)).sm.args.length 0]|4=>TmD [] (Tv.con ⟨#[109,105,97]⟩ (Ts.b false)) wv (v)|5=>TmD [] (Tv.app (Tv.var 0) (Tv.con ⟨#[109,105,97]⟩ (Ts.b false))) wv (v)|6=>TmD [] (Tv.abs tyET (Tv.app (Tv.var 0) (Tv.con ⟨#[109,105,97]⟩ (Ts.b false)))) wv (v)|7=>IsP [7,4,1] wv (v)|8=>IsP [4] wv (v)|9=>RsP [[7,4,1],[4]] wv (v)|_=>True) kR kR ?_ ?_ ?_
 ·intro ix v wv wv2 h s1
  match ix,h with
  | 0,h=>exact h
  | 1,h=>exact h
  | 2,h=>
   obtain⟨bn,bi,bt,be,ba,b6,a4⟩:=h;exact⟨bn,bi,bt,be,ba,b6,a4.tr0 s1⟩
  | 3,h=>exact h
  | 4,h=>
   obtain⟨bm,bh,br,bd,b9,ao,a3⟩:=h;exact⟨bm,bh,br,bd,b9,ao,a3.tr0 s1⟩
  | 5,h=>
   obtain⟨bk,bg,bq,bc,b8,an,a2⟩:=h;exact⟨bk,bg,bq,bc,b8,an,a2.tr0 s1⟩
  | 6,h=>
   obtain⟨bj,bf,bo,bb,b7,ad,a1⟩:=h;exact⟨bj,bf,bo,bb,b7,ad,a1.tr0 s1⟩
  | 7,h=>
   exact IsP.tr0 h s1
  | 8,h=>
   exact IsP.tr0 h s1
  | 9,h=>
   exact RsP.tr0 h s1
  | _+10,h=>exact trivial
 ·intro ix o hix hoq gg wx s2 hd bu
  match ix,hix,hoq with
  | 0,_,hoq=>
   cases sI hoq;exact oVq (x6 (v:= .func _ _ _) rfl) rfl
  | 1,_,hoq=>
   cases sI hoq;exact oVq (qw U31 rfl rfl hb3.u.range0 vx) rfl
  | 2,_,hoq=>
   cases sI hoq;refine vw YQ (jw [] 0 wx) rfl (fun e' w2 hr=>?_);obtain⟨⟨_,rfl,hd⟩,s3⟩:=hr;exact⟨_,rfl,sB s3,hd,y6⟩
  | 3,_,hoq=>
   cases sI hoq;exact oVq (qw U31 rfl rfl hb1.u.range0 vx) rfl
  | 4,_,hoq=>
   cases sI hoq;refine aZ 243 (hd 3 a6) ?_;refine vw VZ (Z9 [] ⟨#[109,105,97]⟩ (Ts.b false) _ _ _ wx (Fz.triv _ _ TS (fun _=>SimsIn.nil))) rfl (fun e' w2 hr=>?_);obtain⟨⟨_,rfl,hd⟩,s4⟩:=hr;exact⟨_,rfl,sB s4,hd,y6⟩
  | 5,_,hoq=>
   cases sI hoq;obtain⟨bn,bi,bt,be,ba,b6,a4⟩:=hd 2 (zj kR);obtain⟨bm,bh,br,bd,b9,ao,a3⟩:=hd 4 (zj kR);refine zq 242 _ b6 nu (zq 244 _ ao nu ?_);refine vw K5 (Qx [] (Tv.var 0) (Tv.con ⟨#[109,105,97]⟩ (Ts.b false)) _ _ _ _ _ _ _ _ _ _ wx (by simp) a4 a3) rfl (fun e' w2 hr=>?_);obtain⟨⟨_,rfl,hd⟩,s5⟩:=hr;exact⟨_,rfl,sB s5,hd,y6⟩
  | 6,_,hoq=>
   cases sI hoq;obtain⟨bk,bg,bq,bc,b8,an,a2⟩:=hd 5 (zj kR);refine aZ 241 (hd 1 a6) (zq 245 _ an nu ?_);replace ac:=ac.tr0 s2;refine vw YX (gw [] tyET (Tv.app (Tv.var 0) (Tv.con ⟨#[109,105,97]⟩ (Ts.b false))) _ _ _ _ _ _ _ _ wx (by simp) ac a2) rfl (fun e' w2 hr=>?_);obtain⟨⟨_,rfl,hd⟩,s6⟩:=hr;exact⟨_,rfl,sB s6,hd,y6⟩
  | 7,_,hoq=>
   cases sI hoq;exact jK [7,4,1] rfl U62 qJ qX
  | 8,_,hoq=>
   cases sI hoq;exact jK [4] rfl U62 qJ qX
  | 9,_,hoq=>
   cases sI hoq;obtain⟨b247,bz,ab⟩:=hd 7 (zj kR);obtain⟨b248,bx,a9⟩:=hd 8 (zj kR);refine zq 247 _ bz nu (zq 248 _ bx nu ?_);refine jq (fun ops Q K=>?_);refine qZ (cs:=#[_,_]) [(0,.slice _ _ _),(1,.slice _ _ _)] rfl U69 yw xJ dE dE kR rfl (fun c0 w1 a5 s7 hr=>?_);exact K _ _ ⟨s7,⟨_,rfl,xz (rs:=[[7,4,1],[4]]) a5 (.cons ⟨_,_,rfl,(ab.mono s7.bel),by decide,by decide⟩ (.cons ⟨_,_,rfl,(a9.mono s7.bel),by decide,by decide⟩ .nil)) dE⟩,fRq hr a5.lt⟩
  | _+10,hix,_=>exact absurd hix oG
 intro gg w2 s8 hR bu;obtain⟨bj,bf,bo,bb,b7,ad,a1⟩:=hR 6 dE;obtain⟨c0,bw,a8⟩:=hR 9 dE;refine x8 240 _ (hR 0 dE) nu (x8 246 _ ad nu (x8 249 _ bw nu ?_));replace hI:=hI.tr0 s8;obtain⟨hC,A,cap,xs,nL,hb5,ho,hL⟩:=hI;refine yk rfl VQ (Zz ⟨#[109,105,97]⟩ 0 (Tv.abs tyET (Tv.app (Tv.var 0) (Tv.con ⟨#[109,105,97]⟩ (Ts.b false)))) _ _ _ _ _ _ [[7,4,1],[4]] _ _ base _ _ _ _ _ _ _ _ _ KW _ dE a8 a1 hb5 ho hL hC.bs hC.l.1 dE) rfl rfl (fun e' w3 hr=>?_);obtain⟨rfl,A2,cap2,xs2,bv,hon,hL2,hS,hA2⟩:=hr;replace hC:=hC.add hS hb5 ho;refine⟨_,rfl,?_⟩;refine qY ?_;refine e_R ⟨agA,?_⟩;exact⟨hC,_,_,_,_,bv,hon,hL2⟩
end
theorem sz42:(prog.info? 42).map (·.size)=some 5:=by kernel_rfl
theorem sz64_DSm:(prog.info? 64).map (·.size)=some 3:=by kernel_rfl
theorem ze42:(prog.info? 42).map (·.zero)=some (some (.agg cO)):=by kernel_rfl
theorem ze64_DSm:(prog.info? 64).map (·.zero)=some (some (.agg #[.string ⟨#[]⟩,.int .i64 0,.int .i64 0])):=by kernel_rfl
theorem ze9:(prog.info? 9).map (·.zero)=some (some (.string ⟨#[]⟩)):=by kernel_rfl
set_option maxHeartbeats 8000000 in
theorem small_d(w:World):Calls prog 4 #[] w fun e w'=>(∃ v,e= .returned v/\GmD smallT smallF smallR smallX smallS w w' v)/\Bel w w':=by
 refine enT func4 ntmps4 rfl rfl fun hB=>?_;refine zn2 ?_;refine qQ (cs:=cO) ze42 rfl (fun b0 w1 ao s1 hr=>?_);have lo0:=hB.ob hr;refine zn4 ?_;refine a7 kR (ZJ _ _) rfl (fun w2 s2=>?_);refine a7 kR (ZJ _ _) rfl (fun w3 s3=>?_);refine qQ (cs:=#[.string ⟨#[]⟩,.slice none 0 0]) jk rfl (fun b1 w4 bk s4 hr=>?_);have:=ao.u.ob hr;have lo1:=hB.u.ob hr;refine qQ (cs:=#[.string ⟨#[]⟩,.slice none 0 0]) jk rfl (fun b2 w5 br s5 hr=>?_);have:=ao.u.ob hr;have:=bk.ob hr;have lo2:=hB.u.ob hr;refine zV bk.u (fun w6 hq s6=>?_);replace bk:=hq;refine zV br.u (fun w7 hq s7=>?_);replace br:=hq;refine zn6 ?_;refine zW KZ (Qk [] (Ts.b false) (Ts.b true) _ _ _ _ _ _ _ (by simp) (Fz.triv _ _ TS (fun _=>SimsIn.nil)) (Fz.triv _ _ TS (fun _=>SimsIn.nil))) rfl (fun e' w8 hr=>?_);obtain⟨⟨_,rfl,ac,a9,n12,rfl,a4⟩,s8⟩:=hr;replace s8:=sB s8;refine⟨_,rfl,?_⟩;refine y8 (cs:=#[.string ⟨#[]⟩,.slice none 0 0]) jk rfl (fun _=>rfl) (fun _=>rfl) vx rfl xW (fun b3 w10 c2 s9 hr=>?_);refine zn6 ?_;replace a4:=a4.tr0 s9;refine zW KZ (Qk [] (Ts.b false) (Ts.f (Ts.b false) (Ts.b true)) _ _ _ _ _ _ _ (by simp) (Fz.triv _ _ TS (fun _=>SimsIn.nil)) a4) rfl (fun e' w11 hr=>?_);obtain⟨⟨_,rfl,ab,a8,n15,rfl,an⟩,bq⟩:=hr;replace bq:=sB bq;refine⟨_,rfl,?_⟩;refine y8 (cs:=#[.string ⟨#[]⟩,.slice none 0 0]) jk rfl (fun _=>rfl) (fun _=>rfl) vx rfl xW (fun b4 w13 c1 bw hr=>?_);refine zn4 ?_;refine qQ (cs:=cO) ze42 rfl (fun b5 w14 a2 bo hr=>?_);have bd:b0<b5:=ao.u.ob hr;have bc:b1<b5:=bk.u.ob hr;have bb:b2<b5:=br.u.ob hr;have ba:b3<b5:=c2.u.ob hr;have b9:b4<b5:=c1.ob hr;have lo5:=hB.u.ob hr;refine zn4 ?_;refine qZ (cs:=#[_,_,_,_,_,_,_,_,_,_,_,_,_,_,_]) [(0,.string _),(1,.string _),(2,.string _),(3,.string _),(4,.string _),(5,.string _),(6,.string _),(7,.string _),(8,.string _),(9,.string _),(10,.string _),(11,.string _),(12,.string _),(13,.string _),(14,.string _)] rfl underlying61 sz9_DHo ze9 dE dE kR rfl (fun b16 w15 cc bj hr=>?_);refine qZ (cs:=#[_,_,_,_,_,_,_,_,_,_,_,_,_,_,_]) [(0,.int _ _),(1,.int _ _),(2,.int _ _),(3,.int _ _),(4,.int _ _),(5,.int _ _),(6,.int _ _),(7,.int _ _),(8,.int _ _),(9,.int _ _),(10,.int _ _),(11,.int _ _),(12,.int _ _),(13,.int _ _),(14,.int _ _)] rfl U62 W7 qX dE dE kR rfl (fun b17 w16 cb bi hr=>?_)
 refine wl (Ix (v0:= .string _) (v1:= .int _ _) (v2:= .int _ _) (fun v0 v1 v2=>#[v0,v1,v2]) rfl rfl rfl kR) (wl (Ix (v0:= .string _) (v1:= .int _ _) (v2:= .int _ _) (fun v0 v1 v2=>#[v0,v1,v2]) rfl rfl rfl kR) (wl (Ix (v0:= .string _) (v1:= .int _ _) (v2:= .int _ _) (fun v0 v1 v2=>#[v0,v1,v2]) rfl rfl rfl kR) (wl (Ix (v0:= .string _) (v1:= .int _ _) (v2:= .int _ _) (fun v0 v1 v2=>#[v0,v1,v2]) rfl rfl rfl kR) (wl (Ix (v0:= .string _) (v1:= .int _ _) (v2:= .int _ _) (fun v0 v1 v2=>#[v0,v1,v2]) rfl rfl rfl kR) ?_))));refine qZ (cs:=#[_,_,_,_,_,_,_,_,_,_,_,_,_,_,_]) [(0,.agg _),(1,.agg _),(2,.agg _),(3,.agg _),(4,.agg _)] rfl U23 sz64_DSm ze64_DSm dE dE kR rfl (fun a5 w17 bx bh hr=>?_);refine zW kR (TK (some ⟨b16,0,none⟩) (some ⟨b17,0,none⟩) _ _ _ _ _ smallN smallP _ (GK smallN cc.u) (qK smallP cb.u dE) dE rfl) rfl (fun e' w18 hr=>?_);obtain⟨⟨At,a1,rfl,bn⟩,b8⟩:=hr;replace b8:=sB b8;replace bx:=bx.tr0 b8;have bz:=(Fz.blk (X:=[]) (ts:=TS) bx (by simp) (Px dE dE dE _)).imp (fun _ h=>HW smallF h dE);replace bn:Fz [] _ TS w18 (fun w=>TypesIn w At smallT):=bn;refine⟨_,rfl,?_⟩;refine zn1 ?_;replace a2:=a2.tr0 (bj.t (bi.t (bh.t b8)));refine Jj a2 rfl rfl E1 (by first|decide|simp) xW rfl (fun w19 hq be=>?_);replace a4:=a4.tr0 (bq.t (bw.t (bo.t (bj.t (bi.t (bh.t b8))))));replace a4:=a4.sp1 be a2 (.inl dE);replace an:=an.tr0 (bw.t (bo.t (bj.t (bi.t (bh.t b8)))));replace an:=an.sp1 be a2 (.inl dE);replace bn:=bn.sp1 be a2 (.inl dE);replace bz:=bz.sp1 be a2 (.inl dE);replace a2:=hq;refine zn4 ?_;refine zW kR (meanings_d _) rfl (fun e' w20 hr=>?_);obtain⟨⟨bm,csm,nm,rfl,hbm,hTm⟩,b6⟩:=hr;replace b6:=sB b6;refine⟨_,rfl,?_⟩;refine zn4 ?_;refine xv (rg [] 27 68) (fun g w'=>Same [b5] w20 w'/\∃ a3 cr nRl,w20.heap.size<=a3/\Blk w' a3 68 cr/\Fz [] nRl TS w' (fun w=>RlCs w smallR cr.toList)/\Blk w' b5 42 #[.slice At 15 a1,.slice (some ⟨a5,0,none⟩) 5 5,.slice (some ⟨a3,0,none⟩) 6 6,.slice none 0 0,.slice none 0 0]) ?_ (fun g7 w21 hI=>?_)
 ·replace a2:=a2.tr0 b6;have hh:=fun f Q k0 k1 kq=>small_r7 a2 hbm hTm f Q k0 k1 kq
  exact hh _ _ (by rfl) (by rfl) (by intro d;cases d<;>exact fun _ _ _ _ h=>h)
 obtain⟨bf,a3,cr,nRl,c3,b7,hRl,ca⟩:=hI;have c7:b5<a3:=nLL a2.u.lt c3;replace hB:=(((((hB.tr0 (s1.t (s2.t (s3.t (s4.t s5))))).tr1 s6 lo1).tr1 s7 lo2).tr0 (s8.t (s9.t (bq.t (bw.t (bo.t (bj.t (bi.t (bh.t b8))))))))).tr1 be lo5).tr0 b6;have lo93:=nLT (Bel.size hB) c3;replace hB:=hB.tr1 bf lo5;replace ao:=(((((ao.tr0 (s2.t (s3.t (s4.t s5)))).tr1 s6 oG).tr1 s7 oG).tr0 (s8.t (s9.t (bq.t (bw.t (bo.t (bj.t (bi.t (bh.t b8))))))))).tr1 be oG).tr0 b6;replace ao:=ao.tr1 bf oG;replace bk:=(((bk.tr1 s7 oG).tr0 (s8.t (s9.t (bq.t (bw.t (bo.t (bj.t (bi.t (bh.t b8))))))))).tr1 be oG).tr0 b6;replace bk:=bk.tr1 bf oG;replace br:=((br.tr0 (s8.t (s9.t (bq.t (bw.t (bo.t (bj.t (bi.t (bh.t b8))))))))).tr1 be oG).tr0 b6;replace br:=br.tr1 bf oG;replace c2:=((c2.tr0 (bq.t (bw.t (bo.t (bj.t (bi.t (bh.t b8))))))).tr1 be oG).tr0 b6;replace c2:=c2.tr1 bf oG;replace c1:=((c1.tr0 (bo.t (bj.t (bi.t (bh.t b8))))).tr1 be oG).tr0 b6;replace c1:=c1.tr1 bf oG;replace a2:=a2.tr0 b6;replace bn:=bn.tr0 b6;replace bn:=bn.sp1 bf a2 (.inl dE);replace bz:=bz.tr0 b6;replace bz:=bz.sp1 bf a2 (.inl dE);replace a4:=a4.tr0 b6;replace a4:=a4.sp1 bf a2 (.inl dE);replace an:=an.tr0 b6;replace an:=an.sp1 bf a2 (.inl dE);replace a2:=ca;refine zn3 ?_;refine wl (r_mf rfl) (zn4 ?_);obtain⟨base,ad⟩:∃ b,b=w21.heap.size:=⟨_,rfl⟩
 have hI:SmSt smallT smallF smallR b0 b1 b2 b3 b4 b5 a5 a3 base a1 a9 a8 At ac ab cr 0 DW w w21:=⟨⟨hB,ay ad,ao,bk,br,c2,c1,b7,by rw[ad];exact bn.and (bz.and hRl),by rw[ad];exact a4.up,by rw[ad];exact an.up,lo5,lo93,⟨bd,bc,bb,ba,b9,c7⟩,⟨by rw[ad];exact a2.lt,by rw[ad];exact b7.lt⟩⟩,none,0,[],_,a2,Own.nil _ _ _ _,Fz.triv [] _ TS (fun _=>LxData.nil)⟩
 refine xv [96,97,98,99,100,101] (fun g w'=>SmSt smallT smallF smallR b0 b1 b2 b3 b4 b5 a5 a3 base a1 a9 a8 At ac ab cr 1 Eq w w') ?_ (fun g9 w22 hI=>?_)
 ·have hh:=fun f Q k0 kq=>small_r9 hI f Q k0 kq
  exact hh _ _ (by rfl) (by intro d;cases d<;>exact fun _ _ _ _ h=>h)
 obtain hI:=hI;refine e_S (xQ ?_);refine xv [102,103,104,105,106,107] (fun g w'=>SmSt smallT smallF smallR b0 b1 b2 b3 b4 b5 a5 a3 base a1 a9 a8 At ac ab cr 2 Ez w w') ?_ (fun g10 w23 hI=>?_)
 ·have hh:=fun f Q k0 kq=>small_r10 hI f Q k0 kq
  exact hh _ _ (by rfl) (by intro d;cases d<;>exact fun _ _ _ _ h=>h)
 obtain hI:=hI;refine e_S (xQ ?_);refine xv [108,109,110,111,112] (fun g w'=>SmSt smallT smallF smallR b0 b1 b2 b3 b4 b5 a5 a3 base a1 a9 a8 At ac ab cr 3 E9 w w') ?_ (fun g11 w24 hI=>?_)
 ·have hh:=fun f Q k0 kq=>small_r11 hI f Q k0 kq
  exact hh _ _ (by rfl) (by intro d;cases d<;>exact fun _ _ _ _ h=>h)
 obtain hI:=hI;refine e_S (xQ ?_);refine xv [113,114,115,116,117,118,119] (fun g w'=>SmSt smallT smallF smallR b0 b1 b2 b3 b4 b5 a5 a3 base a1 a9 a8 At ac ab cr 4 E8 w w') ?_ (fun g12 w25 hI=>?_)
 ·have hh:=fun f Q k0 k1 kq=>small_r12 hI f Q k0 k1 kq
  exact hh _ _ (by rfl) (by rfl) (by intro d;cases d<;>exact fun _ _ _ _ h=>h)
 obtain hI:=hI;refine e_S (xQ ?_);refine xv [120,121,122,123,124,125,126] (fun g w'=>SmSt smallT smallF smallR b0 b1 b2 b3 b4 b5 a5 a3 base a1 a9 a8 At ac ab cr 5 E7 w w') ?_ (fun g13 w26 hI=>?_)
 ·have hh:=fun f Q k0 k1 kq=>small_r13 hI f Q k0 k1 kq
  exact hh _ _ (by rfl) (by rfl) (by intro d;cases d<;>exact fun _ _ _ _ h=>h)
 obtain hI:=hI;refine e_S (xQ ?_);refine xv [127,128,129,130,131,132,133] (fun g w'=>SmSt smallT smallF smallR b0 b1 b2 b3 b4 b5 a5 a3 base a1 a9 a8 At ac ab cr 6 E6 w w') ?_ (fun g14 w27 hI=>?_)
 ·have hh:=fun f Q k0 k1 kq=>small_r14 hI f Q k0 k1 kq
  exact hh _ _ (by rfl) (by rfl) (by intro d;cases d<;>exact fun _ _ _ _ h=>h)
 obtain hI:=hI;refine e_S (xQ ?_);refine xv [134,135,136,137,138,139,140] (fun g w'=>SmSt smallT smallF smallR b0 b1 b2 b3 b4 b5 a5 a3 base a1 a9 a8 At ac ab cr 7 E5 w w') ?_ (fun g15 w28 hI=>?_)
 ·have hh:=fun f Q k0 k1 kq=>small_r15 hI f Q k0 k1 kq
  exact hh _ _ (by rfl) (by rfl) (by intro d;cases d<;>exact fun _ _ _ _ h=>h)
 obtain hI:=hI;refine e_S (xQ ?_);refine xv [141,142,143,144,145,146,147] (fun g w'=>SmSt smallT smallF smallR b0 b1 b2 b3 b4 b5 a5 a3 base a1 a9 a8 At ac ab cr 8 E4 w w') ?_ (fun g16 w29 hI=>?_)
 ·have hh:=fun f Q k0 k1 kq=>small_r16 hI f Q k0 k1 kq
  exact hh _ _ (by rfl) (by rfl) (by intro d;cases d<;>exact fun _ _ _ _ h=>h)
 obtain hI:=hI;refine e_S (xQ ?_);refine xv [148,149,150,151,152,153,154] (fun g w'=>SmSt smallT smallF smallR b0 b1 b2 b3 b4 b5 a5 a3 base a1 a9 a8 At ac ab cr 9 E3 w w') ?_ (fun g17 w30 hI=>?_)
 ·have hh:=fun f Q k0 k1 kq=>small_r17 hI f Q k0 k1 kq
  exact hh _ _ (by rfl) (by rfl) (by intro d;cases d<;>exact fun _ _ _ _ h=>h)
 obtain hI:=hI;refine e_S (xQ ?_);refine xv [155,156,157,158,159,160,161] (fun g w'=>SmSt smallT smallF smallR b0 b1 b2 b3 b4 b5 a5 a3 base a1 a9 a8 At ac ab cr 10 I8 w w') ?_ (fun g18 w31 hI=>?_)
 ·have hh:=fun f Q k0 k1 kq=>small_r18 hI f Q k0 k1 kq
  exact hh _ _ (by rfl) (by rfl) (by intro d;cases d<;>exact fun _ _ _ _ h=>h)
 obtain hI:=hI;refine e_S (xQ ?_);refine xv [162,163,164,165,166,167,168] (fun g w'=>SmSt smallT smallF smallR b0 b1 b2 b3 b4 b5 a5 a3 base a1 a9 a8 At ac ab cr 11 I7 w w') ?_ (fun g19 w32 hI=>?_)
 ·have hh:=fun f Q k0 k1 kq=>small_r19 hI f Q k0 k1 kq
  exact hh _ _ (by rfl) (by rfl) (by intro d;cases d<;>exact fun _ _ _ _ h=>h)
 obtain hI:=hI;refine e_S (xQ ?_);refine xv [169,170,171,172,173,174,175] (fun g w'=>SmSt smallT smallF smallR b0 b1 b2 b3 b4 b5 a5 a3 base a1 a9 a8 At ac ab cr 12 I6 w w') ?_ (fun g20 w33 hI=>?_)
 ·have hh:=fun f Q k0 k1 kq=>small_r20 hI f Q k0 k1 kq
  exact hh _ _ (by rfl) (by rfl) (by intro d;cases d<;>exact fun _ _ _ _ h=>h)
 obtain hI:=hI;refine e_S (xQ ?_);refine xv [176,177,178,179,180,181,182] (fun g w'=>SmSt smallT smallF smallR b0 b1 b2 b3 b4 b5 a5 a3 base a1 a9 a8 At ac ab cr 13 I5 w w') ?_ (fun g21 w34 hI=>?_)
 ·have hh:=fun f Q k0 k1 kq=>small_r21 hI f Q k0 k1 kq
  exact hh _ _ (by rfl) (by rfl) (by intro d;cases d<;>exact fun _ _ _ _ h=>h)
 obtain hI:=hI;refine e_S (xQ ?_);refine xv [183,184,185,186,187,188,189] (fun g w'=>SmSt smallT smallF smallR b0 b1 b2 b3 b4 b5 a5 a3 base a1 a9 a8 At ac ab cr 14 I4 w w') ?_ (fun g22 w35 hI=>?_)
 ·have hh:=fun f Q k0 k1 kq=>small_r22 hI f Q k0 k1 kq
  exact hh _ _ (by rfl) (by rfl) (by intro d;cases d<;>exact fun _ _ _ _ h=>h)
 obtain hI:=hI;refine e_S (xQ ?_);refine xv [190,191,192,193,194,195,196] (fun g w'=>SmSt smallT smallF smallR b0 b1 b2 b3 b4 b5 a5 a3 base a1 a9 a8 At ac ab cr 15 I3 w w') ?_ (fun g23 w36 hI=>?_)
 ·have hh:=fun f Q k0 k1 kq=>small_r23 hI f Q k0 k1 kq
  exact hh _ _ (by rfl) (by rfl) (by intro d;cases d<;>exact fun _ _ _ _ h=>h)
 obtain hI:=hI;refine e_S (xQ ?_);refine xv [197,198,199,200,201,202,203] (fun g w'=>SmSt smallT smallF smallR b0 b1 b2 b3 b4 b5 a5 a3 base a1 a9 a8 At ac ab cr 16 I2 w w') ?_ (fun g24 w37 hI=>?_)
 ·have hh:=fun f Q k0 k1 kq=>small_r24 hI f Q k0 k1 kq
  exact hh _ _ (by rfl) (by rfl) (by intro d;cases d<;>exact fun _ _ _ _ h=>h)
 obtain hI:=hI;refine e_S (xQ ?_);refine xv [204,205,206,207,208,209,210] (fun g w'=>SmSt smallT smallF smallR b0 b1 b2 b3 b4 b5 a5 a3 base a1 a9 a8 At ac ab cr 17 I1 w w') ?_ (fun g25 w38 hI=>?_)
 ·have hh:=fun f Q k0 k1 kq=>small_r25 hI f Q k0 k1 kq
  exact hh _ _ (by rfl) (by rfl) (by intro d;cases d<;>exact fun _ _ _ _ h=>h)
 obtain hI:=hI;refine e_S (xQ ?_);refine xv (rg [] 211 8) (fun g w'=>SmSt smallT smallF smallR b0 b1 b2 b3 b4 b5 a5 a3 base a1 a9 a8 At ac ab cr 18 I0 w w') ?_ (fun g26 w39 hI=>?_)
 ·have hh:=fun f Q k0 k1 kq=>small_r26 hI f Q k0 k1 kq
  exact hh _ _ (by rfl) (by rfl) (by intro d;cases d<;>exact fun _ _ _ _ h=>h)
 obtain hI:=hI;refine e_S (xQ ?_);refine xv (rg [] 219 10) (fun g w'=>SmSt smallT smallF smallR b0 b1 b2 b3 b4 b5 a5 a3 base a1 a9 a8 At ac ab cr 19 KY w w') ?_ (fun g27 w40 hI=>?_)
 ·have hh:=fun f Q k0 k1 kq=>small_r27 hI f Q k0 k1 kq
  exact hh _ _ (by rfl) (by rfl) (by intro d;cases d<;>exact fun _ _ _ _ h=>h)
 obtain hI:=hI;refine e_S (xQ ?_);refine xv (rg [] 229 11) (fun g w'=>SmSt smallT smallF smallR b0 b1 b2 b3 b4 b5 a5 a3 base a1 a9 a8 At ac ab cr 20 KW w w') ?_ (fun g28 w41 hI=>?_)
 ·have hh:=fun f Q k0 k1 k2 kq=>small_r28 hI f Q k0 k1 k2 kq
  exact hh _ _ (by rfl) (by rfl) (by rfl) (by intro d;cases d<;>exact fun _ _ _ _ h=>h)
 obtain hI:=hI;refine e_S (xQ ?_);refine xv (rg [] 240 11) (fun g w'=>SmSt smallT smallF smallR b0 b1 b2 b3 b4 b5 a5 a3 base a1 a9 a8 At ac ab cr 21 Bz w w') ?_ (fun g29 w42 hI=>?_)
 ·have hh:=fun f Q k0 k1 k2 kq=>small_r29 hI f Q k0 k1 k2 kq
  exact hh _ _ (by rfl) (by rfl) (by rfl) (by intro d;cases d<;>exact fun _ _ _ _ h=>h)
 obtain hI:=hI;refine e_S (xQ ?_);obtain⟨hC,A,cap,xs,nL,a2,ho,hL⟩:=hI;have hB:=hC.bel;have ao:=hC.k0;have b7:=hC.k93;have hD:=hC.dt;have lo5:=hC.lo5;obtain⟨o0,_,_,_,_,o9⟩:=hC.o;obtain⟨l5,l9⟩:=hC.l;refine Qq ?_;refine qZ (cs:=#[_]) [(0,.int _ _)] rfl U62 W7 qX dE dE kR rfl (fun b251 w43 c5 bv hr=>?_);refine qZ (cs:=#[_]) [(0,.slice _ _ _)] rfl U69 Gz xJ dE dE kR rfl (fun b252 w44 c4 bu hr=>?_);refine zW kR (ZX _ _ [[6]] _ (xz (rs:=[[6]]) c4 (.cons ⟨_,_,rfl,qK [6] c5.u dE,by decide,by decide⟩ .nil) dE)) rfl (fun e' w45 hr=>?_);obtain⟨⟨Ast,cst,rfl,c6⟩,bg⟩:=hr;replace bg:=sB bg;refine⟨_,rfl,?_⟩;refine zn1 ?_;replace a2:=a2.tr0 (bv.t (bu.t bg));refine Jj a2 rfl rfl Gj (by first|decide|simp) xW rfl (fun w46 hq bt=>?_);replace hD:=hD.tr0 (bv.t (bu.t bg));replace hD:=hD.sp1 bt a2 (.inl dE);replace ho:=ho.tr0 (bv.t (bu.t bg));replace ho:=ho.tq bt;replace hL:=hL.tr0 (bv.t (bu.t bg));replace hL:=hL.sp1 bt a2 (.inl dE);replace c6:=c6.sp1 bt a2 (.inl dE);replace a2:=hq;refine zn5 ?_;refine zV ao.u (fun w47 hq c0=>?_);replace ao:=(ao.tr0 (bv.t (bu.t bg))).tr1 bt oG;replace hD:=hD.sp1 c0 ao (.inl dE);replace ho:=ho.tq c0;replace hL:=hL.sp1 c0 ao (.inl dE);replace c6:=c6.sp1 c0 ao (.inl dE);replace ao:=hq;refine zn3 ?_;refine xK (.inl rfl) rfl (zX U42 rfl rfl ao.range0 sz42) ?_;have c8:∀ t∈[68],t∈TS:=by decide
 have c9:=((hD.sub c8).and ((((ho.fz (ts:=[68]) (Px dE dE dE)).and (hL.sub c8)).imp (fun _ h=>gof_lexes h.1 h.2)).and (c6.sub c8))).imp (Q:=fun w=>TypesIn w At smallT/\FeatsIn w (some ⟨a5,0,none⟩) smallF/\RlCs w smallR cr.toList/\LexesIn w A smallX/\NodesIn w Ast smallS) (fun _ h=>⟨h.1.1,h.1.2.1,h.1.2.2,h.2.1,h.2.2⟩);replace hB:=((hB.tr0 (bv.t (bu.t bg))).tr1 bt lo5).tr1 c0 lo0;replace b7:=((b7.tr0 (bv.t (bu.t bg))).tr1 bt oG).tr1 c0 oG;exact⟨⟨_,rfl,At,a1,some ⟨a5,0,none⟩,5,a3,cr,A,cap,Ast,cst,_,rfl,hC.lo93,(show (smallX).length<=cap from ho.cap_le),b7,c9⟩,hB⟩
def plTs:Ts:= .f (.b false) (.b true)
def plV:Tv:= .abs plTs (.var 0)
def pluralR:Lr:=⟨⟨#[112,108,117,114,97,108]⟩,⟨#[]⟩,⟨#[115]⟩,([[1,0,1,1,3],[9,4,2],[5],[9,4,4],[4]]:List (List Int)).map JY,1,plV.tm⟩
theorem dog_in:3<smallXs.length:=by decide +kernel
def dogS:LxS:=smallXs[3]'dog_in
theorem C9:(qW smallT smallF).1=0:=by decide +kernel
theorem plu_ok:(lrV smallT smallF pluralR).1=0:=by
 have h1:(ZK smallT smallF).1=0:=by rw[N8 C9 dE]
 have h2:lrF smallT smallF pluralR=0:=by
  rw[lr_ok (by decide +kernel) (by decide +kernel) (by rw[grB_ok (by decide +kernel)]) (by decide +kernel)];exact congrArg (·.1) (W3 (x:=plV) (by decide +kernel))
 rw[H9 h1 h2]
theorem dog_good:lxB smallT smallF dogS=true:=by decide +kernel
theorem dog_ok:Yy smallT smallF dogS.lx=0:=lxB_ok dog_good
theorem dog_at(h:3<smallX.length):smallX[3]=dogS.lx:=Option.some.inj ((aN h).symm.trans rfl)
theorem dog_wd:Ow pluralR dogS.lx:=⟨by decide +kernel,by decide +kernel,by decide +kernel⟩
theorem dog_ap:T7 pluralR.mean dogS.lx.mean:=by
 have h:=dog_good;simp only[lxB,Bool.and_eq_true]at h;refine⟨congrArg (·.1) (W3 (x:=plV) (by decide +kernel)),congrArg (·.1) (W3 h.2),⟨plV,dogS.mean,_,rfl,rfl,(rfl:tyv [] (.app plV dogS.mean)=some plTs)⟩,by decide +kernel,by decide +kernel⟩
def dogC:List Nd:=pluralR.gr
def dogθ(i:Nat):Nat:=[0,1,2,3,4,3,4].getD i 0
theorem dog_bound:MV smallT (j7 pluralR.gr dogS.lx.gr) [((plc pluralR.gr 1).toNat,pluralR.gr.length)]:=by
 refine⟨dogC,dogθ,?_,⟨?_,?_,?_⟩,?_⟩
 ·decide +kernel
 ·decide +kernel
 ·decide +kernel
 ·decide +kernel
 ·decide +kernel
theorem dog_yes{ok:Bool}{Y:List Nd}(h:LrS smallT pluralR dogS.lx ok Y):ok=true:=by
 cases ok with
 | true=>rfl
 | false=>
  rcases h.2 rfl with k|k
  ·exact absurd ⟨dog_wd,dog_ap⟩ k
  ·rcases k with ⟨X3,_,_,k,_⟩|⟨k,_⟩
   ·cases k
   ·rcases k with k|⟨X,hX,h60⟩
    ·exact absurd dog_bound k
    ·have h1:=stp_len (Q0 C9).vt (by decide +kernel:0<(j7 pluralR.gr dogS.lx.gr).length) hX
     have h2:(j7 pluralR.gr dogS.lx.gr).length<=60:=by decide +kernel
     omega
theorem US.join2{l:List Ty}{U:List Nd}{J:List (Nat×Nat)}{P rep ρ:Nat->Nat}{T:Nat->Int}{L:Nat->List (Int×Int)}{W Wn Lm:List (Int×Int)}(hs:Kv l){p:Int×Int}{a m:Nat}(h:US l U J P rep ρ T L (W++[p]))(ha:rep p.1.toNat=a)(hb:rep p.2.toNat=b)(hne:a≠b)(hm:meet l (T a).toNat (T b).toNat=(m,true,false))(hL:xY (L a) (L b)=Lm)(hW:Zy (L a) (L b)=Wn):
  US l U J (JJ P b a) (UF.un rep a b) (UF.rk rep ρ a b) (fun x=>if x=a then (m:Int)else T x) (fun x=>if x=a then Lm else L x) (W++Wn):=by
 subst hL hW;exact US.join hs h ha hb hne hm
def gPl:List Nd:=[⟨1,[(0,1),(1,3)]⟩,⟨9,[(4,2)]⟩,⟨5,[]⟩,⟨9,[(4,4)]⟩,⟨4,[]⟩]
def gDo:List Nd:=[⟨9,[(4,1)]⟩,⟨4,[]⟩]
def gDs:List Nd:=[⟨9,[(4,1)]⟩,⟨5,[]⟩]
theorem gPl_is:pluralR.gr=gPl:=by decide +kernel
theorem gDo_is:dogS.lx.gr=gDo:=by decide +kernel
def dgX:Lx:=(smallXs[4]'(by decide +kernel)).lx
theorem gDs_is:dgX.gr=gDs:=by decide +kernel
theorem dgx_at(h:4<smallX.length):smallX[4]=dgX:=Option.some.inj ((aN h).symm.trans rfl)
def gZP(a:Int):List Nd:=gPl++[⟨a,[]⟩,⟨4,[]⟩]
theorem dlZP(a:Int):DL (gZP a) [0] [] [0,1,2,3,4]:=
 .new dE (.new (o1:=[0,1,2]) dE (.new (o1:=[0,1,2]) dE .nil .nil) (.new (o1:=[0,1,2,3,4]) dE (.new (o1:=[0,1,2,3,4]) dE .nil .nil) .nil)) .nil
theorem dlP:DL gPl [1] [] [1,2]:= .new (o1:=[1,2]) dE (.new (o1:=[1,2]) dE .nil .nil) .nil
theorem mgp:xY [((4:Int),(4:Int))] [(4,6)]= [(4,4)]:=by simp[xY]
theorem mge:xY ([]:List (Int×Int)) []= []:=by simp[xY]
theorem nwp:Zy [((4:Int),(4:Int))] [(4,6)]= [(4,6)]:=by simp[Zy]
theorem nwe:Zy ([]:List (Int×Int)) []= []:=by simp[Zy]
theorem uni_dg(hS:Kv smallT)(ha:GY smallT gPl)(hb:GY smallT gDo):YY smallT (j7 gPl gDo) [(3,gPl.length)] gPl:=by
 have h1:=(US.first ha).add hb (fun p hp=>by cases hp);have h2:=h1.push (a:=3) (b:=5) dE dE;have h3:=US.join2 (W:=[]) (p:=((3:Nat),(5:Nat))) (a:=3) (b:=5) (m:=9) (Lm:=[(4,4)]) (Wn:=[(4,6)]) hS h2 dE dE dE (by decide +kernel) mgp nwp;have h4:=US.join2 (W:=[]) (p:=((4:Int),(6:Int))) (a:=4) (b:=6) (m:=4) (Lm:=[]) (Wn:=[]) hS h3 dE dE dE (by decide +kernel) mge nwe;exact⟨_,_,_,_,_,[0,1,2,3,4],h4,dlZP 9,by decide⟩
theorem plu_parts:Jok smallT smallF 1 pluralR.gr/\GV smallT smallF dogS.lx.gr:=by
 obtain⟨_,_,h1,h2,_⟩:=O2 (XW plu_ok).2;refine⟨C5 C9 h1 h2,(J7 C9 ?_).1⟩;have h:=dog_ok;cases h0:yV dogS.lx.word with
 | false=>rw[C6 h0]at h;cases h
 | true=>
  by_cases h1:Kj dogS.lx
  ·rw[H8 h0 h1]at h;cases h
  ·exact aK (fun e=>by rw[lx_gr h0 h1 e]at h;exact e h)
theorem dog_res{ok:Bool}{Y:List Nd}(h:LrS smallT pluralR dogS.lx ok Y):ok=true/\Y=gDs:=by
 have e:=dog_yes h;subst e;obtain⟨hj,hd⟩:=plu_parts;have hJ:=(h.1 rfl).2.2;have a1:=hj;have hd2:=hd;rw[gPl_is]at a1;rw[gDo_is]at hd2;have k:IK smallT gPl 0 [gDo] true gDs:= .inl ⟨gPl,uni_dg a1.v.s a1.v.gx.toGY hd2.gx.toGY,by decide,rfl,[1,2],dlP,by decide⟩;rw[<- gPl_is,<- gDo_is]at k;exact⟨rfl,(Sy [dogS.lx.gr] pluralR.gr 0 true true Y gDs hj (fun q hq=>by rw[List.mem_singleton.1 hq];exact hd) (show ((0:Nat):Int)+((1:Nat):Int)<=1 by decide) hJ k).2⟩
def dgL:Lx:=lxR pluralR dogS.lx true gDs
theorem dgL_gr:dgL.gr=dgX.gr:=gDs_is.symm
theorem dgL_wd:dgL.word=⟨#[100,111,103,115]⟩:=by decide +kernel
theorem dgL_wt:dgL.wt=1:=by decide +kernel
theorem dog_wz:dogS.lx.word.size<9223372036854775807:=by decide +kernel
theorem ap_dog:apF smallT smallF pluralR dogS.lx=(0,0):=ap_ok plu_ok dog_ok
abbrev cJ:Array Value:=#[.string ⟨#[]⟩,.string ⟨#[]⟩,.string ⟨#[]⟩,.slice none 0 0,.int .i64 0,.int .i64 0,.string ⟨#[]⟩,.int .i64 0,.string ⟨#[]⟩,.slice none 0 0,.slice none 0 0]
abbrev cI(a:Option Addr)(b:Nat)(c:Tm)(d:Option Addr)(e:Nat)(f:Option Addr)(g:Nat):Array Value:=#[.string pluralR.name,.string pluralR.cut,.string pluralR.add,.slice a pluralR.gr.length b,.int .i64 pluralR.wt,.int .i64 c.kind,.string c.name,.int .i64 c.index,.string c.type.base,.slice d c.type.args.length e,.slice f c.args.length g]
theorem lk_two{a c d e:Int}(h:Blk w b t #[.int .i64 a,.int .i64 c,.int .i64 d,.int .i64 e]):LinksIn w (some ⟨b,0,none⟩) [(a,c),(d,e)]:=
 ⟨by show 2<=vX;decide,fun _=>⟨b,0,rfl,h.lt,fun k hk=>by
  match k,hk with
  | 0,_=>exact h.range (fun j v hj=>by
   match j,hj with
   | 0,hj=>exact hj
   | 1,hj=>exact hj
   | j+2,hj=>simp at hj)
  | 1,_=>exact h.range (fun j v hj=>by
   match j,hj with
   | 0,hj=>exact hj
   | 1,hj=>exact hj
   | j+2,hj=>simp at hj)⟩⟩
theorem lk_one{a c:Int}(h:Blk w b t #[.int .i64 a,.int .i64 c]):LinksIn w (some ⟨b,0,none⟩) [(a,c)]:=
 ⟨by show 1<=vX;decide,fun _=>⟨b,0,rfl,h.lt,fun k hk=>by
  match k,hk with
  | 0,_=>exact h.range (fun j v hj=>by
   match j,hj with
   | 0,hj=>exact hj
   | 1,hj=>exact hj
   | j+2,hj=>simp at hj)⟩⟩
theorem lk_nil:LinksIn w none []:=⟨ah _,fun h=>absurd rfl h⟩
theorem nd_five{c0 c1 c2 c3 c4:Nat}{t0 t1 t2 t3 t4:Int}{A0 A1 A2 A3 A4:Option Addr}{l0 l1 l2 l3 l4:List (Int×Int)}(h:Blk w b t #[.int .i64 t0,.slice A0 l0.length c0,.int .i64 t1,.slice A1 l1.length c1,.int .i64 t2,.slice A2 l2.length c2,.int .i64 t3,.slice A3 l3.length c3,.int .i64 t4,.slice A4 l4.length c4])(h0:LinksIn w A0 l0)(h1:LinksIn w A1 l1)(h2:LinksIn w A2 l2)(h3:LinksIn w A3 l3)(h4:LinksIn w A4 l4):NodesIn w (some ⟨b,0,none⟩) [⟨t0,l0⟩,⟨t1,l1⟩,⟨t2,l2⟩,⟨t3,l3⟩,⟨t4,l4⟩]:=
 ⟨by show 5<=vX;decide,fun _=>⟨b,0,rfl,h.lt,fun k hk=>by
  have r:∀ {o:Nat} {A:Option Addr} {n c:Nat} {ty:Int},(#[Value.int .i64 t0,.slice A0 l0.length c0,.int .i64 t1,.slice A1 l1.length c1,.int .i64 t2,.slice A2 l2.length c2,.int .i64 t3,.slice A3 l3.length c3,.int .i64 t4,.slice A4 l4.length c4]:Array Value)[o]? =some (.int .i64 ty)->(#[Value.int .i64 t0,.slice A0 l0.length c0,.int .i64 t1,.slice A1 l1.length c1,.int .i64 t2,.slice A2 l2.length c2,.int .i64 t3,.slice A3 l3.length c3,.int .i64 t4,.slice A4 l4.length c4]:Array Value)[o+1]? =some (.slice A n c)->w.rangeAt b o [.int .i64 ty,.slice A n c]:=fun e1 e2=>h.range (fun j v hj=>by
   match j,hj with
   | 0,hj=>cases hj;exact e1
   | 1,hj=>cases hj;exact e2
   | j+2,hj=>simp at hj)
  match k,hk with
  | 0,_=>exact⟨A0,c0,r rfl rfl,h0⟩
  | 1,_=>exact⟨A1,c1,r rfl rfl,h1⟩
  | 2,_=>exact⟨A2,c2,r rfl rfl,h2⟩
  | 3,_=>exact⟨A3,c3,r rfl rfl,h3⟩
  | 4,_=>exact⟨A4,c4,r rfl rfl,h4⟩⟩⟩
theorem ze36:(Tryz.prog.info? 36).map (·.zero)=some (some (.agg cJ)):=by kernel_rfl
set_option maxHeartbeats 2000000 in
theorem plural_any(w:World):Calls Tryz.prog 6 #[] w fun e w'=>(∃ G SA BA cg cs cb,e= .returned (.agg (cI G cg (pluralR.mean) SA cs BA cb))/\LrP w' pluralR G SA BA)/\Bel w w':=by
 refine enT Tryz.func6 Tryz.ntmps6 rfl rfl fun hB=>?_;refine zn2 ?_;refine qQ (cs:=cJ) ze36 rfl (fun b0 w1 a1 t1 hr=>?_);have lo0:=hB.ob hr;refine zn4 ?_;refine wl (Z1 (v0:= .string _) (fun v0=>#[v0,.slice none 0 0]) rfl kR) (wl (Z1 (v0:= .string _) (fun v0=>#[v0,.slice none 0 0]) rfl kR) ?_);refine qZ (cs:=#[_,_,_,_]) [(0,.agg _),(1,.agg _)] rfl U29 vj KJ dE dE kR rfl (fun b4 w2 hb4 t2 hr=>?_);have:=a1.ob hr;refine wl (Z1 (v0:= .slice _ _ _) (fun v0=>#[.string ⟨#[]⟩,v0]) rfl kR) ?_;refine y8 (cs:=#[.string ⟨#[]⟩,.slice none 0 0]) KJ rfl (fun _=>rfl) (fun _=>rfl) vj rfl xW (fun b1 w4 hb1 t3 hr=>?_);refine zn4 ?_;refine vy (vy ?_);refine qZ (cs:=#[_,_,_,_]) [(0,.agg _),(1,.agg _)] rfl U85 gQ Vq dE dE kR rfl (fun b8 w5 hb8 t4 hr=>?_);have:=a1.u.ob hr;refine wl (Q5 (v0:= .int _ _) (v1:= .slice _ _ _) (fun v0 v1=>#[v0,v1]) rfl rfl kR) (vy ?_);refine qZ (cs:=#[_,_]) [(0,.agg _)] rfl U85 gQ Vq dE dE kR rfl (fun b11 w6 a5 t5 hr=>?_);have:=a1.u.ob hr;refine wl (Q5 (v0:= .int _ _) (v1:= .slice _ _ _) (fun v0 v1=>#[v0,v1]) rfl rfl kR) (wl (Z1 (v0:= .int _ _) (fun v0=>#[v0,.slice none 0 0]) rfl kR) (vy ?_));refine qZ (cs:=#[_,_]) [(0,.agg _)] rfl U85 gQ Vq dE dE kR rfl (fun b15 w7 a4 t6 hr=>?_);have:=a1.u.ob hr;refine wl (Q5 (v0:= .int _ _) (v1:= .slice _ _ _) (fun v0 v1=>#[v0,v1]) rfl rfl kR) (wl (Z1 (v0:= .int _ _) (fun v0=>#[v0,.slice none 0 0]) rfl kR) ?_);refine qZ (cs:=#[_,_,_,_,_,_,_,_,_,_]) [(0,.agg _),(1,.agg _),(2,.agg _),(3,.agg _),(4,.agg _)] rfl U26 ZW Dk dE dE kR rfl (fun b18 w8 a3 t7 hr=>?_);have:=a1.u.ob hr;refine wl (Z1 (v0:= .slice _ _ _) (fun v0=>#[v0]) rfl kR) (zn1 ?_);refine wl (Z1 (v0:= .int _ _) (fun v0=>#[v0,.string ⟨#[]⟩,.int .i64 0,.string ⟨#[]⟩,.slice none 0 0,.slice none 0 0]) rfl kR) ?_;refine qZ (cs:=#[_,_,_,_,_,_]) [(0,.agg _)] rfl U32 uw oK dE dE kR rfl (fun b22 w9 a2 t8 hr=>?_);have:=a1.u.ob hr;refine wl (Ix (v0:= .int _ _) (v1:= .agg _) (v2:= .slice _ _ _) (fun v0 v1 v2=>#[v0,.string ⟨#[]⟩,.int .i64 0,(qy v1 0),(qy v1 1),v2]) rfl rfl rfl kR) (wl (F1 (v0:= .string _) (v1:= .string _) (v2:= .int _ _) (v3:= .agg _) (v4:= .agg _) (fun v0 v1 v2 v3 v4=>#[v0,.string ⟨#[]⟩,v1,(qy v3 0),v2,(qy v4 0),(qy v4 1),(qy v4 2),(qy v4 3),(qy v4 4),(qy v4 5)]) rfl rfl rfl rfl rfl kR) ?_)
 refine zV a1.u (fun w10 hq t9=>?_);replace a1:=hq;refine zn3 ?_;refine xK (.inl rfl) rfl (zX U36 rfl rfl a1.range0 sz36) ?_;exact⟨⟨some ⟨b18,0,none⟩,some ⟨b4,0,none⟩,some ⟨b22,0,none⟩,5,2,1,rfl,nd_five (l0:=[(0,1),(1,3)]) (l1:=[(4,2)]) (l2:=[]) (l3:=[(4,4)]) (l4:=[]) a3.u (lk_two hb8.u) (lk_one a5.u) lk_nil (lk_one a4.u) lk_nil,sims_two (s1:=(Ts.b false).sm) (s2:=(Ts.b true).sm) hb4.u .nil .nil,tms_one (x:=(Tv.var 0).tm) (S:=none) (B:=none) (cs:=0) (cb:=0) a2.u .nil .nil,by decide,by decide⟩,hB.u⟩
end Go.Proofs.YtndbjnkilegebaaGreatDoor
