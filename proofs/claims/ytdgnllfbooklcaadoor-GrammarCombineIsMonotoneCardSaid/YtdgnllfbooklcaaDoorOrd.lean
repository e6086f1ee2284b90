/- What these functions of the program compute, at every world: glosswright/subsume.Both, glosswright/subsume.Find, glosswright/subsume.Subsumes. Maps between valid graphs: they compose, maps both ways are a renumbering, and a map keeps paths. No program in sight. -/
import Derived.Test.YtdgnllfbooklcaaDoorU
import Derived.Test.YtdgnllfbooklcaaDoorName
import Derived.Test.YtdgnllfbooklcaaDoorTurn
import Derived.Test.YtdgnllfbooklcaaDoorHom
namespace Go.Proofs.YtdgnllfbooklcaaDoor
open Go.RowKit
noncomputable def kX (l:List Ty) (fs:List Ft) (ga gb:List Nd):Fl:=if ¬(vQ l fs ga).1=0 then vQ l fs ga else qK l fs gb
theorem EV {l:List Ty} {fs:List Ft} {ga gb:List Nd} (h:¬(qq l fs).1=0):kX l fs ga gb=((qq l fs).1,(qq l fs).2):=by
  unfold kX;rw [LX h,if_pos h]
theorem two_one {l:List Ty} {fs:List Ft} {ga gb:List Nd} (h:(qq l fs).1=0) (h1:¬(qK l fs ga).1=0):kX l fs ga gb=((qK l fs ga).1,(qK l fs ga).2):=by
  unfold kX;rw [Jq h,if_pos h1]
theorem C6 {l:List Ty} {fs:List Ft} {ga gb:List Nd} (h:(qq l fs).1=0) (h1:(qK l fs ga).1=0):kX l fs ga gb=((qK l fs gb).1,(qK l fs gb).2):=by
  unfold kX;rw [Jq h,if_neg (fun k=>k h1)]
theorem EW {l:List Ty} {fs:List Ft} {ga gb:List Nd} (h:(kX l fs ga gb).1=0):(GV l fs ga∧GV l fs gb)∧(vQ l fs ga).1=0∧(vQ l fs gb).1=0:=by
  unfold kX at h;by_cases h1:(vQ l fs ga).1=0
  · rw [if_neg (fun k=>k h1)] at h
    have ha:=TW h1;have h2:(vQ l fs gb).1=0:=by rw [Jq ha.h];exact h
    exact⟨⟨ha,TW h2⟩,h1,h2⟩
  · rw [if_pos h1] at h;exact absurd h h1
theorem two_zz {l:List Ty} {fs:List Ft} {ga gb:List Nd} (h:(kX l fs ga gb).1=0):kX l fs ga gb=(0,0):=by
  obtain⟨⟨_,hb⟩,h1,h2⟩:=EW h;unfold kX;rw [if_neg (fun k=>k h1),X4 hb.lo hb.t hb.u]
def BothR (l:List Ty) (fs:List Ft) (ga gb:List Nd) (e:Ending) (w:World):Prop:=∃ (U D:Option Addr) (n1 k1 n2 k2:Nat),e= .returned (.tuple #[.agg #[.slice U n1 k1,.slice D n2 k2],.agg #[.int .i64 (kX l fs ga gb).1,.int .i64 (kX l fs ga gb).2]])∧((kX l fs ga gb).1=0→∃ bu bd,(U=some ⟨bu,0,none⟩∧n1=l.length∧k1=l.length∧D=some ⟨bd,0,none⟩∧n2=l.length∧k2=l.length)∧TableIn w l bu bd)
theorem K4 {l:List Ty} {fs:List Ft} {ga gb:List Nd} {w:World} {U D:Option Addr} {n1 k1 n2 k2:Nat} (F:Fl) (hF:kX l fs ga gb=F) (h:¬F.1=0):BothR l fs ga gb (.returned (.tuple #[.agg #[.slice U n1 k1,.slice D n2 k2],.agg #[.int .i64 F.1,.int .i64 F.2]])) w:=
  ⟨U,D,n1,k1,n2,k2,by rw [hF],fun h2=>absurd (by rw [← hF];exact h2) h⟩
theorem both_yes {l:List Ty} {fs:List Ft} {ga gb:List Nd} {w:World} {bu bd:Nat} (hF:kX l fs ga gb=(0,0)) (h:TableIn w l bu bd):BothR l fs ga gb (.returned (.tuple #[.agg #[.slice (some ⟨bu,0,none⟩) l.length l.length,.slice (some ⟨bd,0,none⟩) l.length l.length],.agg #[.int .i64 0,.int .i64 0]])) w:=
  ⟨_,_,_,_,_,_,by rw [hF],fun _=>⟨bu,bd,⟨rfl,rfl,rfl,rfl,rfl,rfl⟩,h⟩⟩
theorem BK (A:Option Addr) (c:Nat) (l:List Ty) (w:World) (hT:TypesIn w A l) (hv:VT l) (h60:l.length≤60):Calls Tryd.prog 29 #[.slice A l.length c] w fun e w'=>(∃ bu bd,e= .returned (.agg #[.slice (some ⟨bu,0,none⟩) l.length l.length,.slice (some ⟨bd,0,none⟩) l.length l.length])∧TableIn w' l bu bd)∧Bel w w':=
  (Yz A c l w hT hv h60).mono fun _ _ ⟨bu,bd,h1,h2,h3⟩=>⟨⟨bu,bd,h1,h2⟩,h3⟩
def FindR (lo:Nat) (l:List Ty) (ga gb:List Nd) (e:Ending) (w:World):Prop:=∃ A c,e= .returned (.slice A (W4 l ga gb).length c)∧(∀ w2,FrSame lo w w2→IntsIn w2 A (W4 l ga gb))∧A.isNone= !decide (Maps l ga gb)
theorem ints_row {w:World} {b n:Nat} {out:Nat→Int} {xs:List Int} (hb:Blk w b 3 (row n (fun x=> .int .i64 (out x)))) (hn:xs.length=n) (hm:n≤j7) (hx:∀ k (hk:k < xs.length),xs[k]=out k):IntsIn w (some ⟨b,0,none⟩) xs:=by
  subst hn;exact⟨hm,fun _=>⟨b,0,rfl,hb.lt,fun k hk=>by rw [hx k hk];exact hb.cell (j9 (by exact hk))⟩⟩
theorem LJ {lo:Nat} {l:List Ty} {ga gb:List Nd} {w:World} (h:¬Maps l ga gb):FindR lo l ga gb (.returned (.slice none 0 0)) w:=
  ⟨none,0,by rw [L7 h];rfl,by rw [L7 h];exact fun _ _=>ints_nil _ _,by rw [decide_eq_false h];rfl⟩
theorem find_yes {lo:Nat} {l:List Ty} {ga gb:List Nd} {w:World} {b:Nat} {out:Nat→Int} (hr:∀ i,i < ga.length→Rch ga i) (h:FS l ga gb out [] ga.length 0) (hb:Blk w b 3 (row ga.length (fun x=> .int .i64 (out x)))) (hm:ga.length≤60) (hlo:lo≤b):FindR lo l ga gb (.returned (.slice (some ⟨b,0,none⟩) ga.length ga.length)) w:=by
  obtain⟨hh,hp⟩:=h.end_ hr;have hl:(W4 l ga gb).length=ga.length:=by rw [Tq hr hh];simp
  refine⟨some ⟨b,0,none⟩,ga.length,by rw [hl],?_,by rw [decide_eq_true ⟨_,hh⟩];rfl⟩;refine fun w2 hf=>ints_row (hf.at_ hb hlo) hl (by unfold j7;omega) (fun k hk=>?_)
  have hk2:k < ga.length:=by omega
  have:=hp k hk2;simp only [Tq hr hh,List.getElem_map,List.getElem_range];omega
noncomputable def S9 (l:List Ty) (fs:List Ft) (ga gb:List Nd):Bool:=if (kX l fs ga gb).1=0 then decide (Maps l ga gb) else false
theorem HQ {l:List Ty} {fs:List Ft} {ga gb:List Nd} (h:¬(kX l fs ga gb).1=0):S9 l fs ga gb=false:=by unfold S9;rw [if_neg h]
theorem S8 {l:List Ty} {fs:List Ft} {ga gb:List Nd} (h:(kX l fs ga gb).1=0):S9 l fs ga gb=decide (Maps l ga gb):=by unfold S9;rw [if_pos h]
theorem FQ {l:List Ty} {fs:List Ft} {ga gb:List Nd} {b:Bool} {x y:Int} (h:S9 l fs ga gb=b) (hF:kX l fs ga gb=(x,y)):Ending.returned (.tuple #[.bool b,.agg #[.int .i64 x,.int .i64 y]])= .returned (.tuple #[.bool (S9 l fs ga gb),.agg #[.int .i64 (kX l fs ga gb).1,.int .i64 (kX l fs ga gb).2]]):=by rw [h,hF]
theorem WX:zZ Tryd.prog 29=true:=by kernel_rfl
theorem fn30:zZ Tryd.prog 30=true:=by kernel_rfl
theorem fn35:zZ Tryd.prog 35=true:=by kernel_rfl
theorem fn38:zZ Tryd.prog 38=true:=by kernel_rfl
theorem fn45:zZ Tryd.prog 45=true:=by kernel_rfl
theorem WZ:zZ Tryd.prog 50=true:=by kernel_rfl
theorem fn59:zZ Tryd.prog 59=true:=by kernel_rfl
theorem K1:(Tryd.prog.info? 3).map (fun i=>(i.zero,i.size,i.bytes))=some (some (.int .i64 0),1,8):=by kernel_rfl
theorem F3:(Tryd.prog.info? 25).map (·.size)=some 2:=by kernel_rfl
theorem zV:(Tryd.prog.info? 30).map (·.size)=some 1:=by kernel_rfl
theorem qw:(Tryd.prog.info? 36).map (·.size)=some 2:=by kernel_rfl
theorem xW:(Tryd.prog.info? 86).map (·.size)=some 2:=by kernel_rfl
theorem JQ:(Tryd.prog.info? 3).map (·.zero)=some (some (.int .i64 0)):=by kernel_rfl
theorem yW:(Tryd.prog.info? 30).map (·.zero)=some (some (.agg #[.slice none 0 0])):=by kernel_rfl
theorem uQ:(Tryd.prog.info? 36).map (·.zero)=some (some (.agg #[.int .i64 0,.int .i64 0])):=by kernel_rfl
theorem Y8:(Tryd.prog.info? 86).map (·.zero)=some (some (.agg #[.slice none 0 0,.slice none 0 0])):=by kernel_rfl
theorem gw:(Tryd.prog.info? 95).map (·.zero)=some (some (.agg #[.int .i64 0,.int .i64 0])):=by kernel_rfl
set_option maxHeartbeats 1000000 in
theorem R8 (A B G1 G2:Option Addr) (c d c1 c2:Nat) (l:List Ty) (fs:List Ft) (ga gb:List Nd) (w:World) (hTab:TabIn w) (hT:TypesIn w A l) (hF:FeatsIn w B fs) (hG1:NodesIn w G1 ga) (hG2:NodesIn w G2 gb):Calls Tryd.prog 35 #[.agg #[.slice A l.length c,.slice B fs.length d],.agg #[.slice G1 ga.length c1],.agg #[.slice G2 gb.length c2]] w fun e w'=>BothR l fs ga gb e w'∧Bel w w':=by
 refine enter Tryd.func35 Tryd.ntmps35 rfl (Nat.le_of_ble_eq_true rfl) ?_;have hB:Bel w w:=Below.refl _ _;refine zn2 ?_;refine xk (v:= .agg #[_,_]) (cs:=#[_,_]) rfl rfl (fun b3 w1 hb3 s1 hr=>?_);refine xk (v:= .agg #[_]) (cs:=#[_]) rfl rfl (fun b4 w2 hb4 s2 hr=>?_);refine xk (v:= .agg #[_]) (cs:=#[_]) rfl rfl (fun b5 w3 hb5 s3 hr=>?_);refine qV (cs:=#[.slice none 0 0,.slice none 0 0]) Y8 rfl (fun b6 w4 hb6 s4 hr=>?_);replace hB:=hB.tr0 (s1.trans (s2.trans s3));have lo6:=nLT (Bel.size hB) hr;refine qV (cs:=#[.int .i64 0,.int .i64 0]) uQ rfl (fun b7 w5 hb7 s5 hr=>?_);have:=nLL hb6.lt hr;replace hB:=hB.tr0 s4;have lo7:=nLT (Bel.size hB) hr;refine zn6 ?_;replace hB:=hB.tr0 s5;refine qz fn45 (I1 A B c d l fs _ (hTab.mono hB) (hT.mono hB) (hF.mono hB)) rfl (fun e' w6 hr=>?_);obtain⟨rfl,s6⟩:=hr;replace s6:=sB s6;refine⟨_,rfl,?_⟩;refine yv (cs:=#[.int .i64 0,.int .i64 0]) uQ rfl (fun _=>rfl) (fun _=>rfl) qw rfl zJ (fun b8 w8 hb8 s7 hr=>?_);replace hb6:=hb6.tr0 (s5.trans s6);have:=nLL hb6.lt hr;refine zn9 ?_;replace hB:=hB.tr0 (s6.trans s7);replace hb7:=hb7.tr0 (s6.trans s7);replace hb6:=hb6.tr0 s7;refine zW rfl (fun c17=>?_) (fun c17=>?_)
 ·refine y8 ?_;refine G4 #[false,false,false,false] kR (by rfl) (fun w9 s8=>?_);replace hB:=hB.tr0 s8;replace hb6:=hb6.tr0 s8;replace hb7:=hb7.tr0 s8;refine xq [0,1] kR rfl ⟨fun o hoq=>?_,fun o hoq=>?_,trivial⟩
  ·cases sI hoq;refine wl (uZ (vs:=#[]) (cs:=#[.slice none 0 0,.slice none 0 0]) (by simp) kR) (zQ (e_A (listed':=#[true,false,false,false]) (by rfl) ?_));refine xq [1,2] kR rfl ⟨fun o hoq=>?_,fun o hoq=>?_,trivial⟩
   ·cases sI hoq;refine zn2 ?_;refine e_A (listed':=#[true,true,false,false]) (by rfl) ?_;refine xq [2] kR rfl ⟨fun o hoq=>?_,trivial⟩;cases sI hoq;refine zk hb6 rfl rfl xW rfl zJ (fun w10 hq s9=>?_);replace hb6:=hq;refine zQ (e_A (listed':=#[true,true,true,false]) (by rfl) ?_);refine xq [3] kR rfl ⟨fun o hoq=>?_,trivial⟩;cases sI hoq;replace hb7:=hb7.tr1 s9 om;refine zk hb7 rfl rfl qw rfl zJ (fun w11 hq s10=>?_);replace hb7:=hq;refine zQ (e_A (listed':=#[true,true,true,true]) (by rfl) (oQ kR (zn3 ?_)));replace hb6:=hb6.tr1 s10 om;refine ZW (.inl rfl) rfl (zw U86 rfl rfl hb6.range0 xW) (zw U36 rfl rfl hb7.range0 qw) ?_;replace hB:=(hB.tr1 s9 lo6).tr1 s10 lo7;exact⟨K4 (qq l fs) (EV c17) c17,hB⟩
   cases sI hoq;refine zk hb6 rfl rfl xW rfl zJ (fun w12 hq s11=>?_);replace hb6:=hq;refine zQ (e_A (listed':=#[true,false,true,false]) (by rfl) ?_);refine xq [1] kR rfl ⟨fun o hoq=>?_,trivial⟩;cases sI hoq;refine zn2 ?_;refine e_A (listed':=#[true,true,true,false]) (by rfl) ?_;refine xq [3] kR rfl ⟨fun o hoq=>?_,trivial⟩;cases sI hoq;replace hb7:=hb7.tr1 s11 om;refine zk hb7 rfl rfl qw rfl zJ (fun w13 hq s12=>?_);replace hb7:=hq;refine zQ (e_A (listed':=#[true,true,true,true]) (by rfl) (oQ kR (zn3 ?_)));replace hb6:=hb6.tr1 s12 om;refine ZW (.inl rfl) rfl (zw U86 rfl rfl hb6.range0 xW) (zw U36 rfl rfl hb7.range0 qw) ?_;replace hB:=(hB.tr1 s11 lo6).tr1 s12 lo7;exact⟨K4 (qq l fs) (EV c17) c17,hB⟩
  cases sI hoq;refine zn2 ?_;refine e_A (listed':=#[false,true,false,false]) (by rfl) ?_;refine xq [0] kR rfl ⟨fun o hoq=>?_,trivial⟩;cases sI hoq;refine wl (uZ (vs:=#[]) (cs:=#[.slice none 0 0,.slice none 0 0]) (by simp) kR) (zQ (e_A (listed':=#[true,true,false,false]) (by rfl) ?_));refine xq [2] kR rfl ⟨fun o hoq=>?_,trivial⟩;cases sI hoq;refine zk hb6 rfl rfl xW rfl zJ (fun w14 hq s13=>?_);replace hb6:=hq;refine zQ (e_A (listed':=#[true,true,true,false]) (by rfl) ?_);refine xq [3] kR rfl ⟨fun o hoq=>?_,trivial⟩;cases sI hoq;replace hb7:=hb7.tr1 s13 om;refine zk hb7 rfl rfl qw rfl zJ (fun w15 hq s14=>?_);replace hb7:=hq;refine zQ (e_A (listed':=#[true,true,true,true]) (by rfl) (oQ kR (zn3 ?_)));replace hb6:=hb6.tr1 s14 om;refine ZW (.inl rfl) rfl (zw U86 rfl rfl hb6.range0 xW) (zw U36 rfl rfl hb7.range0 qw) ?_;replace hB:=(hB.tr1 s13 lo6).tr1 s14 lo7;exact⟨K4 (qq l fs) (EV c17) c17,hB⟩
 have h0:=Decidable.not_not.1 c17;have hS:=XK h0;have hfo:=N9 h0;refine zn6 ?_;refine qz WX (BK A c l _ (hT.mono hB) hS.vt hS.le) rfl (fun e' w16 hr=>?_);obtain⟨⟨bu,bd,rfl,⟨hbu,hbd⟩⟩,s15⟩:=hr;replace s15:=sB s15;replace hb6:=hb6.tr0 s15;have h6u:b6≠bu:=fun h=>absurd (vw (h ▸ hb6) hbu) dE
 have h6d:b6≠bd:=fun h=>absurd (vw (h ▸ hb6) hbd) dE
 replace hb7:=hb7.tr0 s15;have h7u:b7≠bu:=fun h=>absurd (vw (h ▸ hb7) hbu) dE
 have h7d:b7≠bd:=fun h=>absurd (vw (h ▸ hb7) hbd) dE
 refine⟨_,rfl,?_⟩;refine yv (cs:=#[.slice none 0 0,.slice none 0 0]) Y8 rfl (fun _=>rfl) (fun _=>rfl) xW rfl zJ (fun b9 w18 hb9 s16 hr=>?_);refine zn7 ?_;refine qJ (cs:=#[_,_]) [(0,.agg _),(1,.agg _)] rfl U33 zV yW dE dE kR rfl (fun b25 w19 hb25 s17 hr=>?_);refine zn5 ?_;replace hb3:=hb3.tr0 (s2.trans (s3.trans (s4.trans (s5.trans (s6.trans (s7.trans (s15.trans (s16.trans s17))))))));replace hB:=hB.tr0 (s15.trans (s16.trans s17));replace hb6:=hb6.tr0 (s16.trans s17);replace hb7:=hb7.tr0 (s16.trans s17);replace hbu:=hbu.tr0 (s16.trans s17);replace hbd:=hbd.tr0 (s16.trans s17);replace hb9:=hb9.tr0 s17;refine qQ [11,12,27,28,29,30,31,32,33,34,35,36,37,38,39,40] (fun m g w'=>∃ k:Nat,k≤2∧m=2 - k∧g 27= .int .i64 k∧Bel w w'∧Blk w' bu 117 (rU l.length (upN l))∧Blk w' bd 117 (rU l.length (Zw l))∧Blk w' b3 25 #[.slice A l.length c,.slice B fs.length d]∧Blk w' b6 86 #[.slice none 0 0,.slice none 0 0]∧Blk w' b7 36 #[.int .i64 0,.int .i64 0]∧Blk w' b9 86 #[.slice (some ⟨bu,0,none⟩) l.length l.length,.slice (some ⟨bd,0,none⟩) l.length l.length]∧Blk w' b25 30 #[.slice G1 ga.length c1,.slice G2 gb.length c2]∧(1≤k→(qK l fs ga).1=0)∧(2≤k→(qK l fs gb).1=0)) (2) ?_ (fun m g6 w20 hI=>?_)
 ·exact⟨0,Nat.zero_le _,rfl,rfl,hB,hbu,hbd,hb3,hb6,hb7,hb9,hb25,fun h=>absurd h dE,fun h=>absurd h dE⟩
 obtain⟨k,hk,hm,h27,hB,hbu,hbd,hb3,hb6,hb7,hb9,hb25,hq1,hq2⟩:=hI;refine zX 27 _ h27 nu (zn6 ?_);refine zW rfl (fun c28=>?_) (fun c28=>?_)
 ·have hlt:k < 2:=by omega
  obtain⟨Gx,cx,gx,hGx,hcx,hx0,hx1⟩:∃ (Gx:Option Addr) (cx:Nat) (gx:List Nd),NodesIn w Gx gx∧(w20).cell? ⟨b25,0 + k * 1,none⟩=some (.slice Gx gx.length cx)∧(k=0→gx=ga)∧(k=1→gx=gb):=by
    match k,hlt with
    | 0,_=>exact⟨G1,c1,ga,hG1,hb25.cell rfl,fun _=>rfl,fun h=>by cases h⟩
    | 1,_=>exact⟨G2,c2,gb,hG2,hb25.cell rfl,fun h=>(by cases h),fun _=>rfl⟩
  have htw:¬(qK l fs gx).1=0→kX l fs ga gb=((qK l fs gx).1,(qK l fs gx).2):=fun h=>by
    by_cases e:k=0
    · have hx:=hx0 e
      subst hx;exact two_one h0 h
    · have hx:=hx1 om
      subst hx;exact C6 h0 (hq1 om)
  have hrg:(w20).rangeAt b25 (0 + k * 1) [.slice Gx gx.length cx]:=fun j v hj=>by
    match j,hj with
    | 0,hj=>cases hj;exact hcx
    | _ + 1,hj=>cases hj
  refine zn7 ?_;refine wl (qW U30 rfl rfl hrg zV) ?_;refine yv (cs:=#[.slice none 0 0]) yW rfl (fun _=>rfl) (fun _=>rfl) zV rfl zJ (fun b11 w22 hb11 s18 hr=>?_);refine zn7 ?_;replace hB:=hB.tr0 s18;replace hbu:=hbu.tr0 s18;replace hbd:=hbd.tr0 s18;refine qz fn30 (QZ A B Gx c d cx bu bd l fs gx _ ⟨hbu,hbd⟩ hS.le (hF.mono hB) (hGx.mono hB) hfo) rfl (fun e' w23 hr=>?_);obtain⟨rfl,s19⟩:=hr;replace s19:=sB s19;refine⟨_,rfl,?_⟩;refine yv (cs:=#[.int .i64 0,.int .i64 0]) uQ rfl (fun _=>rfl) (fun _=>rfl) qw rfl zJ (fun b12 w25 hb12 s20 hr=>?_);replace hb6:=hb6.tr0 (s18.trans s19);have:=nLL hb6.lt hr;refine zn9 ?_;replace hb7:=hb7.tr0 (s18.trans (s19.trans s20));replace hB:=hB.tr0 (s19.trans s20);replace hb6:=hb6.tr0 s20;refine zW rfl (fun c37=>?_) (fun c37=>?_)
  ·refine y8 ?_;refine G4 #[false,false,false,false] kR (by rfl) (fun w26 s21=>?_);replace hB:=hB.tr0 s21;replace hb6:=hb6.tr0 s21;replace hb7:=hb7.tr0 s21;refine xq [0,1] kR rfl ⟨fun o hoq=>?_,fun o hoq=>?_,trivial⟩
   ·cases sI hoq;refine zn2 ?_;refine e_A (listed':=#[true,false,false,false]) (by rfl) ?_;refine xq [1,2] kR rfl ⟨fun o hoq=>?_,fun o hoq=>?_,trivial⟩
    ·cases sI hoq;refine zn2 ?_;refine e_A (listed':=#[true,true,false,false]) (by rfl) ?_;refine xq [2] kR rfl ⟨fun o hoq=>?_,trivial⟩;cases sI hoq;refine zk hb6 rfl rfl xW rfl zJ (fun w27 hq s22=>?_);replace hb6:=hq;refine zQ (e_A (listed':=#[true,true,true,false]) (by rfl) ?_);refine xq [3] kR rfl ⟨fun o hoq=>?_,trivial⟩;cases sI hoq;replace hb7:=hb7.tr1 s22 om;refine zk hb7 rfl rfl qw rfl zJ (fun w28 hq s23=>?_);replace hb7:=hq;refine zQ (e_A (listed':=#[true,true,true,true]) (by rfl) (oQ kR (zn7 ?_)));replace hb6:=hb6.tr1 s23 om;refine ZW (.inl rfl) rfl (zw U86 rfl rfl hb6.range0 xW) (zw U36 rfl rfl hb7.range0 qw) ?_;replace hB:=(hB.tr1 s22 lo6).tr1 s23 lo7;exact⟨K4 (qK l fs gx) (htw c37) c37,hB⟩
    cases sI hoq;refine zk hb6 rfl rfl xW rfl zJ (fun w29 hq s24=>?_);replace hb6:=hq;refine zQ (e_A (listed':=#[true,false,true,false]) (by rfl) ?_);refine xq [1] kR rfl ⟨fun o hoq=>?_,trivial⟩;cases sI hoq;refine zn2 ?_;refine e_A (listed':=#[true,true,true,false]) (by rfl) ?_;refine xq [3] kR rfl ⟨fun o hoq=>?_,trivial⟩;cases sI hoq;replace hb7:=hb7.tr1 s24 om;refine zk hb7 rfl rfl qw rfl zJ (fun w30 hq s25=>?_);replace hb7:=hq;refine zQ (e_A (listed':=#[true,true,true,true]) (by rfl) (oQ kR (zn7 ?_)));replace hb6:=hb6.tr1 s25 om;refine ZW (.inl rfl) rfl (zw U86 rfl rfl hb6.range0 xW) (zw U36 rfl rfl hb7.range0 qw) ?_;replace hB:=(hB.tr1 s24 lo6).tr1 s25 lo7;exact⟨K4 (qK l fs gx) (htw c37) c37,hB⟩
   cases sI hoq;refine zn2 ?_;refine e_A (listed':=#[false,true,false,false]) (by rfl) ?_;refine xq [0] kR rfl ⟨fun o hoq=>?_,trivial⟩;cases sI hoq;refine zn2 ?_;refine e_A (listed':=#[true,true,false,false]) (by rfl) ?_;refine xq [2] kR rfl ⟨fun o hoq=>?_,trivial⟩;cases sI hoq;refine zk hb6 rfl rfl xW rfl zJ (fun w31 hq s26=>?_);replace hb6:=hq;refine zQ (e_A (listed':=#[true,true,true,false]) (by rfl) ?_);refine xq [3] kR rfl ⟨fun o hoq=>?_,trivial⟩;cases sI hoq;replace hb7:=hb7.tr1 s26 om;refine zk hb7 rfl rfl qw rfl zJ (fun w32 hq s27=>?_);replace hb7:=hq;refine zQ (e_A (listed':=#[true,true,true,true]) (by rfl) (oQ kR (zn7 ?_)));replace hb6:=hb6.tr1 s27 om;refine ZW (.inl rfl) rfl (zw U86 rfl rfl hb6.range0 xW) (zw U36 rfl rfl hb7.range0 qw) ?_;replace hB:=(hB.tr1 s26 lo6).tr1 s27 lo7;exact⟨K4 (qK l fs gx) (htw c37) c37,hB⟩
  refine zn7 ?_;refine y6 (2 - (k + 1)) om agA ?_;replace hb3:=hb3.tr0 (s18.trans (s19.trans s20));replace hb9:=hb9.tr0 (s18.trans (s19.trans s20));replace hb25:=hb25.tr0 (s18.trans (s19.trans s20));replace hbu:=hbu.tr0 (s19.trans s20);replace hbd:=hbd.tr0 (s19.trans s20)
  exact⟨k + 1,by omega,rfl,rfl,hB,hbu,hbd,hb3,hb6,hb7,hb9,hb25,(fun h=>by
    by_cases e:k=0
    · rw [hx0 e] at c37;exact Decidable.not_not.1 c37
    · exact hq1 om),fun h=>by
    rw [hx1 om] at c37;exact Decidable.not_not.1 c37⟩
 have hke:k=2:=by omega
 have hz:kX l fs ga gb=(0,0):=by
   rw [C6 h0 (hq1 om)];have h2:=hq2 om;have h3:(vQ l fs gb).1=0:=by rw [Jq h0];exact h2
   have hgb:=TW h3;rw [X4 hgb.lo hgb.t hgb.u]
 refine zn8 ?_;refine wl (uZ (vs:=#[]) (cs:=#[.int .i64 0,.int .i64 0]) (by simp) kR) ?_;refine zk hb6 rfl rfl xW rfl zJ (fun w33 hq s28=>?_);replace hb6:=hq;replace hb7:=hb7.tr1 s28 om;refine zk hb7 rfl rfl qw rfl zJ (fun w34 hq s29=>?_);replace hb7:=hq;refine zn3 ?_;replace hb6:=hb6.tr1 s29 om;refine ZW (.inl rfl) rfl (zw U86 rfl rfl hb6.range0 xW) (zw U36 rfl rfl hb7.range0 qw) ?_;replace hB:=(hB.tr1 s28 lo6).tr1 s29 lo7;replace hbu:=(hbu.tr1 s28 om).tr1 s29 om;replace hbd:=(hbd.tr1 s28 om).tr1 s29 om;exact⟨both_yes hz ⟨hbu,hbd⟩,hB⟩
set_option maxHeartbeats 2000000 in
theorem find_any (G1 G2:Option Addr) (c1 c2 bu bd:Nat) (l:List Ty) (fs:List Ft) (ga gb:List Nd) (w:World) (hI:TableIn w l bu bd) (hG1:NodesIn w G1 ga) (hG2:NodesIn w G2 gb) (hva:GV l fs ga) (hvb:GV l fs gb):Calls Tryd.prog 38 #[.agg #[.slice (some ⟨bu,0,none⟩) l.length l.length,.slice (some ⟨bd,0,none⟩) l.length l.length],.agg #[.slice G1 ga.length c1],.agg #[.slice G2 gb.length c2]] w fun e w'=>FindR w.heap.size l ga gb e w'∧Bel w w':=by
 have hk:=hva.gok;have hkb:=hvb.gok;have hn6:=hk.le;have hn0:=hk.pos;have hb6:=hkb.le;have hb0:=hkb.pos;have hf40:=hva.few;have hl60:=hva.s.le;refine enter Tryd.func38 Tryd.ntmps38 rfl (Nat.le_of_ble_eq_true rfl) ?_;have hB:Bel w w:=Below.refl _ _;refine zn2 ?_;refine xk (v:= .agg #[_,_]) (cs:=#[_,_]) rfl rfl (fun b3 w1 hb3 s1 hr=>?_);refine xk (v:= .agg #[_]) (cs:=#[_]) rfl rfl (fun b4 w2 hb4 s2 hr=>?_);refine xk (v:= .agg #[_]) (cs:=#[_]) rfl rfl (fun b5 w3 hb5 s3 hr=>?_);refine zn8 ?_;refine Kx (m:=ga.length) U70 K1 rfl rfl rfl om om (fun b18 w4 hb18 s4 hr=>?_);replace hb3:=hb3.tr0 (s2.trans s3);have:=nLL hb3.lt hr;replace hb4:=hb4.tr0 s3;have:=nLL hb4.lt hr;have:=nLL hb5.lt hr;replace hB:=hB.tr0 (s1.trans (s2.trans s3));have lo18:=nLT (Bel.size hB) hr;refine jw ?_;replace hB:=hB.tr0 s4;replace hb3:=hb3.tr0 s4;replace hb4:=hb4.tr0 s4;replace hb5:=hb5.tr0 s4;refine qQ [8,21,22,23,24,25,26,27] (fun m g w'=>∃ k:Nat,k≤ga.length∧m=ga.length - k∧g 21= .int .i64 k∧Bel w w'∧Blk w' b3 86 #[.slice (some ⟨bu,0,none⟩) l.length l.length,.slice (some ⟨bd,0,none⟩) l.length l.length]∧Blk w' b4 30 #[.slice G1 ga.length c1]∧Blk w' b5 30 #[.slice G2 gb.length c2]∧Blk w' b18 3 (row ga.length (fun x=> .int .i64 ((fun x=>if x < k then -1 else 0) x)))) (ga.length) ?_ (fun m g3 w5 hI=>?_)
 ·refine⟨0,Nat.zero_le _,rfl,rfl,hB,hb3,hb4,hb5,?_⟩;rw [yK (g':=fun _=> .int .i64 0) (fun j _=>by simp)];exact hb18
 obtain⟨k,hkk,hm,h21,hB,hb3,hb4,hb5,hb18⟩:=hI;refine zX 21 _ h21 nu (zn6 ?_);refine zW rfl (fun c22=>?_) (fun c22=>?_)
 ·have hlt:k < ga.length:=by omega
  refine V8 ?_;refine xQ (v:= .int _ _) hb18 rfl rfl qy (by rw [row_size];omega) rfl u5 (fun w6 hq s5=>?_);replace hb18:=hq
  rw [yK (g':=fun x=> .int .i64 (if x < k + 1 then -1 else 0)) (fun x _=>by
    by_cases e:x=k
    · subst e;simp
    · have e1:(x < k + 1) ↔ (x < k):=by omega
      simp [e,e1])] at hb18
  refine zn7 ?_;refine y6 (ga.length - (k + 1)) om agA ?_;replace hB:=hB.tr1 s5 lo18;replace hb3:=hb3.tr1 s5 om;replace hb4:=hb4.tr1 s5 om;replace hb5:=hb5.tr1 s5 om;exact⟨k + 1,by omega,rfl,rfl,hB,hb3,hb4,hb5,hb18⟩
 have hke:k=ga.length:=by omega
 rw [hke,yK (g':=fun _=> .int .i64 (-1)) (fun j hj=>by simp [hj])] at hb18;refine zn8 ?_;refine wl (yz (i:=0) U70 qy rfl rfl hn0 rfl) ?_;refine xQ (v:= .int _ _) hb18 rfl rfl qy (by rw [row_size];omega) rfl u5 (fun w7 hq s6=>?_);replace hb18:=hq;rw [Sv (out:=fun _=>-1)] at hb18;refine zn5 ?_;refine qJ (cs:=#[_]) [(0,.int _ _)] rfl U70 qy JQ dE dE kR rfl (fun b30 w8 hb30 s7 hr=>?_);have or_b18_b30:b18 < b30:=nLL hb18.lt hr;refine zn4 ?_;replace hB:=(hB.tr1 s6 lo18).tr0 s7;replace hb3:=(hb3.tr1 s6 om).tr0 s7;replace hb4:=(hb4.tr1 s6 om).tr0 s7;replace hb5:=(hb5.tr1 s6 om).tr0 s7;replace hb18:=hb18.tr0 s7;refine qQ [6,9,10,11,13,14,31,32,33,34,35,36,37,38,39,40,41,42,43,44,45,46,47,48,49,50,51,52,53,54,55,56,57,58,59,60,61,62,63,64,65,66,67,68,69,70,71,72,73,74,75,76,77,78,79,80,81,82,83,84,85,86,87,88,89,90,91,92,93,94,95,96,97,98,99,100,101,102,103,104,105,106,107,108,109,110,111,112,113,114,115] (fun m g w'=>∃ (st:List Int) (A9:Option Addr) (cap9:Nat) (out:Nat→Int),m=2 * jq ga.length (got out) + st.length∧2 * jq ga.length (got out) + st.length≤200∧g 9= .slice A9 st.length cap9∧Bel w w'∧Blk w' b3 86 #[.slice (some ⟨bu,0,none⟩) l.length l.length,.slice (some ⟨bd,0,none⟩) l.length l.length]∧Blk w' b4 30 #[.slice G1 ga.length c1]∧Blk w' b5 30 #[.slice G2 gb.length c2]∧Blk w' b18 3 (row ga.length (fun x=> .int .i64 (out x)))∧Own w' (b18 + 1) 3 1 A9 (st).length cap9 ((st).map (Value.int .i64))∧FS l ga gb out st ga.length 0) (2 * jq ga.length (got (Vq (fun _=>-1) 0 0)) + 1) ?_ (fun m g9 w9 hI=>?_)
 ·exact⟨[0],_,_,Vq (fun _=>-1) 0 0,rfl,by have:=Ey ga.length (got (Vq (fun _=>-1) 0 0));simp only [List.length_cons,List.length_nil];omega,rfl,hB,hb3,hb4,hb5,hb18,IK hb30 or_b18_b30 rfl dE,FS.start hn0 hb0⟩
 obtain⟨st,A9,cap9,out,hm,hbd,h9,hB,hb3,hb4,hb5,hb18,ho,hfs⟩:=hI;refine zX 9 _ h9 nu (zn8 ?_);refine zW rfl (fun c33=>?_) (fun c33=>?_)
 ·obtain⟨st1,z,rfl⟩:=HK (show 0 < st.length by omega);obtain⟨i,jn,rfl,hin,hoi0,hjl,hfs1⟩:=hfs.pop;have hlen:(st1 ++ [(i:Int)]).length=st1.length + 1:=by simp
  obtain⟨q9,rfl,hqb,hql9,hqc⟩:=ho.cell (by simp);have hz:w9.cell? ⟨q9,0 + st1.length * 1,none⟩=some (.int .i64 (i:Int)):=by
    have:=hqc st1.length (.int .i64 (i:Int)) (by simp)
    simpa using this
  obtain⟨nb1,no1,LA,lc,rfl,hnb1,hnr1,hln⟩:=hG1.at_ (Below.refl _ _:Bel w w) hin;obtain⟨nb2,no2,LB,lcb,rfl,hnb2,hnr2,hlnb⟩:=hG2.at_ (Below.refl _ _:Bel w w) hjl;have hmx:=hln.1;unfold j7 at hmx;have hfwa:=hk.few i hin;have hfwb:=hkb.few jn hjl;obtain⟨yn,hyn,hynl⟩:∃ t:Nat,(ga[i]'hin).ty=(t:Int)∧t < l.length:=by
    have h:=hk.ty i hin;exact⟨(ga[i]'hin).ty.toNat,by omega,by omega⟩
  obtain⟨zn,hzn,hznl⟩:∃ t:Nat,(gb[jn]'hjl).ty=(t:Int)∧t < l.length:=by
    have h:=hkb.ty jn hjl;exact⟨(gb[jn]'hjl).ty.toNat,by omega,by omega⟩
  have hsub:sub l (nd gb jn).ty.toNat (nd ga i).ty.toNat=sub l zn yn:=by rw [yy hin,yy hjl,hyn,hzn,Int.toNat_natCast,Int.toNat_natCast]
  refine zn8 ?_;refine wl (QX (c:=(st1.length:Int)) rfl rfl (by rw [hlen];omega) om) (wl (yz (i:=st1.length) U70 qy rfl rfl (by rw [hlen];omega) rfl) (wl (qY (v:= .int _ _) U3 rfl rfl hz) (zn8 ?_)));refine wl (QX (c:=(st1.length:Int)) rfl rfl (by rw [hlen];omega) om) (wl (SJ (h:=st1.length) U70 qy rfl rfl (by have:=ho.cap_le;omega)) (zn4 ?_));replace ho:Own w9 (b18 + 1) 3 1 (some ⟨q9,0,none⟩) st1.length cap9 (st1.map (Value.int .i64)):=by
    have h:=ho.take (k':=st1.length) om om
    simpa using h
  have hcj:w9.cell? ⟨b18,0 + i * 1,none⟩=some (.int .i64 (jn:Int)):=by rw [← hoi0];exact hb18.cell (j9 hin)
  refine zn3 ?_;refine wl (yz (i:=i) U70 qy rfl rfl hin rfl) (wl (qY (v:= .int _ _) U3 rfl rfl hcj) (zn5 ?_));rw [hyn] at hnr1;rw [hzn] at hnr2;refine o8 [] [0,1,2,3,4,5,6,7,8,9,10,11,12,13,14] rfl (fun w10 s8=>?_);refine zn6 ?_;replace hB:=hB.tr0 s8;refine hl1 (v:= .int _ _) rfl U3 rfl rfl (hB.cell hnb2 (hnr2 0 _ rfl)) (zn5 ?_);refine hl1 (v:= .int _ _) rfl U3 rfl rfl (hB.cell hnb1 (hnr1 0 _ rfl)) ?_;refine hcl (fun v wv=>v= .bool (sub l zn yn)) rfl WZ (EY l bu bd zn yn w10 (hI.mono hB) hl60 hznl hynl) rfl (fun e' w2 hr=>?_) (fun v62 w11 s9 d62=>?_)
  ·obtain⟨rfl,s10⟩:=hr;exact⟨_,rfl,sB s10,rfl⟩
  have e62:=d62;subst e62;refine zn3 ?_;replace hB:=hB.tr0 s9;refine kw rfl (fun c63=>?_) (fun c63=>?_)
  ·have hno:¬Maps l ga gb:=hfs1.noTy hin (by rw [hoi0,Int.toNat_natCast,hsub];simpa using c63);refine jw ?_;exact⟨LJ hno,hB⟩
  have hty:sub l (nd gb jn).ty.toNat (nd ga i).ty.toNat=true:=by rw [hsub];simpa using c63
  refine zn7 ?_;refine wl (yz (i:=i) U28 oq rfl rfl hin rfl) (zn1 ?_);refine wl (qY (v:= .slice _ _ _) U91 rfl rfl (hB.cell hnb1 (hnr1 1 _ rfl))) (zn5 ?_);replace hb3:=hb3.tr0 (s8.trans s9);replace hb4:=hb4.tr0 (s8.trans s9);replace hb5:=hb5.tr0 (s8.trans s9);replace hb18:=hb18.tr0 (s8.trans s9);replace ho:=ho.tr0 (s8.trans s9);refine qQ [6,9,13,14,71,72,73,74,75,76,77,78,79,80,81,82,83,84,85,86,87,88,89,90,91,92,93,94,95,96,97,98,99,100,101,102,103,104,105,106,107,108,109,110,111,112,113,114,115] (fun m g w'=>∃ (q:Nat) (st2:List Int) (A5:Option Addr) (cap5:Nat) (out2:Nat→Int),q≤(ga[i]'hin).ln.length∧m=(ga[i]'hin).ln.length - q∧g 71= .int .i64 q∧g 9= .slice A5 st2.length cap5∧out2 i=(jn:Int)∧2 * jq ga.length (got out2) + st2.length≤2 * jq ga.length (got out) + st1.length∧Bel w w'∧Blk w' b3 86 #[.slice (some ⟨bu,0,none⟩) l.length l.length,.slice (some ⟨bd,0,none⟩) l.length l.length]∧Blk w' b4 30 #[.slice (some ⟨nb1,no1,none⟩) ga.length c1]∧Blk w' b5 30 #[.slice (some ⟨nb2,no2,none⟩) gb.length c2]∧Blk w' b18 3 (row ga.length (fun x=> .int .i64 (out2 x)))∧Own w' (b18 + 1) 3 1 A5 (st2).length cap5 ((st2).map (Value.int .i64))∧FS l ga gb out2 st2 i q) ((ga[i]'hin).ln.length) ?_ (fun m g16 w12 hI=>?_)
  ·exact⟨0,st1,_,_,out,Nat.zero_le _,rfl,rfl,rfl,hoi0,Nat.le_refl _,hB,hb3,hb4,hb5,hb18,ho,hfs1⟩
  obtain⟨q,st2,A5,cap5,out2,hq,hmq,h71,h9,hoi,hms,hB,hb3,hb4,hb5,hb18,ho,hfs2⟩:=hI;refine zX 71 _ h71 nu (zX 9 _ h9 nu (zn6 ?_));refine zW rfl (fun c72=>?_) (fun c72=>?_)
  ·have hql:q < (ga[i]'hin).ln.length:=by omega
   obtain⟨lb,lof,rfl,hlb,hlr⟩:=hln.at_ hB hql;obtain⟨t,ht,htl⟩:∃ t:Nat,((ga[i]'hin).ln[q]'hql).2=(t:Int)∧t < ga.length:=by
     have h1:=hk.ln i hin _ (List.getElem_mem hql);exact⟨(((ga[i]'hin).ln[q]'hql).2).toNat,by omega,by omega⟩
   have hxm:((ga[i]'hin).ln[q]'hql) ∈ (nd ga i).ln:=by rw [yy hin];exact List.getElem_mem hql
   have hte:tgt (nd gb (out2 i).toNat).ln ((ga[i]'hin).ln[q]'hql).1=tgt (gb[jn]'hjl).ln ((ga[i]'hin).ln[q]'hql).1:=by rw [hoi,Int.toNat_natCast,yy hjl]
   have hty2:sub l (nd gb (out2 i).toNat).ty.toNat (nd ga i).ty.toNat=true:=by rw [hoi,Int.toNat_natCast];exact hty
   have htr:=tgt_rng hkb hjl ((ga[i]'hin).ln[q]'hql).1;refine zn7 ?_;refine wl (qW U95 rfl rfl hlr qX) ?_;refine yv (cs:=#[.int .i64 0,.int .i64 0]) gw rfl (fun _=>rfl) (fun _=>rfl) qX rfl zJ (fun b13 w14 hb13 s11 hr=>?_);have:=nLL hb18.lt hr;have or_ho_b13:=fun g hg=>nLL (ho.lt g hg).2 hr
   refine zn3 ?_;rw [ht] at hb13;refine zn5 ?_;replace hB:=hB.tr0 s11;refine qz fn59 (Y9 (some ⟨nb2,no2,none⟩) c2 fs.length gb jn ((ga[i]'hin).ln[q]'hql).1 _ (hG2.mono hB) hjl (Y6 hvb.lo jn hjl) om) rfl (fun e' w15 hr=>?_);obtain⟨rfl,s12⟩:=hr;replace s12:=sB s12;refine⟨_,rfl,?_⟩;refine zn5 ?_;replace hb18:=hb18.tr0 (s11.trans s12);replace hB:=hB.tr0 s12;refine yV [80,81,82,83,84,85,86,87,88,89,90,91,92,93,94,95,96,97,98] 98 (.bool (decide (tgt (gb[jn]'hjl).ln ((ga[i]'hin).ln[q]'hql).1 < 0∨0≤out2 t∧¬out2 t=tgt (gb[jn]'hjl).ln ((ga[i]'hin).ln[q]'hql).1))) nu ?_ (fun gq=>?_)
   ·refine zn4 ?_;refine zY 82 rfl (fun g82=>?_) (fun g82=>?_)
    ·refine E2 ?_;refine zQ (e_R ⟨rfl,agA,?_⟩);exact clA
    refine zn7 ?_;refine wl (yz (i:=t) U70 qy rfl rfl htl rfl) (zn1 ?_);refine wl (qY (v:= .int _ _) U3 rfl rfl (hb18.cell (j9 htl))) (zn4 ?_);refine zY 89 rfl (fun g89=>?_) (fun g89=>?_)
    ·refine zn7 ?_;refine wl (yz (i:=t) U70 qy rfl rfl htl rfl) (zn1 ?_);refine wl (qY (v:= .int _ _) U3 rfl rfl (hb18.cell (j9 htl))) (zn7 ?_);refine zQ (e_R ⟨rfl,agA,?_⟩);exact clA
    refine kv ?_;refine zQ (e_R ⟨rfl,agA,?_⟩);exact clA
   refine e_S ?_;refine zW rfl (fun c98=>?_) (fun c98=>?_)
   ·have hno:¬Maps l ga gb:=hfs2.noLn hin hxm (by rw [hte,ht,Int.toNat_natCast];exact c98);refine E2 ?_;exact⟨LJ hno,hB⟩
   refine zn7 ?_;refine wl (yz (i:=t) U70 qy rfl rfl htl rfl) (wl (qY (v:= .int _ _) U3 rfl rfl (hb18.cell (j9 htl))) (zn3 ?_));replace hb3:=hb3.tr0 (s11.trans s12);replace hb4:=hb4.tr0 (s11.trans s12);replace hb5:=hb5.tr0 (s11.trans s12);replace ho:=ho.tr0 (s11.trans s12);refine zW rfl (fun c104=>?_) (fun c104=>?_)
   ·have hnew:=hfs2.new hin hql hty2 ht htl c104 (by rw [hte];omega) (by rw [hte];omega);rw [hte] at hnew;refine zn6 ?_;refine wl (yz (i:=t) U70 qy rfl rfl htl rfl) ?_;refine xQ (v:= .int _ _) hb18 rfl rfl qy (by rw [row_size];omega) rfl u5 (fun w16 hq s13=>?_);replace ho:=ho.tr1 s13 (fun g hg=>by have:=(ho.lt g hg).1;(try have:=or_ho_b18 g hg);(try simp only [aL] at hg);(try simp only [List.mem_singleton] at hg);omega);replace hb18:=hq;rw [Sv (out:=out2)] at hb18;refine zn6 ?_;refine qJ (cs:=#[_]) [(0,.int _ _)] rfl U70 qy JQ dE dE kR rfl (fun b113 w17 hb113 s14 hr=>?_);replace hb3:=hb3.tr1 s13 om;have:=nLL hb3.lt hr;replace hb4:=hb4.tr1 s13 om;have:=nLL hb4.lt hr;replace hb5:=hb5.tr1 s13 om;have:=nLL hb5.lt hr;have:=nLL hb18.lt hr;replace hb18:=hb18.tr0 s14;replace ho:=ho.tr0 s14;refine kQ U70 K1 rfl dE ho hb113 rfl rfl rfl zJ dE om om hb18.lt (fun g114 cap114 w18 ho114 s15 hg=>?_);replace hb3:=hb3.tr0 s14;replace hb4:=hb4.tr0 s14;replace hb5:=hb5.tr0 s14;have ne_ho114_b3:g114≠b3:=fun e=>by
     have hl:=hb3.lt;rcases hg with hg | hg
     · have h1:=ho.lt g114 (by rw [hg];exact List.mem_singleton.2 rfl)
       (try have:=or_ho_b3 g114 (by rw [hg];exact List.mem_singleton.2 rfl));omega
     · omega
    have ne_ho114_b4:g114≠b4:=fun e=>by
     have hl:=hb4.lt;rcases hg with hg | hg
     · have h1:=ho.lt g114 (by rw [hg];exact List.mem_singleton.2 rfl)
       (try have:=or_ho_b4 g114 (by rw [hg];exact List.mem_singleton.2 rfl));omega
     · omega
    have ne_ho114_b5:g114≠b5:=fun e=>by
     have hl:=hb5.lt;rcases hg with hg | hg
     · have h1:=ho.lt g114 (by rw [hg];exact List.mem_singleton.2 rfl)
       (try have:=or_ho_b5 g114 (by rw [hg];exact List.mem_singleton.2 rfl));omega
     · omega
    have ne_ho114_b18:g114≠b18:=fun e=>by
     have hl:=hb18.lt;rcases hg with hg | hg
     · have h1:=ho.lt g114 (by rw [hg];exact List.mem_singleton.2 rfl)
       (try have:=or_ho_b18 g114 (by rw [hg];exact List.mem_singleton.2 rfl));omega
     · omega
    have ne_ho114_b13:g114≠b13:=fun e=>by
     replace hb13:=((hb13.tr0 s12).tr1 s13 om).tr0 s14;have hl:=hb13.lt;rcases hg with hg | hg
     · have h1:=ho.lt g114 (by rw [hg];exact List.mem_singleton.2 rfl)
       (try have:=or_ho_b13 g114 (by rw [hg];exact List.mem_singleton.2 rfl));omega
     · omega
    replace hB:=(hB.tr1 s13 lo18).tr0 s14;replace hB:=hB.tr s15 (fun g hg=>nLT (Nat.le_succ_of_le lo18) (ho.lt g hg).1);replace hb3:=hb3.tr s15 (fun hx=>by have:=(ho.lt _ hx).1;(try have:=or_ho_b3 _ hx);omega);replace hb4:=hb4.tr s15 (fun hx=>by have:=(ho.lt _ hx).1;(try have:=or_ho_b4 _ hx);omega);replace hb5:=hb5.tr s15 (fun hx=>by have:=(ho.lt _ hx).1;(try have:=or_ho_b5 _ hx);omega);replace hb18:=hb18.tr s15 (fun hx=>by have:=(ho.lt _ hx).1;(try have:=or_ho_b18 _ hx);omega);refine zn8 ?_;refine y6 ((ga[i]'hin).ln.length - (q + 1)) om agA ?_
    first
      | exact⟨q + 1,st2 ++ [(t:Int)],_,_,Vq out2 t (tgt (gb[jn]'hjl).ln ((ga[i]'hin).ln[q]'hql).1),by omega,rfl,rfl,Ex _ _ _ _,by rw [jW (fun e=>by rw [← e,hoi] at c104;omega)];exact hoi,by have:=Tk htl c104 (show 0≤tgt (gb[jn]'hjl).ln ((ga[i]'hin).ln[q]'hql).1 by omega);simp only [List.length_append,List.length_cons,List.length_nil];omega,hB,hb3,hb4,hb5,hb18,IJ ho114,hnew⟩
      | exact⟨q + 1,st2,_,_,out2,by omega,rfl,rfl,rfl,hoi,hms,hB,hb3,hb4,hb5,hb18,ho,hold⟩
   have hold:=hfs2.old hin hql hty2 (by rw [ht,Int.toNat_natCast];omega) (by rw [hte,ht,Int.toNat_natCast];omega);refine zn7 ?_;refine y6 ((ga[i]'hin).ln.length - (q + 1)) om agA ?_
   first
     | exact⟨q + 1,st2 ++ [(t:Int)],_,_,Vq out2 t (tgt (gb[jn]'hjl).ln ((ga[i]'hin).ln[q]'hql).1),by omega,rfl,rfl,Ex _ _ _ _,by rw [jW (fun e=>by rw [← e,hoi] at c104;omega)];exact hoi,by have:=Tk htl c104 (show 0≤tgt (gb[jn]'hjl).ln ((ga[i]'hin).ln[q]'hql).1 by omega);simp only [List.length_append,List.length_cons,List.length_nil];omega,hB,hb3,hb4,hb5,hb18,IJ ho114,hnew⟩
     | exact⟨q + 1,st2,_,_,out2,by omega,rfl,rfl,rfl,hoi,hms,hB,hb3,hb4,hb5,hb18,ho,hold⟩
  have hqx:q=(ga[i]'hin).ln.length:=by omega
  refine zn5 ?_;refine y6 (2 * jq ga.length (got out2) + st2.length) om agA ?_;exact⟨st2,_,_,out2,rfl,by omega,rfl,hB,hb3,hb4,hb5,hb18,ho,hfs2.done hin hqx (by rw [hoi,Int.toNat_natCast];exact hty)⟩
 have hst:st= []:=List.length_eq_zero_iff.1 om;subst hst;refine Z8 ?_;exact⟨find_yes hva.rch hfs hb18 hn6 lo18,hB⟩
set_option maxHeartbeats 1000000 in
theorem subs_any (A B G1 G2:Option Addr) (c d c1 c2:Nat) (l:List Ty) (fs:List Ft) (ga gb:List Nd) (w:World) (hTab:TabIn w) (hT:TypesIn w A l) (hF:FeatsIn w B fs) (hG1:NodesIn w G1 ga) (hG2:NodesIn w G2 gb):Calls Tryd.prog 9 #[.agg #[.slice A l.length c,.slice B fs.length d],.agg #[.slice G1 ga.length c1],.agg #[.slice G2 gb.length c2]] w fun e w'=>e= .returned (.tuple #[.bool (S9 l fs ga gb),.agg #[.int .i64 (kX l fs ga gb).1,.int .i64 (kX l fs ga gb).2]])∧Bel w w':=by
 refine enter Tryd.func9 Tryd.ntmps9 rfl (Nat.le_of_ble_eq_true rfl) ?_;have hB:Bel w w:=Below.refl _ _;refine zn2 ?_;refine xk (v:= .agg #[_,_]) (cs:=#[_,_]) rfl rfl (fun b3 w1 hb3 s1 hr=>?_);refine xk (v:= .agg #[_]) (cs:=#[_]) rfl rfl (fun b4 w2 hb4 s2 hr=>?_);refine xk (v:= .agg #[_]) (cs:=#[_]) rfl rfl (fun b5 w3 hb5 s3 hr=>?_);refine waB rfl ?_;refine qV (cs:=#[.int .i64 0,.int .i64 0]) uQ rfl (fun b7 w4 hb7 s4 hr=>?_);replace hB:=hB.tr0 (s1.trans (s2.trans s3));have lo7:=nLT (Bel.size hB) hr;refine zn7 ?_;replace hB:=hB.tr0 s4;refine qz fn35 (R8 A B G1 G2 c d c1 c2 l fs ga gb _ (hTab.mono hB) (hT.mono hB) (hF.mono hB) (hG1.mono hB) (hG2.mono hB)) rfl (fun e' w5 hr=>?_);obtain⟨⟨U,D,n1,k1,n2,k2,rfl,hTB⟩,s5⟩:=hr;replace s5:=sB s5;have hB9:Bel w5 w5:=Below.refl _ _;refine⟨_,rfl,?_⟩;refine wmT rfl (wl (yZ (v:=_) rfl rfl) (wl (yZ (v:=_) rfl rfl) ?_));refine qV (cs:=#[.slice none 0 0,.slice none 0 0]) Y8 rfl (fun b8 w6 hb8 s6 hr=>?_);replace hb4:=hb4.tr0 (s3.trans (s4.trans s5));have:=nLL hb4.lt hr;replace hb5:=hb5.tr0 (s4.trans s5);have:=nLL hb5.lt hr;replace hb7:=hb7.tr0 s5;have:=nLL hb7.lt hr;replace hB:=hB.tr0 s5;have lo8:=nLT (Bel.size hB) hr;have lo_hB9_b8:=nLT (Bel.size hB9) hr;refine qV (cs:=#[.int .i64 0,.int .i64 0]) uQ rfl (fun b9 w7 hb9 s7 hr=>?_);replace hb4:=hb4.tr0 s6;have:=nLL hb4.lt hr;replace hb5:=hb5.tr0 s6;have:=nLL hb5.lt hr;replace hb7:=hb7.tr0 s6;have:=nLL hb7.lt hr;have:=nLL hb8.lt hr;replace hB:=hB.tr0 s6;have lo9:=nLT (Bel.size hB) hr;replace hB9:=hB9.tr0 s6;have lo_hB9_b9:=nLT (Bel.size hB9) hr;replace hb8:=hb8.tr0 s7;refine zk hb8 rfl rfl xW rfl zJ (fun w8 hq s8=>?_);replace hb8:=hq;replace hb9:=hb9.tr1 s8 om;refine zk hb9 rfl rfl qw rfl zJ (fun w9 hq s9=>?_);replace hb9:=hq;refine kv ?_;replace hB:=((hB.tr0 s7).tr1 s8 lo8).tr1 s9 lo9;replace hb7:=((hb7.tr0 s7).tr1 s8 om).tr1 s9 om;refine zW rfl (fun c19=>?_) (fun c19=>?_)
 ·refine y8 ?_;refine G4 #[false,false,false] kR (by rfl) (fun w10 s10=>?_);replace hB:=hB.tr0 s10;replace hb7:=hb7.tr0 s10;refine xq [0,1] kR rfl ⟨fun o hoq=>?_,fun o hoq=>?_,trivial⟩
  ·cases sI hoq;refine zn2 ?_;refine e_A (listed':=#[true,false,false]) (by rfl) ?_;refine xq [1] kR rfl ⟨fun o hoq=>?_,trivial⟩;cases sI hoq;refine zn2 ?_;refine e_A (listed':=#[true,true,false]) (by rfl) ?_;refine xq [2] kR rfl ⟨fun o hoq=>?_,trivial⟩;cases sI hoq;refine zk hb7 rfl rfl qw rfl zJ (fun w11 hq s11=>?_);replace hb7:=hq;refine zQ (e_A (listed':=#[true,true,true]) (by rfl) (oQ kR (zn3 ?_)));refine ZW (.inl rfl) rfl rfl (zw U36 rfl rfl hb7.range0 qw) ?_;replace hB:=hB.tr1 s11 lo7;exact⟨FQ (HQ c19) rfl,hB⟩
  cases sI hoq;refine zn2 ?_;refine e_A (listed':=#[false,true,false]) (by rfl) ?_;refine xq [0] kR rfl ⟨fun o hoq=>?_,trivial⟩;cases sI hoq;refine zn2 ?_;refine e_A (listed':=#[true,true,false]) (by rfl) ?_;refine xq [2] kR rfl ⟨fun o hoq=>?_,trivial⟩;cases sI hoq;refine zk hb7 rfl rfl qw rfl zJ (fun w12 hq s12=>?_);replace hb7:=hq;refine zQ (e_A (listed':=#[true,true,true]) (by rfl) (oQ kR (zn3 ?_)));refine ZW (.inl rfl) rfl rfl (zw U36 rfl rfl hb7.range0 qw) ?_;replace hB:=hB.tr1 s12 lo7;exact⟨FQ (HQ c19) rfl,hB⟩
 have h0:=Decidable.not_not.1 c19;obtain⟨⟨hva,hvb⟩,_⟩:=EW h0;have hzz:=two_zz h0;obtain⟨bu,bd,⟨rfl,rfl,rfl,rfl,rfl,rfl⟩,hTI⟩:=hTB h0;refine zn7 ?_;replace hB9:=((hB9.tr0 s7).tr1 s8 lo_hB9_b8).tr1 s9 lo_hB9_b9;refine qz fn38 (find_any G1 G2 c1 c2 bu bd l fs ga gb _ (hTI.mono hB9) (hG1.mono hB) (hG2.mono hB) hva hvb) rfl (fun e' w13 hr=>?_);obtain⟨⟨FA,fc,rfl,_,hFN⟩,s13⟩:=hr;replace s13:=sB s13;refine⟨_,rfl,?_⟩;refine wl (r_neqNil U70 rfl rfl) (wl (uZ (vs:=#[]) (cs:=#[.int .i64 0,.int .i64 0]) (by simp) kR) (waB rfl ?_));replace hb7:=hb7.tr0 s13;refine zk hb7 rfl rfl qw rfl zJ (fun w14 hq s14=>?_);replace hb7:=hq;refine zn3 ?_;refine ZW (.inl rfl) rfl rfl (zw U36 rfl rfl hb7.range0 qw) ?_;replace hB:=(hB.tr0 s13).tr1 s14 lo7;exact⟨FQ (by rw [S8 h0,hFN,Bool.not_not]) hzz,hB⟩
end Go.Proofs.YtdgnllfbooklcaaDoor
namespace Go.Proofs.YtdgnllfbooklcaaDoor
open Go.RowKit
section order
variable {l:List Ty} {fs:List Ft} {a b c:List Nd}
def Srt (xs:List (Int×Int)):Prop:=xs.Pairwise (fun x y=>x.1 < y.1)
theorem srt_of {nf n:Nat} {last:Int} {xs:List (Int×Int)} (h:y9 nf n last xs=0):Srt xs:=by
  have hs:=(K0 h).2;refine List.pairwise_iff_getElem.2 (fun i j hi hj hij=>hs i j hi hj hij)
theorem F1 {xs:List (Int×Int)} (hs:Srt xs) {x:Int×Int} (hx:x ∈ xs):tgt xs x.1=x.2:=by
  induction xs with
  | nil=>cases hx
  | cons y ys ih=>
    obtain⟨h1,h2⟩:=List.pairwise_cons.1 hs;rcases List.mem_cons.1 hx with e | e
    · subst e;simp [tgt]
    · have hne:¬y.1=x.1:=by have:=h1 x e;omega
      have:=ih h2 e;simp only [tgt,List.find?_cons,hne,decide_false] at this ⊢;exact this
theorem X8 {xs:List (Int×Int)} {f:Int} (h:0≤tgt xs f):(f,tgt xs f) ∈ xs:=by
  induction xs with
  | nil=>simp [tgt] at h
  | cons y ys ih=>
    by_cases e:y.1=f
    · have:tgt (y :: ys) f=y.2:=by simp [tgt,e]
      rw [this];have:(f,y.2)=y:=by rw [← e]
      rw [this];exact List.mem_cons_self ..
    · have:tgt (y :: ys) f=tgt ys f:=by simp [tgt,e]
      rw [this] at h ⊢;exact List.mem_cons_of_mem _ (ih h)
theorem HJ:∀ {xs ys:List (Int×Int)},Srt xs→Srt ys→(∀ z,z ∈ xs ↔ z ∈ ys)→xs=ys
  | [],[],_,_,_=>rfl
  | [],y :: ys,_,_,h=>by have:=(h y).2 (List.mem_cons_self ..);cases this
  | x :: xs,[],_,_,h=>by have:=(h x).1 (List.mem_cons_self ..);cases this
  | x :: xs,y :: ys,hx,hy,h=>by
    obtain⟨h1,h2⟩:=List.pairwise_cons.1 hx
    obtain⟨h3,h4⟩:=List.pairwise_cons.1 hy
    have e:x=y:=by
      rcases List.mem_cons.1 ((h x).1 (List.mem_cons_self ..)) with e | e
      · exact e
      · rcases List.mem_cons.1 ((h y).2 (List.mem_cons_self ..)) with e2 | e2
        · exact e2.symm
        · have:=h1 y e2;have:=h3 x e;omega
    subst e;refine congrArg _ (HJ h2 h4 (fun z=>⟨fun hz=>?_,fun hz=>?_⟩))
    · rcases List.mem_cons.1 ((h z).1 (List.mem_cons_of_mem _ hz)) with e | e
      · have:=h1 z hz;rw [e] at this;omega
      · exact e
    · rcases List.mem_cons.1 ((h z).2 (List.mem_cons_of_mem _ hz)) with e | e
      · have:=h3 z hz;rw [e] at this;omega
      · exact e
theorem Oq:∀ {xs ys:List Nat},xs.Nodup→(∀ x ∈ xs,x ∈ ys)→xs.length≤ys.length
  | [],_,_,_=>Nat.zero_le _
  | x :: xs,ys,hn,h=>by
    obtain⟨h1,h2⟩:=List.nodup_cons.1 hn
    have hx:=h x (List.mem_cons_self ..)
    have hl:=List.length_erase_of_mem hx
    have hp:=List.length_pos_of_mem hx
    have:=Oq (xs:=xs) (ys:=ys.erase x) h2 (fun y hy=>(List.mem_erase_of_ne (fun e:y=x=>h1 (by rw [← e];exact hy))).2 (h y (List.mem_cons_of_mem _ hy)))
    rw [List.length_cons];omega
structure GY (l:List Ty) (a:List Nd):Prop where
  vt:VT l
  pos:0 < a.length
  tr:∀ i,i < a.length→0≤(nd a i).ty∧(nd a i).ty < l.length
  srt:∀ i,i < a.length→Srt (nd a i).ln
  lr:∀ i,i < a.length→∀ x ∈ (nd a i).ln,0≤x.2∧x.2.toNat < a.length
structure GX (l:List Ty) (a:List Nd):Prop extends GY l a where
  rch:∀ i,i < a.length→Rch a i
theorem GV.gx (h:GV l fs a):GX l a:=
  ⟨⟨h.s.vt,h.gok.pos,fun i hi=>by rw [yy hi];exact h.gok.ty i hi,fun i hi=>by rw [yy hi];exact srt_of (Y6 h.lo i hi),fun i hi x hx=>by
    rw [yy hi] at hx
    have:=h.gok.ln i hi x hx
    omega⟩,h.rch⟩
theorem Ov {nf n:Nat}:∀ {xs:List (Int×Int)} {last:Int},Srt xs→(∀ x ∈ xs,last < x.1∧0≤x.1∧x.1 < nf∧0≤x.2∧x.2 < n)→y9 nf n last xs=0
  | [],_,_,_=>rfl
  | x :: xs,last,hs,h=>by
    obtain⟨h1,h2⟩:=List.pairwise_cons.1 hs
    have h3:=h x (List.mem_cons_self ..)
    have h4:¬uy nf n x:=by unfold uy;omega
    unfold y9
    rw [if_neg h4,if_neg (show ¬x.1≤last by omega)]
    exact Ov h2 (fun y hy=>by
      have:=h y (List.mem_cons_of_mem _ hy)
      have:=h1 y hy
      omega)
theorem gf_mk (h:(qq l fs).1=0) (hx:GX l a) (hle:a.length≤60) (hf:∀ i,i < a.length→∀ x ∈ (nd a i).ln,0≤x.1∧x.1 < fs.length)
    (ht:∀ i,i < a.length→∀ x ∈ (nd a i).ln,sub l (nd a i).ty.toNat (N8 fs x.1).of.toNat=true∧sub l (nd a x.2.toNat).ty.toNat (N8 fs x.1).val.toNat=true):vQ l fs a=(0,0):=by
  have hl:vk l.length fs.length a=(0,0):=by
    unfold vk;have:=hx.pos;rw [if_neg om];refine gW (fun k _ hk=>?_);have hk':k < a.length:=by omega
    have hty:=hx.tr k hk';rw [yy hk'] at hty;rw [Qk hk' om,List.drop_zero];refine Ov (by rw [← yy hk'];exact hx.srt k hk') (fun x hxm=>?_);rw [← yy hk'] at hxm;have h1:=hx.lr k hk' x hxm;have h2:=hf k hk' x hxm;omega
  have ht2:tyF l fs a=(0,0):=by
    refine gW (fun k _ hk=>?_);have hk':k < a.length:=by omega
    refine C5 hk' (fun j hj=>?_);have hm:(a[k]).ln[j] ∈ (nd a k).ln:=by rw [yy hk'];exact List.getElem_mem hj
    obtain⟨h1,h2⟩:=ht k hk' _ hm;rw [yy hk'] at h1;unfold M1;rw [h1,show (IV a (a[k]).ln[j].2).ty.toNat=(nd a ((a[k]).ln[j]).2.toNat).ty.toNat from rfl,h2];rfl
  have hu:(-1:Int)=Vv a:=Mw (.inl ⟨rfl,hx.rch⟩);rw [Jq h,X4 (by rw [hl]) ht2 om]
theorem GV.lt (h:GV l fs a) {i:Nat} (hi:i < a.length) {x:Int×Int} (hx:x ∈ (nd a i).ln):0≤x.1∧x.1 < fs.length∧sub l (nd a i).ty.toNat (N8 fs x.1).of.toNat=true∧sub l (nd a x.2.toNat).ty.toNat (N8 fs x.1).val.toNat=true:=by
  rw [yy hi] at hx;have h1:=h.gok.ln i hi x hx;have h0:tyN l fs a i=0:=u4 (by rw [show qZ (tyN l fs a) 0 a.length=tyF l fs a from rfl,h.t]) _ (Nat.zero_le _) om;have h2:M1 l fs a (a[i]).ty x=false:=by
    simp only [tyN,List.getElem?_eq_getElem hi] at h0;cases hb:M1 l fs a (a[i]).ty x with
    | false=>rfl
    | true=>rw [if_pos (List.any_eq_true.2 ⟨x,hx,hb⟩)] at h0;cases h0
  unfold M1 at h2;rw [show (IV a x.2).ty.toNat=(nd a x.2.toNat).ty.toNat from rfl,Bool.or_eq_false_iff] at h2;rw [yy hi];simp only [Bool.not_eq_false'] at h2;exact⟨h1.1,h1.2.1,h2.1,h2.2⟩
theorem GY.rng (h:GY l a):∀ i,i < a.length→∀ t ∈ vz a i,t < a.length:=fun i hi t ht=>by
  simp only [vz,List.mem_map] at ht
  obtain⟨x,hx,rfl⟩:=ht
  exact(h.lr i hi x hx).2
theorem GY.trr (h:GY l a) {r:Nat} {o:List Nat} (hrl:r < a.length) (hd:DL a [r] [] o):TrR a r o:=by
  have hr:=h.rng;obtain⟨hok,_,_⟩:=hd.ok hr (fun i hi=>by rw [List.mem_singleton.1 hi];exact hrl) (OOk.nil _);have h0:=hd.has r (by simp);refine⟨hd,hok,hd.nodup List.nodup_nil,h0,?_,fun x hx=>hd.clo x hx (by simp)⟩;cases hd with
  | old h' t=>cases h'
  | new h' s t=>
    cases t;obtain⟨_,s1,e1⟩:=s.ok hr (hr r hrl) ((OOk.nil _).snoc hrl (by simp));rw [e1];simp
theorem Hom.refl (h:GX l a):Hom l a a (fun i=>i):=
  ⟨rfl,fun _ hi=>hi,fun _ _=>XJ h.vt _,fun i hi x hx=>by
    have:=h.lr i hi x hx
    rw [F1 (h.srt i hi) hx];omega⟩
theorem Hom.comp {φ ψ:Nat→Nat} (hl:VT l) (hφ:Hom l a b φ) (hψ:Hom l b c ψ):Hom l a c (fun i=>ψ (φ i)):=
  ⟨by show ψ (φ 0)=0;rw [hφ.zero,hψ.zero],fun i hi=>hψ.lt _ (hφ.lt i hi),fun i hi=>Q6 hl (hψ.ty _ (hφ.lt i hi)) (hφ.ty i hi),fun i hi x hx=>by
    have h1:=hφ.ln i hi x hx
    have hm:=X8 (xs:=(nd b (φ i)).ln) (f:=x.1) om
    rw [h1] at hm
    have:=hψ.ln _ (hφ.lt i hi) _ hm
    rw [Int.toNat_natCast] at this
    exact this⟩
theorem Maps.comp (hl:VT l) (h:Maps l a b) (k:Maps l b c):Maps l a c:=by
  obtain⟨φ,hφ⟩:=h;obtain⟨ψ,hψ⟩:=k;exact⟨_,hφ.comp hl hψ⟩
theorem turn_hom {φ ψ:Nat→Nat} (ha:GX l a) (hb:GX l b) (hφ:Hom l a b φ) (hψ:Hom l b a ψ):Turn a b φ ψ:=by
  have hvt:=ha.vt;have h1:∀ i,i < a.length→ψ (φ i)=i:=fun i hi=>(hφ.comp hvt hψ).uniq (Hom.refl ha) (ha.rch i hi)
  have h2:∀ i,i < b.length→φ (ψ i)=i:=fun i hi=>(hψ.comp hvt hφ).uniq (Hom.refl hb) (hb.rch i hi)
  have hlen:b.length=a.length:=by
    have n1:((List.range a.length).map φ).Nodup:=by
      refine List.nodup_iff_pairwise_ne.2 (List.pairwise_map.2 ?_);refine List.Pairwise.imp_of_mem (fun {x y} hx hy hne e=>hne ?_) List.nodup_range;rw [← h1 x (List.mem_range.1 hx),← h1 y (List.mem_range.1 hy),e]
    have n2:((List.range b.length).map ψ).Nodup:=by
      refine List.nodup_iff_pairwise_ne.2 (List.pairwise_map.2 ?_);refine List.Pairwise.imp_of_mem (fun {x y} hx hy hne e=>hne ?_) List.nodup_range;rw [← h2 x (List.mem_range.1 hx),← h2 y (List.mem_range.1 hy),e]
    have l1:=(Oq n1 (ys:=List.range b.length) (fun z hz=>by
      obtain⟨x,hx,rfl⟩:=List.mem_map.1 hz
      exact List.mem_range.2 (hφ.lt x (List.mem_range.1 hx))))
    have l2:=(Oq n2 (ys:=List.range a.length) (fun z hz=>by
      obtain⟨x,hx,rfl⟩:=List.mem_map.1 hz
      exact List.mem_range.2 (hψ.lt x (List.mem_range.1 hx))))
    simp at l1 l2;omega
  refine⟨hlen,hφ.zero,fun i hi=>by rw [← hlen];exact hφ.lt i hi,fun j hj=>?_,h1,fun i hi=>?_⟩
  · rw [← hlen] at hj
    exact⟨hψ.lt j hj,h2 j hj⟩
  · have hbi:=hφ.lt i hi
    have t1:=hφ.ty i hi;have t2:=hψ.ty _ hbi;rw [h1 i hi] at t2;have r1:=ha.tr i hi;have r2:=hb.tr _ hbi;have e:=S6 hvt t1 t2;refine YZ (by show (nd b (φ i)).ty=(nd a i).ty;omega) ?_;show (nd b (φ i)).ln=(nd a i).ln.map (fun y=>(y.1,((φ y.2.toNat:Nat):Int)));refine HJ (hb.srt _ hbi) ?_ (fun z=>⟨fun hz=>?_,fun hz=>?_⟩)
    · exact List.pairwise_map.2 (ha.srt _ hi)
    · have g1:=hψ.ln _ hbi z hz
      rw [h1 i hi] at g1;have g2:=hb.lr _ hbi z hz;have hm:=X8 (xs:=(nd a i).ln) (f:=z.1) om;rw [g1] at hm;refine List.mem_map.2 ⟨_,hm,?_⟩;have e2:=h2 _ g2.2;show (z.1,((φ ((ψ z.2.toNat:Nat):Int).toNat:Nat):Int))=z;rw [Int.toNat_natCast,e2,Int.toNat_of_nonneg g2.1]
    · obtain⟨y,hy,rfl⟩:=List.mem_map.1 hz
      have g1:=hφ.ln i hi y hy;have hm:=X8 (xs:=(nd b (φ i)).ln) (f:=y.1) om;rw [g1] at hm;exact hm
theorem WW (ha:GX l a) (hb:GX l b) (h:Maps l a b) (k:Maps l b a) {oa ob:List Nat} (ta:DL a [0] [] oa) (tb:DL b [0] [] ob):yk b ob=yk a oa:=by
  obtain⟨φ,hφ⟩:=h;obtain⟨ψ,hψ⟩:=k;have t:=turn_hom ha hb hφ hψ;have ho:=(ha.trr ha.pos ta).ok.lt;have hd2:=t.dl ha.rng ta (fun i hi=>by rw [List.mem_singleton.1 hi];exact ha.pos) ho;simp only [List.map_cons,List.map_nil,t.z] at hd2;rw [← hd2.det tb];exact t.can ha.rng ho
theorem YV {r:Nat} {o:List Nat} (t:TrR a r o) {x:Nat} (hx:x ∈ o):nd (yk a o) (o.idxOf x)=trN (o.idxOf ·) (nd a x):=by
  rw [Mq hx];refine YZ rfl ?_;simp only [PZ,trN];refine List.map_congr_left (fun y hy=>?_);simp only [KV,Ev (t.mem hx hy)]
theorem LK {g:List Nd} (hr:∀ i,i < g.length→∀ t ∈ vz g i,t < g.length):∀ (n:Nat) (is o:List Nat),jq g.length (YX o)≤n→(∀ i ∈ is,i < g.length)→∃ o',DL g is o o'
  | n,[],o,_,_=>⟨o,.nil⟩
  | n,i :: is,o,hn,hi=>by
    have hil:=hi i (List.mem_cons_self ..)
    have his:∀ j ∈ is,j < g.length:=fun j hj=>hi j (List.mem_cons_of_mem _ hj)
    by_cases h:i ∈ o
    · obtain⟨o',h1⟩:=LK hr n is o hn his
      exact⟨o',.old h h1⟩
    · have hl:=N6 hil h
      cases n with
      | zero=>omega
      | succ n=>
        obtain⟨o1,h1⟩:=LK hr n (vz g i) (o ++ [i]) om (hr i hil)
        have hm:jq g.length (YX o1)≤jq g.length (YX (o ++ [i])):=by
          unfold jq;refine List.countP_mono_left (fun x _ hx=>?_);simp only [YX,Bool.not_eq_true',decide_eq_false_iff_not] at hx ⊢;exact fun k=>hx (h1.sub x k)
        obtain⟨o',h2⟩:=LK hr n is o1 om his;exact⟨o',.new h h1 h2⟩
theorem GY.dl (h:GY l a) {r:Nat} (hr:r < a.length):∃ o,DL a [r] [] o:=LK h.rng _ [r] [] (Nat.le_refl _) (fun i hi=>by rw [List.mem_singleton.1 hi];exact hr)
theorem TrR.at_ {r:Nat} {o:List Nat} (t:TrR a r o) {j:Nat} (hj:j < (yk a o).length):∃ x,x ∈ o∧o.idxOf x=j∧o.getD j 0=x∧nd (yk a o) j=trN (o.idxOf ·) (nd a x):=by
  rw [o6] at hj;have hjo:=List.getElem_mem hj;have h1:=YV t hjo;rw [M3 t.nodup hj] at h1;exact⟨o[j],hjo,M3 t.nodup hj,by simp [List.getD,hj],h1⟩
theorem TrR.gx {r:Nat} {o:List Nat} (t:TrR a r o) (ha:GY l a):GX l (yk a o):=by
  have hlen:=o6 a o;have hrg:∀ i,i < (yk a o).length→∀ x ∈ (nd (yk a o) i).ln,0≤x.2∧x.2.toNat < (yk a o).length:=fun j hj x hx=>by
    obtain⟨y,hy,_,_,e⟩:=t.at_ hj;rw [e] at hx;obtain⟨z,hz,rfl⟩:=List.mem_map.1 hx;have:=(ky (t.mem hy hz)).1;simp only [hlen];omega
  refine⟨⟨ha.vt,by rw [hlen];exact List.length_pos_of_mem t.has,fun j hj=>?_,fun j hj=>?_,hrg⟩,fun j hj=>?_⟩
  · obtain⟨y,hy,_,_,e⟩:=t.at_ hj
    rw [e];exact ha.tr _ (t.lt hy)
  · obtain⟨y,hy,_,_,e⟩:=t.at_ hj
    rw [e];exact List.pairwise_map.2 (ha.srt _ (t.lt hy))
  · have hd:=t.dl2 t.has t.dl
    rw [t.zero,CK t.nodup] at hd
    have hR:=hd.rch (fun i hi y hy=>by
      simp only [vz,List.mem_map] at hy;obtain⟨x,hx,rfl⟩:=hy
      exact(hrg i hi x hx).2) (fun i hi=>by rw [List.mem_singleton.1 hi,hlen];exact List.length_pos_of_mem t.has) (fun i hi=>by rw [List.mem_singleton.1 hi];exact .zero) (fun x hx=>by cases hx)
    exact hR j (List.mem_range.2 (by rw [← hlen];exact hj))
theorem Hom.part {φ:Nat→Nat} (h:Hom l a b φ) (hb:GX l b) {i:Nat} {oa ob:List Nat} (ta:TrR a i oa) (tb:TrR b (φ i) ob):Maps l (yk a oa) (yk b ob):=by
  have hmem:∀ x,x ∈ oa→φ x ∈ ob:=by
    have hR:∀ x,x ∈ oa→x ∈ oa∧φ x ∈ ob:=by
      have hw:=DL.within (o:=oa.filter (fun x=>decide (φ x ∈ ob))) (g:=a) (fun x hx t ht=>by
        simp only [List.mem_filter,decide_eq_true_eq] at hx ⊢;refine⟨ta.clo x hx.1 t ht,?_⟩;simp only [vz,List.mem_map] at ht;obtain⟨y,hy,rfl⟩:=ht;have h2:=h.ln x (ta.lt hx.1) y hy;have hm:=X8 (xs:=(nd b (φ x)).ln) (f:=y.1) om;rw [h2] at hm;have:=tb.mem hx.2 hm
        rwa [Int.toNat_natCast] at this) ta.dl (fun z hz=>by
          rw [List.mem_singleton.1 hz];simp only [List.mem_filter,decide_eq_true_eq]
          exact⟨ta.has,tb.has⟩) (fun x hx=>by cases hx)
      intro x hx;have:=hw x hx;simp only [List.mem_filter,decide_eq_true_eq] at this;exact this
    exact fun x hx=>(hR x hx).2
  have hgb:=tb.gx hb.toGY;have la:=o6 a oa;have lb:=o6 b ob;have hz:oa.getD 0 0=i:=by
    have h0:=ky ta.has;have hp:0 < oa.length:=by have:=h0.1;omega
    have:=h0.2;simp only [ta.zero] at this;simp [List.getD,hp,this]
  have hat:∀ j,j < (yk a oa).length→oa.getD j 0 ∈ oa∧nd (yk a oa) j=trN (oa.idxOf ·) (nd a (oa.getD j 0)):=fun j hj=>by
    rw [la] at hj;have e:oa.getD j 0=oa[j]:=by simp [List.getD,hj]
    have hjo:=List.getElem_mem hj;have h1:=YV ta hjo;rw [M3 ta.nodup hj] at h1;rw [e];exact⟨hjo,h1⟩
  refine⟨fun j=>ob.idxOf (φ (oa.getD j 0)),?_,fun j hj=>?_,fun j hj=>?_,fun j hj x hx=>?_⟩
  · show ob.idxOf (φ (oa.getD 0 0))=0
    rw [hz];exact tb.zero
  · rw [lb];exact(ky (hmem _ (hat j hj).1)).1
  · obtain⟨h1,h2⟩:=hat j hj
    show sub l (nd (yk b ob) (ob.idxOf (φ (oa.getD j 0)))).ty.toNat _=true;rw [h2,YV tb (hmem _ h1)];exact h.ty _ (ta.lt h1)
  · obtain⟨h1,h2⟩:=hat j hj
    rw [h2] at hx;obtain⟨y,hy,rfl⟩:=List.mem_map.1 hx;have hb1:=ky (hmem _ h1);have hs:=hgb.srt (ob.idxOf (φ (oa.getD j 0))) (by rw [lb];exact hb1.1);have h3:=h.ln _ (ta.lt h1) y hy;have hm:=X8 (xs:=(nd b (φ (oa.getD j 0))).ln) (f:=y.1) om;rw [h3] at hm;show tgt (nd (yk b ob) (ob.idxOf (φ (oa.getD j 0)))).ln y.1=((ob.idxOf (φ (oa.getD ((oa.idxOf y.2.toNat:Nat):Int).toNat 0)):Nat):Int);have hyo:=ky (ta.mem h1 hy);have e2:oa.getD (oa.idxOf y.2.toNat) 0=y.2.toNat:=by
      have:=hyo.2;simp [List.getD,hyo.1,this]
    rw [Int.toNat_natCast,e2];rw [YV tb (hmem _ h1)] at hs ⊢;have hm2:((y.1,((ob.idxOf (φ y.2.toNat):Nat):Int)):Int×Int) ∈ (trN (ob.idxOf ·) (nd b (φ (oa.getD j 0)))).ln:=List.mem_map.2 ⟨_,hm,by rw [Int.toNat_natCast]⟩;exact F1 hs hm2
end order
end Go.Proofs.YtdgnllfbooklcaaDoor
