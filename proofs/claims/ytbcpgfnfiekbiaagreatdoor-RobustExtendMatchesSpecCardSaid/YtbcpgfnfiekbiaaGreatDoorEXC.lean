/- Proved: for every world and every input, the law RobustExtendMatchesSpec of glosswrightlaw4 returns true and leaves its arguments as they were; the condition is the statement's own, that the listed tables hold what their text lays. -/
import Derived.Test.YtbcpgfnfiekbiaaGreatDoorU
import Derived.Test.YtbcpgfnfiekbiaaGreatDoorCards
import Derived.Test.YtbcpgfnfiekbiaaGreatDoorTie
import Derived.Test.YtbcpgfnfiekbiaaGreatDoorOpen
import Derived.WalkKit
import Derived.LaidSub
import Derived.Deep.DeepLaidRun
import Derived.SizedLaws
import Derived.Lib.LaidU8
import Derived.ProofKit
import Derived.Deep.DeepHandedRow
import Derived.Lib.LaidTab
import Derived.Test.YtbcpgfnfiekbiaaGreatDoorTOpen
namespace Go.Proofs.YtbcpgfnfiekbiaaGreatDoor
open Go.ChangeShapes Go.WideShapes Go.ChangeAt Go.RowKit Go.Joins
theorem ce3:Tryz.prog.cellsOf 3=1:=by kernel_rfl
theorem ce9:Tryz.prog.cellsOf 9=1:=by kernel_rfl
theorem ce22:Tryz.prog.cellsOf 22=1:=by kernel_rfl
theorem ce23:Tryz.prog.cellsOf 23=1:=by kernel_rfl
theorem ce25:Tryz.prog.cellsOf 25=2:=by kernel_rfl
theorem ce26:Tryz.prog.cellsOf 26=1:=by kernel_rfl
theorem ce27:Tryz.prog.cellsOf 27=1:=by kernel_rfl
theorem ce28:Tryz.prog.cellsOf 28=1:=by kernel_rfl
theorem ce30:Tryz.prog.cellsOf 30=1:=by kernel_rfl
theorem ce32:Tryz.prog.cellsOf 32=5:=by kernel_rfl
theorem ce39:Tryz.prog.cellsOf 39=1:=by kernel_rfl
theorem ce41:Tryz.prog.cellsOf 41=2:=by kernel_rfl
theorem ce42:Tryz.prog.cellsOf 42=1:=by kernel_rfl
theorem ce44:Tryz.prog.cellsOf 44=6:=by kernel_rfl
theorem ce46:Tryz.prog.cellsOf 46=9:=by kernel_rfl
theorem ce54:Tryz.prog.cellsOf 54=10:=by kernel_rfl
theorem ce66:Tryz.prog.cellsOf 66=1:=by kernel_rfl
theorem ce68:Tryz.prog.cellsOf 68=3:=by kernel_rfl
theorem ce110:Tryz.prog.cellsOf 110=2:=by kernel_rfl
theorem ce111:Tryz.prog.cellsOf 111=1:=by kernel_rfl
theorem ce113:Tryz.prog.cellsOf 113=2:=by kernel_rfl
theorem ce115:Tryz.prog.cellsOf 115=2:=by kernel_rfl
set_option maxRecDepth 100000 in
theorem smT_:∃ f0 f1,SmT Tryz.prog 41 39 9 f0 f1:=⟨_,_,U41,ce41,rfl,rfl,rfl,rfl,U39,U9,ce9,ce39⟩
set_option maxRecDepth 100000 in
theorem tmT_:∃ f0 f1 g0 g1 g2 g3 g4,TmT Tryz.prog 44 42 3 9 41 39 f0 f1 g0 g1 g2 g3 g4:=by
  obtain⟨_,_,s⟩:=smT_;exact⟨_,_,_,_,_,_,_,s,U44,ce44,rfl,rfl,rfl,rfl,rfl,rfl,rfl,rfl,rfl,rfl,U42,U3,ce3,ce42⟩
set_option maxRecDepth 100000 in
theorem grT_:∃ q0 f0 f1 g0 g1,GrfT Tryz.prog 30 28 113 3 111 115 q0 f0 f1 g0 g1:=⟨_,_,_,_,_,U30,ce30,rfl,rfl,ce28,U28,IJ,ce113,rfl,rfl,rfl,rfl,Q4,Q6,ce115,rfl,rfl,rfl,rfl,ce111,U3,ce3⟩
theorem ce33:Tryz.prog.cellsOf 33=1:=by kernel_rfl
set_option maxRecDepth 100000 in
theorem strs_arg {H:Type} {enc:TypeId×Value→H} {W:World} {base:Nat} {spare:Nat→Bool} {held:Bool} {r:Reach} {b0:Nat} {v:Value} {d:DataW H} {p:List MemPlace} (hv:Value.okWide Tryz.prog W r b0 33 v) (hw:Lw Tryz.prog 33 d) (h:DataW.Trod enc Tryz.prog W base spare held 33 v d p):
    ∃ A ws c,v= .slice A (List.length ws) c∧StrsIn W A ws∧∀ x ∈ ws,x.size < 9223372036854775807:=by
  obtain⟨pa,pl,pc,rfl⟩:=okWide_slice U33 hv;obtain⟨fuel,hf⟩:=h;obtain⟨A,len,c,e,hl,hm,hx⟩:=slF U33 ce9 dE hf;rw [e];by_cases h0:len=0
  · subst h0
    exact⟨A,[],c,rfl,⟨Nat.zero_le _,fun h=>absurd rfl h⟩,fun x h=>by cases h⟩
  · obtain⟨b,o,rfl,hlt,hc⟩:=hx h0
    obtain⟨l,hxl,hxs⟩:=j7 (p:=fun i (z:ByteArray)=>W.cell? ⟨b,o + i * 1,none⟩=some (.string z)∧z.size < 9223372036854775807) (n:=len) (fun i hi=>by
      obtain⟨cs,k,y,hk,h1,h2,h3,hwy⟩:=hc i hi
      match cs,h1 with
      | [v0],_=>
        obtain⟨s,rfl,hs⟩:=QY U9 h3
        exact⟨s,h2 0 _ rfl,hs (hwy hw)⟩)
    subst hxl;refine⟨_,l,c,rfl,⟨nLT hl hm,fun _=>⟨b,o,rfl,hlt,fun k hk=>(hxs k hk).1⟩⟩,fun x hx=>?_⟩;obtain⟨k,hk,rfl⟩:=List.mem_iff_getElem.1 hx;exact(hxs k hk).2
set_option maxRecDepth 100000 in
theorem lexes_arg {H:Type} {enc:TypeId×Value→H} {W:World} {base:Nat} {spare:Nat→Bool} {held:Bool} {r:Reach} {b0:Nat} {v:Value} {d:DataW H} {p:List MemPlace} (hv:Value.okWide Tryz.prog W r b0 27 v) (hw:Lw Tryz.prog 27 d) (h:DataW.Trod enc Tryz.prog W base spare held 27 v d p):
    ∃ A us c,v= .slice A (List.length us) c∧LexesIn W A us:=by
  obtain⟨_,_,_,_,_,_,_,tmT⟩:=tmT_;obtain⟨_,_,_,_,_,grT⟩:=grT_;obtain⟨pa,pl,pc,rfl⟩:=okWide_slice U27 hv;obtain⟨fuel,hf⟩:=h;obtain⟨A,l,c,e,_,hX⟩:=Oj tmT grT U27 U46 ce46 rfl rfl rfl rfl rfl rfl rfl rfl hw hf;exact⟨A,l,c,e,hX⟩
set_option maxRecDepth 100000 in
theorem gram_open {H:Type} {enc:TypeId×Value→H} {W:World} {base:Nat} {spare:Nat→Bool} {held:Bool} {r:Reach} {b0:Nat} {v:Value} {d:DataW H} {p:List MemPlace} (hv:Value.okWide Tryz.prog W r b0 32 v) (hw:Lw Tryz.prog 32 d) (h:DataW.Trod enc Tryz.prog W base spare held 32 v d p):
    ∃ AT AF AR AX AS ct cf cr cx cst l fs rs xs st,v= .agg #[.slice AT (List.length l) ct,.slice AF (List.length fs) cf,.slice AR (List.length rs) cr,.slice AX (List.length xs) cx,.slice AS (List.length st) cst]∧l.length≤ct∧fs.length≤cf∧rs.length≤cr∧TypesIn W AT l∧FeatsIn W AF fs∧RulesIn W AR rs∧LexesIn W AX xs∧NodesIn W AS st:=by
  obtain⟨_,_,_,_,_,_,_,tmT⟩:=tmT_;obtain⟨_,_,_,_,_,grT⟩:=grT_;obtain⟨cs,rfl,hsz⟩:=okWide_struct U32 hv;obtain⟨fuel,hf⟩:=h;obtain⟨n,_,hl,hff⟩:=LJ U32 hf;rw [ce32] at hsz;obtain⟨L⟩:=cs
  match L,hsz with
  | [v0,v1,v2,v3,v4],_=>
    obtain⟨y0,p0,_⟩:=hff 0 _ rfl;obtain⟨y1,p1,_⟩:=hff 1 _ rfl;obtain⟨y2,p2,w2⟩:=hff 2 _ rfl;obtain⟨y3,p3,_⟩:=hff 3 _ rfl;have q0:DataW.trod enc Tryz.prog W base spare held n 25 [v0,v1]=some y0:=by simpa [Value.cells,ce25] using p0
    have q1:DataW.trod enc Tryz.prog W base spare held n 26 [v2]=some y1:=by simpa [Value.cells,ce26] using p1
    have q2:DataW.trod enc Tryz.prog W base spare held n 27 [v3]=some y2:=by simpa [Value.cells,ce27] using p2
    have q3:DataW.trod enc Tryz.prog W base spare held n 30 [v4]=some y3:=by simpa [Value.cells,ce30] using p3
    obtain⟨m,_,_,hfh⟩:=LJ U25 q0;obtain⟨z0,r0,_⟩:=hfh 0 _ rfl;obtain⟨z1,r1,_⟩:=hfh 1 _ rfl;have s0:DataW.trod enc Tryz.prog W base spare held m 22 [v0]=some z0:=by simpa [ce22] using r0
    have s1:DataW.trod enc Tryz.prog W base spare held m 23 [v1]=some z1:=by simpa [ce23] using r1
    obtain⟨A,l,c,rfl,hl1,hT⟩:=WQ U22 Nk ce110 rfl rfl rfl rfl U9 ce9 ce66 U66 U3 ce3 s0;obtain⟨B,fs,e,rfl,hl2,hF⟩:=LK U23 U68 ce68 rfl rfl rfl rfl rfl rfl U9 ce9 U3 ce3 s1;obtain⟨AR,rs,cr,rfl,hl3,hR⟩:=Hx tmT grT U26 U54 ce54 rfl rfl rfl rfl rfl rfl rfl rfl rfl rfl q1;obtain⟨AX,xs,cx,rfl,hl4,hX⟩:=Oj tmT grT U27 U46 ce46 rfl rfl rfl rfl rfl rfl rfl rfl (w2 hw) q2;obtain⟨AS,st,cst,rfl,hG⟩:=Sq grT q3;exact⟨A,B,AR,AX,AS,c,e,cr,cx,cst,l,fs,rs,xs,st,rfl,hl1,hl2,hl3,hT,hF,hR,hX,hG⟩
theorem S5:laidOutB Tryz.prog=true:=by kernel_rfl
theorem own:ownKnob Tryz.prog.godebug=none:=by kernel_rfl
theorem gTab:Tryz.prog.globalNamed "math/bits.deBruijn64tab" =some 2:=by kernel_rfl
theorem gTabType:(Tryz.prog.globals[2]?).map (·.type)=some 197:=by kernel_rfl
theorem ce197:Tryz.prog.cellsOf 197=64:=by kernel_rfl
theorem ce5:Tryz.prog.cellsOf 5=1:=by kernel_rfl
theorem tab_get (l:List Nat) (k:Nat):(l.map (fun(n:Nat)=>(n:Int))).getD k 0=((l.getD k 0:Nat):Int):=by
  simp only [List.getD_eq_getElem?_getD,List.getElem?_map];cases l[k]? <;> rfl
theorem tab_in {W:World} (h:laidMetH Tryz.prog [("math/bits.deBruijn64tab",Rows.laid_math_bits_deBruijn64tab)] W):TabIn W:=by
  have ht:Lib.TabIs Tryz.prog W "math/bits.deBruijn64tab" .u8 (Lib.deBruijn64tab.map (fun(n:Nat)=>(n:Int))):=Lib.tabIs_of_head (rest:=[]) gTab gTabType Tryz.underlying197 U5 ce5 ce197 h;have hc:∀ k,k < 64→W.cell? ⟨2,0 + k * 1,none⟩=some (.int .u8 ((Lib.deBruijn64tab.getD k 0:Nat):Int)):=fun k hk=>by
    have h1:=ht.cell gTab k (by rw [List.length_map];exact hk);rw [tab_get] at h1
    simpa using h1
  exact⟨Go.Clock.block_lt (hc 0 dE),hc⟩
def oneLaid:DataW Unit→Value | .lit (.int k z)=> .int k z | _=> .bool false
def someLaid:DataW Unit→List Value | .agg r=>r.map oneLaid | x=>[oneLaid x]
def laidV:DataW Unit→Array Value | .agg r=>(r.flatMap someLaid).toArray | _=>#[]
noncomputable def Mw (os:Os):World:=
  { World.holding Tryz.prog os ⟨#[],#[],[]⟩ with heap:=((((World.holding Tryz.prog os ⟨#[],#[],[]⟩).heap.modify 2 fun | .cells _ t z=> .cells (laidV Rows.laid_math_bits_deBruijn64tab) t z | o=>o).modify 1 fun | .cells _ t z=> .cells (laidV Rows.laid_unicode_utf8_acceptRanges) t z | o=>o).modify 0 fun | .cells _ t z=> .cells (laidV Rows.laid_unicode_utf8_first) t z | o=>o) }
theorem lone {W:World} (h:laidMetH Tryz.prog Rows.robustExtendMatchesSpecRow.laid W):laidMetH Tryz.prog [("math/bits.deBruijn64tab",Rows.laid_math_bits_deBruijn64tab)] W:=by
  have h1:=h.filter (fun x=>x.1 == "math/bits.deBruijn64tab");have h2:(Rows.robustExtendMatchesSpecRow.laid.filter fun x=>x.1 == "math/bits.deBruijn64tab")= [("math/bits.deBruijn64tab",Rows.laid_math_bits_deBruijn64tab)]:=by kernel_rfl
  rwa [h2] at h1
theorem gFst:Tryz.prog.globalNamed "unicode/utf8.first" =some 0:=by kernel_rfl
theorem gFstT:(Tryz.prog.globals[0]?).map (·.type)=some 178:=by kernel_rfl
theorem gAcc:Tryz.prog.globalNamed "unicode/utf8.acceptRanges" =some 1:=by kernel_rfl
theorem gAccT:(Tryz.prog.globals[1]?).map (·.type)=some 181:=by kernel_rfl
theorem cu178:Tryz.prog.cellsOf 178=256:=by kernel_rfl
theorem cu5:Tryz.prog.cellsOf 5=1:=by kernel_rfl
theorem cu180:Tryz.prog.cellsOf 180=2:=by kernel_rfl
theorem fst_eq:Rows.laid_unicode_utf8_first=Lib.firstData:=by kernel_rfl
theorem acc_eq:(Rows.laid_unicode_utf8_acceptRanges:DataW Unit)=Lib.acceptData:=by kernel_rfl
theorem u8_in {W:World} (h:laidMetH Tryz.prog [("math/bits.deBruijn64tab",Rows.laid_math_bits_deBruijn64tab),("unicode/utf8.acceptRanges",Rows.laid_unicode_utf8_acceptRanges),("unicode/utf8.first",Rows.laid_unicode_utf8_first)] W):U8In W:=by
  have hm:laidMet Tryz.prog [("math/bits.deBruijn64tab",Rows.laid_math_bits_deBruijn64tab),("unicode/utf8.acceptRanges",Rows.laid_unicode_utf8_acceptRanges),("unicode/utf8.first",Rows.laid_unicode_utf8_first)] W:=h;have h3:=Lib.laidMet.reads hm (n:= "unicode/utf8.first") (d:=Rows.laid_unicode_utf8_first) (.tail _ (.tail _ (.head _)));have h4:=Lib.laidMet.reads hm (n:= "unicode/utf8.acceptRanges") (d:=Rows.laid_unicode_utf8_acceptRanges) (.tail _ (.head _));rw [fst_eq] at h3;rw [acc_eq] at h4;have c1:∀ k,k < 256→W.cell? ⟨0,0 + k * 1,none⟩=some (.int .u8 ((Lib.firstT k:Nat):Int)):=fun c hc=>by
    obtain⟨g,t,cs,fuel,p,hg,hty,hvar,hd⟩:=h3;obtain rfl:=Option.some.inj (gFst.symm.trans hg);obtain rfl:=Option.some.inj (gFstT.symm.trans hty);have hcs:=Lib.cells_of_tab Tryz.underlying178 U5 cu5 cu178 hd;have:=World.var?_cell hg hvar c;rw [Nat.zero_add,Nat.mul_one,this,← Array.getElem?_toList,hcs];simp [Lib.firstTab,hc]
  have c2:∀ k,k < 16→W.rangeAt 1 (0 + k * 2) [.int .u8 ((Lib.accLo k:Nat):Int),.int .u8 ((Lib.accHi k:Nat):Int)]:=fun i hi=>by
    obtain⟨g,t,cs,fuel,p,hg,hty,hvar,hd⟩:=h4;obtain rfl:=Option.some.inj (gAcc.symm.trans hg);obtain rfl:=Option.some.inj (gAccT.symm.trans hty);obtain⟨fuel',d,q,hdi,he⟩:=Lib.array_elem Tryz.underlying181 hd i hi;simp only [List.getElem?_map,List.getElem?_range hi,Option.map_some,Option.some.injEq] at hdi;subst hdi;rw [cu180] at he
    have hcs:=Lib.ints_of_struct Nj (fun j f hj=>by
      match j,hj with
      | 0,hj=>simp at hj;subst hj;exact⟨U5,rfl,cu5⟩
      | 1,hj=>simp at hj;subst hj;exact⟨U5,rfl,cu5⟩
      | j + 2,hj=>simp at hj) (by rw [cu180];rfl) he
    have e0:=congrArg (·[0]?) hcs;have e1:=congrArg (·[1]?) hcs;simp only [List.getElem?_take,List.getElem?_drop] at e0 e1;intro j v hj
    match j,hj with
    | 0,hj=>
      cases hj;rw [Nat.zero_add,Nat.add_zero,World.var?_cell hg hvar (i * 2),← Array.getElem?_toList]
      simpa using e0
    | 1,hj=>
      cases hj;rw [Nat.zero_add,World.var?_cell hg hvar (i * 2 + 1),← Array.getElem?_toList]
      simpa using e1
    | _ + 2,hj=>cases hj
  exact⟨⟨Go.Clock.block_lt (c1 0 dE),c1⟩,Go.Clock.block_lt (c2 0 dE 0 _ rfl),c2⟩
namespace robustExtendMatchesSpec
theorem laid_met (os:Os):laidMet Tryz.prog Rows.robustExtendMatchesSpecRow.laid ((Mw os).forCall (fun _ _=>0) ⟨#[],#[.agg #[.slice none 0 0,.slice none 0 0,.slice none 0 0,.slice none 0 0,.slice none 0 0],.slice none 0 0,.slice none 0 0],[]⟩).memory:=
  laidMet_of_run3 8 kR kR kR
theorem reads (os:Os) {H:Type} (enc:TypeId×Value→H):∃ places,DataW.whole enc Tryz.prog ((Mw os).forCall (fun _ _=>0) ⟨#[],#[.agg #[.slice none 0 0,.slice none 0 0,.slice none 0 0,.slice none 0 0,.slice none 0 0],.slice none 0 0,.slice none 0 0],[]⟩).memory Tryz.f3.params.toList Rows.robustExtendMatchesSpecSpec.vars false (#[.agg #[.slice none 0 0,.slice none 0 0,.slice none 0 0,.slice none 0 0,.slice none 0 0],.slice none 0 0,.slice none 0 0]:Array Value).toList 8=some ([.agg [.agg [.nil,.nil],.nil,.nil,.agg [.nil]],.nil,.nil],[],places):=
  ⟨[],by kernel_rfl⟩
set_option maxRecDepth 100000 in
theorem contract (H:Type) (enc:TypeId×Value→H) (W:World) (base:Nat) (args:Array Value) (ds gs:List (DataW H)) (before:List MemPlace)
    (hval:∀ (j:Nat) t v,Tryz.f3.params[j]? =some t→args[j]? =some v→Value.okWide Tryz.prog W .any base t v)
    (hW:DataW.Whole enc Tryz.prog Tryz.f3.params.toList Rows.robustExtendMatchesSpecSpec.vars false W args.toList ds gs before) (hL:laidMetH Tryz.prog Rows.robustExtendMatchesSpecRow.laid W) {vts:List TypeId} (hsz:(DataW.weightsEach Tryz.prog (Tryz.f3.params.toList ++ vts) (ds ++ gs)).all (·≤reachBytes)=true):
    Calls Tryz.prog 3 args W fun e W'=>∃ v,e= .returned v∧Rows.robustExtendMatchesSpecSpec.post enc Tryz.prog Tryz.f3 false true false false W args v W':=by
  have hW':=hW;have hblk:=fun p hp=>hW.lt p hp
  obtain⟨p,q,hA0,hV,rfl,hfz,hnd⟩:=hW;have hA:DataW.TrodAll enc Tryz.prog W 0 (fun _=>true) true Tryz.f3.params.toList args.toList ds p:=hA0;rw [Tryz.params3] at hA hval hsz;obtain⟨v0,vs0,d0,ds0,p0,q0,hargs0,rfl,rfl,h0,r0⟩:=trodAll_cons hA;obtain⟨v1,vs1,d1,ds1,p1,q1,hargs1,rfl,rfl,h1,r1⟩:=trodAll_cons r0;obtain⟨v2,vs2,d2,ds2,p2,q2,hargs2,rfl,rfl,h2,r2⟩:=trodAll_cons r1;obtain⟨rfl,rfl,rfl⟩:=trodAll_nil r2;subst hargs2;subst hargs1;obtain rfl:args= #[v0,v1,v2]:=by cases args;simp_all
  obtain⟨rfl,rfl⟩:=trodVars_none hV;clear hA0;simp only [List.append_nil] at hW' hblk;have k0:=h0;have u0:=hval 0 32 v0 rfl rfl;have k1:=h1;have u1:=hval 1 33 v1 rfl rfl;have k2:=h2;have u2:=hval 2 27 v2 rfl rfl;obtain⟨AT,AF,AR,AX,AS,ct,cf,cr,cx,cst,l,fs,rs,xs,st,rfl,hct,hcf,hcr,hTy,hF,hRu,hLx,hG⟩:=gram_open u0 (Lz hsz (j:=0) rfl rfl) h0;obtain⟨AW,ws,cw,rfl,hW,hsw⟩:=strs_arg u1 (Lz hsz (j:=1) rfl rfl) h1;obtain⟨AU,us,cu,rfl,hU⟩:=lexes_arg u2 (Lz hsz (j:=2) rfl rfl) h2;refine(law35_any AT AF AR AX AS ct cf cr cx cst l fs rs xs st W AW AU cw cu ws us (tab_in (lone hL)) (u8_in hL) hct hcf hcr hTy hF hRu hLx hG hW hsw hU).mono fun e W' ⟨he,hg⟩=>?_
  subst he;have s0:∀ sp:Nat→Bool,(∀ x ∈ p0,sp x.block=true)→DataW.Trod enc Tryz.prog W' 0 sp true 32 _ d0 p0:=fun sp hsp=>WideElems.Trod_stays S5 kR (of_decide_eq_true kR) k0 (fun x hx=>hg.same (hblk x (by simp [hx]))) hsp
  have s1:∀ sp:Nat→Bool,(∀ x ∈ p1,sp x.block=true)→DataW.Trod enc Tryz.prog W' 0 sp true 33 _ d1 p1:=fun sp hsp=>WideElems.Trod_stays S5 kR (of_decide_eq_true kR) k1 (fun x hx=>hg.same (hblk x (by simp [hx]))) hsp
  have s2:∀ sp:Nat→Bool,(∀ x ∈ p2,sp x.block=true)→DataW.Trod enc Tryz.prog W' 0 sp true 27 _ d2 p2:=fun sp hsp=>WideElems.Trod_stays S5 kR (of_decide_eq_true kR) k2 (fun x hx=>hg.same (hblk x (by simp [hx]))) hsp
  exact⟨_,rfl,post_bel (pv:=[]) hW' (fun _ _ _=>trodAll_cons_mk (shut_bool U4 _) trodAll_mk0) (fun sp hsp=>trodAll_cons_mk (s0 sp (fun x hx=>hsp x (by simp [hx]))) (trodAll_cons_mk (s1 sp (fun x hx=>hsp x (by simp [hx]))) (trodAll_cons_mk (s2 sp (fun x hx=>hsp x (by simp [hx]))) trodAll_mk0))) (fun _ _=>rfl) (by simp) hg (ok_one kR rfl (okWide_bool_mk U4 _))⟩
set_option maxRecDepth 100000 in
theorem lifted (os:Os) (started:os.Started) (H:Type) (enc:TypeId×Value→H) (F:Stop.Interp):
    ReturnsInHanded {} Tryz.checked os 3 .any ((OpenSpec.ofChange Rows.robustExtendMatchesSpecSpec).preRow enc Tryz.prog Tryz.f3 Rows.robustExtendMatchesSpecRow.domain false Rows.robustExtendMatchesSpecRow.laid) (((OpenSpec.ofChange Rows.robustExtendMatchesSpecSpec).at F).post enc Tryz.prog Tryz.f3 false true false false):=by
  obtain⟨places,hx⟩:=reads os enc;refine returnsInHanded_of_row (C:=Tryz.checked) (s:=OpenSpec.ofChange Rows.robustExtendMatchesSpecSpec) own started kR Tryz.func3
    (witness_row_at (enc:=enc) (C:=Tryz.checked) false (Mw os) #[.agg #[.slice none 0 0,.slice none 0 0,.slice none 0 0,.slice none 0 0,.slice none 0 0],.slice none 0 0,.slice none 0 0] rfl kR kR kR
      (OpenSpec.preRow_of_cond 8 hx kR (fun k hk=>by cases hk) kR (laid_met os))) ?_
  intro W base args ds gs before hval hW _ _ hsz hL _ _;exact contract H enc W base args ds gs before hval hW hL hsz
set_option maxRecDepth 100000 in
theorem said:Rows.RobustExtendMatchesSpecSaid:=
  OpenClaim.holds_of_cond 3 Tryz.f3 rfl rfl rfl rfl rfl rfl rfl ⟨rfl,rfl,rfl,rfl,rfl⟩ rfl rfl rfl rfl rfl kR Tryz.func3 kR
    (of_decide_eq_true kR) (by unfold Func.isWrapper;first | (rw [if_pos (by decide +kernel)];kernel_rfl) | (rw [if_neg (by decide +kernel)];exact⟨rfl,rfl⟩))
    (fun os started H enc _ F=>by rw [OpenClaim.pre_eq_preRow];exact lifted os started H enc F)
theorem plain (f:FuncId) (fn:Func) (hf:Tryz.pinned.checked.prog.funcNamed "glosswright/glosswrightlaw4.RobustExtendMatchesSpec" =some f) (hfn:Tryz.pinned.checked.prog.funcs[f]? =some fn):
    false=Tryz.pinned.checked.prog.looks []∧∀ (j:Nat) t,fn.params[j]? =some t→Tryz.pinned.checked.prog.wantsStandIn t=false:=by
  obtain rfl:f=3:=Option.some.inj ((show Tryz.prog.funcNamed "glosswright/glosswrightlaw4.RobustExtendMatchesSpec" =some 3 by kernel_rfl).symm.trans hf) |>.symm;obtain rfl:fn=Tryz.f3:=(Option.some.inj (Tryz.func3.symm.trans hfn)).symm;refine⟨by kernel_rfl,fun j t ht=>?_⟩;rw [Tryz.params3] at ht;have hm:t ∈ #[32,33,27]:=Array.mem_of_getElem? ht;simp only [List.mem_toArray,List.mem_cons,List.not_mem_nil,or_false] at hm;rcases hm with rfl | rfl | rfl
  · exact(show Tryz.prog.wantsStandIn 32=false by kernel_rfl)
  · exact(show Tryz.prog.wantsStandIn 33=false by kernel_rfl)
  · exact(show Tryz.prog.wantsStandIn 27=false by kernel_rfl)
theorem card:Rows.RobustExtendMatchesSpecCardSaid:=
  Claim7.holds_tied_plain_at .later [] _ _ _ _ said (fun _ h=>by cases h) kR (fun _ h=>by cases h) robustExtendMatchesSpec_row_tie rfl ⟨rfl,rfl⟩ kR rfl plain kR
end robustExtendMatchesSpec
end Go.Proofs.YtbcpgfnfiekbiaaGreatDoor
