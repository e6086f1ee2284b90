/- Proved: for every world and every input, the law DeriveIsCombination of glosswrightlaw4 returns true and leaves its arguments as they were; the condition is the statement's own, that the listed tables hold what their text lays. -/
import Derived.Test.YtdgnllfbooklcaaDoorU
import Derived.Test.YtdgnllfbooklcaaDoorCards
import Derived.Test.YtdgnllfbooklcaaDoorTie
import Derived.Test.YtdgnllfbooklcaaDoorSim
import Derived.WalkKit
import Derived.LaidSub
import Derived.Deep.DeepLaidRun
import Derived.SizedLaws
import Derived.Lib.LaidU8
import Derived.ProofKit
import Derived.Deep.DeepHandedRow
import Derived.Lib.LaidTab
import Derived.Test.YtdgnllfbooklcaaDoorDOpen
namespace Go.Proofs.YtdgnllfbooklcaaDoor
open Go.ChangeShapes Go.WideShapes Go.ChangeAt Go.RowKit Go.Joins
theorem ce3:Tryd.prog.cellsOf 3=1:=by kernel_rfl
theorem ce9:Tryd.prog.cellsOf 9=1:=by kernel_rfl
theorem ce22:Tryd.prog.cellsOf 22=1:=by kernel_rfl
theorem ce23:Tryd.prog.cellsOf 23=1:=by kernel_rfl
theorem ce25:Tryd.prog.cellsOf 25=2:=by kernel_rfl
theorem ce26:Tryd.prog.cellsOf 26=1:=by kernel_rfl
theorem ce27:Tryd.prog.cellsOf 27=1:=by kernel_rfl
theorem ce28:Tryd.prog.cellsOf 28=1:=by kernel_rfl
theorem ce30:Tryd.prog.cellsOf 30=1:=by kernel_rfl
theorem ce32:Tryd.prog.cellsOf 32=5:=by kernel_rfl
theorem ce39:Tryd.prog.cellsOf 39=1:=by kernel_rfl
theorem ce41:Tryd.prog.cellsOf 41=2:=by kernel_rfl
theorem ce42:Tryd.prog.cellsOf 42=1:=by kernel_rfl
theorem ce44:Tryd.prog.cellsOf 44=6:=by kernel_rfl
theorem ce46:Tryd.prog.cellsOf 46=9:=by kernel_rfl
theorem ce49:Tryd.prog.cellsOf 49=10:=by kernel_rfl
theorem ce70:Tryd.prog.cellsOf 70=1:=by kernel_rfl
theorem ce72:Tryd.prog.cellsOf 72=3:=by kernel_rfl
theorem ce91:Tryd.prog.cellsOf 91=1:=by kernel_rfl
theorem ce93:Tryd.prog.cellsOf 93=2:=by kernel_rfl
theorem ce95:Tryd.prog.cellsOf 95=2:=by kernel_rfl
theorem ce110:Tryd.prog.cellsOf 110=2:=by kernel_rfl
set_option maxRecDepth 100000 in
theorem smT_:∃ f0 f1,SmT Tryd.prog 41 39 9 f0 f1:=⟨_,_,U41,ce41,rfl,rfl,rfl,rfl,U39,U9,ce9,ce39⟩
set_option maxRecDepth 100000 in
theorem tmT_:∃ f0 f1 g0 g1 g2 g3 g4,TmT Tryd.prog 44 42 3 9 41 39 f0 f1 g0 g1 g2 g3 g4:=by
  obtain⟨_,_,s⟩:=smT_;exact⟨_,_,_,_,_,_,_,s,U44,ce44,rfl,rfl,rfl,rfl,rfl,rfl,rfl,rfl,rfl,rfl,U42,U3,ce3,ce42⟩
set_option maxRecDepth 100000 in
theorem grT_:∃ q0 f0 f1 g0 g1,GrfT Tryd.prog 30 28 93 3 91 95 q0 f0 f1 g0 g1:=⟨_,_,_,_,_,U30,ce30,rfl,rfl,ce28,U28,U93,ce93,rfl,rfl,rfl,rfl,U91,U95,ce95,rfl,rfl,rfl,rfl,ce91,U3,ce3⟩
theorem ce54:Tryd.prog.cellsOf 54=1:=by kernel_rfl
theorem ce56:Tryd.prog.cellsOf 56=3:=by kernel_rfl
set_option maxRecDepth 100000 in
theorem dtT_:∃ f0 f1 f2,DtT Tryd.prog 56 54 3 f0 f1 f2:=⟨_,_,_,U56,ce56,rfl,rfl,rfl,rfl,rfl,rfl,Tryd.underlying54,U3,ce3,ce54⟩
set_option maxRecDepth 100000 in
theorem Gj {H:Type} {enc:TypeId×Value→H} {W:World} {base:Nat} {spare:Nat→Bool} {held:Bool} {r:Reach} {b0:Nat} {v:Value} {d:DataW H} {p:List MemPlace} (hv:Value.okWide Tryd.prog W r b0 56 v) (h:DataW.Trod enc Tryd.prog W base spare held 56 v d p):
    ∃ (t:Dt) (A:Option Addr) (c:Nat),v= .agg #[.int .i64 t.rule,.int .i64 t.lex,.slice A t.kids.length c]∧TresIn W A t.kids:=by
  obtain⟨_,_,_,dtT⟩:=dtT_;obtain⟨cs,rfl,hsz⟩:=okWide_struct U56 hv;obtain⟨fuel,hf⟩:=h;rw [ce56] at hsz;obtain⟨L⟩:=cs
  match L,hsz with
  | [v0,v1,v2],_=>
    obtain⟨t,A,c,rfl,rfl,rfl,hin⟩:=dt_open dtT (show DataW.trod enc Tryd.prog W base spare held fuel 56 [v0,v1,v2]=some (d,p) from hf);exact⟨t,A,c,rfl,hin⟩
set_option maxRecDepth 100000 in
theorem gram_open {H:Type} {enc:TypeId×Value→H} {W:World} {base:Nat} {spare:Nat→Bool} {held:Bool} {r:Reach} {b0:Nat} {v:Value} {d:DataW H} {p:List MemPlace} (hv:Value.okWide Tryd.prog W r b0 32 v) (hw:Lw Tryd.prog 32 d) (h:DataW.Trod enc Tryd.prog W base spare held 32 v d p):
    ∃ AT AF AR AX AS ct cf cr cx cst l fs rs xs st,v= .agg #[.slice AT (List.length l) ct,.slice AF (List.length fs) cf,.slice AR (List.length rs) cr,.slice AX (List.length xs) cx,.slice AS (List.length st) cst]∧l.length≤ct∧fs.length≤cf∧rs.length≤cr∧TypesIn W AT l∧FeatsIn W AF fs∧RulesIn W AR rs∧LexesIn W AX xs∧NodesIn W AS st:=by
  obtain⟨_,_,_,_,_,_,_,tmT⟩:=tmT_;obtain⟨_,_,_,_,_,grT⟩:=grT_;obtain⟨cs,rfl,hsz⟩:=okWide_struct U32 hv;obtain⟨fuel,hf⟩:=h;obtain⟨n,_,hl,hff⟩:=R1 U32 hf;rw [ce32] at hsz;obtain⟨L⟩:=cs
  match L,hsz with
  | [v0,v1,v2,v3,v4],_=>
    obtain⟨y0,p0,_⟩:=hff 0 _ rfl;obtain⟨y1,p1,_⟩:=hff 1 _ rfl;obtain⟨y2,p2,w2⟩:=hff 2 _ rfl;obtain⟨y3,p3,_⟩:=hff 3 _ rfl;have q0:DataW.trod enc Tryd.prog W base spare held n 25 [v0,v1]=some y0:=by simpa [Value.cells,ce25] using p0
    have q1:DataW.trod enc Tryd.prog W base spare held n 26 [v2]=some y1:=by simpa [Value.cells,ce26] using p1
    have q2:DataW.trod enc Tryd.prog W base spare held n 27 [v3]=some y2:=by simpa [Value.cells,ce27] using p2
    have q3:DataW.trod enc Tryd.prog W base spare held n 30 [v4]=some y3:=by simpa [Value.cells,ce30] using p3
    obtain⟨m,_,_,hfh⟩:=R1 U25 q0;obtain⟨z0,r0,_⟩:=hfh 0 _ rfl;obtain⟨z1,r1,_⟩:=hfh 1 _ rfl;have s0:DataW.trod enc Tryd.prog W base spare held m 22 [v0]=some z0:=by simpa [ce22] using r0
    have s1:DataW.trod enc Tryd.prog W base spare held m 23 [v1]=some z1:=by simpa [ce23] using r1
    obtain⟨A,l,c,rfl,hl1,hT⟩:=RK U22 WX ce110 rfl rfl rfl rfl U9 ce9 ce70 U70 U3 ce3 s0;obtain⟨B,fs,e,rfl,hl2,hF⟩:=Wv Tryd.underlying23 U72 ce72 rfl rfl rfl rfl rfl rfl U9 ce9 U3 ce3 s1;obtain⟨AR,rs,cr,rfl,hl3,hR⟩:=Fj tmT grT Tryd.underlying26 U49 ce49 rfl rfl rfl rfl rfl rfl rfl rfl rfl rfl q1;obtain⟨AX,xs,cx,rfl,hl4,hX⟩:=W5 tmT grT U27 U46 ce46 rfl rfl rfl rfl rfl rfl rfl rfl (w2 hw) q2;obtain⟨AS,st,cst,rfl,hG⟩:=CY grT q3;exact⟨A,B,AR,AX,AS,c,e,cr,cx,cst,l,fs,rs,xs,st,rfl,hl1,hl2,hl3,hT,hF,hR,hX,hG⟩
theorem L8:laidOutB Tryd.prog=true:=by kernel_rfl
theorem own:ownKnob Tryd.prog.godebug=none:=by kernel_rfl
theorem gTab:Tryd.prog.globalNamed "math/bits.deBruijn64tab" =some 0:=by kernel_rfl
theorem gTabType:(Tryd.prog.globals[0]?).map (·.type)=some 154:=by kernel_rfl
theorem ce154:Tryd.prog.cellsOf 154=64:=by kernel_rfl
theorem ce5:Tryd.prog.cellsOf 5=1:=by kernel_rfl
theorem tab_get (l:List Nat) (k:Nat):(l.map (fun(n:Nat)=>(n:Int))).getD k 0=((l.getD k 0:Nat):Int):=by
  simp only [List.getD_eq_getElem?_getD,List.getElem?_map];cases l[k]? <;> rfl
theorem tab_in {W:World} (h:laidMetH Tryd.prog [("math/bits.deBruijn64tab",Rows.laid_math_bits_deBruijn64tab)] W):TabIn W:=by
  have ht:Lib.TabIs Tryd.prog W "math/bits.deBruijn64tab" .u8 (Lib.deBruijn64tab.map (fun(n:Nat)=>(n:Int))):=Lib.tabIs_of_head (rest:=[]) gTab gTabType Tryd.underlying154 U5 ce5 ce154 h;have hc:∀ k,k < 64→W.cell? ⟨0,0 + k * 1,none⟩=some (.int .u8 ((Lib.deBruijn64tab.getD k 0:Nat):Int)):=fun k hk=>by
    have h1:=ht.cell gTab k (by rw [List.length_map];exact hk);rw [tab_get] at h1
    simpa using h1
  exact⟨Go.Clock.block_lt (hc 0 dE),hc⟩
def HV:DataW Unit→Value | .lit (.int k z)=> .int k z | _=> .bool false
def someLaid:DataW Unit→List Value | .agg r=>r.map HV | x=>[HV x]
def laidV:DataW Unit→Array Value | .agg r=>(r.flatMap someLaid).toArray | _=>#[]
noncomputable def Mq (os:Os):World:=
  { World.holding Tryd.prog os ⟨#[],#[],[]⟩ with heap:=((((World.holding Tryd.prog os ⟨#[],#[],[]⟩).heap.modify 0 fun | .cells _ t z=> .cells (laidV Rows.laid_math_bits_deBruijn64tab) t z | o=>o).modify 2 fun | .cells _ t z=> .cells (laidV Rows.laid_unicode_utf8_acceptRanges) t z | o=>o).modify 1 fun | .cells _ t z=> .cells (laidV Rows.laid_unicode_utf8_first) t z | o=>o) }
theorem lone {W:World} (h:laidMetH Tryd.prog Rows.deriveIsCombinationRow.laid W):laidMetH Tryd.prog [("math/bits.deBruijn64tab",Rows.laid_math_bits_deBruijn64tab)] W:=by
  have h1:=h.filter (fun x=>x.1 == "math/bits.deBruijn64tab");have h2:(Rows.deriveIsCombinationRow.laid.filter fun x=>x.1 == "math/bits.deBruijn64tab")= [("math/bits.deBruijn64tab",Rows.laid_math_bits_deBruijn64tab)]:=by kernel_rfl
  rwa [h2] at h1
theorem gFst:Tryd.prog.globalNamed "unicode/utf8.first" =some 1:=by kernel_rfl
theorem gFstT:(Tryd.prog.globals[1]?).map (·.type)=some 158:=by kernel_rfl
theorem gAcc:Tryd.prog.globalNamed "unicode/utf8.acceptRanges" =some 2:=by kernel_rfl
theorem gAccT:(Tryd.prog.globals[2]?).map (·.type)=some 161:=by kernel_rfl
theorem cu158:Tryd.prog.cellsOf 158=256:=by kernel_rfl
theorem cu5:Tryd.prog.cellsOf 5=1:=by kernel_rfl
theorem cu160:Tryd.prog.cellsOf 160=2:=by kernel_rfl
theorem fst_eq:Rows.laid_unicode_utf8_first=Lib.firstData:=by kernel_rfl
theorem acc_eq:(Rows.laid_unicode_utf8_acceptRanges:DataW Unit)=Lib.acceptData:=by kernel_rfl
theorem u8_in {W:World} (h:laidMetH Tryd.prog [("math/bits.deBruijn64tab",Rows.laid_math_bits_deBruijn64tab),("unicode/utf8.acceptRanges",Rows.laid_unicode_utf8_acceptRanges),("unicode/utf8.first",Rows.laid_unicode_utf8_first)] W):U8In W:=by
  have hm:laidMet Tryd.prog [("math/bits.deBruijn64tab",Rows.laid_math_bits_deBruijn64tab),("unicode/utf8.acceptRanges",Rows.laid_unicode_utf8_acceptRanges),("unicode/utf8.first",Rows.laid_unicode_utf8_first)] W:=h;have h3:=Lib.laidMet.reads hm (n:= "unicode/utf8.first") (d:=Rows.laid_unicode_utf8_first) (.tail _ (.tail _ (.head _)));have h4:=Lib.laidMet.reads hm (n:= "unicode/utf8.acceptRanges") (d:=Rows.laid_unicode_utf8_acceptRanges) (.tail _ (.head _));rw [fst_eq] at h3;rw [acc_eq] at h4;have c1:∀ k,k < 256→W.cell? ⟨1,0 + k * 1,none⟩=some (.int .u8 ((Lib.firstT k:Nat):Int)):=fun c hc=>by
    obtain⟨g,t,cs,fuel,p,hg,hty,hvar,hd⟩:=h3;obtain rfl:=Option.some.inj (gFst.symm.trans hg);obtain rfl:=Option.some.inj (gFstT.symm.trans hty);have hcs:=Lib.cells_of_tab Tryd.underlying158 U5 cu5 cu158 hd;have:=World.var?_cell hg hvar c;rw [Nat.zero_add,Nat.mul_one,this,← Array.getElem?_toList,hcs];simp [Lib.firstTab,hc]
  have c2:∀ k,k < 16→W.rangeAt 2 (0 + k * 2) [.int .u8 ((Lib.accLo k:Nat):Int),.int .u8 ((Lib.accHi k:Nat):Int)]:=fun i hi=>by
    obtain⟨g,t,cs,fuel,p,hg,hty,hvar,hd⟩:=h4;obtain rfl:=Option.some.inj (gAcc.symm.trans hg);obtain rfl:=Option.some.inj (gAccT.symm.trans hty);obtain⟨fuel',d,q,hdi,he⟩:=Lib.array_elem Tryd.underlying161 hd i hi;simp only [List.getElem?_map,List.getElem?_range hi,Option.map_some,Option.some.injEq] at hdi;subst hdi;rw [cu160] at he
    have hcs:=Lib.ints_of_struct Nk (fun j f hj=>by
      match j,hj with
      | 0,hj=>simp at hj;subst hj;exact⟨U5,rfl,cu5⟩
      | 1,hj=>simp at hj;subst hj;exact⟨U5,rfl,cu5⟩
      | j + 2,hj=>simp at hj) (by rw [cu160];rfl) he
    have e0:=congrArg (·[0]?) hcs;have e1:=congrArg (·[1]?) hcs;simp only [List.getElem?_take,List.getElem?_drop] at e0 e1;intro j v hj
    match j,hj with
    | 0,hj=>
      cases hj;rw [Nat.zero_add,Nat.add_zero,World.var?_cell hg hvar (i * 2),← Array.getElem?_toList]
      simpa using e0
    | 1,hj=>
      cases hj;rw [Nat.zero_add,World.var?_cell hg hvar (i * 2 + 1),← Array.getElem?_toList]
      simpa using e1
    | _ + 2,hj=>cases hj
  exact⟨⟨Go.Clock.block_lt (c1 0 dE),c1⟩,Go.Clock.block_lt (c2 0 dE 0 _ rfl),c2⟩
namespace deriveIsCombination
theorem laid_met (os:Os):laidMet Tryd.prog Rows.deriveIsCombinationRow.laid ((Mq os).forCall (fun _ _=>0) ⟨#[],#[.agg #[.slice none 0 0,.slice none 0 0,.slice none 0 0,.slice none 0 0,.slice none 0 0],.agg #[.int .i64 0,.int .i64 0,.slice none 0 0]],[]⟩).memory:=
  laidMet_of_run3 8 kR kR kR
theorem reads (os:Os) {H:Type} (enc:TypeId×Value→H):∃ places,DataW.whole enc Tryd.prog ((Mq os).forCall (fun _ _=>0) ⟨#[],#[.agg #[.slice none 0 0,.slice none 0 0,.slice none 0 0,.slice none 0 0,.slice none 0 0],.agg #[.int .i64 0,.int .i64 0,.slice none 0 0]],[]⟩).memory Tryd.f4.params.toList Rows.deriveIsCombinationSpec.vars false (#[.agg #[.slice none 0 0,.slice none 0 0,.slice none 0 0,.slice none 0 0,.slice none 0 0],.agg #[.int .i64 0,.int .i64 0,.slice none 0 0]]:Array Value).toList 8=some ([.agg [.agg [.nil,.nil],.nil,.nil,.agg [.nil]],.agg [.lit (.int .i64 0),.lit (.int .i64 0),.nil]],[],places):=
  ⟨[],by kernel_rfl⟩
set_option maxRecDepth 100000 in
theorem contract (H:Type) (enc:TypeId×Value→H) (W:World) (base:Nat) (args:Array Value) (ds gs:List (DataW H)) (before:List MemPlace)
    (hval:∀ (j:Nat) t v,Tryd.f4.params[j]? =some t→args[j]? =some v→Value.okWide Tryd.prog W .any base t v)
    (hW:DataW.Whole enc Tryd.prog Tryd.f4.params.toList Rows.deriveIsCombinationSpec.vars false W args.toList ds gs before) (hL:laidMetH Tryd.prog Rows.deriveIsCombinationRow.laid W) {vts:List TypeId} (hsz:(DataW.weightsEach Tryd.prog (Tryd.f4.params.toList ++ vts) (ds ++ gs)).all (·≤reachBytes)=true):
    Calls Tryd.prog 4 args W fun e W'=>∃ v,e= .returned v∧Rows.deriveIsCombinationSpec.post enc Tryd.prog Tryd.f4 false true false false W args v W':=by
  have hW':=hW;have hblk:=fun p hp=>hW.lt p hp
  obtain⟨p,q,hA0,hV,rfl,hfz,hnd⟩:=hW;have hA:DataW.TrodAll enc Tryd.prog W 0 (fun _=>true) true Tryd.f4.params.toList args.toList ds p:=hA0;rw [Tryd.params4] at hA hval hsz;obtain⟨v0,vs0,d0,ds0,p0,q0,hargs0,rfl,rfl,h0,r0⟩:=trodAll_cons hA;obtain⟨v1,vs1,d1,ds1,p1,q1,hargs1,rfl,rfl,h1,r1⟩:=trodAll_cons r0;obtain⟨rfl,rfl,rfl⟩:=trodAll_nil r1;subst hargs1;obtain rfl:args= #[v0,v1]:=by cases args;simp_all
  obtain⟨rfl,rfl⟩:=trodVars_none hV;clear hA0;simp only [List.append_nil] at hW' hblk;have k0:=h0;have u0:=hval 0 32 v0 rfl rfl;have k1:=h1;have u1:=hval 1 56 v1 rfl rfl;obtain⟨AT,AF,AR,AX,AS,ct,cf,cr,cx,cst,l,fs,rs,xs,st,rfl,hct,hcf,hcr,hTy,hF,hRu,hLx,hG⟩:=gram_open u0 (lw_arg hsz (j:=0) rfl rfl) h0;obtain⟨t,A,c,rfl,hT⟩:=Gj u1 h1;refine(law41_any AT AF AR AX AS ct cf cr cx cst l fs rs xs st t A c W (tab_in (lone hL)) (u8_in hL) hTy hF hRu hLx hG hT).mono fun e W' ⟨he,hg⟩=>?_
  subst he;have s0:∀ sp:Nat→Bool,(∀ x ∈ p0,sp x.block=true)→DataW.Trod enc Tryd.prog W' 0 sp true 32 _ d0 p0:=fun sp hsp=>WideElems.Trod_stays L8 kR (of_decide_eq_true kR) k0 (fun x hx=>hg.same (hblk x (by simp [hx]))) hsp
  have s1:∀ sp:Nat→Bool,(∀ x ∈ p1,sp x.block=true)→DataW.Trod enc Tryd.prog W' 0 sp true 56 _ d1 p1:=fun sp hsp=>WideElems.Trod_stays L8 kR (of_decide_eq_true kR) k1 (fun x hx=>hg.same (hblk x (by simp [hx]))) hsp
  exact⟨_,rfl,post_bel (pv:=[]) hW' (fun _ _ _=>trodAll_cons_mk (shut_bool U4 _) trodAll_mk0) (fun sp hsp=>trodAll_cons_mk (s0 sp (fun x hx=>hsp x (by simp [hx]))) (trodAll_cons_mk (s1 sp (fun x hx=>hsp x (by simp [hx]))) trodAll_mk0)) (fun _ _=>rfl) (by simp) hg (ok_one kR rfl (okWide_bool_mk U4 _))⟩
set_option maxRecDepth 100000 in
theorem lifted (os:Os) (started:os.Started) (H:Type) (enc:TypeId×Value→H) (F:Stop.Interp):
    ReturnsInHanded {} Tryd.checked os 4 .any ((OpenSpec.ofChange Rows.deriveIsCombinationSpec).preRow enc Tryd.prog Tryd.f4 Rows.deriveIsCombinationRow.domain false Rows.deriveIsCombinationRow.laid) (((OpenSpec.ofChange Rows.deriveIsCombinationSpec).at F).post enc Tryd.prog Tryd.f4 false true false false):=by
  obtain⟨places,hx⟩:=reads os enc;refine returnsInHanded_of_row (C:=Tryd.checked) (s:=OpenSpec.ofChange Rows.deriveIsCombinationSpec) own started kR Tryd.func4
    (witness_row_at (enc:=enc) (C:=Tryd.checked) false (Mq os) #[.agg #[.slice none 0 0,.slice none 0 0,.slice none 0 0,.slice none 0 0,.slice none 0 0],.agg #[.int .i64 0,.int .i64 0,.slice none 0 0]] rfl kR kR kR
      (OpenSpec.preRow_of_cond 8 hx kR (fun k hk=>by cases hk) kR (laid_met os))) ?_
  intro W base args ds gs before hval hW _ _ hsz hL _ _;exact contract H enc W base args ds gs before hval hW hL hsz
set_option maxRecDepth 100000 in
theorem said:Rows.DeriveIsCombinationSaid:=
  OpenClaim.holds_of_cond 4 Tryd.f4 rfl rfl rfl rfl rfl rfl rfl ⟨rfl,rfl,rfl,rfl,rfl⟩ rfl rfl rfl rfl rfl kR Tryd.func4 kR
    (of_decide_eq_true kR) (by unfold Func.isWrapper;first | (rw [if_pos (by decide +kernel)];kernel_rfl) | (rw [if_neg (by decide +kernel)];exact⟨rfl,rfl⟩))
    (fun os started H enc _ F=>by rw [OpenClaim.pre_eq_preRow];exact lifted os started H enc F)
theorem plain (f:FuncId) (fn:Func) (hf:Tryd.pinned.checked.prog.funcNamed "glosswright/glosswrightlaw4.DeriveIsCombination" =some f) (hfn:Tryd.pinned.checked.prog.funcs[f]? =some fn):
    false=Tryd.pinned.checked.prog.looks []∧∀ (j:Nat) t,fn.params[j]? =some t→Tryd.pinned.checked.prog.wantsStandIn t=false:=by
  obtain rfl:f=4:=Option.some.inj ((show Tryd.prog.funcNamed "glosswright/glosswrightlaw4.DeriveIsCombination" =some 4 by kernel_rfl).symm.trans hf) |>.symm;obtain rfl:fn=Tryd.f4:=(Option.some.inj (Tryd.func4.symm.trans hfn)).symm;refine⟨by kernel_rfl,fun j t ht=>?_⟩;rw [Tryd.params4] at ht;have hm:t ∈ #[32,56]:=Array.mem_of_getElem? ht;simp only [List.mem_toArray,List.mem_cons,List.not_mem_nil,or_false] at hm;rcases hm with rfl | rfl
  · exact(show Tryd.prog.wantsStandIn 32=false by kernel_rfl)
  · exact(show Tryd.prog.wantsStandIn 56=false by kernel_rfl)
theorem card:Rows.DeriveIsCombinationCardSaid:=
  Claim7.holds_tied_plain_at .later [] _ _ _ _ said (fun _ h=>by cases h) kR (fun _ h=>by cases h) deriveIsCombination_row_tie rfl ⟨rfl,rfl⟩ kR rfl plain kR
end deriveIsCombination
end Go.Proofs.YtdgnllfbooklcaaDoor
