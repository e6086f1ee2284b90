/- Proved: for every world and every input, the law LexruleApplyMatchesSpec of glosswrightlaw3 returns true and leaves its arguments as they were; the condition is the statement's own, that the listed tables hold what their text lays. -/
import Derived.Test.YtndbjnkilegebaaGreatDoorU
import Derived.Test.YtndbjnkilegebaaGreatDoorCards
import Derived.Test.YtndbjnkilegebaaGreatDoorTie
import Derived.Test.YtndbjnkilegebaaGreatDoorZst
import Derived.WalkKit
import Derived.LaidSub
import Derived.Deep.DeepLaidRun
import Derived.SizedLaws
import Derived.Lib.LaidU8
import Derived.ProofKit
import Derived.Deep.DeepHandedRow
import Derived.Lib.LaidTab
import Derived.Test.YtndbjnkilegebaaGreatDoorLOpen
namespace Go.Proofs.YtndbjnkilegebaaGreatDoor
open Go.ChangeShapes Go.WideShapes Go.ChangeAt Go.RowKit Go.Joins
open Go.Proofs.Tryz
set_option maxRecDepth 100000
variable {W:World}{a1:Nat->Bool}{a2:Bool}{b0 base:Nat}{p:List MemPlace}{v:Value}
theorem ce3:prog.cellsOf 3=1:=by kernel_rfl
theorem ce9:prog.cellsOf 9=1:=by kernel_rfl
theorem ce22:prog.cellsOf 22=1:=by kernel_rfl
theorem ce23:prog.cellsOf 23=1:=by kernel_rfl
theorem ce25:prog.cellsOf 25=2:=by kernel_rfl
theorem ce26:prog.cellsOf 26=1:=by kernel_rfl
theorem ce28:prog.cellsOf 28=1:=by kernel_rfl
theorem ce29:prog.cellsOf 29=1:=by kernel_rfl
theorem ce31:prog.cellsOf 31=2:=by kernel_rfl
theorem ce32:prog.cellsOf 32=1:=by kernel_rfl
theorem ce34:prog.cellsOf 34=6:=by kernel_rfl
theorem ce38:prog.cellsOf 38=9:=by kernel_rfl
theorem ce39:prog.cellsOf 39=1:=by kernel_rfl
theorem ce40:prog.cellsOf 40=1:=by kernel_rfl
theorem ce42:prog.cellsOf 42=5:=by kernel_rfl
theorem ce62:prog.cellsOf 62=1:=by kernel_rfl
theorem ce64:prog.cellsOf 64=3:=by kernel_rfl
theorem ce68:prog.cellsOf 68=10:=by kernel_rfl
theorem ce84:prog.cellsOf 84=2:=by kernel_rfl
theorem ce85:prog.cellsOf 85=1:=by kernel_rfl
theorem ce87:prog.cellsOf 87=2:=by kernel_rfl
theorem ce102:prog.cellsOf 102=2:=by kernel_rfl
theorem smT_:∃ f0 f1,SmT prog 31 29 9 f0 f1:=⟨_,_,U31,ce31,rfl,rfl,rfl,rfl,U29,U9,ce9,ce29⟩
theorem tmT_:∃ f0 f1 g0 g1 g2 g3 g4,TmT prog 34 32 3 9 31 29 f0 f1 g0 g1 g2 g3 g4:=by
 obtain⟨_,_,s⟩:=smT_;exact⟨_,_,_,_,_,_,_,s,U34,ce34,rfl,rfl,rfl,rfl,rfl,rfl,rfl,rfl,rfl,rfl,U32,U3,ce3,ce32⟩
theorem grT_:∃ q0 f0 f1 g0 g1,GrfT prog 28 26 87 3 85 84 q0 f0 f1 g0 g1:=⟨_,_,_,_,_,U28,ce28,rfl,rfl,ce26,U26,U87,ce87,rfl,rfl,rfl,rfl,U85,U84,ce84,rfl,rfl,rfl,rfl,ce85,U3,ce3⟩
theorem ce36:prog.cellsOf 36=11:=by kernel_rfl
theorem lr_arg{H:Type}{enc:TypeId×Value->H}{r:Reach}{d:DataW H}(hv:Value.okWide prog W r b0 36 v)(hw:Lw prog 36 d)(h:DataW.Trod enc prog W base a1 a2 36 v d p):
  ∃(z:Lr) (B A2 B2:Option Addr) (d c2 d2:Nat),v= .agg #[.string z.name,.string z.cut,.string z.add,.slice B z.gr.length d,.int .i64 z.wt,.int .i64 z.mean.kind,.string z.mean.name,.int .i64 z.mean.index,.string z.mean.type.base,.slice A2 z.mean.type.args.length c2,.slice B2 z.mean.args.length d2]/\LrP W z B A2 B2:=by
 obtain⟨_,_,_,_,_,_,_,tmT⟩:=tmT_;obtain⟨_,_,_,_,_,grT⟩:=grT_;obtain⟨cs,rfl,hsz⟩:=okWide_struct U36 hv;obtain⟨fuel,hf⟩:=h;rw[ce36]at hsz;obtain⟨L⟩:=cs
 match L,hsz with
 | [v0,v1,v2,v3,v4,v5,v6,v7,v8,v9,v10],_=>
  obtain⟨z,B,A2,B2,d,c2,d2,e1,h2⟩:=lr_open tmT grT U36 rfl rfl rfl rfl rfl rfl rfl rfl rfl rfl rfl rfl  hw hf;exact⟨z,B,A2,B2,d,c2,d2,congrArg (fun(q:List Value)=>Value.agg ⟨q⟩) e1,h2⟩
theorem lx_arg{H:Type}{enc:TypeId×Value->H}{r:Reach}{d:DataW H}(hv:Value.okWide prog W r b0 38 v)(hw:Lw prog 38 d)(h:DataW.Trod enc prog W base a1 a2 38 v d p):
  ∃(z:Lx) (B A2 B2:Option Addr) (d c2 d2:Nat),v= .agg #[.string z.word,.slice B z.gr.length d,.int .i64 z.wt,.int .i64 z.mean.kind,.string z.mean.name,.int .i64 z.mean.index,.string z.mean.type.base,.slice A2 z.mean.type.args.length c2,.slice B2 z.mean.args.length d2]/\z.word.size<9223372036854775807/\NodesIn W B z.gr/\SimsIn W A2 z.mean.type.args/\TmsIn W B2 z.mean.args:=by
 obtain⟨_,_,_,_,_,_,_,tmT⟩:=tmT_;obtain⟨_,_,_,_,_,grT⟩:=grT_;obtain⟨cs,rfl,hsz⟩:=okWide_struct U38 hv;obtain⟨fuel,hf⟩:=h;rw[ce38]at hsz;obtain⟨L⟩:=cs
 match L,hsz with
 | [v0,v1,v2,v3,v4,v5,v6,v7,v8],_=>
  obtain⟨z,B,A2,B2,d,c2,d2,e1,h2⟩:=lx_open tmT grT U38 rfl rfl rfl rfl rfl rfl rfl rfl  hw hf;exact⟨z,B,A2,B2,d,c2,d2,congrArg (fun(q:List Value)=>Value.agg ⟨q⟩) e1,h2⟩
theorem hier_open{H:Type}{enc:TypeId×Value->H}{r:Reach}{d:DataW H}(hv:Value.okWide prog W r b0 25 v)(h:DataW.Trod enc prog W base a1 a2 25 v d p):
  ∃ A B c e l fs,v= .agg #[.slice A (List.length l) c,.slice B (List.length fs) e]/\l.length<=c/\fs.length<=e/\TypesIn W A l/\FeatsIn W B fs:=by
 obtain⟨v0,v1,y0,y1,n,rfl,_,_,h0,h1⟩:=open_agg2 U25 kR ce25 hv h;obtain⟨A,l,c,rfl,hl,hT⟩:=types_open U22 L9 ce102 rfl rfl rfl rfl U9 ce9 ce62 U62 U3 ce3 h0;obtain⟨B,fs,e,rfl,hf,hF⟩:=feats_open U23 U64 ce64 rfl rfl rfl rfl rfl rfl U9 ce9 U3 ce3 h1;exact⟨A,B,c,e,l,fs,rfl,hl,hf,hT,hF⟩
theorem HQ:laidOutB prog=true:=by kernel_rfl
theorem own:ownKnob prog.godebug=none:=by kernel_rfl
theorem gTab:prog.globalNamed "math/bits.deBruijn64tab" =some 2:=by kernel_rfl
theorem gTabType:(prog.globals[2]?).map (·.type)=some 189:=by kernel_rfl
theorem ce189:prog.cellsOf 189=64:=by kernel_rfl
theorem ce5:prog.cellsOf 5=1:=by kernel_rfl
theorem tab_get(l:List Nat)(k:Nat):(l.map (fun(n:Nat)=>(n:Int))).getD k 0=((l.getD k 0:Nat):Int):=by
 simp only[List.getD_eq_getElem?_getD,List.getElem?_map];cases l[k]?<;>rfl
theorem tab_in(h:laidMetH prog [("math/bits.deBruijn64tab",Rows.laid_math_bits_deBruijn64tab)] W):TabIn W:=by
 have ht:Lib.TabIs prog W "math/bits.deBruijn64tab" .u8 (Lib.deBruijn64tab.map (fun(n:Nat)=>(n:Int))):=Lib.tabIs_of_head (rest:=[]) gTab gTabType underlying189 U5 ce5 ce189 h;have hc:∀ k,k<64->W.cell? ⟨2,0+k*1,none⟩=some (.int .u8 ((Lib.deBruijn64tab.getD k 0:Nat):Int)):=fun k hk=>by
  have h1:=ht.cell gTab k (by rw[List.length_map];exact hk);rw[tab_get]at h1
  simpa using h1
 exact⟨Go.Clock.block_lt (hc 0 dE),hc⟩
def oneLaid:DataW Unit->Value | .lit (.int k z)=> .int k z|_=> .bool false
def someLaid:DataW Unit->List Value | .agg r=>r.map oneLaid|x=>[oneLaid x]
def laidV:DataW Unit->Array Value | .agg r=>(r.flatMap someLaid).toArray|_=>#[]
noncomputable def PZ(os:Os):World:=
 { World.holding prog os ⟨#[],#[],[]⟩with heap:=((((World.holding prog os ⟨#[],#[],[]⟩).heap.modify 2 fun | .cells _ t z=> .cells (laidV Rows.laid_math_bits_deBruijn64tab) t z|o=>o).modify 1 fun | .cells _ t z=> .cells (laidV Rows.laid_unicode_utf8_acceptRanges) t z|o=>o).modify 0 fun | .cells _ t z=> .cells (laidV Rows.laid_unicode_utf8_first) t z|o=>o) }
theorem lone(h:laidMetH prog Rows.lexruleApplyMatchesSpecRow.laid W):laidMetH prog [("math/bits.deBruijn64tab",Rows.laid_math_bits_deBruijn64tab)] W:=by
 have h1:=h.filter (fun x=>x.1 == "math/bits.deBruijn64tab");have h2:(Rows.lexruleApplyMatchesSpecRow.laid.filter fun x=>x.1 == "math/bits.deBruijn64tab")= [("math/bits.deBruijn64tab",Rows.laid_math_bits_deBruijn64tab)]:=by kernel_rfl
 rwa[h2]at h1
theorem gFst:prog.globalNamed "unicode/utf8.first" =some 0:=by kernel_rfl
theorem gFstT:(prog.globals[0]?).map (·.type)=some 157:=by kernel_rfl
theorem gAcc:prog.globalNamed "unicode/utf8.acceptRanges" =some 1:=by kernel_rfl
theorem gAccT:(prog.globals[1]?).map (·.type)=some 160:=by kernel_rfl
theorem cu157:prog.cellsOf 157=256:=by kernel_rfl
theorem cu5:prog.cellsOf 5=1:=by kernel_rfl
theorem cu159:prog.cellsOf 159=2:=by kernel_rfl
theorem fst_eq:Rows.laid_unicode_utf8_first=Lib.firstData:=by kernel_rfl
theorem acc_eq:(Rows.laid_unicode_utf8_acceptRanges:DataW Unit)=Lib.acceptData:=by kernel_rfl
theorem u8_in(h:laidMetH prog [("math/bits.deBruijn64tab",Rows.laid_math_bits_deBruijn64tab),("unicode/utf8.acceptRanges",Rows.laid_unicode_utf8_acceptRanges),("unicode/utf8.first",Rows.laid_unicode_utf8_first)] W):U8In W:=by
 have hm:laidMet prog [("math/bits.deBruijn64tab",Rows.laid_math_bits_deBruijn64tab),("unicode/utf8.acceptRanges",Rows.laid_unicode_utf8_acceptRanges),("unicode/utf8.first",Rows.laid_unicode_utf8_first)] W:=h;have h3:=Lib.laidMet.reads hm (n:= "unicode/utf8.first") (d:=Rows.laid_unicode_utf8_first) (.tail _ (.tail _ (.head _)));have h4:=Lib.laidMet.reads hm (n:= "unicode/utf8.acceptRanges") (d:=Rows.laid_unicode_utf8_acceptRanges) (.tail _ (.head _));rw[fst_eq]at h3;rw[acc_eq]at h4;have c1:∀ k,k<256->W.cell? ⟨0,0+k*1,none⟩=some (.int .u8 ((Lib.firstT k:Nat):Int)):=fun c hc=>by
  obtain⟨g,t,cs,a4,p,hg,a3,a1,hd⟩:=h3;obtain rfl:=Option.some.inj (gFst.symm.trans hg);obtain rfl:=Option.some.inj (gFstT.symm.trans a3);have a2:=Lib.cells_of_tab underlying157 U5 cu5 cu157 hd;have:=World.var?_cell hg a1 c;rw[Nat.zero_add,Nat.mul_one,this,<- Array.getElem?_toList,a2];simp[Lib.firstTab,hc]
 have c2:∀ k,k<16->W.rangeAt 1 (0+k*2) [.int .u8 ((Lib.accLo k:Nat):Int),.int .u8 ((Lib.accHi k:Nat):Int)]:=fun i hi=>by
  obtain⟨g,t,cs,a4,p,hg,a3,a1,hd⟩:=h4;obtain rfl:=Option.some.inj (gAcc.symm.trans hg);obtain rfl:=Option.some.inj (gAccT.symm.trans a3);obtain⟨fuel',d,q,hdi,he⟩:=Lib.array_elem underlying160 hd i hi;simp only[List.getElem?_map,List.getElem?_range hi,Option.map_some,Option.some.injEq]at hdi;subst hdi;rw[cu159]at he
  have a2:=Lib.ints_of_struct DX (fun j f hj=>by
   match j,hj with
   | 0,hj=>simp at hj;subst hj;exact⟨U5,rfl,cu5⟩
   | 1,hj=>simp at hj;subst hj;exact⟨U5,rfl,cu5⟩
   | j+2,hj=>simp at hj) (by rw[cu159];rfl) he
  have e0:=congrArg (·[0]?) a2;have e1:=congrArg (·[1]?) a2;simp only[List.getElem?_take,List.getElem?_drop]at e0 e1;intro j v hj
  match j,hj with
  | 0,hj=>
   cases hj;rw[Nat.zero_add,Nat.add_zero,World.var?_cell hg a1 (i*2),<- Array.getElem?_toList]
   simpa using e0
  | 1,hj=>
   cases hj;rw[Nat.zero_add,World.var?_cell hg a1 (i*2+1),<- Array.getElem?_toList]
   simpa using e1
  | _+2,hj=>cases hj
 exact⟨⟨Go.Clock.block_lt (c1 0 dE),c1⟩,Go.Clock.block_lt (c2 0 dE 0 _ rfl),c2⟩
namespace lexruleApplyMatchesSpec
theorem laid_met(os:Os):laidMet prog Rows.lexruleApplyMatchesSpecRow.laid ((PZ os).forCall (fun _ _=>0) ⟨#[],#[.agg #[.slice none 0 0,.slice none 0 0],.agg cJ,.agg cE],[]⟩).memory:=
 laidMet_of_run3 8 kR kR kR
theorem reads(os:Os){H:Type}(enc:TypeId×Value->H):∃ places,DataW.whole enc prog ((PZ os).forCall (fun _ _=>0) ⟨#[],#[.agg #[.slice none 0 0,.slice none 0 0],.agg cJ,.agg cE],[]⟩).memory Tryz.f3.params.toList Rows.lexruleApplyMatchesSpecSpec.vars false (#[.agg #[.slice none 0 0,.slice none 0 0],.agg cJ,.agg cE]:Array Value).toList 8=some ([.agg [.nil,.nil],.agg [.lit (.string []),.lit (.string []),.lit (.string []),.agg [.nil],.lit (.int .i64 0),.agg [.lit (.int .i64 0),.lit (.string []),.lit (.int .i64 0),.agg [.lit (.string []),.nil],.nil]],.agg [.lit (.string []),.agg [.nil],.lit (.int .i64 0),.agg [.lit (.int .i64 0),.lit (.string []),.lit (.int .i64 0),.agg [.lit (.string []),.nil],.nil]]],[],places):=
 ⟨[],by kernel_rfl⟩
theorem contract(H:Type)(enc:TypeId×Value->H)(W:World)(base:Nat)(args:Array Value)(ds gs:List (DataW H))(a8:List MemPlace)
  (a1:∀(j:Nat) t v,Tryz.f3.params[j]? =some t->args[j]? =some v->Value.okWide prog W .any base t v)
  (hW:DataW.Whole enc prog Tryz.f3.params.toList Rows.lexruleApplyMatchesSpecSpec.vars false W args.toList ds gs a8) (hL:laidMetH prog Rows.lexruleApplyMatchesSpecRow.laid W) {vts:List TypeId} (hsz:(DataW.weightsEach prog (Tryz.f3.params.toList++vts) (ds++gs)).all (·<=reachBytes)=true):
  Calls prog 3 args W fun e W'=>∃ v,e= .returned v/\Rows.lexruleApplyMatchesSpecSpec.post enc prog Tryz.f3 false true false false W args v W':=by
 have hW':=hW;have a3:=fun p hp=>hW.lt p hp
 obtain⟨p,q,hA0,hV,rfl,hfz,hnd⟩:=hW;have hA:DataW.TrodAll enc prog W 0 (fun _=>true) true Tryz.f3.params.toList args.toList ds p:=hA0;rw[Tryz.params3]at hA a1 hsz;obtain⟨v0,vs0,d0,ds0,p0,q0,a9,rfl,rfl,h0,r0⟩:=trodAll_cons hA;obtain⟨v1,vs1,d1,ds1,p1,q1,a5,rfl,rfl,h1,r1⟩:=trodAll_cons r0;obtain⟨v2,vs2,d2,ds2,p2,q2,a4,rfl,rfl,h2,r2⟩:=trodAll_cons r1;obtain⟨rfl,rfl,rfl⟩:=trodAll_nil r2;subst a4;subst a5;obtain rfl:args= #[v0,v1,v2]:=by cases args;simp_all
 obtain⟨rfl,rfl⟩:=trodVars_none hV;clear hA0;simp only[List.append_nil]at hW' a3;have k0:=h0;have u0:=a1 0 25 v0 rfl rfl;have k1:=h1;have u1:=a1 1 36 v1 rfl rfl;have k2:=h2;have u2:=a1 2 38 v2 rfl rfl;obtain⟨AT,AF,ct,cf,l,fs,rfl,hct,hcf,hTy,hF⟩:=hier_open u0 h0;obtain⟨r,G,SA,BA,cg,cs,cb,rfl,hP⟩:=lr_arg u1 (lw_arg hsz (j:=1) rfl rfl) h1;obtain⟨x,Gx,Sx,Bx,cgx,csx,cbx,rfl,hwx,hGx,hSx,hTx⟩:=lx_arg u2 (lw_arg hsz (j:=2) rfl rfl) h2;refine(law45_any AT AF ct cf l fs r x G SA BA Gx Sx Bx cg cs cb cgx csx cbx W (tab_in (lone hL)) (u8_in hL) hwx hct hcf hTy hF hP hGx hSx hTx).mono fun e W' ⟨he,hg⟩=>?_
 subst he;have s0:∀ sp:Nat->Bool,(∀ x∈p0,sp x.block=true)->DataW.Trod enc prog W' 0 sp true 25 _ d0 p0:=fun sp a2=>WideElems.Trod_stays HQ kR (aO kR) k0 (fun x hx=>hg.same (a3 x (by simp[hx]))) a2
 have s1:∀ sp:Nat->Bool,(∀ x∈p1,sp x.block=true)->DataW.Trod enc prog W' 0 sp true 36 _ d1 p1:=fun sp a2=>WideElems.Trod_stays HQ kR (aO kR) k1 (fun x hx=>hg.same (a3 x (by simp[hx]))) a2
 have s2:∀ sp:Nat->Bool,(∀ x∈p2,sp x.block=true)->DataW.Trod enc prog W' 0 sp true 38 _ d2 p2:=fun sp a2=>WideElems.Trod_stays HQ kR (aO kR) k2 (fun x hx=>hg.same (a3 x (by simp[hx]))) a2
 exact⟨_,rfl,post_bel (pv:=[]) hW' (fun _ _ _=>trodAll_cons_mk (shut_bool U4 _) trodAll_mk0) (fun sp a2=>trodAll_cons_mk (s0 sp (fun x hx=>a2 x (by simp[hx]))) (trodAll_cons_mk (s1 sp (fun x hx=>a2 x (by simp[hx]))) (trodAll_cons_mk (s2 sp (fun x hx=>a2 x (by simp[hx]))) trodAll_mk0))) (fun _ _=>rfl) (by simp) hg (ok_one kR rfl (okWide_bool_mk U4 _))⟩
theorem lifted(os:Os)(a1:os.Started)(H:Type)(enc:TypeId×Value->H)(F:Stop.Interp):
  ReturnsInHanded {} Tryz.checked os 3 .any ((OpenSpec.ofChange Rows.lexruleApplyMatchesSpecSpec).preRow enc prog Tryz.f3 Rows.lexruleApplyMatchesSpecRow.domain false Rows.lexruleApplyMatchesSpecRow.laid) (((OpenSpec.ofChange Rows.lexruleApplyMatchesSpecSpec).at F).post enc prog Tryz.f3 false true false false):=by
 obtain⟨a3,hx⟩:=reads os enc;refine returnsInHanded_of_row (C:=Tryz.checked) (s:=OpenSpec.ofChange Rows.lexruleApplyMatchesSpecSpec) own a1 kR func3
  (witness_row_at (enc:=enc) (C:=Tryz.checked) false (PZ os) #[.agg #[.slice none 0 0,.slice none 0 0],.agg cJ,.agg cE] rfl kR kR kR
   (OpenSpec.preRow_of_cond 8 hx kR (fun k hk=>by cases hk) kR (laid_met os))) ?_
 intro W base args ds gs a2 a4 hW _ _ hsz hL _ _;exact contract H enc W base args ds gs a2 a4 hW hL hsz
theorem said:Rows.LexruleApplyMatchesSpecSaid:=
 OpenClaim.holds_of_cond 3 Tryz.f3 rfl rfl rfl rfl rfl rfl rfl ⟨rfl,rfl,rfl,rfl,rfl⟩ rfl rfl rfl rfl rfl kR func3 kR
  (aO kR) (by unfold Func.isWrapper;first|(rw[if_pos (by decide +kernel)];kernel_rfl)|(rw[if_neg (by decide +kernel)];exact⟨rfl,rfl⟩))
  (fun os a1 H enc _ F=>by rw[OpenClaim.pre_eq_preRow];exact lifted os a1 H enc F)
theorem plain (f:FuncId) (fn:Func) (hf:Tryz.pinned.checked.prog.funcNamed "glosswright/glosswrightlaw3.LexruleApplyMatchesSpec" =some f) (hfn:Tryz.pinned.checked.prog.funcs[f]? =some fn):
  false=Tryz.pinned.checked.prog.looks []/\∀(j:Nat) t,fn.params[j]? =some t->Tryz.pinned.checked.prog.wantsStandIn t=false:=by
 obtain rfl:f=3:=Option.some.inj ((show prog.funcNamed "glosswright/glosswrightlaw3.LexruleApplyMatchesSpec" =some 3 by kernel_rfl).symm.trans hf) |>.symm;obtain rfl:fn=Tryz.f3:=(Option.some.inj (func3.symm.trans hfn)).symm;refine⟨by kernel_rfl,fun j t ht=>?_⟩;rw[Tryz.params3]at ht;have hm:t∈ #[25,36,38]:=Array.mem_of_getElem? ht;simp only[List.mem_toArray,List.mem_cons,List.not_mem_nil,or_false]at hm;rcases hm with rfl|rfl|rfl
 ·exact(show prog.wantsStandIn 25=false by kernel_rfl)
 ·exact(show prog.wantsStandIn 36=false by kernel_rfl)
 ·exact(show prog.wantsStandIn 38=false by kernel_rfl)
theorem card:Rows.LexruleApplyMatchesSpecCardSaid:=
 Claim7.holds_tied_plain_at .later [] _ _ _ _ said (fun _ h=>by cases h) kR (fun _ h=>by cases h) lexruleApplyMatchesSpec_row_tie rfl ⟨rfl,rfl⟩ kR rfl plain kR
end lexruleApplyMatchesSpec
end Go.Proofs.YtndbjnkilegebaaGreatDoor
