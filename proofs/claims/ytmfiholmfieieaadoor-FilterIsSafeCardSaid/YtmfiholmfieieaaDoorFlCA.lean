/- Proved: for every world and every input, the law FilterIsSafe of glosswrightlaw4 returns true and leaves its arguments as they were; the condition is the statement's own, that the listed tables hold what their text lays. -/
import Derived.Test.YtmfiholmfieieaaDoorU
import Derived.Test.YtmfiholmfieieaaDoorCards
import Derived.Test.YtmfiholmfieieaaDoorTie
import Derived.Test.YtmfiholmfieieaaDoorZst
import Derived.WalkKit
import Derived.LaidSub
import Derived.Deep.DeepLaidRun
import Derived.SizedLaws
import Derived.Lib.LaidU8
import Derived.ProofKit
import Derived.Deep.DeepHandedRow
import Derived.Lib.LaidTab
import Derived.Test.YtmfiholmfieieaaDoorDOpen
namespace Go.Proofs.YtmfiholmfieieaaDoor
open Go.ChangeShapes Go.WideShapes Go.ChangeAt Go.RowKit Go.Joins
set_option maxRecDepth 100000
variable {W:World}
theorem ce3:Tryd.prog.cellsOf 3=1:=by kernel_rfl
theorem ce9:Tryd.prog.cellsOf 9=1:=by kernel_rfl
theorem ce22:Tryd.prog.cellsOf 22=1:=by kernel_rfl
theorem ce23:Tryd.prog.cellsOf 23=1:=by kernel_rfl
theorem ce25:Tryd.prog.cellsOf 25=2:=by kernel_rfl
theorem ce26:Tryd.prog.cellsOf 26=1:=by kernel_rfl
theorem ce27:Tryd.prog.cellsOf 27=1:=by kernel_rfl
theorem ce28:Tryd.prog.cellsOf 28=1:=by kernel_rfl
theorem ce30:Tryd.prog.cellsOf 30=1:=by kernel_rfl
theorem ce32:Tryd.prog.cellsOf 32=5:=by kernel_rfl
theorem ce36:Tryd.prog.cellsOf 36=1:=by kernel_rfl
theorem ce59:Tryd.prog.cellsOf 59=1:=by kernel_rfl
theorem ce61:Tryd.prog.cellsOf 61=2:=by kernel_rfl
theorem ce62:Tryd.prog.cellsOf 62=1:=by kernel_rfl
theorem ce64:Tryd.prog.cellsOf 64=6:=by kernel_rfl
theorem ce66:Tryd.prog.cellsOf 66=10:=by kernel_rfl
theorem ce83:Tryd.prog.cellsOf 83=3:=by kernel_rfl
theorem ce88:Tryd.prog.cellsOf 88=9:=by kernel_rfl
theorem ce105:Tryd.prog.cellsOf 105=1:=by kernel_rfl
theorem ce107:Tryd.prog.cellsOf 107=2:=by kernel_rfl
theorem ce109:Tryd.prog.cellsOf 109=2:=by kernel_rfl
theorem ce126:Tryd.prog.cellsOf 126=2:=by kernel_rfl
theorem smT_:∃ f0 f1,SmT Tryd.prog 61 59 9 f0 f1:=⟨_,_,U61,ce61,rfl,rfl,rfl,rfl,U59,U9,ce9,ce59⟩
theorem tmT_:∃ f0 f1 g0 g1 g2 g3 g4,TmT Tryd.prog 64 62 3 9 61 59 f0 f1 g0 g1 g2 g3 g4:=by
 obtain⟨_,_,s⟩:=smT_;exact⟨_,_,_,_,_,_,_,s,U64,ce64,rfl,rfl,rfl,rfl,rfl,rfl,rfl,rfl,rfl,rfl,U62,U3,ce3,ce62⟩
theorem grT_:∃ q0 f0 f1 g0 g1,GrfT Tryd.prog 30 28 107 3 105 109 q0 f0 f1 g0 g1:=⟨_,_,_,_,_,U30,ce30,rfl,rfl,ce28,U28,EJ,ce107,rfl,rfl,rfl,rfl,jx,Y2,ce109,rfl,rfl,rfl,rfl,ce105,U3,ce3⟩
theorem ce33:Tryd.prog.cellsOf 33=1:=by kernel_rfl
theorem ce35:Tryd.prog.cellsOf 35=3:=by kernel_rfl
theorem dtT_:∃ f0 f1 f2,DtT Tryd.prog 35 33 3 f0 f1 f2:=⟨_,_,_,U35,ce35,rfl,rfl,rfl,rfl,rfl,rfl,U33,U3,ce3,ce33⟩
theorem tree_open{H:Type}{enc:TypeId×Value->H}{base:Nat}{a1:Nat->Bool}{a2:Bool}{r:Reach}{b0:Nat}{v:Value}{d:DataW H}{p:List MemPlace}(hv:Value.okWide Tryd.prog W r b0 35 v)(h:DataW.Trod enc Tryd.prog W base a1 a2 35 v d p):
  ∃(t:Dt) (A:Option Addr) (c:Nat),v= .agg #[.int .i64 t.rule,.int .i64 t.lex,.slice A t.kids.length c]/\TresIn W A t.kids:=by
 obtain⟨_,_,_,dtT⟩:=dtT_;obtain⟨cs,rfl,hsz⟩:=okWide_struct U35 hv;obtain⟨a3,hf⟩:=h;rw[ce35]at hsz;obtain⟨L⟩:=cs
 match L,hsz with
 | [v0,v1,v2],_=>
  obtain⟨t,A,c,rfl,rfl,rfl,hin⟩:=dt_open dtT (show DataW.trod enc Tryd.prog W base a1 a2 a3 35 [v0,v1,v2]=some (d,p)from hf);exact⟨t,A,c,rfl,hin⟩
theorem gram_open{H:Type}{enc:TypeId×Value->H}{base:Nat}{a1:Nat->Bool}{a2:Bool}{r:Reach}{b0:Nat}{v:Value}{d:DataW H}{p:List MemPlace}(hv:Value.okWide Tryd.prog W r b0 32 v)(hw:Lw Tryd.prog 32 d)(h:DataW.Trod enc Tryd.prog W base a1 a2 32 v d p):
  ∃ AT AF AR AX AS ct cf cr cx cst l fs rs xs st,v= .agg #[.slice AT (List.length l) ct,.slice AF (List.length fs) cf,.slice AR (List.length rs) cr,.slice AX (List.length xs) cx,.slice AS (List.length st) cst]/\l.length<=ct/\fs.length<=cf/\rs.length<=cr/\TypesIn W AT l/\FeatsIn W AF fs/\RulesIn W AR rs/\LexesIn W AX xs/\NodesIn W AS st:=by
 obtain⟨_,_,_,_,_,_,_,tmT⟩:=tmT_;obtain⟨_,_,_,_,_,a4⟩:=grT_;obtain⟨cs,rfl,hsz⟩:=okWide_struct U32 hv;obtain⟨fuel,hf⟩:=h;obtain⟨n,_,hl,a3⟩:=H3 U32 hf;rw[ce32]at hsz;obtain⟨L⟩:=cs
 match L,hsz with
 | [v0,v1,v2,v3,v4],_=>
  obtain⟨y0,p0,_⟩:=a3 0 _ rfl;obtain⟨y1,p1,_⟩:=a3 1 _ rfl;obtain⟨y2,p2,w2⟩:=a3 2 _ rfl;obtain⟨y3,p3,_⟩:=a3 3 _ rfl;have q0:DataW.trod enc Tryd.prog W base a1 a2 n 25 [v0,v1]=some y0:=by simpa[Value.cells,ce25]using p0
  have q1:DataW.trod enc Tryd.prog W base a1 a2 n 26 [v2]=some y1:=by simpa[Value.cells,ce26]using p1
  have q2:DataW.trod enc Tryd.prog W base a1 a2 n 27 [v3]=some y2:=by simpa[Value.cells,ce27]using p2
  have q3:DataW.trod enc Tryd.prog W base a1 a2 n 30 [v4]=some y3:=by simpa[Value.cells,ce30]using p3
  obtain⟨m,_,_,hfh⟩:=H3 U25 q0;obtain⟨z0,r0,_⟩:=hfh 0 _ rfl;obtain⟨z1,r1,_⟩:=hfh 1 _ rfl;have s0:DataW.trod enc Tryd.prog W base a1 a2 m 22 [v0]=some z0:=by simpa[ce22]using r0
  have s1:DataW.trod enc Tryd.prog W base a1 a2 m 23 [v1]=some z1:=by simpa[ce23]using r1
  obtain⟨A,l,c,rfl,hl1,hT⟩:=HK U22 U126 ce126 rfl rfl rfl rfl U9 ce9 ce36 U36 U3 ce3 s0;obtain⟨B,fs,e,rfl,hl2,hF⟩:=feats_open Tryd.underlying23 U83 ce83 rfl rfl rfl rfl rfl rfl U9 ce9 U3 ce3 s1;obtain⟨AR,rs,cr,rfl,hl3,hR⟩:=LJ tmT a4 U26 U66 ce66 rfl rfl rfl rfl rfl rfl rfl rfl rfl rfl q1;obtain⟨AX,xs,cx,rfl,hl4,hX⟩:=GK tmT a4 U27 U88 ce88 rfl rfl rfl rfl rfl rfl rfl rfl (w2 hw) q2;obtain⟨AS,st,cst,rfl,hG⟩:=TZ a4 q3;exact⟨A,B,AR,AX,AS,c,e,cr,cx,cst,l,fs,rs,xs,st,rfl,hl1,hl2,hl3,hT,hF,hR,hX,hG⟩
theorem laidOut:laidOutB Tryd.prog=true:=by kernel_rfl
theorem own:ownKnob Tryd.prog.godebug=none:=by kernel_rfl
theorem gTab:Tryd.prog.globalNamed "math/bits.deBruijn64tab" =some 0:=by kernel_rfl
theorem gTabType:(Tryd.prog.globals[0]?).map (·.type)=some 162:=by kernel_rfl
theorem ce162:Tryd.prog.cellsOf 162=64:=by kernel_rfl
theorem ce5:Tryd.prog.cellsOf 5=1:=by kernel_rfl
theorem tab_get(l:List Nat)(k:Nat):(l.map (fun(n:Nat)=>(n:Int))).getD k 0=((l.getD k 0:Nat):Int):=by
 simp only[List.getD_eq_getElem?_getD,List.getElem?_map];cases l[k]?<;>rfl
theorem tab_in(h:laidMetH Tryd.prog [("math/bits.deBruijn64tab",Rows.laid_math_bits_deBruijn64tab)] W):TabIn W:=by
 have ht:Lib.TabIs Tryd.prog W "math/bits.deBruijn64tab" .u8 (Lib.deBruijn64tab.map (fun(n:Nat)=>(n:Int))):=Lib.tabIs_of_head (rest:=[]) gTab gTabType Tryd.underlying162 U5 ce5 ce162 h;have hc:∀ k,k<64->W.cell? ⟨0,0+k*1,none⟩=some (.int .u8 ((Lib.deBruijn64tab.getD k 0:Nat):Int)):=fun k hk=>by
  have h1:=ht.cell gTab k (by rw[List.length_map];exact hk);rw[tab_get]at h1
  simpa using h1
 exact⟨Go.Clock.block_lt (hc 0 dE),hc⟩
def oneLaid:DataW Unit->Value | .lit (.int k z)=> .int k z|_=> .bool false
def someLaid:DataW Unit->List Value | .agg r=>r.map oneLaid|x=>[oneLaid x]
def laidV:DataW Unit->Array Value | .agg r=>(r.flatMap someLaid).toArray|_=>#[]
noncomputable def Ej(os:Os):World:=
 { World.holding Tryd.prog os ⟨#[],#[],[]⟩with heap:=((((World.holding Tryd.prog os ⟨#[],#[],[]⟩).heap.modify 0 fun | .cells _ t z=> .cells (laidV Rows.laid_math_bits_deBruijn64tab) t z|o=>o).modify 2 fun | .cells _ t z=> .cells (laidV Rows.laid_unicode_utf8_acceptRanges) t z|o=>o).modify 1 fun | .cells _ t z=> .cells (laidV Rows.laid_unicode_utf8_first) t z|o=>o) }
theorem lone(h:laidMetH Tryd.prog Rows.filterIsSafeRow.laid W):laidMetH Tryd.prog [("math/bits.deBruijn64tab",Rows.laid_math_bits_deBruijn64tab)] W:=by
 have h1:=h.filter (fun x=>x.1 == "math/bits.deBruijn64tab");have h2:(Rows.filterIsSafeRow.laid.filter fun x=>x.1 == "math/bits.deBruijn64tab")= [("math/bits.deBruijn64tab",Rows.laid_math_bits_deBruijn64tab)]:=by kernel_rfl
 rwa[h2]at h1
theorem gFst:Tryd.prog.globalNamed "unicode/utf8.first" =some 1:=by kernel_rfl
theorem gFstT:(Tryd.prog.globals[1]?).map (·.type)=some 169:=by kernel_rfl
theorem gAcc:Tryd.prog.globalNamed "unicode/utf8.acceptRanges" =some 2:=by kernel_rfl
theorem gAccT:(Tryd.prog.globals[2]?).map (·.type)=some 172:=by kernel_rfl
theorem cu169:Tryd.prog.cellsOf 169=256:=by kernel_rfl
theorem cu5:Tryd.prog.cellsOf 5=1:=by kernel_rfl
theorem cu171:Tryd.prog.cellsOf 171=2:=by kernel_rfl
theorem fst_eq:Rows.laid_unicode_utf8_first=Lib.firstData:=by kernel_rfl
theorem acc_eq:(Rows.laid_unicode_utf8_acceptRanges:DataW Unit)=Lib.acceptData:=by kernel_rfl
theorem u8_in(h:laidMetH Tryd.prog [("math/bits.deBruijn64tab",Rows.laid_math_bits_deBruijn64tab),("unicode/utf8.acceptRanges",Rows.laid_unicode_utf8_acceptRanges),("unicode/utf8.first",Rows.laid_unicode_utf8_first)] W):U8In W:=by
 have hm:laidMet Tryd.prog [("math/bits.deBruijn64tab",Rows.laid_math_bits_deBruijn64tab),("unicode/utf8.acceptRanges",Rows.laid_unicode_utf8_acceptRanges),("unicode/utf8.first",Rows.laid_unicode_utf8_first)] W:=h;have h3:=Lib.laidMet.reads hm (n:= "unicode/utf8.first") (d:=Rows.laid_unicode_utf8_first) (.tail _ (.tail _ (.head _)));have h4:=Lib.laidMet.reads hm (n:= "unicode/utf8.acceptRanges") (d:=Rows.laid_unicode_utf8_acceptRanges) (.tail _ (.head _));rw[fst_eq]at h3;rw[acc_eq]at h4;have c1:∀ k,k<256->W.cell? ⟨1,0+k*1,none⟩=some (.int .u8 ((Lib.firstT k:Nat):Int)):=fun c hc=>by
  obtain⟨g,t,cs,a4,p,hg,a3,a1,hd⟩:=h3;obtain rfl:=Option.some.inj (gFst.symm.trans hg);obtain rfl:=Option.some.inj (gFstT.symm.trans a3);have a2:=Lib.cells_of_tab Tryd.underlying169 U5 cu5 cu169 hd;have:=World.var?_cell hg a1 c;rw[Nat.zero_add,Nat.mul_one,this,<- Array.getElem?_toList,a2];simp[Lib.firstTab,hc]
 have c2:∀ k,k<16->W.rangeAt 2 (0+k*2) [.int .u8 ((Lib.accLo k:Nat):Int),.int .u8 ((Lib.accHi k:Nat):Int)]:=fun i hi=>by
  obtain⟨g,t,cs,a4,p,hg,a3,a1,hd⟩:=h4;obtain rfl:=Option.some.inj (gAcc.symm.trans hg);obtain rfl:=Option.some.inj (gAccT.symm.trans a3);obtain⟨fuel',d,q,hdi,he⟩:=Lib.array_elem Tryd.underlying172 hd i hi;simp only[List.getElem?_map,List.getElem?_range hi,Option.map_some,Option.some.injEq]at hdi;subst hdi;rw[cu171]at he
  have a2:=Lib.ints_of_struct Ow (fun j f hj=>by
   match j,hj with
   | 0,hj=>simp at hj;subst hj;exact⟨U5,rfl,cu5⟩
   | 1,hj=>simp at hj;subst hj;exact⟨U5,rfl,cu5⟩
   | j+2,hj=>simp at hj) (by rw[cu171];rfl) he
  have e0:=congrArg (·[0]?) a2;have e1:=congrArg (·[1]?) a2;simp only[List.getElem?_take,List.getElem?_drop]at e0 e1;intro j v hj
  match j,hj with
  | 0,hj=>
   cases hj;rw[Nat.zero_add,Nat.add_zero,World.var?_cell hg a1 (i*2),<- Array.getElem?_toList]
   simpa using e0
  | 1,hj=>
   cases hj;rw[Nat.zero_add,World.var?_cell hg a1 (i*2+1),<- Array.getElem?_toList]
   simpa using e1
  | _+2,hj=>cases hj
 exact⟨⟨Go.Clock.block_lt (c1 0 dE),c1⟩,Go.Clock.block_lt (c2 0 dE 0 _ rfl),c2⟩
namespace filterIsSafe
theorem laid_met(os:Os):laidMet Tryd.prog Rows.filterIsSafeRow.laid ((Ej os).forCall (fun _ _=>0) ⟨#[],#[.agg cH,.agg #[.int .i64 0,.int .i64 0,.slice none 0 0]],[]⟩).memory:=
 laidMet_of_run3 8 kR kR kR
theorem reads(os:Os){H:Type}(enc:TypeId×Value->H):∃ places,DataW.whole enc Tryd.prog ((Ej os).forCall (fun _ _=>0) ⟨#[],#[.agg cH,.agg #[.int .i64 0,.int .i64 0,.slice none 0 0]],[]⟩).memory Tryd.f3.params.toList Rows.filterIsSafeSpec.vars false (#[.agg cH,.agg #[.int .i64 0,.int .i64 0,.slice none 0 0]]:Array Value).toList 8=some ([.agg [.agg [.nil,.nil],.nil,.nil,.agg [.nil]],.agg [.lit (.int .i64 0),.lit (.int .i64 0),.nil]],[],places):=
 ⟨[],by kernel_rfl⟩
theorem contract(H:Type)(enc:TypeId×Value->H)(W:World)(base:Nat)(args:Array Value)(ds gs:List (DataW H))(a4:List MemPlace)
  (a1:∀(j:Nat) t v,Tryd.f3.params[j]? =some t->args[j]? =some v->Value.okWide Tryd.prog W .any base t v)
  (hW:DataW.Whole enc Tryd.prog Tryd.f3.params.toList Rows.filterIsSafeSpec.vars false W args.toList ds gs a4) (hL:laidMetH Tryd.prog Rows.filterIsSafeRow.laid W) {vts:List TypeId} (hsz:(DataW.weightsEach Tryd.prog (Tryd.f3.params.toList++vts) (ds++gs)).all (·<=reachBytes)=true):
  Calls Tryd.prog 3 args W fun e W'=>∃ v,e= .returned v/\Rows.filterIsSafeSpec.post enc Tryd.prog Tryd.f3 false true false false W args v W':=by
 have hW':=hW;have a2:=fun p hp=>hW.lt p hp
 obtain⟨p,q,hA0,hV,rfl,hfz,hnd⟩:=hW;have hA:DataW.TrodAll enc Tryd.prog W 0 (fun _=>true) true Tryd.f3.params.toList args.toList ds p:=hA0;rw[Tryd.params3]at hA a1 hsz;obtain⟨v0,vs0,d0,ds0,p0,q0,a6,rfl,rfl,h0,r0⟩:=trodAll_cons hA;obtain⟨v1,vs1,d1,ds1,p1,q1,a3,rfl,rfl,h1,r1⟩:=trodAll_cons r0;obtain⟨rfl,rfl,rfl⟩:=trodAll_nil r1;subst a3;obtain rfl:args= #[v0,v1]:=by cases args;simp_all
 obtain⟨rfl,rfl⟩:=trodVars_none hV;clear hA0;simp only[List.append_nil]at hW' a2;have k0:=h0;have u0:=a1 0 32 v0 rfl rfl;have k1:=h1;have u1:=a1 1 35 v1 rfl rfl;obtain⟨AT,AF,AR,AX,AS,ct,cf,cr,cx,cst,l,fs,rs,xs,st,rfl,hct,hcf,hcr,hTy,hF,hRu,hLx,hG⟩:=gram_open u0 (lw_arg hsz (j:=0) rfl rfl) h0;obtain⟨t,A,c,rfl,hT⟩:=tree_open u1 h1;refine(law43_any AT AF AR AX AS ct cf cr cx cst l fs rs xs st t A c W (tab_in (lone hL)) (u8_in hL) hTy hF hRu hLx hG hT).mono fun e W' ⟨he,hg⟩=>?_
 subst he;have s0:∀ sp:Nat->Bool,(∀ x∈p0,sp x.block=true)->DataW.Trod enc Tryd.prog W' 0 sp true 32 _ d0 p0:=fun sp a5=>WideElems.Trod_stays laidOut kR (aS kR) k0 (fun x hx=>hg.same (a2 x (by simp[hx]))) a5
 have s1:∀ sp:Nat->Bool,(∀ x∈p1,sp x.block=true)->DataW.Trod enc Tryd.prog W' 0 sp true 35 _ d1 p1:=fun sp a5=>WideElems.Trod_stays laidOut kR (aS kR) k1 (fun x hx=>hg.same (a2 x (by simp[hx]))) a5
 exact⟨_,rfl,post_bel (pv:=[]) hW' (fun _ _ _=>trodAll_cons_mk (shut_bool U4 _) trodAll_mk0) (fun sp a5=>trodAll_cons_mk (s0 sp (fun x hx=>a5 x (by simp[hx]))) (trodAll_cons_mk (s1 sp (fun x hx=>a5 x (by simp[hx]))) trodAll_mk0)) (fun _ _=>rfl) (by simp) hg (ok_one kR rfl (okWide_bool_mk U4 _))⟩
theorem lifted(os:Os)(a1:os.Started)(H:Type)(enc:TypeId×Value->H)(F:Stop.Interp):
  ReturnsInHanded {} Tryd.checked os 3 .any ((OpenSpec.ofChange Rows.filterIsSafeSpec).preRow enc Tryd.prog Tryd.f3 Rows.filterIsSafeRow.domain false Rows.filterIsSafeRow.laid) (((OpenSpec.ofChange Rows.filterIsSafeSpec).at F).post enc Tryd.prog Tryd.f3 false true false false):=by
 obtain⟨a3,hx⟩:=reads os enc;refine returnsInHanded_of_row (C:=Tryd.checked) (s:=OpenSpec.ofChange Rows.filterIsSafeSpec) own a1 kR Tryd.func3
  (witness_row_at (enc:=enc) (C:=Tryd.checked) false (Ej os) #[.agg cH,.agg #[.int .i64 0,.int .i64 0,.slice none 0 0]] rfl kR kR kR
   (OpenSpec.preRow_of_cond 8 hx kR (fun k hk=>by cases hk) kR (laid_met os))) ?_
 intro W base args ds gs a2 a4 hW _ _ hsz hL _ _;exact contract H enc W base args ds gs a2 a4 hW hL hsz
theorem said:Rows.FilterIsSafeSaid:=
 OpenClaim.holds_of_cond 3 Tryd.f3 rfl rfl rfl rfl rfl rfl rfl ⟨rfl,rfl,rfl,rfl,rfl⟩ rfl rfl rfl rfl rfl kR Tryd.func3 kR
  (aS kR) (by unfold Func.isWrapper;first|(rw[if_pos (by decide +kernel)];kernel_rfl)|(rw[if_neg (by decide +kernel)];exact⟨rfl,rfl⟩))
  (fun os a1 H enc _ F=>by rw[OpenClaim.pre_eq_preRow];exact lifted os a1 H enc F)
theorem plain (f:FuncId) (fn:Func) (hf:Tryd.pinned.checked.prog.funcNamed "glosswright/glosswrightlaw4.FilterIsSafe" =some f) (hfn:Tryd.pinned.checked.prog.funcs[f]? =some fn):
  false=Tryd.pinned.checked.prog.looks []/\∀(j:Nat) t,fn.params[j]? =some t->Tryd.pinned.checked.prog.wantsStandIn t=false:=by
 obtain rfl:f=3:=Option.some.inj ((show Tryd.prog.funcNamed "glosswright/glosswrightlaw4.FilterIsSafe" =some 3 by kernel_rfl).symm.trans hf) |>.symm;obtain rfl:fn=Tryd.f3:=(Option.some.inj (Tryd.func3.symm.trans hfn)).symm;refine⟨by kernel_rfl,fun j t ht=>?_⟩;rw[Tryd.params3]at ht;have hm:t∈ #[32,35]:=Array.mem_of_getElem? ht;simp only[List.mem_toArray,List.mem_cons,List.not_mem_nil,or_false]at hm;rcases hm with rfl|rfl
 ·exact(show Tryd.prog.wantsStandIn 32=false by kernel_rfl)
 ·exact(show Tryd.prog.wantsStandIn 35=false by kernel_rfl)
theorem card:Rows.FilterIsSafeCardSaid:=
 Claim7.holds_tied_plain_at .later [] _ _ _ _ said (fun _ h=>by cases h) kR (fun _ h=>by cases h) filterIsSafe_row_tie rfl ⟨rfl,rfl⟩ kR rfl plain kR
end filterIsSafe
end Go.Proofs.YtmfiholmfieieaaDoor
