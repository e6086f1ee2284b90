/- Proved: for every world and every input, the law GrammarCombineMatchesSpec of glosswrightlaw4 returns true and leaves its arguments as they were; the condition is the statement's own, that the listed tables hold what their text lays. -/
import Derived.Test.YtgcgnkmmbecfmaaGreatDoorU
import Derived.Test.YtgcgnkmmbecfmaaGreatDoorCards
import Derived.Test.YtgcgnkmmbecfmaaGreatDoorTie
import Derived.Test.YtgcgnkmmbecfmaaGreatDoorZst
import Derived.WalkKit
import Derived.LaidSub
import Derived.Deep.DeepLaidRun
import Derived.SizedLaws
import Derived.Lib.LaidU8
import Derived.ProofKit
import Derived.Deep.DeepHandedRow
import Derived.Lib.LaidTab
import Derived.Test.YtgcgnkmmbecfmaaGreatDoorTOpen
namespace Go.Proofs.YtgcgnkmmbecfmaaGreatDoor
open Go.ChangeShapes Go.WideShapes Go.ChangeAt Go.RowKit Go.Joins
open Go.Proofs.Tryz
set_option maxRecDepth 100000
variable {W:World}
theorem ce3:prog.cellsOf 3=1:=by kernel_rfl
theorem ce9:prog.cellsOf 9=1:=by kernel_rfl
theorem ce22:prog.cellsOf 22=1:=by kernel_rfl
theorem ce23:prog.cellsOf 23=1:=by kernel_rfl
theorem ce25:prog.cellsOf 25=2:=by kernel_rfl
theorem ce26:prog.cellsOf 26=1:=by kernel_rfl
theorem ce27:prog.cellsOf 27=1:=by kernel_rfl
theorem ce28:prog.cellsOf 28=1:=by kernel_rfl
theorem ce30:prog.cellsOf 30=1:=by kernel_rfl
theorem ce32:prog.cellsOf 32=5:=by kernel_rfl
theorem ce39:prog.cellsOf 39=1:=by kernel_rfl
theorem ce41:prog.cellsOf 41=2:=by kernel_rfl
theorem ce42:prog.cellsOf 42=1:=by kernel_rfl
theorem ce44:prog.cellsOf 44=6:=by kernel_rfl
theorem ce46:prog.cellsOf 46=9:=by kernel_rfl
theorem ce50:prog.cellsOf 50=10:=by kernel_rfl
theorem ce59:prog.cellsOf 59=1:=by kernel_rfl
theorem ce61:prog.cellsOf 61=3:=by kernel_rfl
theorem ce78:prog.cellsOf 78=1:=by kernel_rfl
theorem ce80:prog.cellsOf 80=2:=by kernel_rfl
theorem ce83:prog.cellsOf 83=2:=by kernel_rfl
theorem ce94:prog.cellsOf 94=2:=by kernel_rfl
theorem smT_:∃ f0 f1,SmT prog 41 39 9 f0 f1:=⟨_,_,U41,ce41,rfl,rfl,rfl,rfl,U39,U9,ce9,ce39⟩
theorem tmT_:∃ f0 f1 g0 g1 g2 g3 g4,TmT prog 44 42 3 9 41 39 f0 f1 g0 g1 g2 g3 g4:=by
 obtain⟨_,_,s⟩:=smT_;exact⟨_,_,_,_,_,_,_,s,U44,ce44,rfl,rfl,rfl,rfl,rfl,rfl,rfl,rfl,rfl,rfl,U42,U3,ce3,ce42⟩
theorem grT_:∃ q0 f0 f1 g0 g1,GrfT prog 30 28 80 3 78 83 q0 f0 f1 g0 g1:=⟨_,_,_,_,_,U30,ce30,rfl,rfl,ce28,U28,U80,ce80,rfl,rfl,rfl,rfl,U78,U83,ce83,rfl,rfl,rfl,rfl,ce78,U3,ce3⟩
theorem grs_arg{H:Type}{enc:TypeId×Value->H}{base:Nat}{a1:Nat->Bool}{a2:Bool}{r:Reach}{b0:Nat}{v:Value}{d:DataW H}{p:List MemPlace}(hv:Value.okWide prog W r b0 33 v)(h:DataW.Trod enc prog W base a1 a2 33 v d p):
  ∃ LA gs lc,v= .slice LA (List.length gs) lc/\gs.length<=lc/\GrsIn W LA gs:=by
 obtain⟨pa,pl,pc,rfl⟩:=okWide_slice U33 hv;obtain⟨fuel,hf⟩:=h;obtain⟨LA,gs,lc,e,h1,h2⟩:=grs_open U33 U30 ce30 rfl rfl ce28 U28 U80 ce80 rfl rfl rfl rfl U78 U83 ce83 rfl rfl rfl rfl ce78 U3 ce3 hf;exact⟨LA,gs,lc,e,h1,h2⟩
theorem gram_open{H:Type}{enc:TypeId×Value->H}{base:Nat}{a1:Nat->Bool}{a2:Bool}{r:Reach}{b0:Nat}{v:Value}{d:DataW H}{p:List MemPlace}(hv:Value.okWide prog W r b0 32 v)(hw:Lw prog 32 d)(h:DataW.Trod enc prog W base a1 a2 32 v d p):
  ∃ AT AF AR AX AS ct cf cr cx a5 l fs rs xs st,v= .agg #[.slice AT (List.length l) ct,.slice AF (List.length fs) cf,.slice AR (List.length rs) cr,.slice AX (List.length xs) cx,.slice AS (List.length st) a5]/\l.length<=ct/\fs.length<=cf/\rs.length<=cr/\TypesIn W AT l/\FeatsIn W AF fs/\RulesIn W AR rs/\LexesIn W AX xs/\NodesIn W AS st:=by
 obtain⟨_,_,_,_,_,_,_,tmT⟩:=tmT_;obtain⟨_,_,_,_,_,a4⟩:=grT_;obtain⟨cs,rfl,hsz⟩:=okWide_struct U32 hv;obtain⟨fuel,hf⟩:=h;obtain⟨n,_,hl,a3⟩:=flds U32 hf;rw[ce32]at hsz;obtain⟨L⟩:=cs
 match L,hsz with
 | [v0,v1,v2,v3,v4],_=>
  obtain⟨y0,p0,_⟩:=a3 0 _ rfl;obtain⟨y1,p1,_⟩:=a3 1 _ rfl;obtain⟨y2,p2,w2⟩:=a3 2 _ rfl;obtain⟨y3,p3,_⟩:=a3 3 _ rfl;have q0:DataW.trod enc prog W base a1 a2 n 25 [v0,v1]=some y0:=by simpa[Value.cells,ce25]using p0
  have q1:DataW.trod enc prog W base a1 a2 n 26 [v2]=some y1:=by simpa[Value.cells,ce26]using p1
  have q2:DataW.trod enc prog W base a1 a2 n 27 [v3]=some y2:=by simpa[Value.cells,ce27]using p2
  have q3:DataW.trod enc prog W base a1 a2 n 30 [v4]=some y3:=by simpa[Value.cells,ce30]using p3
  obtain⟨m,_,_,hfh⟩:=flds U25 q0;obtain⟨z0,r0,_⟩:=hfh 0 _ rfl;obtain⟨z1,r1,_⟩:=hfh 1 _ rfl;have s0:DataW.trod enc prog W base a1 a2 m 22 [v0]=some z0:=by simpa[ce22]using r0
  have s1:DataW.trod enc prog W base a1 a2 m 23 [v1]=some z1:=by simpa[ce23]using r1
  obtain⟨A,l,c,rfl,hl1,hT⟩:=types_open U22 U94 ce94 rfl rfl rfl rfl U9 ce9 ce59 U59 U3 ce3 s0;obtain⟨B,fs,e,rfl,hl2,hF⟩:=feats_open U23 U61 ce61 rfl rfl rfl rfl rfl rfl U9 ce9 U3 ce3 s1;obtain⟨AR,rs,cr,rfl,hl3,hR⟩:=rules_open tmT a4 U26 U50 ce50 rfl rfl rfl rfl rfl rfl rfl rfl rfl rfl q1;obtain⟨AX,xs,cx,rfl,hl4,hX⟩:=lexes_open tmT a4 U27 U46 ce46 rfl rfl rfl rfl rfl rfl rfl rfl (w2 hw) q2;obtain⟨AS,st,a5,rfl,hG⟩:=Wz a4 q3;exact⟨A,B,AR,AX,AS,c,e,cr,cx,a5,l,fs,rs,xs,st,rfl,hl1,hl2,hl3,hT,hF,hR,hX,hG⟩
theorem W5:laidOutB prog=true:=by kernel_rfl
theorem own:ownKnob prog.godebug=none:=by kernel_rfl
theorem gTab:prog.globalNamed "math/bits.deBruijn64tab" =some 0:=by kernel_rfl
theorem gTabType:(prog.globals[0]?).map (·.type)=some 144:=by kernel_rfl
theorem ce144:prog.cellsOf 144=64:=by kernel_rfl
theorem ce5:prog.cellsOf 5=1:=by kernel_rfl
theorem tab_get(l:List Nat)(k:Nat):(l.map (fun(n:Nat)=>(n:Int))).getD k 0=((l.getD k 0:Nat):Int):=by
 simp only[List.getD_eq_getElem?_getD,List.getElem?_map];cases l[k]?<;>rfl
theorem tab_in(h:laidMetH prog [("math/bits.deBruijn64tab",Rows.laid_math_bits_deBruijn64tab)] W):TabIn W:=by
 have ht:Lib.TabIs prog W "math/bits.deBruijn64tab" .u8 (Lib.deBruijn64tab.map (fun(n:Nat)=>(n:Int))):=Lib.tabIs_of_head (rest:=[]) gTab gTabType underlying144 U5 ce5 ce144 h;have hc:∀ k,k<64->W.cell? ⟨0,0+k*1,none⟩=some (.int .u8 ((Lib.deBruijn64tab.getD k 0:Nat):Int)):=fun k hk=>by
  have h1:=ht.cell gTab k (by rw[List.length_map];exact hk);rw[tab_get]at h1
  simpa using h1
 exact⟨Go.Clock.block_lt (hc 0 dE),hc⟩
def oneLaid:DataW Unit->Value | .lit (.int k z)=> .int k z|_=> .bool false
def someLaid:DataW Unit->List Value | .agg r=>r.map oneLaid|x=>[oneLaid x]
def laidV:DataW Unit->Array Value | .agg r=>(r.flatMap someLaid).toArray|_=>#[]
noncomputable def OZ(os:Os):World:=
 { World.holding prog os ⟨#[],#[],[]⟩with heap:=((((World.holding prog os ⟨#[],#[],[]⟩).heap.modify 0 fun | .cells _ t z=> .cells (laidV Rows.laid_math_bits_deBruijn64tab) t z|o=>o).modify 2 fun | .cells _ t z=> .cells (laidV Rows.laid_unicode_utf8_acceptRanges) t z|o=>o).modify 1 fun | .cells _ t z=> .cells (laidV Rows.laid_unicode_utf8_first) t z|o=>o) }
theorem lone(h:laidMetH prog Rows.grammarCombineMatchesSpecRow.laid W):laidMetH prog [("math/bits.deBruijn64tab",Rows.laid_math_bits_deBruijn64tab)] W:=by
 have h1:=h.filter (fun x=>x.1 == "math/bits.deBruijn64tab");have h2:(Rows.grammarCombineMatchesSpecRow.laid.filter fun x=>x.1 == "math/bits.deBruijn64tab")= [("math/bits.deBruijn64tab",Rows.laid_math_bits_deBruijn64tab)]:=by kernel_rfl
 rwa[h2]at h1
theorem gFst:prog.globalNamed "unicode/utf8.first" =some 1:=by kernel_rfl
theorem gFstT:(prog.globals[1]?).map (·.type)=some 149:=by kernel_rfl
theorem gAcc:prog.globalNamed "unicode/utf8.acceptRanges" =some 2:=by kernel_rfl
theorem gAccT:(prog.globals[2]?).map (·.type)=some 152:=by kernel_rfl
theorem cu149:prog.cellsOf 149=256:=by kernel_rfl
theorem cu5:prog.cellsOf 5=1:=by kernel_rfl
theorem cu151:prog.cellsOf 151=2:=by kernel_rfl
theorem fst_eq:Rows.laid_unicode_utf8_first=Lib.firstData:=by kernel_rfl
theorem acc_eq:(Rows.laid_unicode_utf8_acceptRanges:DataW Unit)=Lib.acceptData:=by kernel_rfl
theorem u8_in(h:laidMetH prog [("math/bits.deBruijn64tab",Rows.laid_math_bits_deBruijn64tab),("unicode/utf8.acceptRanges",Rows.laid_unicode_utf8_acceptRanges),("unicode/utf8.first",Rows.laid_unicode_utf8_first)] W):U8In W:=by
 have hm:laidMet prog [("math/bits.deBruijn64tab",Rows.laid_math_bits_deBruijn64tab),("unicode/utf8.acceptRanges",Rows.laid_unicode_utf8_acceptRanges),("unicode/utf8.first",Rows.laid_unicode_utf8_first)] W:=h;have h3:=Lib.laidMet.reads hm (n:= "unicode/utf8.first") (d:=Rows.laid_unicode_utf8_first) (.tail _ (.tail _ (.head _)));have h4:=Lib.laidMet.reads hm (n:= "unicode/utf8.acceptRanges") (d:=Rows.laid_unicode_utf8_acceptRanges) (.tail _ (.head _));rw[fst_eq]at h3;rw[acc_eq]at h4;have c1:∀ k,k<256->W.cell? ⟨1,0+k*1,none⟩=some (.int .u8 ((Lib.firstT k:Nat):Int)):=fun c hc=>by
  obtain⟨g,t,cs,a4,p,hg,a3,a1,hd⟩:=h3;obtain rfl:=Option.some.inj (gFst.symm.trans hg);obtain rfl:=Option.some.inj (gFstT.symm.trans a3);have a2:=Lib.cells_of_tab underlying149 U5 cu5 cu149 hd;have:=World.var?_cell hg a1 c;rw[Nat.zero_add,Nat.mul_one,this,<- Array.getElem?_toList,a2];simp[Lib.firstTab,hc]
 have c2:∀ k,k<16->W.rangeAt 2 (0+k*2) [.int .u8 ((Lib.accLo k:Nat):Int),.int .u8 ((Lib.accHi k:Nat):Int)]:=fun i hi=>by
  obtain⟨g,t,cs,a4,p,hg,a3,a1,hd⟩:=h4;obtain rfl:=Option.some.inj (gAcc.symm.trans hg);obtain rfl:=Option.some.inj (gAccT.symm.trans a3);obtain⟨fuel',d,q,hdi,he⟩:=Lib.array_elem underlying152 hd i hi;simp only[List.getElem?_map,List.getElem?_range hi,Option.map_some,Option.some.injEq]at hdi;subst hdi;rw[cu151]at he
  have a2:=Lib.ints_of_struct D2 (fun j f hj=>by
   match j,hj with
   | 0,hj=>simp at hj;subst hj;exact⟨U5,rfl,cu5⟩
   | 1,hj=>simp at hj;subst hj;exact⟨U5,rfl,cu5⟩
   | j+2,hj=>simp at hj) (by rw[cu151];rfl) he
  have e0:=congrArg (·[0]?) a2;have e1:=congrArg (·[1]?) a2;simp only[List.getElem?_take,List.getElem?_drop]at e0 e1;intro j v hj
  match j,hj with
  | 0,hj=>
   cases hj;rw[Nat.zero_add,Nat.add_zero,World.var?_cell hg a1 (i*2),<- Array.getElem?_toList]
   simpa using e0
  | 1,hj=>
   cases hj;rw[Nat.zero_add,World.var?_cell hg a1 (i*2+1),<- Array.getElem?_toList]
   simpa using e1
  | _+2,hj=>cases hj
 exact⟨⟨Go.Clock.block_lt (c1 0 dE),c1⟩,Go.Clock.block_lt (c2 0 dE 0 _ rfl),c2⟩
namespace grammarCombineMatchesSpec
theorem laid_met(os:Os):laidMet prog Rows.grammarCombineMatchesSpecRow.laid ((OZ os).forCall (fun _ _=>0) ⟨#[],#[.agg cG,.int .i64 0,.slice none 0 0],[]⟩).memory:=
 laidMet_of_run3 8 kR kR kR
theorem reads(os:Os){H:Type}(enc:TypeId×Value->H):∃ places,DataW.whole enc prog ((OZ os).forCall (fun _ _=>0) ⟨#[],#[.agg cG,.int .i64 0,.slice none 0 0],[]⟩).memory Tryz.f3.params.toList Rows.grammarCombineMatchesSpecSpec.vars false (#[.agg cG,.int .i64 0,.slice none 0 0]:Array Value).toList 8=some ([.agg [.agg [.nil,.nil],.nil,.nil,.agg [.nil]],.lit (.int .i64 0),.nil],[],places):=
 ⟨[],by kernel_rfl⟩
theorem contract(H:Type)(enc:TypeId×Value->H)(W:World)(base:Nat)(args:Array Value)(ds gs:List (DataW H))(a9:List MemPlace)
  (a1:∀(j:Nat) t v,Tryz.f3.params[j]? =some t->args[j]? =some v->Value.okWide prog W .any base t v)
  (hW:DataW.Whole enc prog Tryz.f3.params.toList Rows.grammarCombineMatchesSpecSpec.vars false W args.toList ds gs a9) (hL:laidMetH prog Rows.grammarCombineMatchesSpecRow.laid W) {vts:List TypeId} (hsz:(DataW.weightsEach prog (Tryz.f3.params.toList++vts) (ds++gs)).all (·<=reachBytes)=true):
  Calls prog 3 args W fun e W'=>∃ v,e= .returned v/\Rows.grammarCombineMatchesSpecSpec.post enc prog Tryz.f3 false true false false W args v W':=by
 have hW':=hW;have a3:=fun p hp=>hW.lt p hp
 obtain⟨p,q,hA0,hV,rfl,hfz,hnd⟩:=hW;have hA:DataW.TrodAll enc prog W 0 (fun _=>true) true Tryz.f3.params.toList args.toList ds p:=hA0;rw[Tryz.params3]at hA a1 hsz;obtain⟨v0,vs0,d0,ds0,p0,q0,ab,rfl,rfl,h0,r0⟩:=trodAll_cons hA;obtain⟨v1,vs1,d1,ds1,p1,q1,a5,rfl,rfl,h1,r1⟩:=trodAll_cons r0;obtain⟨v2,vs2,d2,ds2,p2,q2,a4,rfl,rfl,h2,r2⟩:=trodAll_cons r1;obtain⟨rfl,rfl,rfl⟩:=trodAll_nil r2;subst a4;subst a5;obtain rfl:args= #[v0,v1,v2]:=by cases args;simp_all
 obtain⟨rfl,rfl⟩:=trodVars_none hV;clear hA0;simp only[List.append_nil]at hW' a3;have k0:=h0;have u0:=a1 0 32 v0 rfl rfl;have k1:=h1;have u1:=a1 1 3 v1 rfl rfl;have k2:=h2;have u2:=a1 2 33 v2 rfl rfl;obtain⟨AT,AF,AR,AX,AS,ct,cf,cr,cx,cst,l,fs,rs,xs,st,rfl,hct,hcf,hcr,hTy,hF,hRu,hLx,hG⟩:=gram_open u0 (lw_arg hsz (j:=0) rfl rfl) h0;obtain⟨ri,rfl,_,_,hw1⟩:=open_int U3 u1 h1;obtain⟨KA,ks,kc,rfl,hlc,hK⟩:=grs_arg u2 h2;refine(law42_any AT AF AR AX AS ct cf cr cx cst l fs rs xs st ri W (tab_in (lone hL)) (u8_in hL) hct hcf hcr hTy hF hRu hLx hG hK).mono fun e W' ⟨he,hg⟩=>?_
 subst he;have s0:∀ sp:Nat->Bool,(∀ x∈p0,sp x.block=true)->DataW.Trod enc prog W' 0 sp true 32 _ d0 p0:=fun sp a2=>WideElems.Trod_stays W5 kR (aS kR) k0 (fun x hx=>hg.same (a3 x (by simp[hx]))) a2
 have s1:∀ sp:Nat->Bool,(∀ x∈p1,sp x.block=true)->DataW.Trod enc prog W' 0 sp true 3 _ d1 p1:=fun sp a2=>WideElems.Trod_stays W5 kR (aS kR) k1 (fun x hx=>hg.same (a3 x (by simp[hx]))) a2
 have s2:∀ sp:Nat->Bool,(∀ x∈p2,sp x.block=true)->DataW.Trod enc prog W' 0 sp true 33 _ d2 p2:=fun sp a2=>WideElems.Trod_stays W5 kR (aS kR) k2 (fun x hx=>hg.same (a3 x (by simp[hx]))) a2
 exact⟨_,rfl,post_bel (pv:=[]) hW' (fun _ _ _=>trodAll_cons_mk (shut_bool U4 _) trodAll_mk0) (fun sp a2=>trodAll_cons_mk (s0 sp (fun x hx=>a2 x (by simp[hx]))) (trodAll_cons_mk (s1 sp (fun x hx=>a2 x (by simp[hx]))) (trodAll_cons_mk (s2 sp (fun x hx=>a2 x (by simp[hx]))) trodAll_mk0))) (fun _ _=>rfl) (by simp) hg (ok_one kR rfl (okWide_bool_mk U4 _))⟩
theorem lifted(os:Os)(a1:os.Started)(H:Type)(enc:TypeId×Value->H)(F:Stop.Interp):
  ReturnsInHanded {} Tryz.checked os 3 .any ((OpenSpec.ofChange Rows.grammarCombineMatchesSpecSpec).preRow enc prog Tryz.f3 Rows.grammarCombineMatchesSpecRow.domain false Rows.grammarCombineMatchesSpecRow.laid) (((OpenSpec.ofChange Rows.grammarCombineMatchesSpecSpec).at F).post enc prog Tryz.f3 false true false false):=by
 obtain⟨a3,hx⟩:=reads os enc;refine returnsInHanded_of_row (C:=Tryz.checked) (s:=OpenSpec.ofChange Rows.grammarCombineMatchesSpecSpec) own a1 kR func3
  (witness_row_at (enc:=enc) (C:=Tryz.checked) false (OZ os) #[.agg cG,.int .i64 0,.slice none 0 0] rfl kR kR kR
   (OpenSpec.preRow_of_cond 8 hx kR (fun k hk=>by cases hk) kR (laid_met os))) ?_
 intro W base args ds gs a2 a4 hW _ _ hsz hL _ _;exact contract H enc W base args ds gs a2 a4 hW hL hsz
theorem said:Rows.GrammarCombineMatchesSpecSaid:=
 OpenClaim.holds_of_cond 3 Tryz.f3 rfl rfl rfl rfl rfl rfl rfl ⟨rfl,rfl,rfl,rfl,rfl⟩ rfl rfl rfl rfl rfl kR func3 kR
  (aS kR) (by unfold Func.isWrapper;first|(rw[if_pos (by decide +kernel)];kernel_rfl)|(rw[if_neg (by decide +kernel)];exact⟨rfl,rfl⟩))
  (fun os a1 H enc _ F=>by rw[OpenClaim.pre_eq_preRow];exact lifted os a1 H enc F)
theorem plain (f:FuncId) (fn:Func) (hf:Tryz.pinned.checked.prog.funcNamed "glosswright/glosswrightlaw4.GrammarCombineMatchesSpec" =some f) (hfn:Tryz.pinned.checked.prog.funcs[f]? =some fn):
  false=Tryz.pinned.checked.prog.looks []/\∀(j:Nat) t,fn.params[j]? =some t->Tryz.pinned.checked.prog.wantsStandIn t=false:=by
 obtain rfl:f=3:=Option.some.inj ((show prog.funcNamed "glosswright/glosswrightlaw4.GrammarCombineMatchesSpec" =some 3 by kernel_rfl).symm.trans hf) |>.symm;obtain rfl:fn=Tryz.f3:=(Option.some.inj (func3.symm.trans hfn)).symm;refine⟨by kernel_rfl,fun j t ht=>?_⟩;rw[Tryz.params3]at ht;have hm:t∈ #[32,3,33]:=Array.mem_of_getElem? ht;simp only[List.mem_toArray,List.mem_cons,List.not_mem_nil,or_false]at hm;rcases hm with rfl|rfl|rfl
 ·exact(show prog.wantsStandIn 32=false by kernel_rfl)
 ·exact(show prog.wantsStandIn 3=false by kernel_rfl)
 ·exact(show prog.wantsStandIn 33=false by kernel_rfl)
theorem card:Rows.GrammarCombineMatchesSpecCardSaid:=
 Claim7.holds_tied_plain_at .later [] _ _ _ _ said (fun _ h=>by cases h) kR (fun _ h=>by cases h) grammarCombineMatchesSpec_row_tie rfl ⟨rfl,rfl⟩ kR rfl plain kR
end grammarCombineMatchesSpec
end Go.Proofs.YtgcgnkmmbecfmaaGreatDoor
