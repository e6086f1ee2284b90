/- Proved: for every world and every input, the law OptionalExpandMatchesSpec of glosswrightlaw4 returns true and leaves its arguments as they were; the condition is the statement's own, that the listed tables hold what their text lays. -/
import Derived.Test.YtbcpgfnfiekbiaaGreatDoorU
import Derived.Test.YtbcpgfnfiekbiaaGreatDoorCards
import Derived.Test.YtbcpgfnfiekbiaaGreatDoorTie
import Derived.Test.YtbcpgfnfiekbiaaGreatDoorOpen
import Derived.WalkKit
import Derived.LaidSub
import Derived.Deep.DeepLaidRun
import Derived.ProofKit
import Derived.Deep.DeepHandedRow
import Derived.Lib.LaidTab
import Derived.Test.YtbcpgfnfiekbiaaGreatDoorOOpen
namespace Go.Proofs.YtbcpgfnfiekbiaaGreatDoor
open Go.ChangeShapes Go.WideShapes Go.ChangeAt Go.RowKit Go.Joins
theorem ce3:Tryz.prog.cellsOf 3=1:=by kernel_rfl
theorem ce9:Tryz.prog.cellsOf 9=1:=by kernel_rfl
theorem ce22:Tryz.prog.cellsOf 22=1:=by kernel_rfl
theorem ce23:Tryz.prog.cellsOf 23=1:=by kernel_rfl
theorem ce25:Tryz.prog.cellsOf 25=2:=by kernel_rfl
theorem ce66:Tryz.prog.cellsOf 66=1:=by kernel_rfl
theorem ce68:Tryz.prog.cellsOf 68=3:=by kernel_rfl
theorem ce110:Tryz.prog.cellsOf 110=2:=by kernel_rfl
set_option maxRecDepth 100000 in
theorem hier_open {H:Type} {enc:TypeId×Value→H} {W:World} {base:Nat} {spare:Nat→Bool} {held:Bool} {r:Reach} {b0:Nat} {v:Value} {d:DataW H} {p:List MemPlace} (hv:Value.okWide Tryz.prog W r b0 25 v) (h:DataW.Trod enc Tryz.prog W base spare held 25 v d p):
    ∃ A B c e l fs,v= .agg #[.slice A (List.length l) c,.slice B (List.length fs) e]∧l.length≤c∧fs.length≤e∧TypesIn W A l∧FeatsIn W B fs:=by
  obtain⟨v0,v1,y0,y1,n,rfl,_,_,h0,h1⟩:=open_agg2 U25 kR ce25 hv h;obtain⟨A,l,c,rfl,hl,hT⟩:=H1 U22 T1 ce110 rfl rfl rfl rfl U9 ce9 ce66 U66 U3 ce3 h0;obtain⟨B,fs,e,rfl,hf,hF⟩:=LW U23 U68 ce68 rfl rfl rfl rfl rfl rfl U9 ce9 U3 ce3 h1;exact⟨A,B,c,e,l,fs,rfl,hl,hf,hT,hF⟩
theorem ce28:Tryz.prog.cellsOf 28=1:=by kernel_rfl
theorem ce30:Tryz.prog.cellsOf 30=1:=by kernel_rfl
theorem ce39:Tryz.prog.cellsOf 39=1:=by kernel_rfl
theorem ce41:Tryz.prog.cellsOf 41=2:=by kernel_rfl
theorem ce42:Tryz.prog.cellsOf 42=1:=by kernel_rfl
theorem ce44:Tryz.prog.cellsOf 44=6:=by kernel_rfl
theorem ce50:Tryz.prog.cellsOf 50=1:=by kernel_rfl
theorem ce54:Tryz.prog.cellsOf 54=10:=by kernel_rfl
theorem ce55:Tryz.prog.cellsOf 55=1:=by kernel_rfl
theorem ce57:Tryz.prog.cellsOf 57=11:=by kernel_rfl
theorem ce99:Tryz.prog.cellsOf 99=8:=by kernel_rfl
theorem ce111:Tryz.prog.cellsOf 111=1:=by kernel_rfl
theorem ce113:Tryz.prog.cellsOf 113=2:=by kernel_rfl
theorem ce115:Tryz.prog.cellsOf 115=2:=by kernel_rfl
set_option maxRecDepth 100000 in
theorem smT_:∃ f0 f1,SmT Tryz.prog 41 39 9 f0 f1:=⟨_,_,U41,ce41,rfl,rfl,rfl,rfl,U39,U9,ce9,ce39⟩
set_option maxRecDepth 100000 in
theorem tmT_:∃ f0 f1 g0 g1 g2 g3 g4,TmT Tryz.prog 44 42 3 9 41 39 f0 f1 g0 g1 g2 g3 g4:=by
  obtain⟨_,_,s⟩:=smT_;exact⟨_,_,_,_,_,_,_,s,U44,ce44,rfl,rfl,rfl,rfl,rfl,rfl,rfl,rfl,rfl,rfl,U42,U3,ce3,ce42⟩
set_option maxRecDepth 100000 in
theorem grT_:∃ q0 f0 f1 g0 g1,GrfT Tryz.prog 30 28 113 3 111 115 q0 f0 f1 g0 g1:=⟨_,_,_,_,_,U30,ce30,rfl,rfl,ce28,U28,I9,ce113,rfl,rfl,rfl,rfl,u7,Zk,ce115,rfl,rfl,rfl,rfl,ce111,U3,ce3⟩
set_option maxRecDepth 100000 in
theorem ors_arg {H:Type} {enc:TypeId×Value→H} {W:World} {base:Nat} {spare:Nat→Bool} {held:Bool} {r:Reach} {b0:Nat} {v:Value} {d:DataW H} {p:List MemPlace} (hv:Value.okWide Tryz.prog W r b0 50 v) (h:DataW.Trod enc Tryz.prog W base spare held 50 v d p):
    ∃ A rs c,v= .slice A (List.length rs) c∧OrsIn W A rs:=by
  obtain⟨_,_,_,_,_,_,_,tmT⟩:=tmT_;obtain⟨_,_,_,_,_,grT⟩:=grT_;obtain⟨pa,pl,pc,rfl⟩:=okWide_slice U50 hv;obtain⟨fuel,hf⟩:=h;exact ors_open tmT grT U50 U57 ce57 rfl rfl rfl rfl U54 ce54 rfl rfl rfl rfl rfl rfl rfl rfl rfl rfl U55 ce55 U99 ce99 rfl rfl rfl rfl rfl rfl hf
theorem laidOut:laidOutB Tryz.prog=true:=by kernel_rfl
theorem own:ownKnob Tryz.prog.godebug=none:=by kernel_rfl
theorem gTab:Tryz.prog.globalNamed "math/bits.deBruijn64tab" =some 2:=by kernel_rfl
theorem gTabType:(Tryz.prog.globals[2]?).map (·.type)=some 197:=by kernel_rfl
theorem ce197:Tryz.prog.cellsOf 197=64:=by kernel_rfl
theorem ce5:Tryz.prog.cellsOf 5=1:=by kernel_rfl
theorem tab_get (l:List Nat) (k:Nat):(l.map (fun(n:Nat)=>(n:Int))).getD k 0=((l.getD k 0:Nat):Int):=by
  simp only [List.getD_eq_getElem?_getD,List.getElem?_map];cases l[k]? <;> rfl
theorem tab_in {W:World} (h:laidMetH Tryz.prog [("math/bits.deBruijn64tab",Rows.laid_math_bits_deBruijn64tab)] W):TabIn W:=by
  have ht:Lib.TabIs Tryz.prog W "math/bits.deBruijn64tab" .u8 (Lib.deBruijn64tab.map (fun(n:Nat)=>(n:Int))):=Lib.tabIs_of_head (rest:=[]) gTab gTabType Tryz.underlying197 U5 ce5 ce197 h;have hc:∀ k,k < 64→W.cell? ⟨2,0 + k * 1,none⟩=some (.int .u8 ((Lib.deBruijn64tab.getD k 0:Nat):Int)):=fun k hk=>by
    have h1:=ht.cell gTab k (by rw [List.length_map];exact hk);rw [tab_get] at h1
    simpa using h1
  exact⟨Go.Clock.block_lt (hc 0 dE),hc⟩
def oneLaid:DataW Unit→Value | .lit (.int k z)=> .int k z | _=> .bool false
def someLaid:DataW Unit→List Value | .agg r=>r.map oneLaid | x=>[oneLaid x]
def laidV:DataW Unit→Array Value | .agg r=>(r.flatMap someLaid).toArray | _=>#[]
noncomputable def M2 (os:Os):World:=
  { World.holding Tryz.prog os ⟨#[],#[],[]⟩ with heap:=((((World.holding Tryz.prog os ⟨#[],#[],[]⟩).heap.modify 5 fun | .cells _ t z=> .cells (laidV Rows.laid_math_bits_deBruijn32tab) t z | o=>o).modify 2 fun | .cells _ t z=> .cells (laidV Rows.laid_math_bits_deBruijn64tab) t z | o=>o).modify 3 fun | .cells _ t z=> .cells (laidV Rows.laid_internal_strconv_uint64pow10) t z | o=>o) }
theorem lone {W:World} (h:laidMetH Tryz.prog Rows.optionalExpandMatchesSpecRow.laid W):laidMetH Tryz.prog [("math/bits.deBruijn64tab",Rows.laid_math_bits_deBruijn64tab)] W:=by
  have h1:=h.filter (fun x=>x.1 == "math/bits.deBruijn64tab");have h2:(Rows.optionalExpandMatchesSpecRow.laid.filter fun x=>x.1 == "math/bits.deBruijn64tab")= [("math/bits.deBruijn64tab",Rows.laid_math_bits_deBruijn64tab)]:=by kernel_rfl
  rwa [h2] at h1
namespace optionalExpandMatchesSpec
theorem laid_met (os:Os):laidMet Tryz.prog Rows.optionalExpandMatchesSpecRow.laid ((M2 os).forCall (fun _ _=>0) ⟨#[],#[.agg #[.slice none 0 0,.slice none 0 0],.slice none 0 0],[]⟩).memory:=
  laidMet_of_run3 8 kR kR kR
theorem reads (os:Os) {H:Type} (enc:TypeId×Value→H):∃ places,DataW.whole enc Tryz.prog ((M2 os).forCall (fun _ _=>0) ⟨#[],#[.agg #[.slice none 0 0,.slice none 0 0],.slice none 0 0],[]⟩).memory Tryz.f4.params.toList Rows.optionalExpandMatchesSpecSpec.vars false (#[.agg #[.slice none 0 0,.slice none 0 0],.slice none 0 0]:Array Value).toList 8=some ([.agg [.nil,.nil],.nil],[],places):=
  ⟨[],by kernel_rfl⟩
set_option maxRecDepth 100000 in
theorem contract (H:Type) (enc:TypeId×Value→H) (W:World) (base:Nat) (args:Array Value) (ds gs:List (DataW H)) (before:List MemPlace)
    (hval:∀ (j:Nat) t v,Tryz.f4.params[j]? =some t→args[j]? =some v→Value.okWide Tryz.prog W .any base t v)
    (hW:DataW.Whole enc Tryz.prog Tryz.f4.params.toList Rows.optionalExpandMatchesSpecSpec.vars false W args.toList ds gs before) (hL:laidMetH Tryz.prog Rows.optionalExpandMatchesSpecRow.laid W):
    Calls Tryz.prog 4 args W fun e W'=>∃ v,e= .returned v∧Rows.optionalExpandMatchesSpecSpec.post enc Tryz.prog Tryz.f4 false true false false W args v W':=by
  have hW':=hW;have hblk:=fun p hp=>hW.lt p hp
  obtain⟨p,q,hA0,hV,rfl,hfz,hnd⟩:=hW;have hA:DataW.TrodAll enc Tryz.prog W 0 (fun _=>true) true Tryz.f4.params.toList args.toList ds p:=hA0;rw [Tryz.params4] at hA hval;obtain⟨v0,vs0,d0,ds0,p0,q0,hargs0,rfl,rfl,h0,r0⟩:=trodAll_cons hA;obtain⟨v1,vs1,d1,ds1,p1,q1,hargs1,rfl,rfl,h1,r1⟩:=trodAll_cons r0;obtain⟨rfl,rfl,rfl⟩:=trodAll_nil r1;subst hargs1;obtain rfl:args= #[v0,v1]:=by cases args;simp_all
  obtain⟨rfl,rfl⟩:=trodVars_none hV;clear hA0;simp only [List.append_nil] at hW' hblk;have k0:=h0;have u0:=hval 0 25 v0 rfl rfl;have k1:=h1;have u1:=hval 1 50 v1 rfl rfl;obtain⟨AT,AF,ct,cf,l,fs,rfl,hct,hcf,hTy,hF⟩:=hier_open u0 h0;obtain⟨AR,rs,cr,rfl,hRs⟩:=ors_arg u1 h1;refine(law36_any AT AF ct cf l fs rs AR cr W (tab_in (lone hL)) hct hcf hTy hF hRs).mono fun e W' ⟨he,hg⟩=>?_
  subst he;have s0:∀ sp:Nat→Bool,(∀ x ∈ p0,sp x.block=true)→DataW.Trod enc Tryz.prog W' 0 sp true 25 _ d0 p0:=fun sp hsp=>WideElems.Trod_stays laidOut kR (of_decide_eq_true kR) k0 (fun x hx=>hg.same (hblk x (by simp [hx]))) hsp
  have s1:∀ sp:Nat→Bool,(∀ x ∈ p1,sp x.block=true)→DataW.Trod enc Tryz.prog W' 0 sp true 50 _ d1 p1:=fun sp hsp=>WideElems.Trod_stays laidOut kR (of_decide_eq_true kR) k1 (fun x hx=>hg.same (hblk x (by simp [hx]))) hsp
  exact⟨_,rfl,post_bel (pv:=[]) hW' (fun _ _ _=>trodAll_cons_mk (shut_bool U4 _) trodAll_mk0) (fun sp hsp=>trodAll_cons_mk (s0 sp (fun x hx=>hsp x (by simp [hx]))) (trodAll_cons_mk (s1 sp (fun x hx=>hsp x (by simp [hx]))) trodAll_mk0)) (fun _ _=>rfl) (by simp) hg (ok_one kR rfl (okWide_bool_mk U4 _))⟩
set_option maxRecDepth 100000 in
theorem lifted (os:Os) (started:os.Started) (H:Type) (enc:TypeId×Value→H) (F:Stop.Interp):
    ReturnsInHanded {} Tryz.checked os 4 .any ((OpenSpec.ofChange Rows.optionalExpandMatchesSpecSpec).preRow enc Tryz.prog Tryz.f4 Rows.optionalExpandMatchesSpecRow.domain false Rows.optionalExpandMatchesSpecRow.laid) (((OpenSpec.ofChange Rows.optionalExpandMatchesSpecSpec).at F).post enc Tryz.prog Tryz.f4 false true false false):=by
  obtain⟨places,hx⟩:=reads os enc;refine returnsInHanded_of_row (C:=Tryz.checked) (s:=OpenSpec.ofChange Rows.optionalExpandMatchesSpecSpec) own started kR Tryz.func4
    (witness_row_at (enc:=enc) (C:=Tryz.checked) false (M2 os) #[.agg #[.slice none 0 0,.slice none 0 0],.slice none 0 0] rfl kR kR kR
      (OpenSpec.preRow_of_cond 8 hx kR (fun k hk=>by cases hk) kR (laid_met os))) ?_
  intro W base args ds gs before hval hW _ _ _ hL _ _;exact contract H enc W base args ds gs before hval hW hL
set_option maxRecDepth 100000 in
theorem said:Rows.OptionalExpandMatchesSpecSaid:=
  OpenClaim.holds_of_cond 4 Tryz.f4 rfl rfl rfl rfl rfl rfl rfl ⟨rfl,rfl,rfl,rfl,rfl⟩ rfl rfl rfl rfl rfl kR Tryz.func4 kR
    (of_decide_eq_true kR) (by unfold Func.isWrapper;first | (rw [if_pos (by decide +kernel)];kernel_rfl) | (rw [if_neg (by decide +kernel)];exact⟨rfl,rfl⟩))
    (fun os started H enc _ F=>by rw [OpenClaim.pre_eq_preRow];exact lifted os started H enc F)
theorem plain (f:FuncId) (fn:Func) (hf:Tryz.pinned.checked.prog.funcNamed "glosswright/glosswrightlaw4.OptionalExpandMatchesSpec" =some f) (hfn:Tryz.pinned.checked.prog.funcs[f]? =some fn):
    false=Tryz.pinned.checked.prog.looks []∧∀ (j:Nat) t,fn.params[j]? =some t→Tryz.pinned.checked.prog.wantsStandIn t=false:=by
  obtain rfl:f=4:=Option.some.inj ((show Tryz.prog.funcNamed "glosswright/glosswrightlaw4.OptionalExpandMatchesSpec" =some 4 by kernel_rfl).symm.trans hf) |>.symm;obtain rfl:fn=Tryz.f4:=(Option.some.inj (Tryz.func4.symm.trans hfn)).symm;refine⟨by kernel_rfl,fun j t ht=>?_⟩;rw [Tryz.params4] at ht;have hm:t ∈ #[25,50]:=Array.mem_of_getElem? ht;simp only [List.mem_toArray,List.mem_cons,List.not_mem_nil,or_false] at hm;rcases hm with rfl | rfl
  · exact(show Tryz.prog.wantsStandIn 25=false by kernel_rfl)
  · exact(show Tryz.prog.wantsStandIn 50=false by kernel_rfl)
theorem card:Rows.OptionalExpandMatchesSpecCardSaid:=
  Claim7.holds_tied_plain_at .later [] _ _ _ _ said (fun _ h=>by cases h) kR (fun _ h=>by cases h) optionalExpandMatchesSpec_row_tie rfl ⟨rfl,rfl⟩ kR rfl plain kR
end optionalExpandMatchesSpec
end Go.Proofs.YtbcpgfnfiekbiaaGreatDoor
