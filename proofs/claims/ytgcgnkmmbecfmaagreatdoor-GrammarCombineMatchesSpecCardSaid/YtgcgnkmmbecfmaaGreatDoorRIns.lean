/- What these functions compute, at every world: ref3.MeaningFault, ref3.LexFault, ref3.RuleFault, ref3.GrammarFault, , slices.Clone[[]api.Link,api.Link], slices.Insert[[]api.Link,api.Link], ref3.rename; and plain laws. -/
import Derived.Test.YtgcgnkmmbecfmaaGreatDoorU
import Derived.Test.YtgcgnkmmbecfmaaGreatDoorZst
import Derived.Test.YtgcgnkmmbecfmaaGreatDoorGVd
import Derived.Test.YtgcgnkmmbecfmaaGreatDoorNTf
import Derived.Test.YtgcgnkmmbecfmaaGreatDoorHLaw
import Derived.Test.YtgcgnkmmbecfmaaGreatDoorDSh
import Derived.Test.YtgcgnkmmbecfmaaGreatDoorLxd
import Derived.Test.YtgcgnkmmbecfmaaGreatDoorPFind
import Derived.Test.YtgcgnkmmbecfmaaGreatDoorWrd
namespace Go.Proofs.YtgcgnkmmbecfmaaGreatDoor
open Go.RowKit Go.Proofs.Tryz
variable {A:Option Addr}{L:List (Int×Int)}{a b base cap k m:Nat}{fs:List Ft}{l:List Ty}{rs:List Rl}{st:List Nd}{w:World}{x:Int×Int}{xs:List Lx}
theorem B4(SA BA:Option Addr)(cs mB:Nat)(t:Tm)(w:World)(hS:SimsIn w SA t.type.args)(hT:TmsIn w BA t.args):Calls prog 49 #[.agg (cA (t) SA cs BA mB)] w fun e w'=>e= .returned (flV (tmF t))/\Bel w w':=by
 refine enT func49 ntmps49 rfl rfl fun hB=>?_;refine zn2 ?_;refine xy (v:= .agg #[_,_,_,_,_,_]) (cs:=#[_,_,_,_,_,_]) rfl rfl (fun b1 w1 hb1 s1 hr=>?_);refine qW (cs:=#[.int .i64 0,.int .i64 0]) x6 rfl (fun b2 w2 a1 s2 hr=>?_);have lo2:=hB.u.ob hr;refine zn5 ?_;refine ba kR (tfault_any SA BA cs mB t _ (hS.mono hB.u) (hT.mono hB.u)) rfl (fun w3 s3=>?_);refine zZ a1.u rfl rfl zj rfl qz (fun w4 hq s4=>?_);replace a1:=hq;refine zn3 ?_;refine xK (.inl rfl) rfl (zW U36 rfl rfl a1.range0 zj) ?_;exact⟨xq rfl,hB.u⟩
theorem lexr_any(A B G SA BA:Option Addr)(c d cg cs mB:Nat)(l:List Ty)(fs:List Ft)(x:Lx)(w:World)(hTy:TypesIn w A l)(hv:VT l)(h60:l.length<=60)(hF:FeatsIn w B fs)(hfo:FOk l.length fs)(hG:NodesIn w G x.gr)(hS:SimsIn w SA x.mean.type.args)(hT:TmsIn w BA x.mean.args)(hsz:x.word.size<9223372036854775807):Calls prog 30 #[.agg #[.slice A l.length c,.slice B fs.length d],.agg #[.string (x).word,.slice G (x).gr.length cg,.int .i64 (x).wt,.int .i64 ((x).mean).kind,.string ((x).mean).name,.int .i64 ((x).mean).index,.string ((x).mean).type.base,.slice SA ((x).mean).type.args.length cs,.slice BA ((x).mean).args.length mB]] w fun e w'=>e= .returned (.int .i64 (PY l fs x))/\Bel w w':=by
 refine enT func30 ntmps30 rfl rfl fun hB=>?_;refine zn2 ?_;refine xy (v:= .agg #[_,_]) (cs:=#[_,_]) rfl rfl (fun b2 w1 hb2 s1 hr=>?_);refine xy (v:= .agg #[_,_,_,_,_,_,_,_,_]) (cs:=#[_,_,_,_,_,_,_,_,_]) rfl rfl (fun b3 w2 hb3 s2 hr=>?_);refine zn8 ?_;refine ba kR (wordr_any x.word _ hsz) rfl (fun w3 s3=>?_);refine zn3 ?_;refine jQ rfl (fun c9=>?_) (fun c9=>?_)
 ·have a1:kw x.word=false:=by simpa using c9
  refine zn8 ?_;exact⟨X4 (Dx a1),hB.u⟩
 have a1:kw x.word=true:=by simpa using c9
 refine zn4 ?_;replace hB:=hB.tr0 (s1.t (s2.t s3));refine xw (rg [] 10 8) 17 (.bool (decide (x.wt<0\/1000000<x.wt))) nu ?_ (fun gq=>?_)
 ·refine zn5 ?_;refine zw 13 rfl (fun g13=>?_) (fun g13=>?_)
  ·refine zn4 ?_;refine zJ (e_R ⟨rfl,agA,?_⟩);exact clA
  refine zn7 ?_;refine zJ (e_R ⟨rfl,agA,?_⟩);exact clA
 refine e_S ?_;refine zQ rfl (fun a2=>?_) (fun a2=>?_)
 ·refine zn8 ?_;exact⟨X4 (FK a1 a2),hB⟩
 refine zn7 ?_;refine wl (qw U30 rfl rfl (hb3.u.sub (n:=1) (xs:=[_]) rfl) QQ) ?_;refine ba kR (Dk A B G c d cg l fs x.gr _ (hTy.mono hB) hv h60 (hF.mono hB) (hG.mono hB) hfo) rfl (fun w4 s4=>?_);refine yx (cs:=#[.int .i64 0,.int .i64 0]) x6 rfl (fun _=>rfl) (fun _=>rfl) zj rfl qz (fun b5 w6 hb5 s5 hr=>?_);refine zn9 ?_;refine zQ rfl (fun a3=>?_) (fun a3=>?_)
 ·refine yW ?_;exact⟨X4 (lx_gr a1 a2 a3),hB.u⟩
 have hin:=az.1 a3;refine zn5 ?_;refine wl (qw U44 rfl rfl (hb3.u.sub (n:=6) (xs:=[_,_,_,_,_,_]) rfl) Kv) ?_;refine ba kR (B4 SA BA cs mB x.mean _ (hS.mono hB.u) (hT.mono hB.u)) rfl (fun w7 s6=>?_);refine wl (CX (v:= .int _ _) U36 rfl U3 rfl rfl rfl) (zn5 ?_);exact⟨X4 (lx_ok a1 a2 hin),hB.u⟩
theorem ruler_any(A B G SA BA:Option Addr)(c d cg cs mB:Nat)(l:List Ty)(fs:List Ft)(r:Rl)(w:World)(hTy:TypesIn w A l)(hv:VT l)(h60:l.length<=60)(hF:FeatsIn w B fs)(hfo:FOk l.length fs)(hG:NodesIn w G r.gr)(hS:SimsIn w SA r.mean.type.args)(hT:TmsIn w BA r.mean.args):Calls prog 29 #[.agg #[.slice A l.length c,.slice B fs.length d],.agg #[.string (r).name,.slice G (r).gr.length cg,.int .i64 (r).kids,.int .i64 (r).wt,.int .i64 ((r).mean).kind,.string ((r).mean).name,.int .i64 ((r).mean).index,.string ((r).mean).type.base,.slice SA ((r).mean).type.args.length cs,.slice BA ((r).mean).args.length mB]] w fun e w'=>e= .returned (.int .i64 (K0 l fs r))/\Bel w w':=by
 refine enT func29 ntmps29 rfl rfl fun hB=>?_;refine zn2 ?_;refine xy (v:= .agg #[_,_]) (cs:=#[_,_]) rfl rfl (fun b2 w1 hb2 s1 hr=>?_);refine xy (v:= .agg #[_,_,_,_,_,_,_,_,_,_]) (cs:=#[_,_,_,_,_,_,_,_,_,_]) rfl rfl (fun b3 w2 a1 s2 hr=>?_);refine zn5 ?_;replace hB:=hB.tr0 (s1.t s2);refine xw (rg [] 7 18) 24 (.bool (decide (r.kids<1\/3<r.kids\/r.wt<0\/1000000<r.wt))) nu ?_ (fun gq=>?_)
 ·refine zn5 ?_;refine zw 10 rfl (fun g10=>?_) (fun g10=>?_)
  ·refine ZV ?_;refine zJ (e_R ⟨rfl,agA,?_⟩);exact clA
  refine zn8 ?_;refine zw 15 rfl (fun g15=>?_) (fun g15=>?_)
  ·refine zn9 ?_;refine zJ (e_R ⟨rfl,agA,?_⟩);exact clA
  refine zn8 ?_;refine zw 20 rfl (fun g20=>?_) (fun g20=>?_)
  ·refine zn4 ?_;refine zJ (e_R ⟨rfl,agA,?_⟩);exact clA
  refine zn7 ?_;refine zJ (e_R ⟨rfl,agA,?_⟩);exact clA
 refine e_S ?_;refine zQ rfl (fun a3=>?_) (fun a3=>?_)
 ·refine zn8 ?_;exact⟨X4 (F9 a3),hB⟩
 refine zn7 ?_;refine wl (qw U30 rfl rfl (a1.sub (n:=1) (xs:=[_]) rfl) QQ) ?_;refine ba kR (Dk A B G c d cg l fs r.gr _ (hTy.mono hB) hv h60 (hF.mono hB) (hG.mono hB) hfo) rfl (fun w3 s3=>?_);refine yx (cs:=#[.int .i64 0,.int .i64 0]) x6 rfl (fun _=>rfl) (fun _=>rfl) zj rfl qz (fun b5 w5 hb5 s4 hr=>?_);refine zn9 ?_;refine zQ rfl (fun ab=>?_) (fun ab=>?_)
 ·refine yW ?_;exact⟨X4 (rl_gr a3 ab),hB.u⟩
 have a5:=az.1 ab;have hk0:=Bv (DK a5);have h0:=hk0.pos;refine zn9 ?_;refine qx (rg [4,6] 34 14) (fun m g w'=>∃ j:Nat,j<=4/\m=4-j/\g 34= .int .i64 j/\Bel w w'/\Blk w' b3 50 #[.string (r).name,.slice G (r).gr.length cg,.int .i64 (r).kids,.int .i64 (r).wt,.int .i64 ((r).mean).kind,.string ((r).mean).name,.int .i64 ((r).mean).index,.string ((r).mean).type.base,.slice SA ((r).mean).type.args.length cs,.slice BA ((r).mean).args.length mB]/\∀ f,f<j->plN r.gr r.kids f=true) (4) ?_ (fun m g7 w6 hI=>?_)
 ·exact⟨0,by omega,rfl,rfl,hB.u,a1.u,fun f hf=>by omega⟩
 obtain⟨j,hj,hm,h34,hB,a1,a2⟩:=hI;refine zX 34 _ h34 nu (zn6 ?_);refine zQ rfl (fun c35=>?_) (fun c35=>?_)
 ·refine jq ?_;refine uz [] [0,1,2,5,6,7,8,3,4,9] rfl (fun w7 s5=>?_);refine zn1 ?_;refine hlS rfl U30 rfl rfl (a1.u.sub (n:=1) (xs:=[_]) rfl) QQ (zn5 ?_);refine hcl (fun v wv=>v= .int .i64 (tgt (r.gr[0]'h0).ln ((j:Nat):Int))) rfl kR (Yy G cg r.gr 0 ((j:Nat):Int) w7 (hG.mono hB.u) h0) rfl (fun e' w2 hr=>?_) (fun v40 w8 s6 d40=>?_)
  ·obtain⟨rfl,s7⟩:=hr;exact⟨_,rfl,sB s7,rfl⟩
  have e40:=d40;subst e40;refine zn1 ?_;refine hl rfl (fun _=>Fj U4 rfl rfl) (h_end (e_S ?_));refine jQ rfl (fun a9=>?_) (fun a9=>?_)
  ·have a4:plN r.gr r.kids j=false:=by
     have h:=a9;rw[Bool.not_eq_true']at h;rw[Fw h0];exact h
   refine vj ?_;exact⟨X4 (rl_pl a3 a5 (pl_no oG a4)),hB.u⟩
  have a4:plN r.gr r.kids j=true:=by
    have h:=a9;rw[Bool.not_eq_false']at h;rw[Fw h0];exact h
  refine zn7 ?_;refine x8 (4-(j+1)) oG agA ?_;replace hB:=hB.tr0 (s5.t s6);replace a1:=a1.tr0 (s5.t s6)
  exact⟨j+1,by omega,rfl,rfl,hB,a1,fun f hf=>by
    by_cases e:f=j
    · rw[e];exact a4
    · exact a2 f oG⟩
 refine zn8 ?_;refine wl (qw U44 rfl rfl (a1.sub (n:=6) (xs:=[_,_,_,_,_,_]) rfl) Kv) ?_;refine ba kR (B4 SA BA cs mB r.mean _ (hS.mono hB) (hT.mono hB)) rfl (fun w9 s8=>?_);refine wl (CX (v:= .int _ _) U36 rfl U3 rfl rfl rfl) (zn5 ?_);exact⟨X4 (rl_ok a3 a5 (pl_yes (fun f hf=>a2 f oG))),hB.u⟩
theorem Hw:(prog.info? 27).map (·.size)=some 1:=by kernel_rfl
theorem Kk:(prog.info? 46).map (·.size)=some 9:=by kernel_rfl
theorem Kj:(prog.info? 50).map (·.size)=some 10:=by kernel_rfl
theorem ze46_GFt:(prog.info? 46).map (·.zero)=some (some (.agg cF)):=by kernel_rfl
theorem WV:(prog.info? 50).map (·.zero)=some (some (.agg cE)):=by kernel_rfl
set_option maxHeartbeats 2000000 in
theorem Sx(AT AF AR AX AS:Option Addr)(ct cf cr cx b6:Nat)(l:List Ty)(fs:List Ft)(rs:List Rl)(xs:List Lx)(st:List Nd)(w:World)(hct:l.length<=ct)(hcf:fs.length<=cf)(hcr:rs.length<=cr)(b8:TypesIn w AT l)(hF:FeatsIn w AF fs)(hRu:RulesIn w AR rs)(hLx:LexesIn w AX xs)(hG:NodesIn w AS st):Calls prog 7 #[.agg #[.slice AT l.length ct,.slice AF fs.length cf,.slice AR rs.length cr,.slice AX xs.length cx,.slice AS st.length b6]] w fun e w'=>e= .returned (flV (yj l fs rs xs st))/\Bel w w':=by
 refine enT func7 ntmps7 rfl rfl fun hB=>?_;refine zn2 ?_;refine xy (v:= .agg #[_,_,_,_,_]) (cs:=#[_,_,_,_,_]) rfl rfl (fun b1 w1 a3 s1 hr=>?_);refine qW (cs:=#[.int .i64 0,.int .i64 0]) x6 rfl (fun b2 w2 a1 s2 hr=>?_);have lo2:=hB.u.ob hr;refine zn6 ?_;refine wl (qw U25 rfl rfl (a3.u.sub (n:=2) (xs:=[_,_]) rfl) RX) ?_;refine ba kR (Sq AT AF ct cf l fs _ hct hcf (b8.mono hB.u) (hF.mono hB.u)) rfl (fun w3 s3=>?_);refine yx (cs:=#[.int .i64 0,.int .i64 0]) x6 rfl (fun _=>rfl) (fun _=>rfl) zj rfl qz (fun b3 w5 hb3 s4 hr=>?_);refine zn9 ?_;refine zQ rfl (fun bw=>?_) (fun bw=>?_)
 ·refine zn3 ?_;refine zZ a1.u rfl rfl zj rfl qz (fun w6 hq s5=>?_);replace a1:=hq;refine zn4 ?_;refine xK (.inl rfl) rfl (zW U36 rfl rfl a1.range0 zj) ?_;exact⟨xq (M8 bw),hB.u⟩
 have h0:=az.1 bw;have hS:=Ky h0;have bk:=By h0;have h40:=TW h0;refine vj ?_;refine zQ rfl (fun c24=>?_) (fun c24=>?_)
 ·refine zn2 ?_;refine wl (vw (v0:= .int _ _) (v1:= .int _ _) (fun v0 v1=>#[v0,v1]) rfl rfl kR) ?_;refine zZ a1.u rfl rfl zj rfl qz (fun w7 hq s6=>?_);replace a1:=hq;refine zn4 ?_;refine xK (.inl rfl) rfl (zW U36 rfl rfl a1.range0 zj) ?_;exact⟨xq (Bx h0 oG),hB.u⟩
 have a5:¬fs.length<=3:=by omega
 refine zn4 ?_;replace hB:=hB.tr0 (s1.t (s2.t (s3.t s4)));replace a1:=a1.tr0 (s3.t s4);refine xw (rg [] 26 10) 35 (.bool (decide (40<rs.length\/100<xs.length))) nu ?_ (fun gq=>?_)
 ·refine zn6 ?_;refine zw 30 rfl (fun g30=>?_) (fun g30=>?_)
  ·refine zn5 ?_;refine zJ (e_R ⟨rfl,agA,?_⟩);exact clA
  refine zn9 ?_;refine zJ (e_R ⟨rfl,agA,?_⟩);exact clA
 refine e_S ?_;refine zQ rfl (fun a4=>?_) (fun a4=>?_)
 ·refine zn2 ?_;refine wl (vw (v0:= .int _ _) (v1:= .int _ _) (fun v0 v1=>#[v0,v1]) rfl rfl kR) ?_;refine zZ a1 rfl rfl zj rfl qz (fun w8 hq s7=>?_);replace a1:=hq;refine zn4 ?_;refine xK (.inl rfl) rfl (zW U36 rfl rfl a1.range0 zj) ?_;exact⟨xq (Ej h0 a5 a4),hB.u⟩
 refine vj ?_;refine qx (rg [4,5,7,8] 40 38) (fun m g w'=>∃ k:Nat,k<=rs.length/\m=rs.length-k/\g 40= .int .i64 k/\Bel w w'/\Blk w' b1 32 #[.slice AT l.length ct,.slice AF fs.length cf,.slice AR rs.length cr,.slice AX xs.length cx,.slice AS st.length b6]/\Blk w' b2 36 #[.int .i64 0,.int .i64 0]/\qQ (uj l fs rs) 0 rs.length=qQ (uj l fs rs) k (rs.length-k)) (rs.length) ?_ (fun m g9 w9 hI=>?_)
 ·exact⟨0,ag _,rfl,rfl,hB,a3.u,a1,rfl⟩
 obtain⟨k,hk,hm,bt,hB,a3,a1,b4⟩:=hI;refine zX 40 _ bt nu (zn6 ?_);refine zQ rfl (fun c41=>?_) (fun c41=>?_)
 ·have a2:k<rs.length:=by omega
  obtain⟨tb,to,Gk,bb,Sk,b9,Bk,mk,rfl,htb,htr,br,bn,bm⟩:=hRu.at_ hB a2;refine zn8 ?_;refine wl (qw U50 rfl rfl htr Kj) ?_;refine qW (cs:=cE) WV rfl (fun b5 w10 an s8 hr=>?_);have:=a3.ob hr;have:=a1.ob hr;have lo5:=hB.ob hr;refine waI rfl ?_;refine zZ an rfl rfl Kj rfl qz (fun w11 hq s9=>?_);replace an:=hq;refine zn7 ?_;refine ba Pj (O9 _ _) rfl (fun w12 s10=>?_);refine zn3 ?_;refine jQ rfl (fun bv=>?_) (fun bv=>?_)
  ·have ab:=rn10 (l:=l) (fs:=fs) a2 (by simpa using bv);refine zn3 ?_;refine wl (vw (v0:= .int _ _) (v1:= .int _ _) (fun v0 v1=>#[v0,v1]) rfl rfl kR) ?_;refine zZ a1.u rfl rfl zj rfl qz (fun w13 hq s11=>?_);replace a1:=hq;refine zn9 ?_;refine xK (.inl rfl) rfl (zW U36 rfl rfl a1.range0 zj) ?_;replace hB:=(((hB.tr0 s8).tr1 s9 lo5).tr0 s10).tr1 s11 lo2;exact⟨xq (Xj h0 a5 a4 (b4.trans (x7 oG ab (show (10:Int)≠0 by decide))) (show (10:Int)≠0 by decide)),hB⟩
  have bi:yJ (rs[k]'a2).name=true:=by simpa using bv
  refine zn8 ?_;refine wl (I7 (h:=k) U26 Kj rfl rfl oG) (zn5 ?_);refine qx (rg [7] 56 12) (fun m g w'=>∃ j:Nat,j<=k/\m=k-j/\g 56= .int .i64 j/\Bel w w'/\Blk w' b1 32 #[.slice AT l.length ct,.slice AF fs.length cf,.slice (some ⟨tb,to,none⟩) rs.length cr,.slice AX xs.length cx,.slice AS st.length b6]/\Blk w' b2 36 #[.int .i64 0,.int .i64 0]/\Blk w' b5 50 #[.string (rs[k]'a2).name,.slice Gk (rs[k]'a2).gr.length bb,.int .i64 (rs[k]'a2).kids,.int .i64 (rs[k]'a2).wt,.int .i64 (rs[k]'a2).mean.kind,.string (rs[k]'a2).mean.name,.int .i64 (rs[k]'a2).mean.index,.string (rs[k]'a2).mean.type.base,.slice Sk (rs[k]'a2).mean.type.args.length b9,.slice Bk (rs[k]'a2).mean.args.length mk]/\seen ((rs.take j).map (·.name)) (rs[k]'a2).name=false) (k) ?_ (fun m g14 w14 hI=>?_)
  ·exact⟨0,ag _,rfl,rfl,hB.u,a3.u,a1.u,an.u,rfl⟩
  obtain⟨j,hj,hmj,h56,hB,a3,a1,an,hse⟩:=hI;refine zX 56 _ h56 nu (zn6 ?_);refine zQ rfl (fun c57=>?_) (fun c57=>?_)
  ·have hjt:j<rs.length:=by omega
   obtain⟨ub,uo,Gj,cgj,Sj,csj,Bj,mj,he,hub,be,hGj,hSj,hTj⟩:=hRu.at_ hB hjt;cases he;refine zn7 ?_;refine wl (qw U50 rfl rfl be Kj) ?_;refine yx (cs:=cE) WV rfl (fun _=>rfl) (fun _=>rfl) Kj rfl qz (fun b7 w16 hb7 s12 hr=>?_);refine jq ?_;refine zQ rfl (fun bu=>?_) (fun bu=>?_)
   ·have ab:=rn7 (l:=l) (fs:=fs) a2 bi (rseen_yes a2 oG bu);refine zn3 ?_;refine wl (vw (v0:= .int _ _) (v1:= .int _ _) (fun v0 v1=>#[v0,v1]) rfl rfl kR) ?_;refine zZ a1.u rfl rfl zj rfl qz (fun w17 hq s13=>?_);replace a1:=hq;refine uw ?_;refine xK (.inl rfl) rfl (zW U36 rfl rfl a1.range0 zj) ?_;replace hB:=(hB.tr0 s12).tr1 s13 lo2;exact⟨xq (Xj h0 a5 a4 (b4.trans (x7 oG ab (show (7:Int)≠0 by decide))) (show (7:Int)≠0 by decide)),hB⟩
   have bh:seen ((rs.take (j+1)).map (·.name)) (rs[k]'a2).name=false:=by rw[ZZ rs hjt,List.map_append,List.map_cons,List.map_nil,Xw,hse];simp[bu]
   refine zn7 ?_;refine x8 (k-(j+1)) oG agA ?_;exact⟨j+1,by omega,rfl,rfl,hB.u,a3.u,a1.u,an.u,bh⟩
  have hsn:seen ((rs.take k).map (·.name)) (rs[k]'a2).name=false:=by
    have e:k=j:=by omega
    subst e;exact hse
  refine zn8 ?_;refine wl (qw U25 rfl rfl (a3.sub (n:=2) (xs:=[_,_]) rfl) RX) (zn1 ?_);refine ba kR (ruler_any AT AF Gk Sk Bk ct cf bb b9 mk l fs (rs[k]'a2) _ (b8.mono hB) hS.vt hS.le (hF.mono hB) bk (br.mono hB) (bn.mono hB) (bm.mono hB)) rfl (fun w18 s14=>?_);refine zn9 ?_;refine zQ rfl (fun bd=>?_) (fun bd=>?_)
  ·have ab:=rnF (l:=l) (fs:=fs) a2 bi hsn;refine zn4 ?_;refine wl (vw (v0:= .int _ _) (v1:= .int _ _) (fun v0 v1=>#[v0,v1]) rfl rfl kR) ?_;refine zZ a1.u rfl rfl zj rfl qz (fun w19 hq s15=>?_);replace a1:=hq;refine zn8 ?_;refine xK (.inl rfl) rfl (zW U36 rfl rfl a1.range0 zj) ?_;exact⟨xq (Xj h0 a5 a4 (b4.trans (x7 oG ab bd)) bd),hB.u⟩
  have bf:=(rnF (l:=l) (fs:=fs) a2 bi hsn).trans (az.1 bd);refine zn7 ?_;refine x8 (rs.length-(k+1)) oG agA ?_;exact⟨k+1,by omega,rfl,rfl,hB.u,a3.u,a1.u,b4.trans (vQ a2 bf)⟩
 have bo:qQ (uj l fs rs) 0 rs.length=(0,0):=b4.trans (jz oG);refine Yv ?_;refine qx (rg [9,10,11] 81 15) (fun m g w'=>∃ q:Nat,q<=xs.length/\m=xs.length-q/\g 81= .int .i64 q/\Bel w w'/\Blk w' b1 32 #[.slice AT l.length ct,.slice AF fs.length cf,.slice AR rs.length cr,.slice AX xs.length cx,.slice AS st.length b6]/\Blk w' b2 36 #[.int .i64 0,.int .i64 0]/\qQ (Jy l fs xs) 0 xs.length=qQ (Jy l fs xs) q (xs.length-q)) (xs.length) ?_ (fun m g24 w20 hI=>?_)
 ·exact⟨0,ag _,rfl,rfl,hB,a3,a1,rfl⟩
 obtain⟨q,hq,hm,h81,hB,a3,a1,bq⟩:=hI;refine zX 81 _ h81 nu (zn6 ?_);refine zQ rfl (fun c82=>?_) (fun c82=>?_)
 ·have ac:q<xs.length:=by omega
  obtain⟨ub,uo,Gk,bb,Sk,b9,Bk,mk,rfl,hub,bg,be,br,bn,bm⟩:=hLx.at_ hB ac;refine zn8 ?_;refine wl (qw U46 rfl rfl be Kk) ?_;refine qW (cs:=cF) ze46_GFt rfl (fun b10 w21 ao s16 hr=>?_);have:=a3.ob hr;have:=a1.ob hr;have lo10:=hB.ob hr;refine waI rfl ?_;refine zZ ao rfl rfl Kk rfl qz (fun w22 hq s17=>?_);replace ao:=hq;refine zn5 ?_;refine wl (qw U25 rfl rfl (a3.u.sub (n:=2) (xs:=[_,_]) rfl) RX) (zn1 ?_);refine ba kR (lexr_any AT AF Gk Sk Bk ct cf bb b9 mk l fs (xs[q]'ac) _ (b8.mono hB.u) hS.vt hS.le (hF.mono hB.u) bk (br.mono hB.u) (bn.mono hB.u) (bm.mono hB.u) bg) rfl (fun w23 s18=>?_);refine zn9 ?_;refine zQ rfl (fun bc=>?_) (fun bc=>?_)
  ·have hly:=lnF (l:=l) (fs:=fs) ac;refine zn4 ?_;refine wl (vw (v0:= .int _ _) (v1:= .int _ _) (fun v0 v1=>#[v0,v1]) rfl rfl kR) ?_;refine zZ a1.u rfl rfl zj rfl qz (fun w24 hq s19=>?_);replace a1:=hq;refine zn8 ?_;refine xK (.inl rfl) rfl (zW U36 rfl rfl a1.range0 zj) ?_;exact⟨xq (Wq h0 a5 a4 bo (bq.trans (x7 oG hly bc)) bc),hB.u⟩
  have bj:=(lnF (l:=l) (fs:=fs) ac).trans (az.1 bc);refine zn7 ?_;refine x8 (xs.length-(q+1)) oG agA ?_;exact⟨q+1,by omega,rfl,rfl,hB.u,a3.u,a1.u,bq.trans (vQ ac bj)⟩
 have hLz:qQ (Jy l fs xs) 0 xs.length=(0,0):=bq.trans (jz oG);refine zn9 ?_;refine wl (qw U25 rfl rfl (a3.sub (n:=2) (xs:=[_,_]) rfl) RX) (zn1 ?_);refine wl (qw U30 rfl rfl (a3.sub (n:=1) (xs:=[_]) rfl) QQ) ?_;refine ba kR (Dk AT AF AS ct cf b6 l fs st _ (b8.mono hB) hS.vt hS.le (hF.mono hB) (hG.mono hB) bk) rfl (fun w25 s20=>?_);refine yx (cs:=#[.int .i64 0,.int .i64 0]) x6 rfl (fun _=>rfl) (fun _=>rfl) zj rfl qz (fun b12 w27 hb12 s21 hr=>?_);refine zn9 ?_;refine zQ rfl (fun a9=>?_) (fun a9=>?_)
 ·refine zn4 ?_;refine wl (vw (v0:= .int _ _) (v1:= .int _ _) (fun v0 v1=>#[v0,v1]) rfl rfl kR) ?_;refine zZ a1.u rfl rfl zj rfl qz (fun w28 hq s22=>?_);replace a1:=hq;refine zn4 ?_;refine xK (.inl rfl) rfl (zW U36 rfl rfl a1.range0 zj) ?_;exact⟨xq (gr_start h0 a5 a4 bo hLz a9),hB.u⟩
 refine zn4 ?_;refine wl (gQ (vs:=#[]) (cs:=#[.int .i64 0,.int .i64 0]) (by simp) kR) ?_;refine zZ a1.u rfl rfl zj rfl qz (fun w29 hq s23=>?_);replace a1:=hq;refine zn3 ?_;refine xK (.inl rfl) rfl (zW U36 rfl rfl a1.range0 zj) ?_;exact⟨xq (gr_ok h0 a5 a4 bo hLz (az.1 a9)),hB.u⟩
theorem small_good:gramB smallT smallF smallRs smallXs smallS=true:=by decide +kernel
theorem small_ok:yj smallT smallF smallR smallX smallS=(0,0):=gram_ok small_good
theorem US.join2{U:List Nd}{J:List (Nat×Nat)}{P rep ρ:Nat->Nat}{T:Nat->Int}{L:Nat->List (Int×Int)}{W Wn Lm:List (Int×Int)}(hs:V5 l){p:Int×Int}(h:US l U J P rep ρ T L (W++[p]))(ha:rep p.1.toNat=a)(hb:rep p.2.toNat=b)(hne:a≠b)(hm:meet l (T a).toNat (T b).toNat=(m,true,false))(hL:y7 (L a) (L b)=Lm)(hW:Zv (L a) (L b)=Wn):
  US l U J (Jx P b a) (UF.un rep a b) (UF.rk rep ρ a b) (fun x=>if x=a then (m:Int)else T x) (fun x=>if x=a then Lm else L x) (W++Wn):=by
 subst hL hW;exact US.join hs h ha hb hne hm
def gN:List Nd:=[⟨1,[(0,1),(1,3),(2,4)]⟩,⟨7,[(4,2)]⟩,⟨3,[]⟩,⟨10,[(4,2)]⟩,⟨9,[(4,2)]⟩]
def gM:List Nd:=[⟨1,[(0,1),(1,3),(2,4)]⟩,⟨7,[(4,2)]⟩,⟨4,[]⟩,⟨10,[(4,2)]⟩,⟨9,[(4,2)]⟩]
def gEv:List Nd:=[⟨10,[(4,1)]⟩,⟨4,[]⟩]
def gDo:List Nd:=[⟨9,[(4,1)]⟩,⟨4,[]⟩]
def gRx:List Nd:=[⟨7,[(4,1)]⟩,⟨4,[]⟩]
theorem gN_is:smallR.length=6/\(smallR[1]?).map (·.gr)=some gN/\(smallR[1]?).map (·.kids)=some 2:=by decide +kernel
theorem gX_is:smallX.length=21/\(smallX[0]?).map (·.gr)=some gEv/\(smallX[3]?).map (·.gr)=some gDo/\(smallX[19]?).map (·.gr)=some gRx:=by decide +kernel
theorem dlM:DL gM [1] [] [1,2]:= .new (o1:=[1,2]) dE (.new (o1:=[1,2]) dE .nil .nil) .nil
def gZ(a:Int):List Nd:=gM++[⟨a,[]⟩,⟨4,[]⟩]
theorem dlZ(a:Int):DL (gZ a) [0] [] [0,1,2,3,4]:=
 .new dE (.new (o1:=[0,1,2]) dE (.new (o1:=[0,1,2]) dE .nil .nil) (.new (o1:=[0,1,2,3]) dE (.old dE .nil) (.new (o1:=[0,1,2,3,4]) dE (.old dE .nil) .nil))) .nil
theorem mg1:y7 [((4:Int),(2:Int))] [(4,6)]= [(4,2)]:=by simp[y7]
theorem mg2:y7 ([]:List (Int×Int)) []= []:=by simp[y7]
theorem nw1:Zv [((4:Int),(2:Int))] [(4,6)]= [(2,6)]:=by simp[Zv]
theorem nw2:Zv ([]:List (Int×Int)) []= []:=by simp[Zv]
theorem uni_ev(hS:V5 smallT)(ha:GY smallT gN)(hb:GY smallT gEv):Vj smallT (vX gN gEv) [(3,gN.length)] gM:=by
 have h1:=(US.first ha).add hb (fun p hp=>by cases hp);have h2:=h1.push (a:=3) (b:=5) dE dE;have h3:=US.join2 (W:=[]) (p:=((3:Nat),(5:Nat))) (a:=3) (b:=5) (m:=10) (Lm:=[(4,2)]) (Wn:=[(2,6)]) hS h2 dE dE dE (by decide +kernel) mg1 nw1;have h4:=US.join2 (W:=[]) (p:=((2:Int),(6:Int))) (a:=2) (b:=6) (m:=4) (Lm:=[]) (Wn:=[]) hS h3 dE dE dE (by decide +kernel) mg2 nw2;exact⟨_,_,_,_,_,[0,1,2,3,4],h4,dlZ 10,by decide⟩
theorem uni_do(hS:V5 smallT)(ha:GY smallT gM)(hb:GY smallT gDo):Vj smallT (vX gM gDo) [(4,gM.length)] gM:=by
 have h1:=(US.first ha).add hb (fun p hp=>by cases hp);have h2:=h1.push (a:=4) (b:=5) dE dE;have h3:=US.join2 (W:=[]) (p:=((4:Nat),(5:Nat))) (a:=4) (b:=5) (m:=9) (Lm:=[(4,2)]) (Wn:=[(2,6)]) hS h2 dE dE dE (by decide +kernel) mg1 nw1;have h4:=US.join2 (W:=[]) (p:=((2:Int),(6:Int))) (a:=2) (b:=6) (m:=4) (Lm:=[]) (Wn:=[]) hS h3 dE dE dE (by decide +kernel) mg2 nw2;exact⟨_,_,_,_,_,[0,1,2,3,4],h4,dlZ 9,by decide⟩
theorem join_small(hS:V5 smallT)(hN:GY smallT gN)(hM:GY smallT gM)(he:GY smallT gEv)(hd:GY smallT gDo):J3 smallT gN 0 [gEv,gDo] true gRx:=
 .inl ⟨gM,uni_ev hS hN he,by decide,.inl ⟨gM,uni_do hS hM hd,by decide,rfl,[1,2],dlM,by decide⟩⟩
theorem gr_lexv(h:(yj l fs rs xs st).1=0){i:Nat}(hi:i<xs.length):(xk l fs (xs[i]).gr).1=0:=by
 have h1:(qK l fs).1=0:=by
  refine aG (fun e=>?_);rw[M8 e]at h;exact e h
 have h2:¬fs.length<=3:=fun e=>by rw[Bx h1 e]at h;cases h
 have h3:¬(40<rs.length\/100<xs.length):=fun e=>by rw[Ej h1 h2 e]at h;cases h
 have h4:(qQ (uj l fs rs) 0 rs.length).1=0:=by
  refine aG (fun e=>?_);rw[Xj (c:=(qQ (uj l fs rs) 0 rs.length).1) (i:=(qQ (uj l fs rs) 0 rs.length).2) h1 h2 h3 rfl e]at h;exact e h
 have h5:(qQ (Jy l fs xs) 0 xs.length).1=0:=by
  refine aG (fun e=>?_);rw[Wq (c:=(qQ (Jy l fs xs) 0 xs.length).1) (i:=(qQ (Jy l fs xs) 0 xs.length).2) h1 h2 h3 (OV _ _ h4) rfl e]at h;exact e h
 have q5:=QJ _ _ h5 i (ag _) oG;rw[lnF hi]at q5;have q6:kw (xs[i]).word=true:=by
  cases e:kw (xs[i]).word with
  | true=>rfl
  | false=>rw[Dx e]at q5;cases q5
 have q7:¬Mk xs[i]:=fun e=>by rw[FK q6 e]at q5;cases q5
 exact aG (fun e=>by rw[lx_gr q6 q7 e]at q5;exact e q5)
theorem gr_h0(h:(yj l fs rs xs st).1=0):(qK l fs).1=0:=by
 refine aG (fun e=>?_);rw[M8 e]at h;exact e h
theorem get_gr{i:Nat}{g:List Nd}(hi:i<xs.length)(h:(xs[i]?).map (·.gr)=some g):(xs[i]).gr=g:=by
 rw[List.getElem?_eq_getElem hi]at h;simpa using h
theorem small_lex(h:LexesIn w A smallX):∃ lb lq G0 c0 G3 c3 G9 c9,A=some ⟨lb,lq,none⟩/\lb<w.heap.size/\w.rangeAt lb (lq+0*9+1) [.slice G0 2 c0]/\NodesIn w G0 gEv/\w.rangeAt lb (lq+3*9+1) [.slice G3 2 c3]/\NodesIn w G3 gDo/\w.rangeAt lb (lq+19*9+1) [.slice G9 2 c9]/\NodesIn w G9 gRx:=by
 obtain⟨hl,x0,x3,x19⟩:=gX_is;obtain⟨lb,lq,e,hlb,hc⟩:=h.2 (by intro e;rw[e]at hl;cases hl);have a1:∀(k:Nat) (hk:k<smallX.length) (g:List Nd),(smallX[k]?).map (·.gr)=some g->∃ G c,w.rangeAt lb (lq+k*9+1) [.slice G g.length c]/\NodesIn w G g:=fun k hk g hg=>by
  obtain⟨_,G,cg,S,cs,B,m,h1,h2,_⟩:=hc k hk;have eg:=get_gr hk hg;rw[eg]at h1 h2;exact⟨G,cg,(fun j v hj=>by match j,hj with|0,hj=>cases hj;exact h1 1 _ rfl|_+1,hj=>cases hj),h2⟩
 obtain⟨G0,c0,a0,b0⟩:=a1 0 (by rw[hl];decide) _ x0;obtain⟨G3,c3,a3,b3⟩:=a1 3 (by rw[hl];decide) _ x3;obtain⟨G9,c9,a9,b9⟩:=a1 19 (by rw[hl];decide) _ x19;exact⟨lb,lq,G0,c0,G3,c3,G9,c9,e,hlb,a0,b0,a3,b3,a9,b9⟩
theorem small_rule:∃ h:1<smallR.length,(smallR[1]).gr=gN/\(smallR[1]).kids=2:=by
 obtain⟨hl,h1,h2⟩:=gN_is;have h:1<smallR.length:=by rw[hl];decide
 rw[List.getElem?_eq_getElem h]at h1 h2;exact⟨h,by simpa using h1,by simpa using h2⟩
theorem small_comb{AT AF AR AX AS:Option Addr}{ct cf cr cx cst c0 c3:Nat}{G0 G3:Option Addr}(a3:TabIn w)(hU:U8In w)(hTy:TypesIn w AT smallT)(hF:FeatsIn w AF smallF)(hRu:RulesIn w AR smallR)(hLx:LexesIn w AX smallX)(hG:NodesIn w AS smallS)(hb:Blk w b 30 #[.slice G0 2 c0,.slice G3 2 c3])(h0:NodesIn w G0 gEv)(h3:NodesIn w G3 gDo):Calls Tryz.prog 5 #[.agg #[.slice AT smallT.length ct,.slice AF smallF.length cf,.slice AR smallR.length cr,.slice AX smallX.length cx,.slice AS smallS.length cst],.int .i64 1,.slice (some ⟨b,0,none⟩) 2 2] w fun e w'=>(∃ A c,e= .returned (.tuple #[.agg #[.slice A 2 c],.bool true,.agg #[.int .i64 0,.int .i64 0]])/\∀ w2,FrSame w.heap.size w' w2->NodesIn w2 A gRx)/\Bel w w':=by
 refine(R5 AT AF AR AX AS ct cf cr cx cst smallT smallF smallR smallX smallS 1 (kc:=2) (ks:=[gEv,gDo]) w a3 hU hTy hF hRu hLx hG (grs_two hb h0 h3)).mono fun e w' h=>?_
 obtain⟨⟨A,Y,ok,c,he,hN,hC⟩,hs⟩:=h;have a2:(yj smallT smallF smallR smallX smallS).1=0:=by rw[small_ok]
 obtain⟨h1,e1,e2⟩:=small_rule;obtain⟨hh,a1⟩:=gr_jok a2 h1;rw[e1,e2]at a1;obtain⟨hl,x0,x3,_⟩:=gX_is;have i0:0<smallX.length:=by rw[hl];decide
 have i3:3<smallX.length:=by rw[hl];decide
 have w0:=gr_lexv a2 i0;have w3:=gr_lexv a2 i3;rw[get_gr i0 x0]at w0;rw[get_gr i3 x3]at w3;have hE:=(J0 hh w0).1;have hD:=(J0 hh w3).1;have hM:GY smallT gM:=(a1.step (f:=1) hE dE dE (uni_ev a1.v.s a1.v.gx.toGY hE.gx.toGY) dE).v.gx.toGY;have hJ:=join_small a1.v.s a1.v.gx.toGY hM hE.gx.toGY hD.gx.toGY
 have hcm:QZ smallT smallF smallR smallX smallS 1 [gEv,gDo]=(0,0):=cmb_w a2 (by obtain⟨q,_⟩:=gN_is;rw[q];decide) (by show (2:Int)=kdR smallR ((1:Nat):Int);rw[W6 h1,e2]) (Zw (fun j _ hj=>by
  have hj2:j<2:=by have:=hj;simp only[List.length_cons,List.length_nil]at this;omega
  match j,hj2 with
  | 0,_=>exact w0
  | 1,_=>exact w3))
 rw[hcm]at he;rcases hC with ⟨hc,_⟩|⟨_,hJ2⟩
 ·rw[hcm]at hc;exact absurd rfl hc
 ·have eg:grR smallR 1=gN:=(grR_at h1).trans e1
  rw[eg]at hJ2
  obtain⟨rfl,rfl⟩:=B8 [gEv,gDo] gN 0 ok true Y gRx a1 (fun q hq=>by
   rcases ax.1 hq with rfl|hq
   ·exact hE
   ·rw[List.mem_singleton.1 hq];exact hD) dE hJ2 hJ
  exact⟨⟨A,c,he,hN⟩,hs⟩
theorem comb_bad{ri:Int}{ks:List (List Nd)}{ok:Bool}{Y:List Nd}(h:CombS l fs rs xs st ri ks ok Y)(h0:¬(QZ l fs rs xs st ri ks).1=0):ok=false/\Y= []:=by
 rcases h with ⟨_,a,b⟩|⟨a,_⟩
 ·exact⟨a,b⟩
 ·rw[a]at h0;exact absurd rfl h0
theorem comb_ok{ri:Int}{ks:List (List Nd)}{ok:Bool}{Y:List Nd}(h:CombS l fs rs xs st ri ks ok Y)(h0:QZ l fs rs xs st ri ks=(0,0)):J3 l (grR rs ri) 0 ks ok Y:=by
 rcases h with ⟨a,_⟩|⟨_,a⟩
 ·rw[h0]at a;exact absurd rfl a
 ·exact a
section
section join
variable {l:List Ty} {U:List Nd} {J:List (Nat×Nat)} {rep r0:Nat->Nat} {k i j:Nat} {ch:Bool}
structure CS(l:List Ty)(U:List Nd)(J:List (Nat×Nat))(k:Nat)(rep:Nat->Nat):Prop where
 lt:∀ i,i<U.length->rep i<U.length
 id:∀ i,i<U.length->rep (rep i)=rep i
 only:∀ c θ,Adm l U c θ->(∀ p∈J,θ p.1=θ p.2)->∀ i,i<U.length->θ i=θ (rep i)
 jc:∀ p∈J.take k,rep p.1=rep p.2
theorem CS.start:CS l U J 0 (fun i=>i):=⟨fun _ h=>h,fun _ _=>rfl,fun _ _ _ _ _ _=>rfl,fun p hp=>by simp at hp⟩
theorem CS.ren(h:CS l U J k rep)(ha:a<U.length)(ra:rep a=a)(hab:∀ c θ,Adm l U c θ->(∀ p∈J,θ p.1=θ p.2)->θ a=θ b):CS l U J k (UF.un rep a b):=by
 refine⟨fun i hi=>?_,fun i hi=>?_,fun c θ hθ hj i hi=>?_,fun p hp=>?_⟩
 ·unfold UF.un;split
  ·exact ha
  ·exact h.lt i hi
 ·unfold UF.un
  by_cases e:rep i=b
  ·grind
  ·rw[if_neg e,h.id i hi,if_neg e]
 ·have h1:=h.only c θ hθ hj i hi
  unfold UF.un
  grind
 ·unfold UF.un;rw[h.jc p hp]
theorem CS.pair{x y:Nat}(h:CS l U J k rep)(hk:k<J.length)(hxy:J[k]=(x,y))(hx:x<U.length)(hy:y<U.length):CS l U J (k+1) (UF.un rep (rep x) (rep y)):=by
 have h1:=h.ren (b:=rep y) (h.lt x hx) (h.id x hx) (fun c θ hθ hj=>by
  rw[<- h.only c θ hθ hj x hx,<- h.only c θ hθ hj y hy];have:=hj _ (am hk)
  rwa[hxy]at this)
 refine⟨h1.lt,h1.id,h1.only,fun p hp=>?_⟩;rw[List.take_succ_eq_append_getElem hk]at hp;rcases aE.1 hp with hp|hp
 ·exact h1.jc p hp
 ·rw[List.mem_singleton.1 hp,hxy]
  unfold UF.un;simp only
  split<;>simp
def LC(U:List Nd)(rep:Nat->Nat)(a b:Nat):Prop:=∀ x∈(nd U a).ln,∀ y∈(nd U b).ln,x.1=y.1->rep x.2.toNat=rep y.2.toNat
structure JP(l:List Ty)(U:List Nd)(J:List (Nat×Nat))(k:Nat)(r0 rep:Nat->Nat)(ch:Bool)(i j:Nat):Prop where
 cs:CS l U J k rep
 le:roots U.length rep<=roots U.length r0
 less:ch=true->roots U.length rep<roots U.length r0
 done:ch=false->∀ a b,a<U.length->b<a->(a<i\/a=i/\b<j)->rep a=rep b->LC U rep a b
theorem JP.start(h:CS l U J k rep):JP l U J k rep rep false 0 0:=⟨h,ah _,(fun h=>nomatch h),fun _ a b _ _ h=>by omega⟩
theorem JP.row(h:JP l U J k r0 rep ch i i):JP l U J k r0 rep ch (i+1) 0:=⟨h.cs,h.le,h.less,fun hc a b ha hb hx=>h.done hc a b ha hb oG⟩
theorem JP.skip(h:JP l U J k r0 rep ch i j)(hn:¬rep i=rep j):JP l U J k r0 rep ch i (j+1):=⟨h.cs,h.le,h.less,fun hc a b ha hb hx he=>by
 by_cases e:a=i/\b=j
 ·grind
 ·exact h.done hc a b ha hb oG he⟩
def LP(U:List Nd)(rep:Nat->Nat)(i j p q:Nat):Prop:=∀ a b (ha:a<(nd U i).ln.length) (hb:b<(nd U j).ln.length),(a<p\/a=p/\b<q)->((nd U i).ln[a]).1=((nd U j).ln[b]).1->rep ((nd U i).ln[a]).2.toNat=rep ((nd U j).ln[b]).2.toNat
structure JK(l:List Ty)(U:List Nd)(J:List (Nat×Nat))(k:Nat)(r0 rep:Nat->Nat)(ch:Bool)(i j p q:Nat):Prop where
 pp:JP l U J k r0 rep ch i j
 eq:rep i=rep j
 lp:ch=false->LP U rep i j p q
variable {p q:Nat}
theorem JK.start(h:JP l U J k r0 rep ch i j)(he:rep i=rep j):JK l U J k r0 rep ch i j 0 0:=⟨h,he,fun _ a b _ _ hx=>by omega⟩
theorem JK.row(h:JK l U J k r0 rep ch i j p (nd U j).ln.length):JK l U J k r0 rep ch i j (p+1) 0:=⟨h.pp,h.eq,fun hc a b ha hb hx=>h.lp hc a b ha hb oG⟩
theorem JK.skip(h:JK l U J k r0 rep ch i j p q)(hp:p<(nd U i).ln.length)(hq:q<(nd U j).ln.length)(hn:((nd U i).ln[p]).1=((nd U j).ln[q]).1->rep ((nd U i).ln[p]).2.toNat=rep ((nd U j).ln[q]).2.toNat):JK l U J k r0 rep ch i j p (q+1):=⟨h.pp,h.eq,fun hc a b ha hb hx=>by
 by_cases e:a=p/\b=q
 ·grind
 ·exact h.lp hc a b ha hb oG⟩
theorem JK.ren(h:JK l U J k r0 rep ch i j p q)(hi:i<U.length)(hj:j<U.length)(hp:p<(nd U i).ln.length)(hq:q<(nd U j).ln.length)(he:((nd U i).ln[p]).1=((nd U j).ln[q]).1)(hx:((nd U i).ln[p]).2.toNat<U.length)(hy:((nd U j).ln[q]).2.toNat<U.length)(hne:¬rep ((nd U i).ln[p]).2.toNat=rep ((nd U j).ln[q]).2.toNat):
  JK l U J k r0 (UF.un rep (rep ((nd U j).ln[q]).2.toNat) (rep ((nd U i).ln[p]).2.toNat)) true i j p (q+1):=by
 have c:=h.pp.cs
 have hr:=c.ren (a:=rep ((nd U j).ln[q]).2.toNat) (b:=rep ((nd U i).ln[p]).2.toNat) (c.lt _ hy) (c.id _ hy) (fun d θ hθ hJ=>by
  rw[<- c.only d θ hθ hJ _ hx,<- c.only d θ hθ hJ _ hy];have e1:=hθ.ln i hi _ (am hp);have e2:=hθ.ln j hj _ (am hq);have e3:θ i=θ j:=by rw[c.only d θ hθ hJ i hi,c.only d θ hθ hJ j hj,h.eq]
  rw[e3,he,e2]at e1
  exact Int.ofNat.inj e1)
 have hl:=Cv (n:=U.length) (rep:=rep) (a:=rep ((nd U j).ln[q]).2.toNat) (b:=rep ((nd U i).ln[p]).2.toNat) (c.lt _ hx) (c.id _ hx) (c.id _ hy) (fun e=>hne e.symm);have hle:=h.pp.le;refine⟨⟨hr,by omega,fun _=>by omega,fun h=>nomatch h⟩,?_,fun h=>nomatch h⟩;unfold UF.un;rw[h.eq]
theorem JK.done(h:JK l U J k r0 rep ch i j (nd U i).ln.length 0):JP l U J k r0 rep ch i (j+1):=⟨h.pp.cs,h.pp.le,h.pp.less,fun hc a b ha hb hx he=>by
 by_cases e:a=i/\b=j
 ·obtain⟨rfl,rfl⟩:=e
  intro x hxm y hym hxy
  obtain⟨u,hu,rfl⟩:=aW hxm
  obtain⟨v,hv,rfl⟩:=aW hym
  exact h.lp hc u v hu hv (.inl hu) hxy
 ·exact h.pp.done hc a b ha hb oG he⟩
structure JF(l:List Ty)(U:List Nd)(J:List (Nat×Nat))(rep:Nat->Nat):Prop where
 cs:CS l U J J.length rep
 clo:∀ a b,a<U.length->b<U.length->rep a=rep b->LC U rep a b
theorem JP.end_(hs:∀ i,i<U.length->Srt (nd U i).ln)(h:JP l U J J.length r0 rep false U.length 0):JF l U J rep:=by
 refine⟨h.cs,fun a b ha hb he=>?_⟩;rcases Nat.lt_trichotomy a b with hab|hab|hab
 ·have:=h.done rfl b a hb hab (.inl hb) he.symm
  exact fun x hx y hy e=>(this y hy x hx e.symm).symm
 ·subst hab
  intro x hx y hy e;have e1:=C4 (hs a ha) hx
  grind[C4]
 ·exact h.done rfl a b ha hab (.inl ha) he
def rpL(rep:Nat->Nat)(xs:List (Int×Int)):List (Int×Int):=xs.map (fun x=>(x.1,((rep x.2.toNat:Nat):Int)))
def V9(L:List (Int×Int))(k:Nat)(x:Int×Int):List (Int×Int):=L.take k++x::L.drop k
theorem insL_mem{k:Nat}{z:Int×Int}:z∈V9 L k x↔z=x\/z∈L:=by
 grind[V9,List.mem_of_mem_take,List.mem_of_mem_drop,List.take_append_drop]
theorem Gx(L:List (Int×Int))(k:Nat)(x:Int×Int):(V9 L k x).length=L.length+1:=by
 grind[V9,List.take_append_drop,List.length_append,List.length_cons]
theorem insL_srt{k:Nat}(h:Srt L)(hk:k<=L.length)(h1:∀ i (hi:i<L.length),i<k->(L[i]).1<x.1)(h2:∀ hk:k<L.length,¬(L[k]).1<x.1)(hn:∀ y∈L,y.1≠x.1):Srt (V9 L k x):=by
 unfold V9;have hd:Srt (L.take k++L.drop k):=by rw[List.take_append_drop];exact h
 obtain⟨a1,a2,a3⟩:=List.pairwise_append.1 hd;have hlo:∀ y∈L.take k,y.1<x.1:=fun y hy=>by
  grind[List.getElem_of_mem,List.length_take,h1]
 have hhi:∀ y∈L.drop k,x.1<y.1:=fun y hy=>by
  by_cases a4:k<L.length
  ·have e:L.drop k=L[k]::L.drop (k+1):=List.drop_eq_getElem_cons a4
   have h3:=h2 a4;have h4:=hn _ (am a4);rw[e]at hy a2;rcases ax.1 hy with hy|hy
   ·rw[hy];omega
   ·have:=(aO.1 a2).1 y hy
    omega
  ·grind
 refine List.pairwise_append.2 ⟨a1,aO.2 ⟨hhi,a2⟩,fun y hy z hz=>?_⟩
 grind
theorem rpL_ins(rep:Nat->Nat)(L:List (Int×Int))(k:Nat)(x:Int×Int):rpL rep (V9 L k x)=V9 (rpL rep L) k (x.1,((rep x.2.toNat:Nat):Int)):=by
 simp[rpL,V9,List.map_take,List.map_drop]
theorem rpL_len(rep:Nat->Nat)(L:List (Int×Int)):(rpL rep L).length=L.length:=by simp[rpL]
theorem rpL_no{f:Int}(h:tgt (rpL rep L) f<0):∀ y∈L,y.1≠f:=fun y hy e=>by
 have hm:(f,((rep y.2.toNat:Nat):Int))∈rpL rep L:=av.2 ⟨y,hy,by rw[<- e]⟩
 have key:∀ {xs:List (Int×Int)} {t:Int},(∀ z∈xs,0<=z.2)->(f,t)∈xs->0<=tgt xs f:=fun {xs t} hz hm=>by
  unfold tgt
  grind
 have:=key (fun z hz=>by
  obtain⟨y,_,rfl⟩:=av.1 hz
  exact Int.natCast_nonneg _) hm
 omega
theorem rpL_yes{f:Int}(h:0<=tgt (rpL rep L) f):∃ t,(f,t)∈L:=by
 obtain⟨y,hy,e⟩:=av.1 (M4 h);have e1:=congrArg Prod.fst e;simp only at e1;exact⟨y.2,by rw[<- e1];exact hy⟩
structure MJ(l:List Ty)(U:List Nd)(J:List (Nat×Nat))(rep:Nat->Nat)(seen:Nat->Bool)(T:Nat->Int)(L:Nat->List (Int×Int))(it il q:Nat):Prop where
 seen:∀ c,seen c=true↔∃ u,u<it/\rep u=c
 ty:∀ c,c<U.length->0<=T c/\T c<l.length
 cov:∀ u,u<it->sub l (T (rep u)).toNat (nd U u).ty.toNat=true
 low:∀ c θ,(∀ i,i<c.length->0<=(nd c i).ty/\(nd c i).ty<l.length)->Adm l U c θ->(∀ p∈J,θ p.1=θ p.2)->∀ u,u<it->sub l (nd c (θ (rep u))).ty.toNat (T (rep u)).toNat=true
 srt:∀ c,Srt (L c)
 val:∀ c,∀ x∈L c,∃ u,u<U.length/\rep u=c/\x∈(nd U u).ln
 lc1:∀ u,u<il->∀ x∈(nd U u).ln,∃ t,(x.1,t)∈L (rep u)
 lc2:∀ x∈(nd U il).ln.take q,∃ t,(x.1,t)∈L (rep il)
variable {seen:Nat->Bool} {T:Nat->Int} {L:Nat->List (Int×Int)}
theorem MJ.start(hp:0<l.length):MJ l U J rep (fun _=>false) (fun _=>0) (fun _=>[]) 0 0 0:=
 ⟨fun c=>⟨(fun h=>nomatch h),fun⟨u,hu,_⟩=>absurd hu (aA _)⟩,fun c _=>⟨aM _,by omega⟩,fun u hu=>absurd hu (aA _),fun _ _ _ _ _ u hu=>absurd hu (aA _),fun _=>List.Pairwise.nil,(fun c x hx=>by cases hx),fun u hu=>absurd hu (aA _),fun x hx=>by simp at hx⟩
theorem MJ.first(hv:VT l)(hc:CS l U J k rep)(h:MJ l U J rep seen T L i i 0)(hi:i<U.length)(hty:0<=(nd U i).ty/\(nd U i).ty<l.length)(hn:seen (rep i)=false):MJ l U J rep (Z3 seen (rep i)) (fun x=>if x=rep i then (nd U i).ty else T x) L (i+1) i 0:=by
 have hns:∀ u,u<i->rep u≠rep i:=fun u hu e=>by
  have:=(h.seen (rep i)).2 ⟨u,hu,e⟩
  grind
 refine⟨fun c=>?_,fun c hc=>?_,fun u hu=>?_,fun c θ hct hθ hj u hu=>?_,h.srt,h.val,h.lc1,h.lc2⟩
 ·unfold Z3
  by_cases e:c=rep i
  ·grind
  ·rw[if_neg e,h.seen c]
   grind
 ·(try dsimp only)
  split
  ·exact hty
  ·exact h.ty c hc
 ·(try dsimp only)
  by_cases e:u=i
  ·subst e;rw[if_pos rfl];exact Y0 hv _
  ·rw[if_neg (hns u oG)];exact h.cov u oG
 ·(try dsimp only)
  by_cases e:u=i
  ·subst e
   rw[if_pos rfl,<- hc.only c θ hθ hj u hi];exact hθ.ty u hi
  ·rw[if_neg (hns u oG)];exact h.low c θ hct hθ hj u oG
theorem MJ.meet(hs:V5 l)(hc:CS l U J k rep)(h:MJ l U J rep seen T L i i 0)(hi:i<U.length)(hn:seen (rep i)=true)(ht:(Go.Proofs.YtgcgnkmmbecfmaaGreatDoor.meet l (T (rep i)).toNat (nd U i).ty.toNat).2.1=true)(hm:(Go.Proofs.YtgcgnkmmbecfmaaGreatDoor.meet l (T (rep i)).toNat (nd U i).ty.toNat).1=m):MJ l U J rep seen (fun x=>if x=rep i then (m:Int)else T x) L (i+1) i 0:=by
 obtain⟨m1,m2,m3⟩:=Oy hs.le (a:=(T (rep i)).toNat) (b:=(nd U i).ty.toNat) ht;rw[hm]at m1 m2 m3;have m2':sub l m (T (rep i)).toNat=true/\sub l m (nd U i).ty.toNat=true:=by simpa[jY]using m2
 obtain⟨v,hvi,hvr⟩:=(h.seen (rep i)).1 hn;refine⟨fun c=>?_,fun c hc=>?_,fun u hu=>?_,fun c θ a1 hθ hj u hu=>?_,h.srt,h.val,h.lc1,h.lc2⟩
 ·rw[h.seen c]
  exact⟨fun⟨u,hu,hr⟩=>⟨u,by omega,hr⟩,fun⟨u,hu,hr⟩=>by
   by_cases e:u=i
   ·exact⟨v,hvi,by rw[hvr,<- e];exact hr⟩
   ·exact⟨u,by omega,hr⟩⟩
 ·(try dsimp only)
  split
  ·omega
  ·exact h.ty c hc
 ·(try dsimp only)
  by_cases e:rep u=rep i
  ·rw[if_pos e,Int.toNat_natCast]
   by_cases e2:u=i
   ·rw[e2];exact m2'.2
   ·have:=h.cov u oG
    rw[e]at this;exact XY hs.vt m2'.1 this
  ·rw[if_neg e]
   exact h.cov u (by
    have:u≠i:=fun e2=>e (by rw[e2])
    omega)
 ·(try dsimp only)
  by_cases e:rep u=rep i
  ·rw[if_pos e,e,Int.toNat_natCast]
   have s1:=h.low c θ a1 hθ hj v hvi;rw[hvr]at s1;have s2:=hθ.ty i hi;rw[hc.only c θ hθ hj i hi]at s2;have hl:=hθ.lt _ (hc.lt i hi);have:=a1 _ hl;exact m3 _ oG (by simp[jY,s1,s2])
  ·rw[if_neg e]
   exact h.low c θ a1 hθ hj u (by
    have:u≠i:=fun e2=>e (by rw[e2])
    omega)
theorem MJ.fail(hs:V5 l)(hc:CS l U J k rep)(h:MJ l U J rep seen T L i i 0)(hi:i<U.length)(hty:0<=(nd U i).ty/\(nd U i).ty<l.length)(hn:seen (rep i)=true)(hm:(Go.Proofs.YtgcgnkmmbecfmaaGreatDoor.meet l (T (rep i)).toNat (nd U i).ty.toNat).2.1=false):¬EY l U J:=by
 rintro⟨c,θ,hct,hθ,hj⟩
 obtain⟨v,hvi,hvr⟩:=(h.seen (rep i)).1 hn;have s1:=h.low c θ hct hθ hj v hvi;rw[hvr]at s1;have s2:=hθ.ty i hi;rw[hc.only c θ hθ hj i hi]at s2;have hl:=hθ.lt _ (hc.lt i hi);have h1:=hct _ hl;have h2:=h.ty _ (hc.lt i hi);have:=hs.all (T (rep i)).toNat (nd U i).ty.toNat (nd c (θ (rep i))).ty.toNat oG oG oG (by simp[jY,s1,s2]);rw[hm]at this;cases this
theorem take_ln{x:Nd}{q:Nat}(hq:q<x.ln.length):x.ln.take (q+1)=x.ln.take q++[x.ln[q]]:=List.take_succ_eq_append_getElem hq
theorem MJ.old{it:Nat}(h:MJ l U J rep seen T L it i q)(hq:q<(nd U i).ln.length)(ht:0<=tgt (rpL rep (L (rep i))) ((nd U i).ln[q]).1):MJ l U J rep seen T L it i (q+1):=
 ⟨h.seen,h.ty,h.cov,h.low,h.srt,h.val,h.lc1,fun x hx=>by
  rw[take_ln hq]at hx
  rcases aE.1 hx with hx|hx
  ·exact h.lc2 x hx
  ·rw[List.mem_singleton.1 hx];exact rpL_yes ht⟩
theorem MJ.new{it k:Nat}(h:MJ l U J rep seen T L it i q)(hi:i<U.length)(hq:q<(nd U i).ln.length)(ht:tgt (rpL rep (L (rep i))) ((nd U i).ln[q]).1<0)(hk:k<=(L (rep i)).length)(h1:∀ j (hj:j<(L (rep i)).length),j<k->((L (rep i))[j]).1<((nd U i).ln[q]).1)(h2:∀ hk:k<(L (rep i)).length,¬((L (rep i))[k]).1<((nd U i).ln[q]).1):
  MJ l U J rep seen T (fun x=>if x=rep i then V9 (L (rep i)) k ((nd U i).ln[q])else L x) it i (q+1):=by
 have hmem:∀ c z,z∈L c->z∈(if c=rep i then V9 (L (rep i)) k ((nd U i).ln[q])else L c):=fun c z hz=>by
  split
  ·rename_i e;rw[e]at hz;exact insL_mem.2 (.inr hz)
  ·exact hz
 refine⟨h.seen,h.ty,h.cov,h.low,fun c=>?_,fun c x hx=>?_,fun u hu x hx=>?_,fun x hx=>?_⟩
 ·(try dsimp only)
  split
  ·exact insL_srt (h.srt _) hk h1 h2 (rpL_no ht)
  ·exact h.srt c
 ·(try dsimp only at hx)
  split at hx
  ·rename_i e
   rcases insL_mem.1 hx with hx|hx
   ·grind
   ·rw[e];exact h.val _ x hx
  ·exact h.val c x hx
 ·obtain⟨t,h3⟩:=h.lc1 u hu x hx
  grind
 ·rw[take_ln hq]at hx
  rcases aE.1 hx with hx|hx
  ·obtain⟨t,h3⟩:=h.lc2 x hx
   grind
  ·rw[List.mem_singleton.1 hx]
   exact⟨((nd U i).ln[q]).2,by simp only[if_true];exact insL_mem.2 (.inl rfl)⟩
theorem MJ.next(h:MJ l U J rep seen T L (i+1) i (nd U i).ln.length):MJ l U J rep seen T L (i+1) (i+1) 0:=
 ⟨h.seen,h.ty,h.cov,h.low,h.srt,h.val,fun u hu x hx=>by
  by_cases e:u=i
  ·subst e;exact h.lc2 x (by rw[List.take_length];exact hx)
  ·exact h.lc1 u oG x hx,fun x hx=>by simp at hx⟩
theorem MJ.us(hF:JF l U J rep)(h:MJ l U J rep seen T L U.length U.length 0)(a2:∀ i,i<U.length->∀ x∈(nd U i).ln,0<=x.2/\x.2.toNat<U.length)(hJ:∀ p∈J,p.1<U.length/\p.2<U.length):US l U J rep rep (fun i=>if rep i=i then 0 else 1) T L []:=by
 have hc:=hF.cs;refine⟨⟨fun i hi hne=>?_,hc.lt,hc.lt,fun i hi=>hc.id i hi,fun i hi=>hc.id i hi,fun i hi h=>h⟩,h.ty,fun i _=>h.srt i,(fun w hw=>by cases hw),fun c θ hct hθ hj=>⟨⟨hc.only c θ hθ hj,fun w hw=>by cases hw⟩,fun i hi hr=>?_⟩,h.cov,fun i hi x hx=>?_,fun p hp κ hκ=>?_,fun i _ _ x hx=>h.val i x hx,a2⟩
 ·rw[if_neg hne,if_pos (hc.id i hi)];exact Nat.zero_lt_one
 ·have:=h.low c θ hct hθ hj i hi
  rwa[hr]at this
 ·obtain⟨t,ht⟩:=h.lc1 i hi x hx
  refine⟨t,ht,fun κ hκ=>?_⟩;obtain⟨u,hu,a1,hum⟩:=h.val _ _ ht;have e:=hF.clo i u hi hu a1.symm x hx _ hum rfl;rw[hκ.1 _ (a2 i hi x hx).2,hκ.1 _ (a2 u hu _ hum).2,e]
 ·have e:=hc.jc p (by rw[List.take_length];exact hp)
  have:=hJ p hp;rw[hκ.1 _ this.1,hκ.1 _ this.2,e]
end join
end
theorem cur_drop{cur:Array Value}{Ps Ys:List Value}{j:Nat}{v:Value}(h:cur.toList.take m=Ps++Ys)(hj:Ys[j]? =some v):cur[Ps.length+j]? =some v:=by
 have h1:(Ps++Ys)[Ps.length+j]? =some v:=by
  rw[List.getElem?_append_right (Nat.le_add_right _ _),Nat.add_sub_cancel_left];exact hj
 rw[<- h,List.getElem?_take]at h1
 split at h1
 ·simpa using h1
 ·cases h1
theorem cur_take{cur:Array Value}{Ps Ys:List Value}{j:Nat}{v:Value}(h:cur.toList.take m=Ps++Ys)(hj:Ps[j]? =some v):cur[j]? =some v:=by
 have hlt:=(au.1 hj).1;have h1:(Ps++Ys)[j]? =some v:=by
  rw[List.getElem?_append_left hlt];exact hj
 rw[<- h,List.getElem?_take]at h1
 split at h1
 ·simpa using h1
 ·cases h1
def lk1(x:Int×Int):List Value:=[Value.int .i64 x.1,Value.int .i64 x.2]
theorem FY(L:List (Int×Int))(k:Nat)(x:Int×Int):lnV (V9 L k x)=lnV (L.take k)++(lk1 x++lnV (L.drop k)):=by
 unfold V9;rw[E9,show x::L.drop k= [x]++L.drop k from rfl,E9];rfl
theorem W0(L:List (Int×Int))(k:Nat):lnV L=lnV (L.take k)++lnV (L.drop k):=by rw[<- E9,List.take_append_drop]
theorem tk_len(hk:k<=L.length):(lnV (L.take k)).length=k*2:=by rw[Q6,List.length_take,Nat.min_eq_left hk]
theorem dr_len:(lnV (L.drop k)).length=(L.length-k)*2:=by rw[Q6,List.length_drop]
theorem ins_new{g:Nat}{R0:Array Value}{Zs:List Value}(hb:Blk w g 83 (cpy (cpy R0 (0+k*2) (lk1 x)) (0+(k+1)*2) (lnV (L.drop k))))(hR:R0.toList=lnV (L.take k)++Zs)(hsz:R0.size=cap*2)(a2:L.length+1<=cap)(hm:cap<=9223372036854775807)(a1:base<=g)(hk:k<=L.length):Own w base 83 2 (some ⟨g,0,none⟩) (L.length+1) cap (lnV (V9 L k x)):=by
 have h1:=tk_len hk;have h2:=dr_len (L:=L) (k:=k);have h3:(lk1 x).length=2:=rfl;refine own_mk hb a1 a2 hm ?_ ?_
 ·rw[QV,QV,hsz]
  ·rw[hsz,h3];omega
  ·rw[QV,hsz,h2]
   ·omega
   ·rw[hsz,h3];omega
 ·rw[FY,show (L.length+1)*2=(lnV (L.take k)).length+(lk1 x).length+(lnV (L.drop k)).length by omega]
  exact cpy_new hR oG oG
theorem ins_move{g:Nat}{R0:Array Value}(hb:Blk w g 83 (cpy (cpy R0 (0+(k+1)*2) (lnV (L.drop k))) (0+k*2) (lk1 x)))(hR:R0.toList.take (L.length*2)=lnV L)(hsz:R0.size=cap*2)(a2:L.length+1<=cap)(hm:cap<=9223372036854775807)(a1:base<=g)(hk:k<=L.length):Own w base 83 2 (some ⟨g,0,none⟩) (L.length+1) cap (lnV (V9 L k x)):=by
 have h1:=tk_len hk;have h2:=dr_len (L:=L) (k:=k);have h3:(lk1 x).length=2:=rfl;have h4:R0.toList=lnV (L.take k)++(lnV (L.drop k)++R0.toList.drop (L.length*2)):=by
  rw[<- List.append_assoc,<- W0,<- hR,List.take_append_drop]
 have h5:(R0.toList.drop (L.length*2)).length=cap*2-L.length*2:=by rw[List.length_drop,Array.length_toList,hsz]
 refine own_mk hb a1 a2 hm ?_ ?_
 ·rw[QV,QV,hsz]
  ·rw[hsz,h2];omega
  ·rw[QV,hsz,h3]
   ·omega
   ·rw[hsz,h2];omega
 ·rw[FY,show (L.length+1)*2=(lnV (L.take k)).length+(lk1 x).length+(lnV (L.drop k)).length by omega]
  exact cpy_move h4 oG oG oG
theorem ins_end(h:Own w base 83 2 A (L.length+1) cap (lnV L++lk1 x)):Own w base 83 2 A (L.length+1) cap (lnV (V9 L L.length x)):=by
 rw[FY,List.take_length,List.drop_eq_nil_of_le (Nat.le_refl _)]
 simpa[lnV]using h
theorem lk1_one(x:Int×Int):∀ v∈lk1 x,v.oneCell'=true:=fun v hv=>by
 simp only[lk1,List.mem_cons,List.not_mem_nil,or_false]at hv
 rcases hv with rfl|rfl<;>rfl
theorem G6(xs:List (Int×Int)):∀ v∈lnV xs,v.oneCell'=true:=aC.1 (FW xs)
theorem ovl_any{la ca lb cb oa ob:Nat}{tA tB:TypeId}{ka kb:Array Value}(ha:Blk w a tA ka)(hb:Blk w b tB kb)(hne:a≠b)(hk:kb.size≠0):(callFunc 90 #[.slice (some ⟨a,oa,none⟩) la ca,.slice (some ⟨b,ob,none⟩) lb cb]).run prog w= .ok (.value (.bool false)) w:=
 run_apart (fn:=Tryz.f90) (t:=78) (tR:=4) (e:=83) kR kR kR kR kR U78 (sz:=2) kR ha hb hne hk
theorem clonel_any(A:Option Addr)(c:Nat)(xs:List (Int×Int))(w:World)(hL:LinksIn w A xs)(hl:xs.length<=1000000):Calls prog 68 #[.slice A xs.length c] w fun e w'=>(∃ A' cap',e= .returned (.slice A' xs.length cap')/\Own w' w.heap.size 83 2 A' xs.length cap' (lnV xs))/\Bel w w':=by
 refine enT func68 ntmps68 rfl rfl fun hB=>?_;refine zn9 ?_;refine wl (Lq U78 rfl rfl) (zJ (e_S ?_));refine jQ rfl (fun c4=>?_) (fun c4=>?_)
 ·have hn:xs= []:=by
    refine aG (fun hne=>?_);obtain⟨b,o,h,_⟩:=hL.2 hne;rw[h]at c4;cases c4
  subst hn;refine zn8 ?_;exact⟨⟨none,0,rfl,Own.nil _ _ _ _⟩,hB⟩
 refine zn4 ?_;refine wl_bs0 U78 qv (fun b5 w1 hb5 s1 hr=>?_);have lo5:=hB.ob hr;refine wmS rfl ?_;have a1:=YK (sz:=2) (m:=0) hb5 (ah b5) rfl dE;refine wl_appL (news:=lnV xs) U78 in83 rfl dE a1 rfl rfl (fun hm=>(hL.mono hB.u).news hm) (Q6 xs) (FW xs) oG oG (Nat.le_of_lt hb5.lt) (fun A7 a2 w9 ho7 s2 hg=>?_);replace hB:=hB.tr0 s1;have hB9:Bel w w9:=hB.tr s2 (fun g hg=>by cases aq.1 hg;exact lo5);refine zn5 ?_;refine⟨⟨A7,a2,?_,?_⟩,hB9⟩
 · show Ending.returned (.slice _ (0+xs.length) _)=_
   rw[Nat.zero_add]
 · have h:=ho7.low lo5
   rw[Nat.zero_add]at h;exact h
set_option maxHeartbeats 1000000 in
theorem insl_any{vc c:Nat}(w:World)(ho:Own w base 83 2 A L.length c (lnV L))(hb:Blk w b 83 #[.int .i64 x.1,.int .i64 x.2])(hA:∀ g∈aL A,g≠b)(hk:k<=L.length)(hl:L.length<=1000000)(a4:base<=w.heap.size):Calls prog 67 #[.slice A L.length c,.int .i64 (k:Nat),.slice (some ⟨b,0,none⟩) 1 vc] w fun e w'=>∃ A' c',e= .returned (.slice A' (L.length+1) c')/\Own w' base 83 2 A' (L.length+1) c' (lnV (V9 L k x))/\Same (aL A) w w'/\∀ g∈aL A',g∈aL A\/w.heap.size<=g:=by
 have hcl:=ho.cap_le;refine enter func67 ntmps67 rfl (aD rfl) (zn9 ?_);refine wl (T9 (l:=k) U78 qv rfl rfl hk) (Kz ?_);refine zQ rfl (fun c16=>?_) (fun c16=>?_)
 ·exact absurd c16 dE
 refine PK ?_;refine zQ rfl (fun c22=>?_) (fun c22=>?_)
 ·have hkn:k=L.length:=by omega
  subst hkn;refine zn4 ?_;refine j7 U78 in83 rfl dE ho hb rfl rfl rfl qz dE oG oG a4 (fun g25 cap25 w25 be bd bf=>?_);refine zn6 ?_;exact⟨_,_,rfl,ins_end be,bd,fun g2 b2=>by rw[List.mem_singleton.1 b2];rcases bf with h|h;(· left;rw[h];exact aq.2 rfl);exact .inr h⟩
 have hkn:k<L.length:=by omega
 obtain⟨g,cur,rfl,hgb,a1,hcm,b6,b4⟩:=ho.whole (show 0<L.length by omega);have hgl:=a1.lt;have hgn:g≠b:=hA g (aq.2 rfl);have b5:=tk_len hk;have b3:=dr_len (L:=L) (k:=k);rw[W0 L k]at b4;refine zn7 ?_;refine wl (Z4 (c:=((L.length+1:Nat):Int)) rfl rfl oG oG) (wmS rfl (wl (r_cap U78 rfl) (zn3 ?_)));refine zQ rfl (fun c31=>?_) (fun c31=>?_)
 ·have a3:c<L.length+1:=by omega
  refine zn4 ?_;refine wl (I7 (h:=k) U78 qv rfl rfl oG) (zn2 ?_);refine wl (Z4 (c:=((L.length+1:Nat):Int)) rfl rfl oG oG) (wmI rfl (wl (kZ (c:=((L.length+1-k:Nat):Int)) rfl rfl oG oG) ?_));refine wl_appZ2 (olds:=lnV (L.take k)) (m:=k) (k:=L.length+1-k) U78 U3 in83 oG dE oG oG oG rfl rfl b5 (fun j v hj=>a1.cell (cur_take b4 hj)) (fun b9 a2 w40 ac a5 a9 hge hle=>?_);have e40:k+(L.length+1-k)=L.length+1:=by omega
  rw[e40]at hge ac ⊢;have hne40:b≠b9:=by have:=hb.lt;omega
  have b1:g≠b9:=by omega
  have hS:SameQ [b9] w40 w40:=Same.refl _ _;obtain⟨Zs,hZs⟩:∃ Zs:List Value,Zs=(Builtin.zeroCells (Value.agg #[.int .i64 0,.int .i64 0]).cells (L.length+1-k)).toList++(Builtin.zeroCells (Value.agg #[.int .i64 0,.int .i64 0]).cells (a2-(L.length+1))).toList:=⟨_,rfl⟩
  obtain⟨R0,b8⟩:∃ R0:Array Value,R0=(lnV (L.take k)).toArray++Builtin.zeroCells (Value.agg #[.int .i64 0,.int .i64 0]).cells (L.length+1-k)++Builtin.zeroCells (Value.agg #[.int .i64 0,.int .i64 0]).cells (a2-(L.length+1)):=⟨_,rfl⟩
  have hRl:R0.toList=lnV (L.take k)++Zs:=by rw[b8,hZs];simp
  have b7:R0.size=a2*2:=by
   rw[b8];simp only[Array.size_append,List.size_toArray,b5,Builtin.zeroCells,Array.size_map,Array.size_range,show (Value.agg #[.int .i64 0,.int .i64 0]).cells.size=2 from rfl];omega
  rw[<- b8]at ac;clear b8 hZs;refine zn7 ?_;refine wl (CZ (l:=k) (l2:=L.length+1-k) U78 qv rfl rfl oG oG oG) (wmS rfl ?_);replace hb:=hb.tr0 a5;refine wl_cp (m:=1) (cs:=lk1 x) U78 qv rfl rfl ac (by simp only[Nat.min_def];split<;>omega) rfl (fun j v hj=>by rw[Addr.add_mid,Nat.zero_add];exact hb.cell (by simpa[lk1]using hj)) (by rw[b7];simp only[lk1,List.length_cons,List.length_nil];omega) (lk1_one x) (fun w45 ab ao=>?_);replace a1:=a1.tr0 a5;replace a1:=a1.tr1 ao b1;replace hS:=SameQ.trans hS ao (by simp);have bj:(cpy R0 (0+k*2) (lk1 x)).size=a2*2:=by rw[QV (by rw[b7];simp only[lk1,List.length_cons,List.length_nil];omega),b7]
  refine zn3 ?_;refine X1 8 kR kR (fun w1 s1=>?_);replace hS:=SameQ.trans hS s1 (by simp);refine zn3 ?_;refine ws (Z4 (c:=((k+1:Nat):Int)) rfl rfl oG oG) (ws (CZ (l:=k+1) (l2:=L.length-k) U78 qv rfl rfl oG oG oG) (zn2 ?_));refine ws (CZ (l:=k) (l2:=L.length-k) U78 qv rfl rfl oG oG oG) (QY ?_);replace a1:=a1.tr0 s1;replace ab:=ab.tr0 s1
  refine wl_cp (m:=L.length-k) (cs:=lnV (L.drop k)) U78 qv rfl rfl ab (by simp only[Nat.min_def];split<;>omega) b3 (fun j v hj=>by
   rw[Addr.add_mid];have h:=cur_drop b4 hj;rw[b5]at h
   exact a1.cell (by rw[Nat.zero_add];exact h)) (by rw[bj,b3];omega) (G6 _) (fun w54 bi bc=>?_)
  replace hS:=SameQ.trans hS bc (by simp);refine jq ?_;exact⟨_,_,rfl,ins_new bi hRl b7 hge hle (nLT a4 a9) hk,(a5.freshL (show Same [b9] _ _ from hS) (fun g hg=> .inr (by rw[List.mem_singleton.1 hg];exact a9))).weak (by simp),fun g2 b2=> .inr (by rw[List.mem_singleton.1 b2];exact a9)⟩
 have a3:L.length+1<=c:=by omega
 refine zn7 ?_;refine wl (Z4 (c:=((L.length+1:Nat):Int)) rfl rfl oG oG) (wl (I7 (h:=(L.length+1)) U78 qv rfl rfl a3) (yW ?_));refine wl (Z4 (c:=((k+1:Nat):Int)) rfl rfl oG oG) (wl (CZ (l:=k+1) (l2:=L.length-k) U78 qv rfl rfl oG oG oG) (wl (r_ext (ovl_any hb a1 (fun e=>hgn e.symm) oG) rfl) (zn3 ?_)));refine jQ rfl (fun c68=>?_) (fun c68=>?_)
 ·have hS:SameQ [g] w w:=Same.refl _ _;refine xV ?_;refine X1 8 kR kR (fun w2 s2=>?_);replace hS:=SameQ.trans hS s2 (by simp);refine zn3 ?_;refine ws (Z4 (c:=((k+1:Nat):Int)) rfl rfl oG oG) (ws (CZ (l:=k+1) (l2:=L.length-k) U78 qv rfl rfl oG oG oG) (zn2 ?_));refine ws (CZ (l:=k) (l2:=L.length+1-k) U78 qv rfl rfl oG oG oG) (QY ?_);replace a1:=a1.tr0 s2
  refine wl_cp (m:=L.length-k) (cs:=lnV (L.drop k)) U78 qv rfl rfl a1 (by simp only[Nat.min_def];split<;>omega) b3 (fun j v hj=>by
   rw[Addr.add_mid];have h:=cur_drop b4 hj;rw[b5]at h
   exact a1.cell (by rw[Nat.zero_add];exact h)) (by rw[b6,b3];omega) (G6 _) (fun w77 bh an=>?_)
  replace hS:=SameQ.trans hS an (by simp);replace hb:=hb.tr0 s2;replace hb:=hb.tr1 an (fun e=>hgn e.symm);have bj:(cpy cur (0+(k+1)*2) (lnV (L.drop k))).size=c*2:=by rw[QV (by rw[b6,b3];omega),b6]
  refine zn6 ?_;refine wl (CZ (l:=k) (l2:=L.length+1-k) U78 qv rfl rfl oG oG oG) (wmS rfl ?_);refine wl_cp (m:=1) (cs:=lk1 x) U78 qv rfl rfl bh (by simp only[Nat.min_def];split<;>omega) rfl (fun j v hj=>by rw[Addr.add_mid,Nat.zero_add];exact hb.cell (by simpa[lk1]using hj)) (by rw[bj];simp only[lk1,List.length_cons,List.length_nil];omega) (lk1_one x) (fun w82 bg bb=>?_);replace hS:=SameQ.trans hS bb (by simp);refine jq ?_;exact⟨_,_,rfl,ins_move bg (by rw[W0 L k];exact b4) b6 a3 hcm hgb hk,by simpa[aL,SameQ]using hS,fun g2 b2=> .inl b2⟩
 exact absurd c68 dE
theorem ren_any{n c:Nat}{rep:Nat->Nat}(w:World)(hn:n<=1000000)(hb:Blk w b 3 (row n (fun x=> .int .i64 ((rep x:Nat):Int)))):Calls prog 65 #[.slice (some ⟨b,0,none⟩) n n,.int .i64 (c:Nat),.int .i64 (a:Nat)] w fun e w'=>e= .returned (.tuple #[])/\Blk w' b 3 (row n (fun x=> .int .i64 ((UF.un rep a c x:Nat):Int)))/\Same [b] w w':=by
 have hS:SameQ [b] w w:=Same.refl _ _;refine enter func65 ntmps65 rfl (aD rfl) (zn8 ?_);refine qx (rg [6] 9 14) (fun m g w'=>∃ k:Nat,k<=n/\m=n-k/\g 9= .int .i64 k/\Blk w' b 3 (row n (fun x=> .int .i64 (((if x<k then UF.un rep a c x else rep x:Nat)):Int)))/\SameQ [b] w w') (n) ?_ (fun m g1 w1 hI=>?_)
 ·exact⟨0,ag _,rfl,rfl,by rw[xJ (g':=fun x=> .int .i64 ((rep x:Nat):Int)) (fun x _=>by simp)];exact hb,hS⟩
 obtain⟨k,hkk,hm,h9,hb,hS⟩:=hI;refine zX 9 _ h9 nu (zn6 ?_);refine zQ rfl (fun c10=>?_) (fun c10=>?_)
 ·have a2:k<n:=by omega
  have hck:w1.cell? ⟨b,0+k*1,none⟩=some (.int .i64 ((rep k:Nat):Int)):=by
    have h:=hb.cell (vW a2)
    simpa using h
  refine ZV ?_;refine wl (x9 (i:=k) U59 xX rfl rfl a2 rfl) (wl (qy (v:= .int _ _) U3 rfl rfl hck) (zn4 ?_));refine zQ rfl (fun c17=>?_) (fun c17=>?_)
  ·have a1:rep k=c:=by omega
   refine zn4 ?_;refine wl (x9 (i:=k) U59 xX rfl rfl a2 rfl) ?_;refine xQ (v:= .int _ _) hb rfl rfl xX (by rw[row_size];omega) rfl kv (fun w2 hq s1=>?_);replace hS:=SameQ.trans hS s1 (by simp);replace hb:=hq
   rw[xJ (g':=fun x=> .int .i64 (((if x<k+1 then UF.un rep a c x else rep x:Nat)):Int)) (fun x _=>by
     by_cases e:x=k
     · subst e;simp[UF.un,a1]
     · have e1:(x<k+1)↔(x<k):=by omega
       simp[e,e1])]at hb
   refine zn7 ?_;refine x8 (n-(k+1)) oG agA ?_;exact⟨k+1,by omega,rfl,rfl,hb,hS⟩
  have a1:¬rep k=c:=by omega
  rw[xJ (g':=fun x=> .int .i64 (((if x<k+1 then UF.un rep a c x else rep x:Nat)):Int)) (fun x _=>by
    by_cases e:x=k
    · subst e;simp[UF.un,a1]
    · have e1:(x<k+1)↔(x<k):=by omega
      simp[e1])]at hb
  refine zn7 ?_;refine x8 (n-(k+1)) oG agA ?_;exact⟨k+1,by omega,rfl,rfl,hb,hS⟩
 have hke:k=n:=by omega
 rw[hke,xJ (g':=fun x=> .int .i64 ((UF.un rep a c x:Nat):Int)) (fun x hx=>by simp[hx])]at hb;refine zn4 ?_;refine fin0 (.inr rfl) rfl  ?_;exact⟨rfl,hb,hS⟩
end Go.Proofs.YtgcgnkmmbecfmaaGreatDoor
