/- What these functions compute, at every world: lexrule.Places, lexrule.Entry, grammar.Rule, grammar.fault, grammar.Validate, equal.graphOf, equal.Small$1, equal.hierarchyOf and 6 more; and plain laws. -/
import Derived.Test.YtmfiholmfieieaaDoorU
import Derived.Test.YtmfiholmfieieaaDoorZst
import Derived.Test.YtmfiholmfieieaaDoorCmt
import Derived.Test.YtmfiholmfieieaaDoorWWd
import Derived.Test.YtmfiholmfieieaaDoorGro
import Derived.Test.YtmfiholmfieieaaDoorComp
import Derived.Test.YtmfiholmfieieaaDoorEng3
import Derived.Test.YtmfiholmfieieaaDoorTxt
import Derived.Test.YtmfiholmfieieaaDoorWRc
import Derived.Test.YtmfiholmfieieaaDoorFz
namespace Go.Proofs.YtmfiholmfieieaaDoor
open Go.RowKit
theorem EY{a b:Int}(h:b=a):Ending.returned (.int .i64 a)= .returned (.int .i64 b):=by rw[h]
theorem ret_b{a b:Bool}(h:b=a):Ending.returned (.bool a)= .returned (.bool b):=by rw[h]
theorem DQ:zk Tryd.prog 49=true:=by kernel_rfl
theorem G4(G:Option Addr)(cg nf:Nat)(gr:List Nd)(k:Int)(w:World)(hG:NodesIn w G gr)(h0:0<gr.length)(hl:yq nf gr.length (-1) (gr[0]'h0).ln=0)(hw:(gr[0]'h0).ln.length<=1000):Calls Tryd.prog 66 #[.agg #[.slice G (gr).length cg],.int .i64 k] w fun e w'=>e= .returned (.bool (uK gr k))/\Bel w w':=by
 refine enT Tryd.func66 Tryd.ntmps66 rfl rfl fun hB=>?_;refine zn2 ?_;refine qZ (cs:=#[_]) rfl (fun b2 w1 a1 s1 hr=>?_);refine jZ ?_;refine qk (rgq [] 4 14) (fun m g w'=>∃ j:Nat,j<=4/\m=4-j/\g 6= .int .i64 j/\Bel w w'/\Blk w' b2 30 #[.slice G (gr).length cg]/\∀ f,f<j->plN gr k f=true) (4) ?_ (fun m g2 w2 hI=>?_)
 ·exact⟨0,by omega,rfl,rfl,hB.u,a1,fun f hf=>by omega⟩
 obtain⟨j,hj,hm,h6,hB,a1,a2⟩:=hI;refine zZ 6 _ h6 nu (zn6 ?_);refine zK rfl (fun c7=>?_) (fun c7=>?_)
 ·refine VQ ?_;refine aZ kR (YZ G cg nf gr 0 ((j:Nat):Int) _ (hG.mono hB) h0 hl hw) rfl (fun w3 s2=>?_);refine zn4 ?_;refine wl (r_neqB U4 rfl rfl) (x6 (e_S ?_));refine jW rfl (fun a4=>?_) (fun a4=>?_)
  ·have a3:plN gr k j=false:=by
     have h:=a4;rw[Bool.not_eq_true']at h;rw[plN_of h0];exact h
   refine jJ ?_;exact⟨ret_b (pl_no oG a3),hB.u⟩
  have a3:plN gr k j=true:=by
    have h:=a4;rw[Bool.not_eq_false']at h;rw[plN_of h0];exact h
  refine zn7 ?_;refine xY (4-(j+1)) oG agA ?_;replace hB:=hB.tr0 s2;replace a1:=a1.tr0 s2
  exact⟨j+1,by omega,rfl,rfl,hB,a1,fun f hf=>by
    by_cases e:f=j
    · rw[e];exact a3
    · exact a2 f oG⟩
 refine jJ ?_;exact⟨ret_b (pl_yes (fun f hf=>a2 f oG)),hB⟩
theorem entry_any(A B G SA BA:Option Addr)(c d cg cs mB bu bd:Nat)(l:List Ty)(fs:List Ft)(x:Lx)(w:World)(hU:U8In w)(hI:TableIn w l bu bd)(h60:l.length<=60)(hF:FeatsIn w B fs)(hfo:FOk l.length fs)(hG:NodesIn w G x.gr)(hS:SimsIn w SA x.mean.type.args)(hT:TmsIn w BA x.mean.args)(hsz:x.word.size<9223372036854775807):Calls Tryd.prog 48 #[.agg #[.slice A l.length c,.slice B fs.length d],C6 l.length bu bd,.agg #[.string (x).word,.slice G (x).gr.length cg,.int .i64 (x).wt,.int .i64 ((x).mean).kind,.string ((x).mean).name,.int .i64 ((x).mean).index,.string ((x).mean).type.base,.slice SA ((x).mean).type.args.length cs,.slice BA ((x).mean).args.length mB]] w fun e w'=>e= .returned (.int .i64 (D9 l fs x))/\Bel w w':=by
 refine enT Tryd.func48 Tryd.ntmps48 rfl rfl fun hB=>?_;refine zn2 ?_;refine qZ (cs:=#[_,_]) rfl (fun b3 w1 hb3 s1 hr=>?_);refine qZ (cs:=#[_,_]) rfl (fun b4 w2 hb4 s2 hr=>?_);refine qZ (cs:=#[_,_,_,_,_,_,_,_,_]) rfl (fun b5 w3 hb5 s3 hr=>?_);refine zn8 ?_;refine aZ kR (word_p x.word _ (hU.mono hB.u) hsz) rfl (fun w4 s4=>?_);refine zn3 ?_;refine jW rfl (fun a4=>?_) (fun a4=>?_)
 ·have a1:oW x.word=false:=by simpa using a4
  refine zn8 ?_;exact⟨EY (lx_word a1),hB.u⟩
 have a1:oW x.word=true:=by simpa using a4
 refine zn4 ?_;replace hB:=hB.tr0 (s1.t (s2.t (s3.t s4)));refine yy (rgq [] 12 8) 19 (.bool (decide (x.wt<0\/1000000<x.wt))) nu ?_ (fun gq=>?_)
 ·refine zn5 ?_;refine zQ 15 rfl (fun g15=>?_) (fun g15=>?_)
  ·refine zn4 ?_;exact vx
  refine zn7 ?_;exact vx
 refine e_S ?_;refine zK rfl (fun a2=>?_) (fun a2=>?_)
 ·refine zn8 ?_;exact⟨EY (lx_bad a1 a2),hB⟩
 refine zn8 ?_;refine wl (qK U30 rfl rfl (hb5.u.sub (n:=1) (xs:=[_]) rfl) gY) ?_;refine aZ DQ (I7 A B G c d cg bu bd l fs x.gr _ (hI.mono hB) h60 (hF.mono hB) (hG.mono hB) hfo) rfl (fun w5 s5=>?_);refine yx (cs:=#[.int .i64 0,.int .i64 0]) qQ rfl (fun _=>rfl) (fun _=>rfl) zj rfl y5 (fun b7 w7 hb7 s6 hr=>?_);refine zn9 ?_;refine zK rfl (fun a3=>?_) (fun a3=>?_)
 ·refine jZ ?_;exact⟨EY (lx_gr a1 a2 a3),hB.u⟩
 have hin:=aG.1 a3;refine zn5 ?_;refine wl (qK U64 rfl rfl (hb5.u.sub (n:=6) (xs:=[_,_,_,_,_,_]) rfl) Oq) ?_;refine aZ kR (RZ SA BA cs mB x.mean _ (hS.mono hB.u) (hT.mono hB.u)) rfl (fun w8 s7=>?_);refine wl (r_fd1 (v:= .int _ _) U43 rfl U3 rfl rfl rfl) (zn5 ?_);exact⟨EY (lx_ok a1 a2 hin),hB.u⟩
theorem rule_any(A B G SA BA:Option Addr)(c d cg cs mB bu bd:Nat)(l:List Ty)(fs:List Ft)(r:Rl)(w:World)(hI:TableIn w l bu bd)(h60:l.length<=60)(hF:FeatsIn w B fs)(hfo:FOk l.length fs)(h40:fs.length<=40)(hG:NodesIn w G r.gr)(hS:SimsIn w SA r.mean.type.args)(hT:TmsIn w BA r.mean.args):Calls Tryd.prog 47 #[.agg #[.slice A l.length c,.slice B fs.length d],C6 l.length bu bd,.agg #[.string (r).name,.slice G (r).gr.length cg,.int .i64 (r).kids,.int .i64 (r).wt,.int .i64 ((r).mean).kind,.string ((r).mean).name,.int .i64 ((r).mean).index,.string ((r).mean).type.base,.slice SA ((r).mean).type.args.length cs,.slice BA ((r).mean).args.length mB]] w fun e w'=>e= .returned (.int .i64 (JZ l fs r))/\Bel w w':=by
 refine enT Tryd.func47 Tryd.ntmps47 rfl rfl fun hB=>?_;refine zn2 ?_;refine qZ (cs:=#[_,_]) rfl (fun b3 w1 hb3 s1 hr=>?_);refine qZ (cs:=#[_,_]) rfl (fun b4 w2 hb4 s2 hr=>?_);refine qZ (cs:=#[_,_,_,_,_,_,_,_,_,_]) rfl (fun b5 w3 a5 s3 hr=>?_);refine zn5 ?_;replace hB:=hB.tr0 (s1.t (s2.t s3));refine yy (rgq [] 8 18) 25 (.bool (decide (r.kids<1\/3<r.kids\/r.wt<0\/1000000<r.wt))) nu ?_ (fun gq=>?_)
 ·refine zn5 ?_;refine zQ 11 rfl (fun g11=>?_) (fun g11=>?_)
  ·refine VQ ?_;exact vx
  refine zn8 ?_;refine zQ 16 rfl (fun g16=>?_) (fun g16=>?_)
  ·refine zn9 ?_;exact vx
  refine zn8 ?_;refine zQ 21 rfl (fun g21=>?_) (fun g21=>?_)
  ·refine zn4 ?_;exact vx
  refine zn7 ?_;exact vx
 refine e_S ?_;refine zK rfl (fun a1=>?_) (fun a1=>?_)
 ·refine zn8 ?_;exact⟨EY (LW a1),hB⟩
 refine zn8 ?_;refine wl (qK U30 rfl rfl (a5.sub (n:=1) (xs:=[_]) rfl) gY) ?_;refine aZ DQ (I7 A B G c d cg bu bd l fs r.gr _ (hI.mono hB) h60 (hF.mono hB) (hG.mono hB) hfo) rfl (fun w4 s4=>?_);refine yx (cs:=#[.int .i64 0,.int .i64 0]) qQ rfl (fun _=>rfl) (fun _=>rfl) zj rfl y5 (fun b7 w6 hb7 s5 hr=>?_);refine zn9 ?_;refine zK rfl (fun a7=>?_) (fun a7=>?_)
 ·refine jZ ?_;exact⟨EY (rl_gr a1 a7),hB.u⟩
 have a4:=aG.1 a7;have hl0:=HQ a4;have a2:=gok_of hl0;have hw0:=a2.few 0 a2.pos;refine zn6 ?_;refine wl (qK U30 rfl rfl (a5.u.sub (n:=1) (xs:=[_]) rfl) gY) (zn2 ?_);refine aZ kR (G4 G cg fs.length r.gr r.kids _ (hG.mono hB.u) a2.pos (Yx hl0 0 a2.pos) oG) rfl (fun w7 s6=>?_);refine zn3 ?_;refine jW rfl (fun a6=>?_) (fun a6=>?_)
 ·have a3:uK r.gr r.kids=false:=by simpa using a6
  refine zn8 ?_;exact⟨EY (rl_pl a1 a4 a3),hB.u⟩
 have a3:uK r.gr r.kids=true:=by simpa using a6
 refine zn5 ?_;refine wl (qK U64 rfl rfl (a5.u.sub (n:=6) (xs:=[_,_,_,_,_,_]) rfl) Oq) ?_;refine aZ kR (RZ SA BA cs mB r.mean _ (hS.mono hB.u) (hT.mono hB.u)) rfl (fun w8 s7=>?_);refine wl (r_fd1 (v:= .int _ _) U43 rfl U3 rfl rfl rfl) (zn5 ?_);exact⟨EY (rl_ok a1 a4 a3),hB.u⟩
theorem uw(a b:Int)(w:World):Calls Tryd.prog 45 #[.int .i64 a,.int .i64 b] w fun e w'=>e= .returned (flV (a,b))/\Bel w w':=by
 refine enT Tryd.func45 Tryd.ntmps45 rfl rfl fun hB=>?_;refine zn2 ?_;refine qw (cs:=#[.int .i64 0,.int .i64 0]) qQ rfl (fun b4 w1 a1 s1 hr=>?_);have lo4:=hB.ob hr;refine zn6 ?_;refine VY ?_;refine zJ a1 (fun w2 hq s2=>?_);replace a1:=hq;refine zn3 ?_;refine xX (.inl rfl) rfl (zw U43 rfl rfl a1.range0 zj) ?_;exact⟨y8 rfl,hB.u⟩
theorem N4:zk Tryd.prog 20=true:=by kernel_rfl
theorem sz66:(Tryd.prog.info? 66).map (·.size)=some 10:=by kernel_rfl
theorem sz88:(Tryd.prog.info? 88).map (·.size)=some 9:=by kernel_rfl
theorem ze25:(Tryd.prog.info? 25).map (·.zero)=some (some (.agg #[.slice none 0 0,.slice none 0 0])):=by kernel_rfl
theorem ze66:(Tryd.prog.info? 66).map (·.zero)=some (some (.agg cF)):=by kernel_rfl
theorem R9:(Tryd.prog.info? 76).map (·.zero)=some (some (.agg #[.slice none 0 0,.slice none 0 0])):=by kernel_rfl
theorem ze88:(Tryd.prog.info? 88).map (·.zero)=some (some (.agg cG)):=by kernel_rfl
set_option maxHeartbeats 2000000 in
theorem O6(AT AF AR AX AS:Option Addr)(ct cf cr cx cst:Nat)(l:List Ty)(fs:List Ft)(rs:List Rl)(xs:List Lx)(st:List Nd)(w:World)(bv:TabIn w)(hU:U8In w)(hTy:TypesIn w AT l)(hF:FeatsIn w AF fs)(hRu:RulesIn w AR rs)(hLx:LexesIn w AX xs)(hG:NodesIn w AS st):Calls Tryd.prog 18 #[.agg #[.slice AT l.length ct,.slice AF fs.length cf,.slice AR rs.length cr,.slice AX xs.length cx,.slice AS st.length cst]] w fun e w'=>e= .returned (flV (x5 l fs rs xs st))/\Bel w w':=by
 refine enT Tryd.func18 Tryd.ntmps18 rfl rfl fun hB=>?_;refine zn2 ?_;refine qZ (cs:=#[_,_,_,_,_]) rfl (fun b1 w1 a5 s1 hr=>?_);refine qw (cs:=#[.int .i64 0,.int .i64 0]) qQ rfl (fun b2 w2 a1 s2 hr=>?_);have lo2:=hB.u.ob hr;refine zn5 ?_;refine wl (qK U25 rfl rfl (a5.u.sub (n:=2) (xs:=[_,_]) rfl) sz25) ?_;refine yx (cs:=#[.slice none 0 0,.slice none 0 0]) ze25 rfl (fun _=>rfl) (fun _=>rfl) sz25 rfl y5 (fun b3 w4 a7 s3 hr=>?_);refine zn6 ?_;refine aZ kR (Sj AT AF ct cf l fs _ (bv.mono hB.u) (hTy.mono hB.u) (hF.mono hB.u)) rfl (fun w5 s4=>?_);refine yx (cs:=#[.int .i64 0,.int .i64 0]) qQ rfl (fun _=>rfl) (fun _=>rfl) zj rfl y5 (fun b4 w7 hb4 s5 hr=>?_);refine zn9 ?_;refine zK rfl (fun c4=>?_) (fun c4=>?_)
 ·refine zn3 ?_;refine zJ a1.u (fun w8 hq s6=>?_);replace a1:=hq;refine zn4 ?_;refine xX (.inl rfl) rfl (zw U43 rfl rfl a1.range0 zj) ?_;exact⟨y8 (N2 c4),hB.u⟩
 have h0:=aG.1 c4;have hS:=J5 h0;have br:=fok_of h0;have h40:=feats_few h0;refine gX ?_;refine zK rfl (fun c27=>?_) (fun c27=>?_)
 ·refine zn2 ?_;refine aZ kR (uw _ _ _) rfl (fun w9 s7=>?_);refine zJ a1.u (fun w10 hq s8=>?_);replace a1:=hq;refine zn4 ?_;refine xX (.inl rfl) rfl (zw U43 rfl rfl a1.range0 zj) ?_;exact⟨y8 (Dw h0 oG),hB.u⟩
 have an:¬fs.length<=3:=by omega
 refine zn4 ?_;replace hB:=hB.tr0 (s1.t (s2.t (s3.t (s4.t s5))));replace a1:=a1.tr0 (s3.t (s4.t s5));refine yy (rgq [] 29 10) 38 (.bool (decide (40<rs.length\/100<xs.length))) nu ?_ (fun gq=>?_)
 ·refine zn6 ?_;refine zQ 33 rfl (fun g33=>?_) (fun g33=>?_)
  ·refine zn5 ?_;exact vx
  refine zn9 ?_;exact vx
 refine e_S ?_;refine zK rfl (fun a8=>?_) (fun a8=>?_)
 ·refine zn2 ?_;refine aZ kR (uw _ _ _) rfl (fun w11 s9=>?_);refine zJ a1.u (fun w12 hq s10=>?_);replace a1:=hq;refine zn4 ?_;refine xX (.inl rfl) rfl (zw U43 rfl rfl a1.range0 zj) ?_;exact⟨y8 (N1 h0 an a8),hB.u⟩
 refine zn6 ?_;refine zX N4 (QW AT ct l _ (hTy.mono hB) hS.vt hS.le) rfl (fun e' w13 hr=>?_);obtain⟨bu,bd,rfl,bc,s11⟩:=hr;replace s11:=sB s11;obtain⟨wT,hwT⟩:∃ x,x=w13:=⟨_,rfl⟩
 have a4:Bel wT w13:=by rw[hwT];exact Below.refl _ _
 rw[<- hwT]at bc;refine⟨_,rfl,?_⟩;refine yx (cs:=#[.slice none 0 0,.slice none 0 0]) R9 rfl (fun _=>rfl) (fun _=>rfl) Kk rfl y5 (fun b5 w15 a6 s12 hr=>?_);refine zn4 ?_;refine wl_mm (fun b43 w16 a2 s13 hr=>?_);have:=nLL a5.u.lt hr;have:=nLL a1.u.lt hr;have:=nLL a7.u.lt hr;have:=nLL a6.lt hr;have lo43:=hB.u.ob hr;have a9:=a4.u.ob hr;refine wl (uJ (v:= .map _) rfl) (jJ ?_);refine qk (rgq (rgq [] 7 5) 47 35) (fun m g w'=>∃(k:Nat) (mp:List (ByteArray×Value)),k<=rs.length/\m=rs.length-k/\g 47= .int .i64 k/\Bel w w'/\Bel wT w'/\Blk w' b1 32 #[.slice AT l.length ct,.slice AF fs.length cf,.slice AR rs.length cr,.slice AX xs.length cx,.slice AS st.length cst]/\Blk w' b2 43 #[.int .i64 0,.int .i64 0]/\Blk w' b3 25 #[.slice AT l.length ct,.slice AF fs.length cf]/\Blk w' b5 76 #[.slice (some ⟨bu,0,none⟩) l.length l.length,.slice (some ⟨bd,0,none⟩) l.length l.length]/\MapS w' b43 mp/\(∀ s,lkB mp s=oX ((rs.take k).map (·.name)) s)/\qJ (u6 l fs rs) 0 rs.length=qJ (u6 l fs rs) k (rs.length-k)) (rs.length) ?_ (fun m g12 w17 hI=>?_)
 ·exact⟨0,[],ad _,rfl,rfl,hB.u,a4.u,a5.u,a1.u,a7.u,a6.u,a2,fun s=>rfl,rfl⟩
 obtain⟨k,mp,hk,hm,h47,hB,a4,a5,a1,a7,a6,a2,bo,bb⟩:=hI;refine zZ 47 _ h47 nu (zn6 ?_);refine zK rfl (fun c48=>?_) (fun c48=>?_)
 ·have a3:k<rs.length:=by omega
  obtain⟨tb,to,Gk,c2,Sk,c1,Bk,mk,rfl,htb,htr,c0,bw,bt⟩:=hRu.at_ hB a3;refine zn8 ?_;refine wl (qK U66 rfl rfl htr sz66) ?_;refine qw (cs:=cF) ze66 rfl (fun b8 w18 hb8 bi hr=>?_);have:=nLL a5.lt hr;have:=nLL a1.lt hr;have:=nLL a7.lt hr;have:=nLL a6.lt hr;have:=nLL a2.lt hr;have lo8:=hB.ob hr;have b6:=a4.ob hr;refine waI rfl ?_;refine zJ hb8 (fun w19 hq bh=>?_);replace hb8:=hq;refine zn7 ?_;refine zX WY (MJ _ _) rfl (fun e' w20 hr=>?_);obtain⟨rfl,rfl⟩:=hr;refine⟨_,rfl,?_⟩;refine zn3 ?_;refine jW rfl (fun c3=>?_) (fun c3=>?_)
  ·have b7:=rn10 (l:=l) (fs:=fs) a3 (by simpa using c3);refine zn3 ?_;refine aZ kR (uw _ _ _) rfl (fun w21 s16=>?_);refine zJ a1.u (fun w22 hq s17=>?_);replace a1:=hq;refine zn9 ?_;refine xX (.inl rfl) rfl (zw U43 rfl rfl a1.range0 zj) ?_;replace hB:=(((hB.tr0 bi).tr1 bh lo8).tr0 s16).tr1 s17 lo2;exact⟨y8 (KW h0 an a8 (bb.trans (yw oG b7 (show (10:Int)≠0 by decide))) (show (10:Int)≠0 by decide)),hB⟩
  have bm:yQ (rs[k]'a3).name=true:=by simpa using c3
  refine zn5 ?_;refine wl (x7 (v:= .map _) rfl) (zn2 ?_);replace a2:=(a2.tr0 bi).tr1 bh oG;refine wl (r_lkS a2 Hj U9 gJ rfl rfl) (wmT rfl (wl (yV (v:=_) rfl rfl) (wl (yV (v:= .bool _) rfl rfl) (wl (uJ (v:=_) rfl) (zn8 ?_)))));refine jW rfl (fun bg=>?_) (fun bg=>?_)
  ·have b7:=rn7 (l:=l) (fs:=fs) a3 bm ((bo _).symm.trans bg);refine zn3 ?_;refine aZ kR (uw _ _ _) rfl (fun w23 s18=>?_);refine zJ a1.u (fun w24 hq s19=>?_);replace a1:=hq;refine zn9 ?_;refine xX (.inl rfl) rfl (zw U43 rfl rfl a1.range0 zj) ?_;replace hB:=(((hB.tr0 bi).tr1 bh lo8).tr0 s18).tr1 s19 lo2;exact⟨y8 (KW h0 an a8 (bb.trans (yw oG b7 (show (7:Int)≠0 by decide))) (show (7:Int)≠0 by decide)),hB⟩
  have hsn:oX ((rs.take k).map (·.name)) (rs[k]'a3).name=false:=by rw[<- bo];exact bg
  have bn:∀ s,lkB (NY mp (rs[k]'a3).name (.int .i64 k)) s=oX ((rs.take (k+1)).map (·.name)) s:=fun s=>by
    rw[o8 _ _ _ bg,QZ rs a3,List.map_append,List.map_cons,List.map_nil,E1,<- bo];simp[lkB]
  refine zn4 ?_;refine wl (x7 (v:= .map _) rfl) (zn3 ?_);refine HZ (v:= .int _ _) a2 Hj U9 rfl rfl rfl (fun w25 hq s20=>?_);replace a2:=hq;refine zn7 ?_;refine aZ kR (rule_any AT AF Gk Sk Bk ct cf c2 c1 mk bu bd l fs (rs[k]'a3) _ (bc.mono a4.u) hS.le (hF.mono hB.u) br h40 (c0.mono hB.u) (bw.mono hB.u) (bt.mono hB.u)) rfl (fun w26 s21=>?_);refine zn9 ?_;refine zK rfl (fun bf=>?_) (fun bf=>?_)
  ·have b7:=rnF (l:=l) (fs:=fs) a3 bm hsn;refine zn4 ?_;refine aZ kR (uw _ _ _) rfl (fun w27 s22=>?_);refine zJ a1.u (fun w28 hq s23=>?_);replace a1:=hq;refine zn8 ?_;refine xX (.inl rfl) rfl (zw U43 rfl rfl a1.range0 zj) ?_;exact⟨y8 (KW h0 an a8 (bb.trans (yw oG b7 bf)) bf),hB.u⟩
  have bj:=(rnF (l:=l) (fs:=fs) a3 bm hsn).trans (aG.1 bf);refine zn7 ?_;refine xY (rs.length-(k+1)) oG agA ?_;replace a2:=a2.tr0 s21;exact⟨k+1,NY mp (rs[k]'a3).name (.int .i64 k),by omega,rfl,rfl,hB.u,a4.u,a5.u,a1.u,a7.u,a6.u,a2,bn,bb.trans (uy a3 bj)⟩
 have bx:qJ (u6 l fs rs) 0 rs.length=(0,0):=bb.trans (gz oG);refine Hw ?_;refine qk (rgq [12,13,14] 85 15) (fun m g w'=>∃ q:Nat,q<=xs.length/\m=xs.length-q/\g 85= .int .i64 q/\Bel w w'/\Bel wT w'/\Blk w' b1 32 #[.slice AT l.length ct,.slice AF fs.length cf,.slice AR rs.length cr,.slice AX xs.length cx,.slice AS st.length cst]/\Blk w' b2 43 #[.int .i64 0,.int .i64 0]/\Blk w' b3 25 #[.slice AT l.length ct,.slice AF fs.length cf]/\Blk w' b5 76 #[.slice (some ⟨bu,0,none⟩) l.length l.length,.slice (some ⟨bd,0,none⟩) l.length l.length]/\qJ (Ex l fs xs) 0 xs.length=qJ (Ex l fs xs) q (xs.length-q)) (xs.length) ?_ (fun m g25 w29 hI=>?_)
 ·exact⟨0,ad _,rfl,rfl,hB,a4,a5,a1,a7,a6,rfl⟩
 obtain⟨q,hq,hm,h85,hB,a4,a5,a1,a7,a6,bz⟩:=hI;refine zZ 85 _ h85 nu (zn6 ?_);refine zK rfl (fun c86=>?_) (fun c86=>?_)
 ·have b9:q<xs.length:=by omega
  obtain⟨ub,uo,Gk,c2,Sk,c1,Bk,mk,rfl,hub,bk,hur,c0,bw,bt⟩:=hLx.at_ hB b9;refine zn8 ?_;refine wl (qK U88 rfl rfl hur sz88) ?_;refine qw (cs:=cG) ze88 rfl (fun b13 w30 ba s24 hr=>?_);have:=nLL a5.lt hr;have:=nLL a1.lt hr;have:=nLL a7.lt hr;have:=nLL a6.lt hr;have lo13:=hB.ob hr;have ab:=a4.ob hr;refine waI rfl ?_;refine zJ ba (fun w31 hq s25=>?_);replace ba:=hq;refine zn7 ?_;refine aZ kR (entry_any AT AF Gk Sk Bk ct cf c2 c1 mk bu bd l fs (xs[q]'b9) _ (hU.mono hB.u) (bc.mono a4.u) hS.le (hF.mono hB.u) br (c0.mono hB.u) (bw.mono hB.u) (bt.mono hB.u) bk) rfl (fun w32 s26=>?_);refine zn9 ?_;refine zK rfl (fun be=>?_) (fun be=>?_)
  ·have hly:=lnF (l:=l) (fs:=fs) b9;refine zn4 ?_;refine aZ kR (uw _ _ _) rfl (fun w33 s27=>?_);refine zJ a1.u (fun w34 hq s28=>?_);replace a1:=hq;refine zn8 ?_;refine xX (.inl rfl) rfl (zw U43 rfl rfl a1.range0 zj) ?_;exact⟨y8 (gr_lex h0 an a8 bx (bz.trans (yw oG hly be)) be),hB.u⟩
  have bq:=(lnF (l:=l) (fs:=fs) b9).trans (aG.1 be);refine zn7 ?_;refine xY (xs.length-(q+1)) oG agA ?_;exact⟨q+1,by omega,rfl,rfl,hB.u,a4.u,a5.u,a1.u,a7.u,a6.u,bz.trans (uy b9 bq)⟩
 have hLz:qJ (Ex l fs xs) 0 xs.length=(0,0):=bz.trans (gz oG);refine gX ?_;refine wl (qK U30 rfl rfl (a5.sub (n:=1) (xs:=[_]) rfl) gY) ?_;refine aZ DQ (I7 AT AF AS ct cf cst bu bd l fs st _ (bc.mono a4) hS.le (hF.mono hB) (hG.mono hB) br) rfl (fun w35 s29=>?_);refine yx (cs:=#[.int .i64 0,.int .i64 0]) qQ rfl (fun _=>rfl) (fun _=>rfl) zj rfl y5 (fun b15 w37 hb15 s30 hr=>?_);refine zn9 ?_;refine zK rfl (fun ao=>?_) (fun ao=>?_)
 ·refine zn4 ?_;refine aZ kR (uw _ _ _) rfl (fun w38 s31=>?_);refine zJ a1.u (fun w39 hq s32=>?_);replace a1:=hq;refine zn4 ?_;refine xX (.inl rfl) rfl (zw U43 rfl rfl a1.range0 zj) ?_;exact⟨y8 (gr_start h0 an a8 bx hLz ao),hB.u⟩
 refine zn4 ?_;refine uW (cs:=#[.int .i64 0,.int .i64 0]) ?_;refine zJ a1.u (fun w40 hq s33=>?_);replace a1:=hq;refine zn3 ?_;refine xX (.inl rfl) rfl (zw U43 rfl rfl a1.range0 zj) ?_;exact⟨y8 (gr_ok h0 an a8 bx hLz (aG.1 ao)),hB.u⟩
theorem in107_DGo:(Tryd.prog.info? 107).map (fun i=>(i.zero,i.size,i.bytes))=some (some (.agg #[.int .i64 0,.slice none 0 0]),2,32):=by kernel_rfl
theorem in109_DGo:(Tryd.prog.info? 109).map (fun i=>(i.zero,i.size,i.bytes))=some (some (.agg #[.int .i64 0,.int .i64 0]),2,16):=by kernel_rfl
theorem B7:(Tryd.prog.info? 105).map (·.size)=some 1:=by kernel_rfl
theorem B6:(Tryd.prog.info? 107).map (·.size)=some 2:=by kernel_rfl
theorem sz109_DGo:(Tryd.prog.info? 109).map (·.size)=some 2:=by kernel_rfl
theorem sz28_DGo:(Tryd.prog.info? 28).map (·.size)=some 1:=by kernel_rfl
theorem zY:(Tryd.prog.info? 3).map (·.size)=some 1:=by kernel_rfl
theorem F3:(Tryd.prog.info? 30).map (·.size)=some 1:=by kernel_rfl
theorem xK:(Tryd.prog.info? 36).map (·.size)=some 1:=by kernel_rfl
theorem B3:(Tryd.prog.info? 107).map (·.zero)=some (some (.agg #[.int .i64 0,.slice none 0 0])):=by kernel_rfl
theorem ze109_DGo:(Tryd.prog.info? 109).map (·.zero)=some (some (.agg #[.int .i64 0,.int .i64 0])):=by kernel_rfl
theorem Rj:(Tryd.prog.info? 30).map (·.zero)=some (some (.agg #[.slice none 0 0])):=by kernel_rfl
set_option maxHeartbeats 2000000 in
theorem gZ(A:Option Addr)(c:Nat)(rs:List (List Int))(w:World)(hR:RowsIn w A rs):Calls Tryd.prog 25 #[.slice A rs.length c] w fun e w'=>(∃ A' cap,e= .returned (.agg #[.slice A' rs.length cap])/\Fz [] w'.heap.size TS w' (fun w=>NodesIn w A' (rs.map VK)))/\Bel w w':=by
 have hrl:=hR.1;have hrr:=hR.2.1;refine enT Tryd.func25 Tryd.ntmps25 rfl rfl fun hB=>?_;refine zn2 ?_;refine qw (cs:=#[.slice none 0 0]) Rj rfl (fun b2 w1 a3 s1 hr=>?_);have lo2:=hB.ob hr;refine zn4 ?_;refine qw (cs:=#[.slice none 0 0]) Rj rfl (fun b3 w2 a4 s2 hr=>?_);have:=a3.ob hr;have lo3:=hB.u.ob hr;refine gX ?_;refine qk (rgq [5,6,7] 10 37) (fun m g w'=>∃(k:Nat) (A3:Option Addr) (b4:Nat) (bi:List Value) (n3:Nat),k<=rs.length/\m=rs.length-k/\g 10= .int .i64 k/\Bel w w'/\Blk w' b2 30 #[.slice none 0 0]/\Blk w' b3 30 #[.slice A3 k b4]/\Own w' (b3+1) 107 2 A3 k b4 bi/\Fz [] n3 TS1 w' (fun w=>NdData w ((rs.take k).map VK) bi)) (rs.length) ?_ (fun m g3 w3 hI=>?_)
 ·exact⟨0,none,0,[],_,ad _,rfl,rfl,hB.u,a3.u,a4,Own.nil _ _ _ _,Fz.triv [] _ TS1 (fun _=>NdData.nil)⟩
 obtain⟨k,A3,b4,bi,n3,hk,hm,h10,hB,a3,a4,a2,a5⟩:=hI;refine zZ 10 _ h10 nu (zn6 ?_);refine zK rfl (fun c11=>?_) (fun c11=>?_)
 ·have a7:k<rs.length:=by omega
  have bn:=hrr _ (ap a7);obtain⟨rb,ro,Ar,cr,rfl,hrc,hri⟩:=hR.at_ hB a7;refine zn7 ?_;refine wl (qW (v:= .slice _ _ _) U36 rfl rfl hrc) (zn4 ?_);obtain⟨pb,po,rfl,bo,bw⟩:=hri.2 (by intro h;rw[h]at bn;simp at bn);have hc0:=hB.cell bo (bw 0 bn.1);obtain⟨z0,hz0⟩:∃ z,z=(rs[k]'a7)[0]'bn.1:=⟨_,rfl⟩
  rw[<- hz0]at hc0;refine zn2 ?_;refine wl (xW (i:=0) U36 zY rfl rfl oG rfl) (wl (qW (v:= .int _ _) U3 rfl rfl hc0) (wl (MZ (v0:= .int _ _) (fun v0=>#[v0,.slice none 0 0]) rfl kR) ?_));refine yx (cs:=#[.int .i64 0,.slice none 0 0]) B3 rfl (fun _=>rfl) (fun _=>rfl) B6 rfl y5 (fun b6 w5 ao s3 hr=>?_);have:=a3.ob hr;have:=a4.ob hr;have a1:=a2.ob hr;have bh:=nLT a5.le hr;have lo6:=hB.ob hr;refine zn9 ?_;replace a2:=a2.tr0 s3;replace a5:=a5.tr0 s3;refine qk (rgq [7] 18 22) (fun m g w'=>∃(i j:Nat) (A6:Option Addr) (b5:Nat) (b7:List (Int×Int)),1<=i/\j<=i/\i<=(rs[k]'a7).length+1/\m=(rs[k]'a7).length+2-i/\g 7= .int .i64 i/\XW ((rs[k]'a7).drop 1)=b7++XW ((rs[k]'a7).drop i)/\Bel w w'/\Blk w' b2 30 #[.slice none 0 0]/\Blk w' b3 30 #[.slice A3 k b4]/\Own w' (b3+1) 107 2 A3 k b4 bi/\Blk w' b6 107 #[.int .i64 z0,.slice A6 j b5]/\Own w' (b6+1) 109 2 A6 j b5 (lnC b7)/\Fz [] n3 TS1 w' (fun w=>NdData w ((rs.take k).map VK) bi)) ((rs[k]'a7).length+1) ?_ (fun m g7 w6 hI=>?_)
  ·exact⟨1,0,none,0,[],ae _,ad _,by omega,rfl,rfl,rfl,hB.u,a3.u,a4.u,a2,ao,Own.nil _ _ _ _,a5⟩
  obtain⟨i,j,A6,b5,b7,hi1,hji,hil,hm7,h7,hpr,hB,a3,a4,a2,ao,a6,a5⟩:=hI;refine zZ 7 _ h7 nu (zn4 ?_);refine wl (X0 (c:=((i+1:Nat):Int)) rfl rfl rfl oG) (zn5 ?_);refine zK rfl (fun c22=>?_) (fun c22=>?_)
  ·have hi0:i<(rs[k]'a7).length:=by omega
   have bx:i+1<(rs[k]'a7).length:=by omega
   have bt:=hB.cell bo (bw i hi0);have br:=hB.cell bo (bw (i+1) bx);obtain⟨za,hza⟩:∃ z,z=(rs[k]'a7)[i]'hi0:=⟨_,rfl⟩
   obtain⟨zb,hzb⟩:∃ z,z=(rs[k]'a7)[i+1]'bx:=⟨_,rfl⟩
   rw[<- hza]at bt;rw[<- hzb]at br;have bv:XW ((rs[k]'a7).drop 1)=(b7++[(za,zb)])++XW ((rs[k]'a7).drop (i+2)):=by rw[hpr,G8 bx,<- hza,<- hzb,List.append_assoc];rfl
   refine zn4 ?_;have z2:=a3.lt;have z3:=a4.lt;have z6:=ao.lt;have zo3:=fun g hg=>(a2.lt g hg).2
   have zo6:=fun g hg=>(a6.lt g hg).2
   have hsz:=Bel.size hB;replace bt:=fun(w1:World) (h:Bel w6 w1)=>h.cell (nLL bo hsz) bt
   replace br:=fun(w1:World) (h:Bel w6 w1)=>h.cell (nLL bo hsz) br
   refine Zj 13 (rgq [] 25 13) (fun ix=>Nat.beq ix 12) (fun ix v wv=>match ix with|0=>v= .pointer (some ⟨b6,1,none⟩)|1=>v= .slice A6 j b5|2=>v= .slice (some ⟨pb,po,none⟩) (rs[k]'a7).length cr|3=>v= .int .i64 i|4=>v= .pointer (some ⟨pb,po+i*1,none⟩)|5=>v= .int .i64 za|6=>v= .slice (some ⟨pb,po,none⟩) (rs[k]'a7).length cr|7=>v= .int .i64 i|8=>v= .int .i64 ((i+1:Nat):Int)|9=>v= .pointer (some ⟨pb,po+(i+1)*1,none⟩)|10=>v= .int .i64 zb|11=>v= .agg #[.int .i64 za,.int .i64 zb]|12=>∃ b,v= .slice (some ⟨b,0,none⟩) 1 1/\w6.heap.size<=b/\Blk wv b 109 #[.int .i64 za,.int .i64 zb]|_=>True) kR kR ?_ ?_ ?_
   ·intro ix v wv wv2 h s4
    match ix,h with
    | 0,h=>exact h
    | 1,h=>exact h
    | 2,h=>exact h
    | 3,h=>exact h
    | 4,h=>exact h
    | 5,h=>exact h
    | 6,h=>exact h
    | 7,h=>exact h
    | 8,h=>exact h
    | 9,h=>exact h
    | 10,h=>exact h
    | 11,h=>exact h
    | 12,h=>
     obtain⟨c4,c3,bm,b1⟩:=h;exact⟨c4,c3,bm,b1.tr0 s4⟩
    | _+13,h=>exact trivial
   ·intro ix o hix hoq gg wx s5 hd bz
    match ix,hix,hoq with
    | 0,_,hoq=>
     cases sI hoq;exact oVq (Z5 EJ B7 dE rfl rfl rfl) rfl
    | 1,_,hoq=>
     cases sI hoq;refine aX 25 (hd 0 aY) ?_;exact oVq (qW (v:= .slice _ _ _) jx rfl rfl (ao.u.cell rfl)) rfl
    | 2,_,hoq=>
     cases sI hoq;exact oVq (x7 (v:= .slice _ _ _) rfl) rfl
    | 3,_,hoq=>
     cases sI hoq;exact oVq (x7 (v:= .int _ _) rfl) rfl
    | 4,_,hoq=>
     cases sI hoq;refine aX 27 (hd 2 aY) (aX 28 (hd 3 aY) ?_);exact oVq (xW (i:=i) U36 zY rfl rfl oG rfl) rfl
    | 5,_,hoq=>
     cases sI hoq;have bd:=s5;refine aX 29 (hd 4 aY) ?_;exact oVq (qW (v:= .int _ _) U3 rfl rfl (bt _ bd.bel)) rfl
    | 6,_,hoq=>
     cases sI hoq;exact oVq (x7 (v:= .slice _ _ _) rfl) rfl
    | 7,_,hoq=>
     cases sI hoq;exact oVq (x7 (v:= .int _ _) rfl) rfl
    | 8,_,hoq=>
     cases sI hoq;refine aX 32 (hd 7 aY) ?_;exact oVq (X0 (c:=((i+1:Nat):Int)) rfl rfl rfl oG) rfl
    | 9,_,hoq=>
     cases sI hoq;refine aX 31 (hd 6 aY) (aX 33 (hd 8 aY) ?_);exact oVq (xW (i:=i+1) U36 zY rfl rfl oG rfl) rfl
    | 10,_,hoq=>
     cases sI hoq;have bd:=s5;refine aX 34 (hd 9 aY) ?_;exact oVq (qW (v:= .int _ _) U3 rfl rfl (br _ bd.bel)) rfl
    | 11,_,hoq=>
     cases sI hoq;refine aX 30 (hd 5 aY) (aX 35 (hd 10 aY) ?_);exact oVq (My (v0:= .int _ _) (v1:= .int _ _) (fun v0 v1=>#[v0,v1]) rfl rfl kR) rfl
    | 12,_,hoq=>
     cases sI hoq;have bd:=s5;refine aX 36 (hd 11 aY) ?_;refine jK (fun ops Q K=>?_);refine qj (cs:=#[_,_]) [(0,.agg _)] rfl jx sz109_DGo ze109_DGo dE dE kR rfl (fun c4 w7 b1 s6 hr=>?_);exact K _ _ ⟨s6,⟨_,rfl,nLT bd.size hr,b1⟩,fRq hr b1.lt⟩
    | _+13,hix,_=>exact absurd hix oG
   intro gg w8 s7 hR bz;have bd:=s7;obtain⟨c4,c3,bm,b1⟩:=hR 12 dE;have hsm:_<=w8.heap.size:=bd.size;refine xz 26 _ (hR 1 dE) nu (xz 37 _ c3 nu ?_);replace a6:=a6.tr0 s7;refine vZ jx in109_DGo rfl dE a6 b1 rfl rfl rfl y5 dE oG oG (nLT z6 hsm) (fun c2 cap38 w9 bf s8 hg=>?_);have bc:c2≠b2:=neA a6 a3.u.lt hg
   have bb:c2≠b3:=neA a6 a4.u.lt hg
   have an:c2≠b6:=neA a6 ao.u.lt hg
   replace hB:=hB.u.tr s8 (fun g hg=>nLT (aD lo6) (a6.lt g hg).1);replace a3:=a3.tr0 s7;replace a3:=a3.ta s8 a6;replace a4:=a4.tr0 s7;replace a4:=a4.ta s8 a6;replace a2:=a2.tr0 s7;replace a2:=a2.tr s8 (fun g hg hx=>by have:=(a6.lt _ hx).1;have:=(a2.lt _ hg).1;(try have:=or_ho3_b2 _ hg);(try have:=or_ho6_b2 _ hx);(try have:=or_ho3_b3 _ hg);(try have:=or_ho6_b3 _ hx);(try have:=a1 _ hg);(try have:=or_ho6_b6 _ hx);(try have:=or_ho3_b37 _ hg);(try have:=or_ho6_b37 _ hx);omega);replace a5:=a5.tr0 s7;replace a5:=a5.trX s8 (fun g hg=> .inl (by have:=(a6.lt g hg).1;omega));replace ao:=ao.tr0 s7;replace ao:=ao.ta s8 a6;refine zn1 ?_;refine xj (v:= .slice _ _ _) ao rfl rfl B7 (by first|decide|simp) rfl rfl (fun w10 hq s9=>?_);replace a2:=a2.tr1 s9 (fun g hg=>by have:=a1 g hg;omega);replace a5:=a5.sp1 s9 ao (.inl dE);replace bf:=bf.tr1 s9 (neS an);replace ao:=hq;refine zn5 ?_;refine wl (X0 (c:=((i+2:Nat):Int)) rfl rfl rfl oG) (zn2 ?_);refine xY ((rs[k]'a7).length+2-(i+2)) oG agA ?_;replace hB:=hB.tr1 s9 lo6;replace a3:=a3.tr1 s9 oG;replace a4:=a4.tr1 s9 oG;exact⟨i+2,j+1,_,_,b7++[(za,zb)],by omega,by omega,by omega,rfl,rfl,bv,hB,a3,a4,a2,ao,by rw[<- lnC_snoc];exact bf,a5⟩
  have hls:XW ((rs[k]'a7).drop 1)=b7:=by rw[hpr,pairs_end oG,List.append_nil]
  have bu:VK (rs[k]'a7)=⟨z0,b7⟩:=by
    unfold VK;rw[hls,hz0];simp[List.getD,bn.1]
  have htk:(rs.take (k+1)).map VK=(rs.take k).map VK++[⟨z0,b7⟩]:=by rw[QZ rs a7,List.map_append,List.map_cons,List.map_nil,bu]
  refine zn9 ?_;refine qj (cs:=#[_,_]) [(0,.agg _)] rfl U28 B6 B3 dE dE kR rfl (fun b43 w11 c0 bk hr=>?_);have:=a3.ob hr;have:=a4.ob hr;have a9:=a2.ob hr;have b8:=nLT a5.le hr;have:=ao.ob hr;have a8:=a6.ob hr;have lo43:=hB.ob hr;replace a2:=a2.tr0 bk;refine vZ U28 in107_DGo rfl dE a2 c0 rfl rfl rfl y5 dE oG oG a4.u.lt (fun c1 cap44 w12 be bj hg=>?_);have ba:c1≠b2:=neA a2 a3.u.lt hg
  have ab:c1≠b3:=neA a2 a4.u.lt hg
  have b9:c1≠b6:=neB ao.u.lt hg (fun g hg=>by have:=a1 g hg;omega)
  replace hB:=hB.u.tr bj (fun g hg=>nLT (aD lo3) (a2.lt g hg).1);replace a3:=a3.tr0 bk;replace a3:=a3.ta bj a2;replace a4:=a4.tr0 bk;replace a4:=a4.ta bj a2;replace a5:=a5.tr0 bk;replace a5:=a5.trX bj (fun g hg=>by obtain⟨cs,h⟩:=Xk a2 g hg;exact .inr (.inr ⟨_,_,h,.inl dE⟩));replace a6:=a6.tr0 bk;replace a6:=a6.tr bj (fun g hg hx=>by have:=(a2.lt _ hx).1;have:=(a6.lt _ hg).1;(try have:=or_ho6_b2 _ hg);(try have:=or_ho3_b2 _ hx);(try have:=or_ho6_b3 _ hg);(try have:=or_ho3_b3 _ hx);(try have:=or_ho6_b6 _ hg);(try have:=a1 _ hx);(try have:=a8 _ hg);(try have:=a9 _ hx);omega);have bg:=gof_more (z:=z0) a6 a5;refine zn1 ?_;refine xj (v:= .slice _ _ _) a4 rfl rfl sz28_DGo (by first|decide|simp) rfl rfl (fun w13 hq bq=>?_);replace be:=be.tr1 bq (neS ab);replace bg:=bg.sp1 bq a4 (.inl dE);replace a4:=hq;refine zn7 ?_;refine xY (rs.length-(k+1)) oG agA ?_;replace hB:=hB.tr1 bq lo3;replace a3:=a3.tr1 bq oG;exact⟨k+1,_,_,_,_,by omega,rfl,rfl,hB,a3,a4,be,by rw[htk];exact bg⟩
 have hkl:k=rs.length:=by omega
 subst hkl;rw[List.take_length]at a5;refine zn8 ?_;refine zJ a3 (fun w14 hq s13=>?_);replace a2:=a2.tq s13;replace a5:=a5.sp1 s13 a3 (.inl dE);replace a3:=hq;refine zn3 ?_;refine xX (.inl rfl) rfl (zw U30 rfl rfl a3.range0 F3) ?_;exact⟨⟨_,_,rfl,gof_end a2 a5⟩,hB.u⟩
theorem H0:zk Tryd.prog 25=true:=by kernel_rfl
theorem in88:(Tryd.prog.info? 88).map (fun i=>(i.zero,i.size,i.bytes))=some (some (.agg cG),9,144):=by kernel_rfl
theorem F4:(Tryd.prog.info? 27).map (·.size)=some 1:=by kernel_rfl
theorem kz:(Tryd.prog.info? 64).map (·.size)=some 6:=by kernel_rfl
theorem IQ:(Tryd.prog.info? 88).map (·.size)=some 9:=by kernel_rfl
theorem R8:(Tryd.prog.info? 88).map (·.zero)=some (some (.agg cG)):=by kernel_rfl
set_option maxHeartbeats 1000000 in
theorem ov(s:ByteArray)(z:Int)(x:Tv)(SA BA R A:Option Addr)(cs cb:Nat)(rs:List (List Int))(c bG base k cap nT nL:Nat)(c0 c1 c2 c4:Value)(xs:List Value)(lx:List Lx)(w:World)(hs9:s.size<9223372036854775807)(hR:RowsIn w R rs)(hT:Fz [] nT TS w (fun w=>SimsIn w SA x.tm.type.args/\TmsIn w BA x.tm.args))(a3:Blk w bG 32 #[c0,c1,c2,.slice A k cap,c4])(ho:Own w base 88 9 A k cap xs)(hL:Fz [] nL TS w (fun w=>LxData w lx xs))(an:base<=w.heap.size)(hbl:bG<base)(hk:k<=1000):Calls Tryd.prog 26 #[.string s,.int .i64 z,.agg #[.int .i64 (x).tm.kind,.string (x).tm.name,.int .i64 (x).tm.index,.string (x).tm.type.base,.slice SA (x).tm.type.args.length cs,.slice BA (x).tm.args.length cb],.slice R rs.length c,.pointer (some ⟨bG,0,none⟩)] w (fun e w'=>e= .returned (.tuple #[])/\∃ A' cap' xs',Blk w' bG 32 #[c0,c1,c2,.slice A' (k+1) cap',c4]/\Own w' base 88 9 A' (k+1) cap' xs'/\Fz [] w'.heap.size TS w' (fun w=>LxData w (lx++[⟨s,rs.map VK,z,x.tm⟩]) xs')/\Same (bG::aL A) w w'/\(aL A'=aL A\/∀ g∈aL A',w.heap.size<=g)):=by
 refine enT Tryd.func26 Tryd.ntmps26 rfl rfl fun hB=>?_;refine zn2 ?_;refine qZ (cs:=#[_,_,_,_,_,_]) rfl (fun b7 w1 hb7 s1 hr=>?_);have a5:=ho.ob hr;refine x6 (e_S ?_);replace a3:=a3.tr0 s1;have zG:=a3.lt;replace ho:=ho.tr0 s1;have zo:=fun g hg=>(ho.lt g hg).2
 replace hB:=hB.tr0 s1;have hsz:=Bel.size hB;have hrs:=hR.1;refine Zj 9 (rgq [] 9 9) (fun ix=>Nat.beq ix 8) (fun ix v wv=>match ix with|0=>v= .pointer (some ⟨bG,3,none⟩)|1=>v= .slice A k cap|2=>v= .string s|3=>v= .int .i64 z|4=>v= .agg #[.int .i64 (x).tm.kind,.string (x).tm.name,.int .i64 (x).tm.index,.string (x).tm.type.base,.slice SA (x).tm.type.args.length cs,.slice BA (x).tm.args.length cb]|5=>v= .slice R rs.length c|6=>∃ G g n,v= .agg #[.slice G rs.length g]/\Fz [] n TS wv (fun w=>NodesIn w G (rs.map VK))|7=>∃ G g n,v= .agg #[.string s,.slice G rs.length g,.int .i64 z,.int .i64 (x).tm.kind,.string (x).tm.name,.int .i64 (x).tm.index,.string (x).tm.type.base,.slice SA (x).tm.type.args.length cs,.slice BA (x).tm.args.length cb]/\Fz [] n TS wv (fun w=>NodesIn w G (rs.map VK))|8=>∃ b G g n,v= .slice (some ⟨b,0,none⟩) 1 1/\w1.heap.size<=b/\Blk wv b 88 #[.string s,.slice G rs.length g,.int .i64 z,.int .i64 (x).tm.kind,.string (x).tm.name,.int .i64 (x).tm.index,.string (x).tm.type.base,.slice SA (x).tm.type.args.length cs,.slice BA (x).tm.args.length cb]/\Fz [] n TS wv (fun w=>NodesIn w G (rs.map VK))|_=>True) kR kR ?_ ?_ ?_
 ·intro ix v wv wv2 h s2
  match ix,h with
  | 0,h=>exact h
  | 1,h=>exact h
  | 2,h=>exact h
  | 3,h=>exact h
  | 4,h=>exact h
  | 5,h=>exact h
  | 6,h=>
   obtain⟨bc,b5,b1,b9,a8⟩:=h;exact⟨bc,b5,b1,b9,a8.tr0 s2⟩
  | 7,h=>
   obtain⟨bb,b4,ao,b8,a7⟩:=h;exact⟨bb,b4,ao,b8,a7.tr0 s2⟩
  | 8,h=>
   obtain⟨ba,G17,g17,n17,b6,ab,a4,a2⟩:=h;exact⟨ba,G17,g17,n17,b6,ab,a4.tr0 s2,a2.tr0 s2⟩
  | _+9,h=>exact trivial
 ·intro ix o hix hoq gg wx s3 hd b3
  match ix,hix,hoq with
  | 0,_,hoq=>
   cases sI hoq;exact oVq (Z5 U32 F4 dE rfl rfl rfl) rfl
  | 1,_,hoq=>
   cases sI hoq;refine aX 9 (hd 0 aY) ?_;exact oVq (qW (v:= .slice _ _ _) U27 rfl rfl (a3.u.cell rfl)) rfl
  | 2,_,hoq=>
   cases sI hoq;exact oVq (x7 (v:= .string _) rfl) rfl
  | 3,_,hoq=>
   cases sI hoq;exact oVq (x7 (v:= .int _ _) rfl) rfl
  | 4,_,hoq=>
   cases sI hoq;exact oVq (qK U64 rfl rfl hb7.u.range0 kz) rfl
  | 5,_,hoq=>
   cases sI hoq;exact oVq (x7 (v:= .slice _ _ _) rfl) rfl
  | 6,_,hoq=>
   cases sI hoq;refine aX 14 (hd 5 aY) ?_;refine yK H0 (gZ _ _ _ wx (hR.mono hB.u)) rfl (fun e' w2 hr=>?_);obtain⟨⟨G9,g9,rfl,hz9⟩,s4⟩:=hr;exact⟨_,rfl,sB s4,⟨G9,g9,_,rfl,hz9⟩,xk⟩
  | 7,_,hoq=>
   cases sI hoq;obtain⟨bc,b5,b1,b9,a8⟩:=hd 6 (zq kR);refine aX 11 (hd 2 aY) (aX 12 (hd 3 aY) (aX 13 (hd 4 aY) (zz 15 _ b9 nu ?_)));exact oVq (r_bd4 (v0:= .string _) (v1:= .int _ _) (v2:= .agg _) (v3:= .agg _) (fun v0 v1 v2 v3=>#[v0,(x9 v3 0),v1,(x9 v2 0),(x9 v2 1),(x9 v2 2),(x9 v2 3),(x9 v2 4),(x9 v2 5)]) rfl rfl rfl rfl kR) ⟨bc,b5,b1,rfl,a8⟩
  | 8,_,hoq=>
   cases sI hoq;have hs0:=s3;obtain⟨bb,b4,ao,b8,a7⟩:=hd 7 (zq kR);refine zz 16 _ b8 nu ?_;refine jK (fun ops Q K=>?_);refine qj (cs:=#[_,_,_,_,_,_,_,_,_]) [(0,.agg _)] rfl U27 IQ R8 dE dE kR rfl (fun ba w2 a4 s5 hr=>?_);exact K _ _ ⟨s5,⟨_,bb,b4,ao,rfl,nLT hs0.size hr,a4,a7.tr0 s5⟩,fRq hr a4.lt⟩
  | _+9,hix,_=>exact absurd hix oG
 intro gg w3 s6 hR b3;obtain⟨ba,G17,g17,n17,b6,ab,a4,a2⟩:=hR 8 dE;have hbs:base<=w3.heap.size:=nLT an (Bel.size hB.u);replace hB:=hB.tr0 s6;have hS0:=(sB hB).weak (Y:=bG::aL A) (by simp);have b2:=Bel.size hB;refine xz 10 _ (hR 1 dE) nu (xz 17 _ b6 nu ?_);replace ho:=ho.tr0 s6;refine vZ U27 in88 rfl dE ho a4 rfl rfl rfl y5 dE oG oG hbs (fun g18 cap18 w4 a9 s7 hg=>?_);have a1:g18≠bG:=neA ho a3.u.lt hg
 have a6:g18≠b7:=neB hb7.u.lt hg (fun g hg=>by have:=a5 g hg;omega)
 replace a3:=a3.tr0 s6;replace a3:=a3.ta s7 ho;replace hT:=hT.tr0 (s1.t s6);replace hT:=hT.trX s7 (fun g hg=>by obtain⟨cs,h⟩:=Xk ho g hg;exact .inr (.inr ⟨_,_,h,.inl dE⟩));replace hL:=hL.tr0 (s1.t s6);replace hL:=hL.trX s7 (fun g hg=>by obtain⟨cs,h⟩:=Xk ho g hg;exact .inr (.inr ⟨_,_,h,.inl dE⟩));replace a2:=a2.trX s7 (fun g hg=>by obtain⟨cs,h⟩:=Xk ho g hg;exact .inr (.inr ⟨_,_,h,.inl dE⟩));have hS:=hS0.trans (s7.weak (fun x hx=>am _ hx));refine zn1 ?_;refine xj (v:= .slice _ _ _) a3 rfl rfl F4 (by first|decide|simp) rfl rfl (fun w5 hq s8=>?_);replace hT:=hT.sp1 s8 a3 (.inl dE);replace hL:=hL.sp1 s8 a3 (.inl dE);replace a2:=a2.sp1 s8 a3 (.inl dE);replace a9:=a9.tr1 s8 (neS a1);replace hS:=hS.trans (s8.weak (by simp));replace a3:=hq;refine x6 (fin0 (.inr rfl) rfl  ?_);refine⟨rfl,_,_,_,a3,a9,(hL.and (hT.and a2)).imp (fun _ h=>LxData.snoc (x:=⟨s,rs.map VK,z,x.tm⟩) h.1 hs9 (List.length_map _).symm h.2.2 h.2.1.1 h.2.1.2),hS,?_⟩;rcases hg with hg|hg
 · left;rw[hg];rfl
 · right;intro g hgm;cases aj.1 hgm;exact nLT b2 hg
theorem in126:(Tryd.prog.info? 126).map (fun i=>(i.zero,i.size,i.bytes))=some (some (.agg #[.string ⟨#[]⟩,.slice none 0 0]),2,40):=by kernel_rfl
theorem NX:(Tryd.prog.info? 126).map (·.size)=some 2:=by kernel_rfl
theorem F5:(Tryd.prog.info? 22).map (·.size)=some 1:=by kernel_rfl
theorem sz23_DHo:(Tryd.prog.info? 23).map (·.size)=some 1:=by kernel_rfl
theorem IJ:(Tryd.prog.info? 25).map (·.size)=some 2:=by kernel_rfl
theorem SQ:(Tryd.prog.info? 3).map (·.size)=some 1:=by kernel_rfl
theorem F2:(Tryd.prog.info? 36).map (·.size)=some 1:=by kernel_rfl
theorem sz9_DHo:(Tryd.prog.info? 9).map (·.size)=some 1:=by kernel_rfl
theorem Nj:(Tryd.prog.info? 126).map (·.zero)=some (some (.agg #[.string ⟨#[]⟩,.slice none 0 0])):=by kernel_rfl
theorem Rv:(Tryd.prog.info? 25).map (·.zero)=some (some (.agg #[.slice none 0 0,.slice none 0 0])):=by kernel_rfl
theorem zW:(Tryd.prog.info? 3).map (·.zero)=some (some (.int .i64 0)):=by kernel_rfl
set_option maxHeartbeats 1000000 in
theorem Cy(A B C:Option Addr)(c d mC f:Nat)(ns:List ByteArray)(ps:List Int)(w:World)(hN:StrsD w A ns)(hP:IntsIn w B ps)(hl:ns.length<=1000)(hpl:ps.length=ns.length):Calls Tryd.prog 23 #[.slice A ns.length c,.slice B ps.length d,.slice C mC f] w fun e w'=>(∃ A' cap,e= .returned (.agg #[.slice A' ns.length cap,.slice C mC f])/\Fz [] w'.heap.size TS w' (fun w=>TypesIn w A' (Vy ns ps ns.length)))/\Bel w w':=by
 refine enT Tryd.func23 Tryd.ntmps23 rfl rfl fun hB=>?_;refine zn2 ?_;refine qw (cs:=#[.slice none 0 0,.slice none 0 0]) Rv rfl (fun b6 w1 a5 s1 hr=>?_);have lo6:=hB.ob hr;refine zn4 ?_;refine qw (cs:=#[.slice none 0 0,.slice none 0 0]) Rv rfl (fun b7 w2 a4 s2 hr=>?_);have:=a5.ob hr;have lo7:=hB.u.ob hr;refine gX ?_;refine qk (rgq [8,9,10] 13 22) (fun m g w'=>∃(k:Nat) (A7:Option Addr) (b5:Nat) (cs:List Value) (n7:Nat),k<=ns.length/\m=ns.length-k/\g 13= .int .i64 k/\Bel w w'/\Blk w' b6 25 #[.slice none 0 0,.slice none 0 0]/\Blk w' b7 25 #[.slice A7 k b5,.slice none 0 0]/\Own w' (b7+1) 126 2 A7 k b5 cs/\Fz [] n7 TS2 w' (fun w=>TyData w (Vy ns ps k) cs)) (ns.length) ?_ (fun m g3 w3 hI=>?_)
 ·exact⟨0,none,0,[],_,ad _,rfl,rfl,hB.u,a5.u,a4,Own.nil _ _ _ _,Fz.triv [] _ TS2 (fun _=>TyData.nil)⟩
 obtain⟨k,A7,b5,cs,n7,hk,hm,h13,hB,a5,a4,a3,a7⟩:=hI;refine zZ 13 _ h13 nu (zn6 ?_);refine zK rfl (fun c14=>?_) (fun c14=>?_)
 ·have b8:k<ns.length:=by omega
  have bc:k<ps.length:=by omega
  obtain⟨nb,no,rfl,hnc⟩:=hN.at_ hB b8;obtain⟨pb,po,rfl,hpb,hpc⟩:=hP.at_ bc;refine zn8 ?_;refine wl (qW (v:= .string _) U9 rfl rfl hnc) (zn7 ?_);refine wl (MZ (v0:= .string _) (fun v0=>#[v0,.slice none 0 0]) rfl kR) ?_;refine yx (cs:=#[.string ⟨#[]⟩,.slice none 0 0]) Nj rfl (fun _=>rfl) (fun _=>rfl) NX rfl y5 (fun b10 w5 ab s3 hr=>?_);have:=a5.ob hr;have:=a4.ob hr;have a1:=a3.ob hr;have lo10:=hB.ob hr;refine zn9 ?_;replace a3:=a3.tr0 s3;replace a7:=a7.tr0 s3;refine zK rfl (fun c21=>?_) (fun c21=>?_)
  ·refine zn4 ?_;refine wl (qW (v:= .int _ _) U3 rfl rfl (hB.u.cell hpb hpc)) ?_;refine qj (cs:=#[_]) [(0,.int _ _)] rfl U36 SQ zW dE dE kR rfl (fun b26 w6 a9 s4 hr=>?_);have:=a4.u.ob hr;have a6:=a3.ob hr;have:=ab.ob hr;refine zn1 ?_;replace ab:=ab.tr0 s4;refine xj (v:= .slice _ _ _) ab rfl rfl F2 (by first|decide|simp) rfl rfl (fun w7 hq s5=>?_);replace a3:=a3.tr0 s4;replace a3:=a3.tr1 s5 (fun g hg=>by have:=a1 g hg;omega);replace a7:=a7.tr0 s4;replace a7:=a7.sp1 s5 ab (.inl dE);replace ab:=hq;refine zn6 ?_;refine qj (cs:=#[_,_]) [(0,.agg _)] rfl U22 NX Nj dE dE kR rfl (fun b31 w8 b4 s6 hr=>?_);have:=a5.u.ob hr;have:=a4.u.ob hr;have:=a9.u.ob hr;replace a3:=a3.tr0 s6;refine vZ U22 in126 rfl dE a3 b4 rfl rfl rfl y5 dE oG oG a4.u.lt (fun b3 b9 w9 b1 s7 hg=>?_);have an:b3≠b6:=neA a3 a5.u.lt hg
   have a2:b3≠b7:=neA a3 a4.u.lt hg
   have a8:b3≠b10:=neB ab.u.lt hg (fun g hg=>by have:=a1 g hg;omega)
   have b2:b3≠b26:=neB a9.u.lt hg (fun g hg=>by have:=a6 g hg;omega)
   replace hB:=hB.u.tr s7 (fun g hg=>nLT (aD lo7) (a3.lt g hg).1);replace a5:=((a5.tr0 (s3.t s4)).tr1 s5 oG).tr0 s6;replace a5:=a5.ta s7 a3;replace a4:=((a4.tr0 (s3.t s4)).tr1 s5 oG).tr0 s6;replace a4:=a4.ta s7 a3;replace a7:=a7.tr0 s6;replace a7:=a7.trX s7 (fun g hg=>by obtain⟨cs,h⟩:=Xk a3 g hg;exact .inr (.inr ⟨_,_,h,.inl dE⟩));replace a9:=(a9.tr1 s5 oG).tr0 s6;replace a9:=a9.tb s7 (fun g hg=>by have:=a6 g hg;omega);have ao:=(by first|exact hof_pos a7 b8 bc oG a9|exact WQ a7 b8 oG:Fz [] (w9).heap.size TS2 w9 (fun w=>TyData w (Vy ns ps (k+1)) (cs++_)))
   refine zn1 ?_;refine xj (v:= .slice _ _ _) a4 rfl rfl F5 (by first|decide|simp) rfl rfl (fun w10 hq s8=>?_);replace b1:=b1.tr1 s8 (neS a2);replace ao:=ao.sp1 s8 a4 (.inl dE);replace a4:=hq;refine zn7 ?_;refine xY (ns.length-(k+1)) oG agA ?_;exact⟨k+1,_,_,_,_,by omega,rfl,rfl,hB.u,a5.u,a4,b1,ao⟩
  refine zn6 ?_;refine qj (cs:=#[_,_]) [(0,.agg _)] rfl U22 NX Nj dE dE kR rfl (fun b31 w11 b4 s9 hr=>?_);have:=a5.u.ob hr;have:=a4.u.ob hr;replace a3:=a3.tr0 s9;refine vZ U22 in126 rfl dE a3 b4 rfl rfl rfl y5 dE oG oG a4.u.lt (fun b3 b9 w12 b1 ba hg=>?_);have an:b3≠b6:=neA a3 a5.u.lt hg
  have a2:b3≠b7:=neA a3 a4.u.lt hg
  have a8:b3≠b10:=neB ab.u.lt hg (fun g hg=>by have:=a1 g hg;omega)
  replace hB:=hB.u.tr ba (fun g hg=>nLT (aD lo7) (a3.lt g hg).1);replace a5:=a5.tr0 (s3.t s9);replace a5:=a5.ta ba a3;replace a4:=a4.tr0 (s3.t s9);replace a4:=a4.ta ba a3;replace a7:=a7.tr0 s9;replace a7:=a7.trX ba (fun g hg=>by obtain⟨cs,h⟩:=Xk a3 g hg;exact .inr (.inr ⟨_,_,h,.inl dE⟩));have ao:=(by first|exact hof_pos a7 b8 bc oG a9|exact WQ a7 b8 oG:Fz [] (w12).heap.size TS2 w12 (fun w=>TyData w (Vy ns ps (k+1)) (cs++_)))
  refine zn1 ?_;refine xj (v:= .slice _ _ _) a4 rfl rfl F5 (by first|decide|simp) rfl rfl (fun w13 hq s11=>?_);replace b1:=b1.tr1 s11 (neS a2);replace ao:=ao.sp1 s11 a4 (.inl dE);replace a4:=hq;refine zn7 ?_;refine xY (ns.length-(k+1)) oG agA ?_;exact⟨k+1,_,_,_,_,by omega,rfl,rfl,hB.u,a5.u,a4,b1,ao⟩
 have hkl:k=ns.length:=by omega
 subst hkl;refine zn9 ?_;refine xj (v:= .slice _ _ _) a4 rfl rfl sz23_DHo (by first|decide|simp) rfl rfl (fun w14 hq bb=>?_);replace a3:=a3.tq bb;replace a7:=a7.sp1 bb a4 (.inl dE);replace a4:=hq;refine zn5 ?_;refine zJ a5.u (fun w15 hq s13=>?_);replace a3:=a3.tq s13;replace a5:=a5.tr1 bb oG;replace a7:=a7.sp1 s13 a5 (.inl dE);replace a5:=hq;refine zn3 ?_;refine xX (.inl rfl) rfl (zw U25 rfl rfl a5.range0 IJ) ?_;exact⟨⟨_,_,rfl,hof_end a3 a7⟩,hB.u⟩
theorem yk:(Tryd.prog.info? 61).map (·.size)=some 2:=by kernel_rfl
theorem gV:(Tryd.prog.info? 64).map (·.size)=some 6:=by kernel_rfl
theorem vk:(Tryd.prog.info? 61).map (·.zero)=some (some (.agg #[.string ⟨#[]⟩,.slice none 0 0])):=by kernel_rfl
theorem C3:(Tryd.prog.info? 64).map (·.zero)=some (some (.agg cE)):=by kernel_rfl
theorem gQ(s:ByteArray)(w:World):Calls Tryd.prog 21 #[.string s] w fun e w'=>e= .returned (.agg #[.string s,.slice none 0 0])/\Bel w w':=by
 refine enT Tryd.func21 Tryd.ntmps21 rfl rfl fun hB=>?_;refine zn2 ?_;refine qw (cs:=#[.string ⟨#[]⟩,.slice none 0 0]) vk rfl (fun b2 w1 a1 s1 hr=>?_);have lo2:=hB.ob hr;refine zn5 ?_;refine wl (MZ (v0:= .string _) (fun v0=>#[v0,.slice none 0 0]) rfl kR) ?_;refine zJ a1 (fun w2 hq s2=>?_);replace a1:=hq;refine zn3 ?_;refine xX (.inl rfl) rfl (zw U61 rfl rfl a1.range0 yk) ?_;exact⟨rfl,hB.u⟩
theorem Zy(X:List Nat)(a b:Ts)(A1 A2:Option Addr)(c1 c2 n1 n2:Nat)(w:World)(hX:∀ x∈X,x<w.heap.size)(h1:Fz X n1 TS w (fun w=>SimsIn w A1 (a).sm.args))(h2:Fz X n2 TS w (fun w=>SimsIn w A2 (b).sm.args)):Calls Tryd.prog 22 #[.agg #[.string (a).sm.base,.slice A1 (a).sm.args.length c1],.agg #[.string (b).sm.base,.slice A2 (b).sm.args.length c2]] w fun e w'=>(∃ z,e= .returned z/\SmD X (.f a b) w' z)/\Bel w w':=by
 refine enT Tryd.func22 Tryd.ntmps22 rfl rfl fun hB=>?_;refine zn2 ?_;refine qZ (cs:=#[_,_]) rfl (fun b2 w1 hb2 s1 hr=>?_);refine qZ (cs:=#[_,_]) rfl (fun b3 w2 hb3 s2 hr=>?_);refine qw (cs:=#[.string ⟨#[]⟩,.slice none 0 0]) vk rfl (fun b4 w3 a1 s3 hr=>?_);have lo4:=hB.u.ob hr;refine zn6 ?_;refine qj (cs:=#[_,_,_,_]) [(0,.agg _),(1,.agg _)] rfl U59 yk vk dE dE kR rfl (fun b7 w4 a2 s4 hr=>?_);have:=a1.ob hr;refine wl (MZ (v0:= .slice _ _ _) (fun v0=>#[.string ⟨#[]⟩,v0]) rfl kR) ?_;refine zJ a1.u (fun w5 hq s5=>?_);replace a1:=hq;refine zn3 ?_;refine xX (.inl rfl) rfl (zw U61 rfl rfl a1.range0 yk) ?_;replace hB:=(hB.tr0 (s1.t (s2.t (s3.t s4)))).tr1 s5 lo4;replace a2:=a2.tr1 s5 oG;exact⟨⟨_,rfl,SmD.two a2 (fun hm=>by have:=hX _ hm;omega) (h1.bel hB) (h2.bel hB)⟩,hB⟩
theorem oz(X:List Nat)(nm:ByteArray)(a:Ts)(A1:Option Addr)(c1 n1:Nat)(w:World)(h1:Fz X n1 TS w (fun w=>SimsIn w A1 (a).sm.args)):Calls Tryd.prog 28 #[.string nm,.agg #[.string (a).sm.base,.slice A1 (a).sm.args.length c1]] w fun e w'=>(∃ z,e= .returned z/\TmD X (.con nm a) w' z)/\Bel w w':=by
 refine enT Tryd.func28 Tryd.ntmps28 rfl rfl fun hB=>?_;refine zn2 ?_;refine qZ (cs:=#[_,_]) rfl (fun b3 w1 hb3 s1 hr=>?_);refine qw (cs:=cE) C3 rfl (fun b4 w2 a1 s2 hr=>?_);have lo4:=hB.u.ob hr;refine zn6 ?_;refine wl (PY (v0:= .int _ _) (v1:= .string _) (v2:= .agg _) (fun v0 v1 v2=>#[v0,v1,.int .i64 0,(x9 v2 0),(x9 v2 1),.slice none 0 0]) rfl rfl rfl kR) ?_;refine zJ a1 (fun w3 hq s3=>?_);replace a1:=hq;refine zn3 ?_;refine xX (.inl rfl) rfl (zw U64 rfl rfl a1.range0 gV) ?_;exact⟨⟨_,rfl,TmD.con nm (h1.bel hB.u)⟩,hB.u⟩
theorem vw(X:List Nat)(i:Nat)(w:World):Calls Tryd.prog 31 #[.int .i64 ((i:Nat):Int)] w fun e w'=>(∃ z,e= .returned z/\TmD X (.var i) w' z)/\Bel w w':=by
 refine enT Tryd.func31 Tryd.ntmps31 rfl rfl fun hB=>?_;refine zn2 ?_;refine qw (cs:=cE) C3 rfl (fun b2 w1 a1 s1 hr=>?_);have lo2:=hB.ob hr;refine zn5 ?_;refine wl (My (v0:= .int _ _) (v1:= .int _ _) (fun v0 v1=>#[v0,.string ⟨#[]⟩,v1,.string ⟨#[]⟩,.slice none 0 0,.slice none 0 0]) rfl rfl kR) ?_;refine zJ a1 (fun w2 hq s2=>?_);replace a1:=hq;refine zn3 ?_;refine xX (.inl rfl) rfl (zw U64 rfl rfl a1.range0 gV) ?_;exact⟨⟨_,rfl,TmD.var i⟩,hB.u⟩
theorem uZ(X:List Nat)(a:Ts)(x:Tv)(A1 S2 B2:Option Addr)(c1 n1 c2 m2 n2:Nat)(w:World)(hX:∀ x∈X,x<w.heap.size)(h1:Fz X n1 TS w (fun w=>SimsIn w A1 (a).sm.args))(h2:Fz X n2 TS w (fun w=>SimsIn w S2 (x).tm.type.args/\TmsIn w B2 (x).tm.args)):Calls Tryd.prog 29 #[.agg #[.string (a).sm.base,.slice A1 (a).sm.args.length c1],.agg #[.int .i64 (x).tm.kind,.string (x).tm.name,.int .i64 (x).tm.index,.string (x).tm.type.base,.slice S2 (x).tm.type.args.length c2,.slice B2 (x).tm.args.length m2]] w fun e w'=>(∃ z,e= .returned z/\TmD X (.abs a x) w' z)/\Bel w w':=by
 refine enT Tryd.func29 Tryd.ntmps29 rfl rfl fun hB=>?_;refine zn2 ?_;refine qZ (cs:=#[_,_]) rfl (fun b2 w1 hb2 s1 hr=>?_);refine qZ (cs:=#[_,_,_,_,_,_]) rfl (fun b3 w2 hb3 s2 hr=>?_);refine qw (cs:=cE) C3 rfl (fun b4 w3 a1 s3 hr=>?_);have lo4:=hB.u.ob hr;refine zn6 ?_;refine qj (cs:=#[_,_,_,_,_,_]) [(0,.agg _)] rfl U62 gV C3 dE dE kR rfl (fun b7 w4 a2 s4 hr=>?_);have:=a1.ob hr;refine wl (PY (v0:= .int _ _) (v1:= .agg _) (v2:= .slice _ _ _) (fun v0 v1 v2=>#[v0,.string ⟨#[]⟩,.int .i64 0,(x9 v1 0),(x9 v1 1),v2]) rfl rfl rfl kR) ?_;refine zJ a1.u (fun w5 hq s5=>?_);replace a1:=hq;refine zn3 ?_;refine xX (.inl rfl) rfl (zw U64 rfl rfl a1.range0 gV) ?_;replace hB:=(hB.tr0 (s1.t (s2.t (s3.t s4)))).tr1 s5 lo4;replace a2:=a2.tr1 s5 oG;exact⟨⟨_,rfl,TmD.abs (h1.bel hB) a2 (fun hm=>by have:=hX _ hm;omega) (h2.bel hB)⟩,hB⟩
theorem Zk(X:List Nat)(x y:Tv)(S1 B1 S2 B2:Option Addr)(c1 m1 n1 c2 m2 n2:Nat)(w:World)(hX:∀ x∈X,x<w.heap.size)(h1:Fz X n1 TS w (fun w=>SimsIn w S1 (x).tm.type.args/\TmsIn w B1 (x).tm.args))(h2:Fz X n2 TS w (fun w=>SimsIn w S2 (y).tm.type.args/\TmsIn w B2 (y).tm.args)):Calls Tryd.prog 30 #[.agg #[.int .i64 (x).tm.kind,.string (x).tm.name,.int .i64 (x).tm.index,.string (x).tm.type.base,.slice S1 (x).tm.type.args.length c1,.slice B1 (x).tm.args.length m1],.agg #[.int .i64 (y).tm.kind,.string (y).tm.name,.int .i64 (y).tm.index,.string (y).tm.type.base,.slice S2 (y).tm.type.args.length c2,.slice B2 (y).tm.args.length m2]] w fun e w'=>(∃ z,e= .returned z/\TmD X (.app x y) w' z)/\Bel w w':=by
 refine enT Tryd.func30 Tryd.ntmps30 rfl rfl fun hB=>?_;refine zn2 ?_;refine qZ (cs:=#[_,_,_,_,_,_]) rfl (fun b2 w1 hb2 s1 hr=>?_);refine qZ (cs:=#[_,_,_,_,_,_]) rfl (fun b3 w2 hb3 s2 hr=>?_);refine qw (cs:=cE) C3 rfl (fun b4 w3 a1 s3 hr=>?_);have lo4:=hB.u.ob hr;refine zn6 ?_;refine qj (cs:=#[_,_,_,_,_,_,_,_,_,_,_,_]) [(0,.agg _),(1,.agg _)] rfl U62 gV C3 dE dE kR rfl (fun b7 w4 a2 s4 hr=>?_);have:=a1.ob hr;refine wl (My (v0:= .int _ _) (v1:= .slice _ _ _) (fun v0 v1=>#[v0,.string ⟨#[]⟩,.int .i64 0,.string ⟨#[]⟩,.slice none 0 0,v1]) rfl rfl kR) ?_;refine zJ a1.u (fun w5 hq s5=>?_);replace a1:=hq;refine zn3 ?_;refine xX (.inl rfl) rfl (zw U64 rfl rfl a1.range0 gV) ?_;replace hB:=(hB.tr0 (s1.t (s2.t (s3.t s4)))).tr1 s5 lo4;replace a2:=a2.tr1 s5 oG;exact⟨⟨_,rfl,TmD.app a2 (fun hm=>by have:=hX _ hm;omega) (h1.bel hB) (h2.bel hB)⟩,hB⟩
end Go.Proofs.YtmfiholmfieieaaDoor
