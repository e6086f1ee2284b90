/- What these functions compute, at every world: graph.Within, ref3.InHierarchy, , graph.From$1; and plain laws. -/
import Derived.Test.YtiofaflajkgiaaaGreatDoorU
import Derived.Test.YtiofaflajkgiaaaGreatDoorZst
import Derived.Test.YtiofaflajkgiaaaGreatDoorGUnr
import Derived.Test.YtiofaflajkgiaaaGreatDoorEng2
import Derived.Lib.AppendZerosOnto
namespace Go.Proofs.YtiofaflajkgiaaaGreatDoor
open Go.RowKit Go.Proofs.Tryz
set_option maxHeartbeats 1000000
theorem Sj:zX prog 38=true:=by kernel_rfl
theorem M8:(prog.info? 28).map (·.size)=some 1:=by kernel_rfl
theorem Bk:(prog.info? 70).map (·.size)=some 3:=by kernel_rfl
theorem Z7:(prog.info? 84).map (·.size)=some 2:=by kernel_rfl
theorem B5:(prog.info? 70).map (·.zero)=some (some (.agg #[.string ⟨#[]⟩,.int .i64 0,.int .i64 0])):=by kernel_rfl
theorem M4(A B G:Option Addr)(c d cg bu bd:Nat)(l:List Ty)(fs:List Ft)(gr:List Nd)(w:World)(hI:TableIn w l bu bd)(h60:l.length<=60)(hF:FeatsIn w B fs)(hG:NodesIn w G gr)(hfo:FOk l.length fs):Calls prog 53 #[.agg #[.slice A l.length c,.slice B fs.length d],Lv l.length bu bd,.agg #[.slice G gr.length cg]] w fun e w'=>e= .returned (flV (x7 l fs gr))/\Bel w w':=by
 refine enT func53 ntmps53 rfl rfl fun hB=>?_;refine zn2 ?_;refine qY (v:= .agg #[_,_]) (cs:=#[_,_]) rfl rfl (fun b3 w1 a6 s1 hr=>?_);refine qY (v:= .agg #[_,_]) (cs:=#[_,_]) rfl rfl (fun b4 w2 a5 s2 hr=>?_);refine qY (v:= .agg #[_]) (cs:=#[_]) rfl rfl (fun b5 w3 a4 s3 hr=>?_);refine qk (cs:=#[.int .i64 0,.int .i64 0]) qK rfl (fun b6 w4 a2 s4 hr=>?_);have lo6:=nLT (Bel.size hB.u) hr;refine zn7 ?_;refine aY kR (loose_any A B G c d cg l fs gr _ (hG.mono hB.u)) rfl (fun w5 s5=>?_);refine yj (cs:=#[.int .i64 0,.int .i64 0]) qK rfl (fun _=>rfl) (fun _=>rfl) zq rfl zJ (fun b7 w7 hb7 s6 hr=>?_);refine zn9 ?_;refine zV rfl (fun bt=>?_) (fun bt=>?_)
 ·refine zn3 ?_;refine zk a2.u rfl rfl zq rfl zJ (fun w8 hq s7=>?_);replace a2:=hq;refine zn4 ?_;refine yx (.inl rfl) rfl (zZ U45 rfl rfl a2.range0 zq) ?_;exact⟨vj (MQ bt),hB.u⟩
 have be:=ak.1 bt;have bb:=R6 be;have hk6:=bb.le;refine jz ?_;refine qj (rg [8,9,11,12] 24 43) (fun m g w'=>∃ k:Nat,k<=gr.length/\m=gr.length-k/\g 24= .int .i64 k/\Bel w w'/\Blk w' b3 25 #[.slice A l.length c,.slice B fs.length d]/\Blk w' b4 84 #[.slice (some ⟨bu,0,none⟩) l.length l.length,.slice (some ⟨bd,0,none⟩) l.length l.length]/\Blk w' b5 28 #[.slice G gr.length cg]/\Blk w' b6 45 #[.int .i64 0,.int .i64 0]/\tyF l fs gr=vk (tyN l fs gr) k (gr.length-k)) (gr.length) ?_ (fun m g5 w9 hI=>?_)
 ·exact⟨0,ag _,rfl,rfl,hB.u,a6.u,a5.u,a4.u,a2.u,rfl⟩
 obtain⟨k,hk,hm,hkk,hB,a6,a5,a4,a2,hU⟩:=hI;refine zK 24 _ hkk nu (zn6 ?_);refine zV rfl (fun c25=>?_) (fun c25=>?_)
 ·have a1:k<gr.length:=by omega
  obtain⟨nb,no,LA,lc,rfl,hnb,hnr,hln⟩:=hG.at_ hB a1;have hmx:=hln.1;unfold jx at hmx;refine zn8 ?_;refine wl (qZ U93 rfl rfl hnr JW) ?_;refine qk (cs:=#[.int .i64 0,.slice none 0 0]) ze93 rfl (fun b9 w10 a3 s8 hr=>?_);have:=nLL a6.lt hr;have:=nLL a5.lt hr;have:=nLL a4.lt hr;have:=nLL a2.lt hr;have lo9:=nLT (Bel.size hB) hr;refine waI rfl ?_;refine zk a3 rfl rfl JW rfl zJ (fun w11 hq s9=>?_);replace a3:=hq;refine kQ ?_;refine qj (rg [11,12] 32 34) (fun m g w'=>∃ j:Nat,j<=(gr[k]'a1).ln.length/\m=(gr[k]'a1).ln.length-j/\g 32= .int .i64 j/\Bel w w'/\Blk w' b3 25 #[.slice A l.length c,.slice B fs.length d]/\Blk w' b4 84 #[.slice (some ⟨bu,0,none⟩) l.length l.length,.slice (some ⟨bd,0,none⟩) l.length l.length]/\Blk w' b5 28 #[.slice (some ⟨nb,no,none⟩) gr.length cg]/\Blk w' b6 45 #[.int .i64 0,.int .i64 0]/\Blk w' b9 93 #[.int .i64 (gr[k]'a1).ty,.slice LA (gr[k]'a1).ln.length lc]/\(∀ j' (bf:j'<(gr[k]'a1).ln.length),j'<j->NY l fs gr (gr[k]'a1).ty ((gr[k]'a1).ln[j'])=false)) ((gr[k]'a1).ln.length) ?_ (fun m g8 w12 hI=>?_)
  ·exact⟨0,ag _,rfl,rfl,hB.u,a6.u,a5.u,a4.u,a2.u,a3,fun j' _ h=>by omega⟩
  obtain⟨j,hj,hmj,hjj,hB,a6,a5,a4,a2,a3,hN⟩:=hI;refine zK 32 _ hjj nu (zn6 ?_);refine zV rfl (fun c33=>?_) (fun c33=>?_)
  ·have a7:j<(gr[k]'a1).ln.length:=by omega
   obtain⟨lb,lof,rfl,hlb,hlr⟩:=hln.at_ hB a7;have hxr:=bb.ln k a1 _ (ar a7);obtain⟨fi,hfi,a8⟩:∃ t:Nat,((gr[k]'a1).ln[j]'a7).1=(t:Int)/\t<fs.length:=⟨(((gr[k]'a1).ln[j]'a7).1).toNat,by omega,by omega⟩
   obtain⟨ti,hti,htl⟩:∃ t:Nat,((gr[k]'a1).ln[j]'a7).2=(t:Int)/\t<gr.length:=⟨(((gr[k]'a1).ln[j]'a7).2).toNat,by omega,by omega⟩
   obtain⟨yn,bi,bh⟩:∃ t:Nat,(gr[k]'a1).ty=(t:Int)/\t<l.length:=by
     have h:=bb.ty k a1;exact⟨(gr[k]'a1).ty.toNat,by omega,by omega⟩
   obtain⟨zn,hzn,bg⟩:∃ t:Nat,(gr[ti]'htl).ty=(t:Int)/\t<l.length:=by
     have h:=bb.ty ti htl;exact⟨(gr[ti]'htl).ty.toNat,by omega,by omega⟩
   have hff:=hfo.at_ fi a8;obtain⟨on,hon,bk⟩:∃ t:Nat,(fs[fi]'a8).of=(t:Int)/\t<l.length:=⟨(fs[fi]'a8).of.toNat,by omega,by omega⟩
   obtain⟨vn,hvn,bj⟩:∃ t:Nat,(fs[fi]'a8).val=(t:Int)/\t<l.length:=⟨(fs[fi]'a8).val.toNat,by omega,by omega⟩
   obtain⟨fb,fo,rfl,hfb,hfr⟩:=hF.at_ (Below.refl _ _:Bel w w) a8;obtain⟨nb2,no2,LA2,lc2,he2,bm,b8,_⟩:=hG.at_ (Below.refl _ _:Bel w w) htl;cases he2;rw[hzn]at b8;have ba:=lnTy_at (l:=l) hfi a8 hti htl bi hon hvn hzn;refine zn7 ?_;refine wl (qZ U90 rfl rfl hlr Yj) ?_;refine yj (cs:=#[.int .i64 0,.int .i64 0]) OK rfl (fun _=>rfl) (fun _=>rfl) Yj rfl zJ (fun b11 w14 bo an hr=>?_);refine zn3 ?_;rw[hfi,hti]at bo;refine zn7 ?_;refine yj (cs:=#[.string ⟨#[]⟩,.int .i64 0,.int .i64 0]) B5 rfl (fun _=>rfl) (fun _=>rfl) Bk rfl zJ (fun b12 w16 bn ad hr=>?_);refine zn3 ?_;rw[hon,hvn]at bn;replace a3:=a3.tr0 (an.t ad);rw[bi]at a3;refine y7 (rg [] 42 21) (fun g w'=>g 62= .bool (!sub l yn on || !sub l zn vn)/\Same [] w16 w') ?_ (fun g11 w17 hI=>?_)
   ·refine u5 [] [0,1,2,3,4,5,6,7,8,9,10,11,12,13,14,15,16,17,18,19,20] rfl (fun w18 s12=>?_);have b1:=s12;refine zn5 ?_;refine hcl (fun v wv=>v= .bool (sub l yn on)) rfl kR (PY l bu bd yn on w18 (hI.mono hB.u) h60 bh bk) rfl (fun e' w2 hr=>?_) (fun v47 w19 s13 d47=>?_)
    ·obtain⟨rfl,s14⟩:=hr;exact⟨_,rfl,sB s14,rfl⟩
    have e47:=d47;subst e47;refine zn2 ?_;replace b1:=b1.t s13;refine h_cases 49 rfl (fun bq=>?_) (fun bq=>?_)
    ·refine Jj ?_;refine e_R ⟨agA,?_,b1⟩;show Value.bool _=Value.bool _;exact ac (by simp[bq])
    refine zn7 ?_;refine hg1 (v:= .int _ _) 49 rfl rfl rfl U3 rfl rfl (hB.u.cell bm (b8 0 _ rfl)) (zn2 ?_);refine h1 rfl (zn1 ?_);refine zW kR (PY l bu bd zn vn w19 (hI.mono hB.u) h60 bg bj) rfl (fun e' w20 hr=>?_);obtain⟨rfl,bc⟩:=hr;replace bc:=sB bc;have b2:=bc;refine⟨_,rfl,?_⟩;refine zQ (E2 b2 (zn3 ?_));replace b1:=b1.t bc;refine e_R ⟨agA,?_,b1⟩;show Value.bool _=Value.bool _;exact ac (by simp[bq])
   obtain⟨h62,a9⟩:=hI;refine jK 62 _ h62 nu (e_S ?_);refine ky rfl (fun br=>?_) (fun br=>?_)
   ·have hty:=tyN_yes a1 a7 (ba.trans br);refine zn3 ?_;refine aY kR (Q9 _ _ _) rfl (fun w21 s17=>?_);refine zk a2.u rfl rfl zq rfl zJ (fun w22 hq s18=>?_);replace a2:=hq;refine jz ?_;refine yx (.inl rfl) rfl (zZ U45 rfl rfl a2.range0 zq) ?_;exact⟨vj (wi_ty be (hU.trans (yW (c:=12) oG hty dE))),hB.u⟩
   refine zn7 ?_;refine xK ((gr[k]'a1).ln.length-(j+1)) oG agA ?_;replace a3:=a3.tr0 a9;rw[<- bi]at a3;replace hB:=hB.tr0 (an.t (ad.t a9));replace a6:=a6.tr0 (an.t (ad.t a9));replace a5:=a5.tr0 (an.t (ad.t a9));replace a4:=a4.tr0 (an.t (ad.t a9));replace a2:=a2.tr0 (an.t (ad.t a9))
   exact⟨j+1,by omega,rfl,rfl,hB,a6,a5,a4,a2,a3,fun j' bf h=>by
     by_cases e:j'=j
     ·subst e;rw[ba];simpa using br
     ·exact hN j' bf oG⟩
  have hun:=SV a1 (fun j' bf=>hN j' bf oG);refine vy ?_;refine xK (gr.length-(k+1)) oG agA ?_;exact⟨k+1,by omega,rfl,rfl,hB,a6,a5,a4,a2,hU.trans (ov a1 hun)⟩
 have hT0:=hU.trans (Z4 oG);refine zn9 ?_;refine aY kR (unr_any G cg l.length fs.length gr _ (hG.mono hB) bb) rfl (fun w23 s19=>?_);refine zn9 ?_;refine zV rfl (fun c70=>?_) (fun c70=>?_)
 ·refine zn3 ?_;refine aY kR (Q9 _ _ _) rfl (fun w24 s20=>?_);refine zk a2.u rfl rfl zq rfl zJ (fun w25 hq s21=>?_);replace a2:=hq;refine zn4 ?_;refine yx (.inl rfl) rfl (zZ U45 rfl rfl a2.range0 zq) ?_;exact⟨vj (L1 be hT0 oG),hB.u⟩
 refine zn4 ?_;refine wl (kK (vs:=#[]) (cs:=#[.int .i64 0,.int .i64 0]) (by simp) kR) ?_;refine zk a2.u rfl rfl zq rfl zJ (fun w26 hq s22=>?_);replace a2:=hq;refine zn3 ?_;refine yx (.inl rfl) rfl (zZ U45 rfl rfl a2.range0 zq) ?_;exact⟨vj (XY be hT0 oG),hB.u⟩
theorem inh_any(A B G:Option Addr)(c d cg:Nat)(l:List Ty)(fs:List Ft)(gr:List Nd)(w:World)(hT:TypesIn w A l)(hv:VT l)(h60:l.length<=60)(hF:FeatsIn w B fs)(hG:NodesIn w G gr)(hfo:FOk l.length fs):Calls prog 10 #[.agg #[.slice A l.length c,.slice B fs.length d],.agg #[.slice G gr.length cg]] w fun e w'=>e= .returned (flV (x7 l fs gr))/\Bel w w':=by
 refine enT func10 ntmps10 rfl rfl fun hB=>?_;refine zn2 ?_;refine qY (v:= .agg #[_,_]) (cs:=#[_,_]) rfl rfl (fun b2 w1 a5 s1 hr=>?_);refine qY (v:= .agg #[_]) (cs:=#[_]) rfl rfl (fun b3 w2 a4 s2 hr=>?_);refine qk (cs:=#[.int .i64 0,.int .i64 0]) qK rfl (fun b4 w3 a2 s3 hr=>?_);have lo4:=nLT (Bel.size hB.u) hr;refine zn7 ?_;refine aY kR (G0 A B G c d cg l fs gr _ (hG.mono hB.u)) rfl (fun w4 s4=>?_);refine yj (cs:=#[.int .i64 0,.int .i64 0]) qK rfl (fun _=>rfl) (fun _=>rfl) zq rfl zJ (fun b5 w6 hb5 s5 hr=>?_);refine zn9 ?_;refine zV rfl (fun bn=>?_) (fun bn=>?_)
 ·refine zn3 ?_;refine zk a2.u rfl rfl zq rfl zJ (fun w7 hq s6=>?_);replace a2:=hq;refine zn4 ?_;refine yx (.inl rfl) rfl (zZ U45 rfl rfl a2.range0 zq) ?_;exact⟨vj (MQ bn),hB.u⟩
 have bb:=ak.1 bn;have b8:=R6 bb;have hk6:=b8.le;refine jz ?_;refine qj (rg [6,7,9,10] 22 45) (fun m g w'=>∃ k:Nat,k<=gr.length/\m=gr.length-k/\g 22= .int .i64 k/\Bel w w'/\Blk w' b2 25 #[.slice A l.length c,.slice B fs.length d]/\Blk w' b3 28 #[.slice G gr.length cg]/\Blk w' b4 45 #[.int .i64 0,.int .i64 0]/\tyF l fs gr=vk (tyN l fs gr) k (gr.length-k)) (gr.length) ?_ (fun m g5 w8 hI=>?_)
 ·exact⟨0,ag _,rfl,rfl,hB.u,a5.u,a4.u,a2.u,rfl⟩
 obtain⟨k,hk,hm,hkk,hB,a5,a4,a2,hU⟩:=hI;refine zK 22 _ hkk nu (zn6 ?_);refine zV rfl (fun c23=>?_) (fun c23=>?_)
 ·have a1:k<gr.length:=by omega
  obtain⟨nb,no,LA,lc,rfl,hnb,hnr,hln⟩:=hG.at_ hB a1;have hmx:=hln.1;unfold jx at hmx;refine zn8 ?_;refine wl (qZ U93 rfl rfl hnr JW) ?_;refine qk (cs:=#[.int .i64 0,.slice none 0 0]) ze93 rfl (fun b7 w9 a3 s7 hr=>?_);have:=nLL a5.lt hr;have:=nLL a4.lt hr;have:=nLL a2.lt hr;have lo7:=nLT (Bel.size hB) hr;refine waI rfl ?_;refine zk a3 rfl rfl JW rfl zJ (fun w10 hq s8=>?_);replace a3:=hq;refine kQ ?_;refine qj (rg [9,10] 30 36) (fun m g w'=>∃ j:Nat,j<=(gr[k]'a1).ln.length/\m=(gr[k]'a1).ln.length-j/\g 30= .int .i64 j/\Bel w w'/\Blk w' b2 25 #[.slice A l.length c,.slice B fs.length d]/\Blk w' b3 28 #[.slice (some ⟨nb,no,none⟩) gr.length cg]/\Blk w' b4 45 #[.int .i64 0,.int .i64 0]/\Blk w' b7 93 #[.int .i64 (gr[k]'a1).ty,.slice LA (gr[k]'a1).ln.length lc]/\(∀ j' (bc:j'<(gr[k]'a1).ln.length),j'<j->NY l fs gr (gr[k]'a1).ty ((gr[k]'a1).ln[j'])=false)) ((gr[k]'a1).ln.length) ?_ (fun m g8 w11 hI=>?_)
  ·exact⟨0,ag _,rfl,rfl,hB.u,a5.u,a4.u,a2.u,a3,fun j' _ h=>by omega⟩
  obtain⟨j,hj,hmj,hjj,hB,a5,a4,a2,a3,hN⟩:=hI;refine zK 30 _ hjj nu (zn6 ?_);refine zV rfl (fun c31=>?_) (fun c31=>?_)
  ·have a6:j<(gr[k]'a1).ln.length:=by omega
   obtain⟨lb,lof,rfl,hlb,hlr⟩:=hln.at_ hB a6;have hxr:=b8.ln k a1 _ (ar a6);obtain⟨fi,hfi,a7⟩:∃ t:Nat,((gr[k]'a1).ln[j]'a6).1=(t:Int)/\t<fs.length:=⟨(((gr[k]'a1).ln[j]'a6).1).toNat,by omega,by omega⟩
   obtain⟨ti,hti,htl⟩:∃ t:Nat,((gr[k]'a1).ln[j]'a6).2=(t:Int)/\t<gr.length:=⟨(((gr[k]'a1).ln[j]'a6).2).toNat,by omega,by omega⟩
   obtain⟨yn,bf,be⟩:∃ t:Nat,(gr[k]'a1).ty=(t:Int)/\t<l.length:=by
     have h:=b8.ty k a1;exact⟨(gr[k]'a1).ty.toNat,by omega,by omega⟩
   obtain⟨zn,hzn,bd⟩:∃ t:Nat,(gr[ti]'htl).ty=(t:Int)/\t<l.length:=by
     have h:=b8.ty ti htl;exact⟨(gr[ti]'htl).ty.toNat,by omega,by omega⟩
   have hff:=hfo.at_ fi a7;obtain⟨on,hon,bh⟩:∃ t:Nat,(fs[fi]'a7).of=(t:Int)/\t<l.length:=⟨(fs[fi]'a7).of.toNat,by omega,by omega⟩
   obtain⟨vn,hvn,bg⟩:∃ t:Nat,(fs[fi]'a7).val=(t:Int)/\t<l.length:=⟨(fs[fi]'a7).val.toNat,by omega,by omega⟩
   obtain⟨fb,fo,rfl,hfb,hfr⟩:=hF.at_ (Below.refl _ _:Bel w w) a7;obtain⟨nb2,no2,LA2,lc2,he2,bi,b1,_⟩:=hG.at_ (Below.refl _ _:Bel w w) htl;cases he2;rw[hzn]at b1;have b6:=lnTy_at (l:=l) hfi a7 hti htl bf hon hvn hzn;refine zn7 ?_;refine wl (qZ U90 rfl rfl hlr Yj) ?_;refine yj (cs:=#[.int .i64 0,.int .i64 0]) OK rfl (fun _=>rfl) (fun _=>rfl) Yj rfl zJ (fun b9 w13 hb9 s9 hr=>?_);refine zn3 ?_;rw[hfi,hti]at hb9;refine zn7 ?_;refine yj (cs:=#[.string ⟨#[]⟩,.int .i64 0,.int .i64 0]) B5 rfl (fun _=>rfl) (fun _=>rfl) Bk rfl zJ (fun b10 w15 bj ad hr=>?_);refine zn3 ?_;rw[hon,hvn]at bj;replace a3:=a3.tr0 (s9.t ad);rw[bf]at a3;refine y7 (rg [] 40 23) (fun g w'=>g 62= .bool (!sub l yn on || !sub l zn vn)/\Same [] w15 w') ?_ (fun g11 w16 hI=>?_)
   ·refine u5 [] [0,1,2,3,4,5,6,7,8,9,10,11,12,13,14,15,16,17,18,19,20,21,22] rfl (fun w17 s11=>?_);have a8:=s11;refine zn6 ?_;refine hcl (fun v wv=>v= .bool (sub l yn on)) rfl Sj (sub_any A c l yn on w17 (hT.mono hB.u) hv h60 be bh) rfl (fun e' w2 hr=>?_) (fun v46 w18 s12 d46=>?_)
    ·obtain⟨rfl,s13⟩:=hr;exact⟨_,rfl,sB s13,rfl⟩
    have e46:=d46;subst e46;refine zn2 ?_;replace a8:=a8.t s12;refine h_cases 48 rfl (fun bk=>?_) (fun bk=>?_)
    ·refine My ?_;refine e_R ⟨agA,?_,a8⟩;show Value.bool _=Value.bool _;exact ac (by simp[bk])
    refine zn8 ?_;refine hg1 (v:= .int _ _) 48 rfl rfl rfl U3 rfl rfl (hB.u.cell bi (b1 0 _ rfl)) (zn2 ?_);refine h1 rfl (zn1 ?_);refine zW Sj (sub_any A c l zn vn w18 (hT.mono hB.u) hv h60 bd bg) rfl (fun e' w19 hr=>?_);obtain⟨rfl,ba⟩:=hr;replace ba:=sB ba;have an:=ba;refine⟨_,rfl,?_⟩;refine zQ (E2 an (zn3 ?_));replace a8:=a8.t ba;refine e_R ⟨agA,?_,a8⟩;show Value.bool _=Value.bool _;exact ac (by simp[bk])
   obtain⟨h62,a9⟩:=hI;refine jK 62 _ h62 nu (e_S ?_);refine ky rfl (fun bm=>?_) (fun bm=>?_)
   ·have hty:=tyN_yes a1 a6 (b6.trans bm);refine zn3 ?_;refine wl (jk (v0:= .int _ _) (v1:= .int _ _) (fun v0 v1=>#[v0,v1]) rfl rfl kR) ?_;refine zk a2.u rfl rfl zq rfl zJ (fun w20 hq s16=>?_);replace a2:=hq;refine jz ?_;refine yx (.inl rfl) rfl (zZ U45 rfl rfl a2.range0 zq) ?_;exact⟨vj (wi_ty bb (hU.trans (yW (c:=12) oG hty dE))),hB.u⟩
   refine zn7 ?_;refine xK ((gr[k]'a1).ln.length-(j+1)) oG agA ?_;replace a3:=a3.tr0 a9;rw[<- bf]at a3;replace hB:=hB.tr0 (s9.t (ad.t a9));replace a5:=a5.tr0 (s9.t (ad.t a9));replace a4:=a4.tr0 (s9.t (ad.t a9));replace a2:=a2.tr0 (s9.t (ad.t a9))
   exact⟨j+1,by omega,rfl,rfl,hB,a5,a4,a2,a3,fun j' bc h=>by
     by_cases e:j'=j
     ·subst e;rw[b6];simpa using bm
     ·exact hN j' bc oG⟩
  have hun:=SV a1 (fun j' bc=>hN j' bc oG);refine vy ?_;refine xK (gr.length-(k+1)) oG agA ?_;exact⟨k+1,by omega,rfl,rfl,hB,a5,a4,a2,hU.trans (ov a1 hun)⟩
 have hT0:=hU.trans (Z4 oG);refine zn9 ?_;refine aY kR (runr_any G cg l.length fs.length gr _ (hG.mono hB) b8) rfl (fun w21 s17=>?_);refine zn9 ?_;refine zV rfl (fun c70=>?_) (fun c70=>?_)
 ·refine zn3 ?_;refine wl (jk (v0:= .int _ _) (v1:= .int _ _) (fun v0 v1=>#[v0,v1]) rfl rfl kR) ?_;refine zk a2.u rfl rfl zq rfl zJ (fun w22 hq s18=>?_);replace a2:=hq;refine zn4 ?_;refine yx (.inl rfl) rfl (zZ U45 rfl rfl a2.range0 zq) ?_;exact⟨vj (L1 bb hT0 oG),hB.u⟩
 refine zn4 ?_;refine wl (kK (vs:=#[]) (cs:=#[.int .i64 0,.int .i64 0]) (by simp) kR) ?_;refine zk a2.u rfl rfl zq rfl zJ (fun w23 hq s19=>?_);replace a2:=hq;refine zn3 ?_;refine yx (.inl rfl) rfl (zZ U45 rfl rfl a2.range0 zq) ?_;exact⟨vj (XY bb hT0 oG),hB.u⟩
theorem qw{w:World}{b t:Nat}(xs:List Int)(h:Blk w b t (xs.map (Value.int .i64)).toArray)(hl:xs.length<=jx):IntsIn w (some ⟨b,0,none⟩) xs:=
 ⟨hl,fun _=>⟨b,0,rfl,h.lt,fun k hk=>h.cell (by simp[hk])⟩⟩
theorem R8{w:World}{b t:Nat}(fs:List Ft)(h:Blk w b t (fs.flatMap (fun f=>[Value.string f.name,.int .i64 f.of,.int .i64 f.val])).toArray)(hl:fs.length<=jx):FeatsIn w (some ⟨b,0,none⟩) fs:=by
 refine⟨hl,fun _=>⟨b,0,rfl,h.lt,fun k hk=>?_⟩⟩;have key:∀(l:List Ft) (k:Nat) (hk:k<l.length) (j:Nat) (v:Value),[Value.string (l[k]).name,.int .i64 (l[k]).of,.int .i64 (l[k]).val][j]? =some v->(l.flatMap (fun f=>[Value.string f.name,.int .i64 f.of,.int .i64 f.val]))[k*3+j]? =some v:=by
  intro l
  induction l with
  | nil=>intro k hk;simp at hk
  | cons a r ih=>
   intro k hk j v hj
   match k,hk with
   | 0,_=>
    have hj3:j<3:=(av.1 hj).1;rw[List.flatMap_cons,List.getElem?_append_left (by simpa using hj3)]
    simpa using hj
   | k+1,hk=>
    rw[List.flatMap_cons,List.getElem?_append_right (by simp;omega)];have:=ih k (by simpa using hk) j v hj;have e:(k+1)*3+j-[Value.string a.name,.int .i64 a.of,.int .i64 a.val].length=k*3+j:=by simp;omega
    rw[e];exact this
 intro j v hj;have:=key fs k hk j v hj;exact h.cell (by simpa using this)
inductive TyVs(w:World):List Ty->List Value->Prop
 | nil:TyVs w [] []
 | cons {t:Ty} {l:List Ty} {vs:List Value} {A:Option Addr} {c:Nat} (h:IntsIn w A t.par) (r:TyVs w l vs):TyVs w (t::l) (.string t.name:: .slice A t.par.length c::vs)
theorem TyVs.get{w:World}{l:List Ty}{vs:List Value}(h:TyVs w l vs):∀ k (hk:k<l.length),∃ A c,vs[k*2]? =some (.string (l[k]).name)/\vs[k*2+1]? =some (.slice A (l[k]).par.length c)/\IntsIn w A (l[k]).par:=by
 induction h with
 | nil=>intro k hk;simp at hk
 | cons h r ih=>
  intro k hk
  match k,hk with
  | 0,_=>exact⟨_,_,rfl,rfl,h⟩
  | k+1,hk=>
   obtain⟨A,c,h1,h2,h3⟩:=ih k (by simpa using hk);refine⟨A,c,?_,?_,h3⟩
   ·rw[show (k+1)*2=k*2+1+1 from by omega];simpa using h1
   ·rw[show (k+1)*2+1=k*2+1+1+1 from by omega];simpa using h2
theorem ints_nil(w:World)(A:Option Addr):IntsIn w A []:=⟨ag _,fun h=>absurd rfl h⟩
theorem uZ(w:World)(A:Option Addr):NodesIn w A []:=⟨ag _,fun h=>absurd rfl h⟩
theorem Oq:(prog.info? 68).map (·.size)=some 1:=by kernel_rfl
set_option maxHeartbeats 2000000 in
theorem PK{w0:World}{G:Option Addr}{cg nf bP bQ bG bV bn base:Nat}{gr:List Nd}(hG:NodesIn w0 G gr)(hk:B4 nf gr)(hlo:w0.heap.size<=base)(_l0P:w0.heap.size<=bP)(l0Q:w0.heap.size<=bQ)(_l0G:w0.heap.size<=bG)(_l0V:w0.heap.size<=bV)(l0n:w0.heap.size<=bn)(lP:bP<base)(lQ:bQ<base)(lG:bG<base)(lV:bV<base)(ln:bn<base)(nPQ:bP≠bQ)(nPn:bP≠bn)(nQn:bQ≠bn)(nGQ:bG≠bQ)(nGn:bG≠bn)(nVQ:bV≠bQ)(nVn:bV≠bn){o:List Nat}{A:Option Addr}{cap:Nat}{w:World}(hB:Bel w0 w)(hbs:base<=w.heap.size)(hok:OOk gr.length o)(a8:Blk w bP 68 #[.slice (some ⟨bn,0,none⟩) gr.length gr.length])(a4:Blk w bQ 68 #[.slice A (o).length cap])(a9:Blk w bG 28 #[.slice G gr.length cg])(a7:Blk w bV 187 #[.func (.func 118) #[] #[.pointer (some ⟨bP,0,none⟩),.pointer (some ⟨bQ,0,none⟩),.pointer (some ⟨bG,0,none⟩),.pointer (some ⟨bV,0,none⟩)]])(a2:Blk w bn 3 (row gr.length (fun x=> .int .i64 (o8 o x))))(ho:Own w base 3 1 A (o).length cap (oV (o))){i:Nat}(a3:i<gr.length)(IH:∀(t:Nat) (o2:List Nat) (A2:Option Addr) (a5:Nat) (w2:World),jW gr.length (J1 o2)<jW gr.length (J1 o)->t<gr.length->Bel w0 w2->base<=w2.heap.size->OOk gr.length o2->Blk w2 bP 68 #[.slice (some ⟨bn,0,none⟩) gr.length gr.length]->Blk w2 bQ 68 #[.slice A2 (o2).length a5]->Blk w2 bG 28 #[.slice G gr.length cg]->Blk w2 bV 187 #[.func (.func 118) #[] #[.pointer (some ⟨bP,0,none⟩),.pointer (some ⟨bQ,0,none⟩),.pointer (some ⟨bG,0,none⟩),.pointer (some ⟨bV,0,none⟩)]]->Blk w2 bn 3 (row gr.length (fun x=> .int .i64 (o8 o2 x)))->Own w2 base 3 1 A2 (o2).length a5 (oV (o2))->Calls prog 118 #[.int .i64 (t:Nat),.pointer (some ⟨bP,0,none⟩),.pointer (some ⟨bQ,0,none⟩),.pointer (some ⟨bG,0,none⟩),.pointer (some ⟨bV,0,none⟩)] w2 fun e w'=>e= .returned (.tuple #[])/\∃ o' A' cap',DL gr [t] o2 o'/\Blk w' bQ 68 #[.slice A' o'.length cap']/\Own w' base 3 1 A' o'.length cap' (oV o')/\Blk w' bn 3 (row gr.length (fun x=> .int .i64 (o8 o' x)))/\Chg base [bQ,bn] w2 w'):Calls prog 118 #[.int .i64 (i:Nat),.pointer (some ⟨bP,0,none⟩),.pointer (some ⟨bQ,0,none⟩),.pointer (some ⟨bG,0,none⟩),.pointer (some ⟨bV,0,none⟩)] w fun e w'=>e= .returned (.tuple #[])/\∃ o' A' cap',DL gr [i] o o'/\Blk w' bQ 68 #[.slice A' o'.length cap']/\Own w' base 3 1 A' o'.length cap' (oV o')/\Blk w' bn 3 (row gr.length (fun x=> .int .i64 (o8 o' x)))/\Chg base [bQ,bn] w w':=by
 have a1:Chg base [bQ,bn] w w/\base<=w.heap.size:=⟨Chg.refl _ _ _,hbs⟩
 have hn6:=hk.le;have hrg:=BZ hk;have hol:=hok.cnt;refine enter func118 ntmps118 rfl (ay rfl) (zn5 ?_);refine wl (xX (i:=i) U68 xx rfl rfl a3 rfl) (wl (qW (v:= .int _ _) U3 rfl rfl (a2.cell (jJ a3))) (zn3 ?_));refine zV rfl (fun bo=>?_) (fun bo=>?_)
 ·refine c_ret (e_Sr (fin0 (.inl rfl) rfl  ?_));exact⟨rfl,o,A,cap,.old (numO_pos bo) .nil,a4,ho,a2,a1.1⟩
 have be:=numO_neg bo;have bb:=hok.snoc a3 be;have hol2:=bb.cnt;refine zn8 ?_;refine wl (xX (i:=i) U68 xx rfl rfl a3 rfl) ?_;refine xZ (v:= .int _ _) a2 rfl rfl xx (by rw[row_size];omega) rfl uk (fun w1 hq t1=>?_);replace hB:=hB.tr1 t1 l0n;replace ho:=ho.tq t1;replace a1:=And.intro (a1.1.st t1 a1.2 (fun g hg=>by have h1:=aj.1 hg;first|(left;rw[h1];simp;done)|(right;omega))) (nLT a1.2 (Same.size t1));replace a2:=hq;rw[row_num be]at a2;refine zn6 ?_;refine qv (cs:=#[_]) [(0,.int _ _)] rfl U68 xx Qj dE dE kR rfl (fun b20 w2 bk t2 hr=>?_);have:=nLL a8.u.lt hr;have:=nLL a4.u.lt hr;have:=nLL a9.u.lt hr;have:=nLL a7.u.lt hr;have:=nLL a2.lt hr;have b6:=fun g hg=>nLL (ho.lt g hg).2 hr
 have b1:=(nLT a1.2 hr)
 replace a1:=And.intro (a1.1.st t2 a1.2 (by simp)) (nLT a1.2 (Same.size t2));replace ho:=ho.tr0 t2;refine jv U68 in3 rfl dE ho bk rfl rfl rfl zJ dE oG oG a1.2 (fun ba bd w3 an t3 hg=>?_);replace a2:=a2.tr0 t2;have b4:ba≠bP:=neA ho a8.u.lt hg
 have a6:ba≠bQ:=neA ho a4.u.lt hg
 have b5:ba≠bG:=neA ho a9.u.lt hg
 have b3:ba≠bV:=neA ho a7.u.lt hg
 have b2:ba≠bn:=neA ho a2.lt hg
 replace hB:=hB.u.tr t3 (fun g hg=>nLT hlo (ho.lt g hg).1);replace a8:=(a8.tr1 t1 oG).tr0 t2;replace a8:=a8.ta t3 ho;replace a4:=(a4.tr1 t1 oG).tr0 t2;replace a4:=a4.ta t3 ho;replace a9:=(a9.tr1 t1 oG).tr0 t2;replace a9:=a9.ta t3 ho;replace a7:=(a7.tr1 t1 oG).tr0 t2;replace a7:=a7.ta t3 ho;replace a2:=a2.ta t3 ho;replace a1:=And.intro (a1.1.st t3 a1.2 (fun g hg=> .inr ((ho).lt g hg).1)) (nLT a1.2 (Same.size t3));refine xZ (v:= .slice _ _ _) a4 rfl rfl Oq (by first|decide|simp) rfl rfl (fun w4 hq t4=>?_);replace hB:=hB.tr1 t4 l0Q;replace a1:=And.intro (a1.1.st t4 a1.2 (fun g hg=>by have h1:=aj.1 hg;first|(left;rw[h1];simp;done)|(right;omega))) (nLT a1.2 (Same.size t4));replace an:=an.tr1 t4 (neS a6);replace a4:=hq;replace a4:Blk w4 bQ 68 #[.slice (some ⟨ba,0,none⟩) (o++[i]).length bd]:=by rw[<- sl_oV];exact a4
 replace an:=own_oV an;refine zn3 ?_;obtain⟨nb,no,LA,lc,rfl,hnb,hnr,hln⟩:=hG.at_ hB a3;have hmx:=hln.1;unfold jx at hmx;refine zn4 ?_;refine wl (xX (i:=i) U26 JW rfl rfl a3 rfl) (zn1 ?_);refine wl (qW (v:= .slice _ _ _) U91 rfl rfl (hnr 1 _ rfl)) (zn5 ?_);replace a2:=a2.tr1 t4 oG;refine qj (rg [7] 29 9) (fun m g w'=>∃(j:Nat) (o2:List Nat) (A2:Option Addr) (a5:Nat),j<=(gr[i]'a3).ln.length/\m=(gr[i]'a3).ln.length-j/\g 29= .int .i64 j/\DL gr ((vZ gr i).take j) (o++[i]) o2/\Bel w0 w'/\Blk w' bP 68 #[.slice (some ⟨bn,0,none⟩) gr.length gr.length]/\Blk w' bQ 68 #[.slice A2 (o2).length a5]/\Blk w' bG 28 #[.slice (some ⟨nb,no,none⟩) gr.length cg]/\Blk w' bV 187 #[.func (.func 118) #[] #[.pointer (some ⟨bP,0,none⟩),.pointer (some ⟨bQ,0,none⟩),.pointer (some ⟨bG,0,none⟩),.pointer (some ⟨bV,0,none⟩)]]/\Blk w' bn 3 (row gr.length (fun x=> .int .i64 (o8 o2 x)))/\Own w' base 3 1 A2 (o2).length a5 (oV (o2))/\(Chg base [bQ,bn] w w'/\base<=w'.heap.size)) ((gr[i]'a3).ln.length) ?_ (fun m g4 w5 hI=>?_)
 ·exact⟨0,_,_,_,ag _,rfl,rfl,.nil,hB,a8.u,a4,a9.u,a7.u,a2,an,a1⟩
 obtain⟨j,o2,A2,a5,hj,hm,h29,hD,hB,a8,a4,a9,a7,a2,ho,a1⟩:=hI;refine zK 29 _ h29 nu (zn6 ?_);refine zV rfl (fun c30=>?_) (fun c30=>?_)
 ·have bc:j<(gr[i]'a3).ln.length:=by omega
  obtain⟨lb,lof,rfl,hlb,hlr⟩:=hln.at_ hB bc;obtain⟨t,ht,htl⟩:∃ t:Nat,((gr[i]'a3).ln[j]'bc).2=(t:Int)/\t<gr.length:=by
    have h1:=hk.ln i a3 _ (ar bc);exact⟨(((gr[i]'a3).ln[j]'bc).2).toNat,by omega,by omega⟩
  obtain⟨bf,s3,hs3⟩:=hD.ok hrg (fun x hx=>hrg i a3 x (List.mem_of_mem_take hx)) bb;have hlk:jW gr.length (J1 o2)<jW gr.length (J1 o):=by
    rw[hs3];exact Nat.lt_of_le_of_lt (lack_more _ _ _) (O2 a3 be)
  refine zn7 ?_;refine wl (qZ U90 rfl rfl hlr Yj) ?_;refine qk (cs:=#[.int .i64 0,.int .i64 0]) OK rfl (fun b7 w6 bj t5 hr=>?_);have:=nLL a8.lt hr;have:=nLL a4.lt hr;have:=nLL a9.lt hr;have:=nLL a7.lt hr;have:=nLL a2.lt hr;have b8:=(nLT a1.2 hr)
  have ad:=fun g hg=>nLL (ho.lt g hg).2 hr
  have lo7:=nLT (Bel.size hB) hr;replace a1:=And.intro (a1.1.st t5 a1.2 (by simp)) (nLT a1.2 (Same.size t5));refine zk bj rfl rfl Yj rfl zJ (fun w7 hq t6=>?_);replace a1:=And.intro (a1.1.st t6 a1.2 (fun g hg=>by have h1:=aj.1 hg;first|(left;rw[h1];simp;done)|(right;omega))) (nLT a1.2 (Same.size t6));replace ho:=ho.tr0 t5;replace ho:=ho.tr1 t6 (neL ad);replace bj:=hq;refine zQ (e_S ?_);rw[ht]at bj;refine zn4 ?_;replace a2:=(a2.tr0 t5).tr1 t6 oG;refine y9 rfl kR (IH t o2 A2 a5 _ hlk htl hB.u a1.2 bf a8.u a4.u a9.u a7.u a2 ho) rfl rfl (fun e' w8 hr=>?_);obtain⟨rfl,o3,A3,bm,hD3,bi,ho3,bh,b9⟩:=hr;replace hB:=(hB.tr0 t5).tr1 t6 lo7;replace hB:=hB.chg b9 hlo (by simp[l0Q,l0n]);replace a8:=(a8.tr0 t5).tr1 t6 oG;replace a8:=a8.chg b9 lP (by simp[nPQ,nPn]);replace a9:=(a9.tr0 t5).tr1 t6 oG;replace a9:=a9.chg b9 lG (by simp[nGQ,nGn]);replace a7:=(a7.tr0 t5).tr1 t6 oG;replace a7:=a7.chg b9 lV (by simp[nVQ,nVn]);replace a4:=bi;replace a2:=bh;replace ho:=ho3;replace a1:=And.intro (a1.1.trans b9) (nLT a1.2 b9.size);refine⟨_,rfl,?_⟩;refine zn7 ?_;refine xK ((gr[i]'a3).ln.length-(j+1)) oG agA ?_;exact⟨j+1,o3,A3,bm,by omega,rfl,rfl,by rw[Lk a3 bc ht];exact hD.append hD3,hB,a8,a4,a9,a7,a2,ho,a1⟩
 have hjx:j=(gr[i]'a3).ln.length:=by omega
 have bg:DL gr (vZ gr i) (o++[i]) o2:=by
   have e:(vZ gr i).take j=vZ gr i:=List.take_of_length_le (by simp[vZ,yV a3,hjx]);rw[e]at hD;exact hD
 refine zn4 ?_;refine fin0 (.inr rfl) rfl  ?_;exact⟨rfl,o2,A2,a5,.new be bg .nil,a4,ho,a2,a1.1⟩
theorem visit_any{w0:World}{G:Option Addr}{cg nf bP bQ bG bV bn base:Nat}{gr:List Nd}(hG:NodesIn w0 G gr)(hk:B4 nf gr)(hlo:w0.heap.size<=base)(a3:w0.heap.size<=bP)(l0Q:w0.heap.size<=bQ)(a4:w0.heap.size<=bG)(a2:w0.heap.size<=bV)(l0n:w0.heap.size<=bn)(lP:bP<base)(lQ:bQ<base)(lG:bG<base)(lV:bV<base)(ln:bn<base)(nPQ:bP≠bQ)(nPn:bP≠bn)(nQn:bQ≠bn)(nGQ:bG≠bQ)(nGn:bG≠bn)(nVQ:bV≠bQ)(nVn:bV≠bn):∀(m:Nat) (o:List Nat) (A:Option Addr) (cap:Nat) (w:World) (i:Nat),jW gr.length (J1 o)<=m->i<gr.length->Bel w0 w->base<=w.heap.size->OOk gr.length o->Blk w bP 68 #[.slice (some ⟨bn,0,none⟩) gr.length gr.length]->Blk w bQ 68 #[.slice A (o).length cap]->Blk w bG 28 #[.slice G gr.length cg]->Blk w bV 187 #[.func (.func 118) #[] #[.pointer (some ⟨bP,0,none⟩),.pointer (some ⟨bQ,0,none⟩),.pointer (some ⟨bG,0,none⟩),.pointer (some ⟨bV,0,none⟩)]]->Blk w bn 3 (row gr.length (fun x=> .int .i64 (o8 o x)))->Own w base 3 1 A (o).length cap (oV (o))->Calls prog 118 #[.int .i64 (i:Nat),.pointer (some ⟨bP,0,none⟩),.pointer (some ⟨bQ,0,none⟩),.pointer (some ⟨bG,0,none⟩),.pointer (some ⟨bV,0,none⟩)] w fun e w'=>e= .returned (.tuple #[])/\∃ o' A' cap',DL gr [i] o o'/\Blk w' bQ 68 #[.slice A' o'.length cap']/\Own w' base 3 1 A' o'.length cap' (oV o')/\Blk w' bn 3 (row gr.length (fun x=> .int .i64 (o8 o' x)))/\Chg base [bQ,bn] w w':=by
 intro m
 induction m with
 | zero=>intro o A cap w i hm a6 hB a7 a5 h1 h2 h3 h4 h5 h6;exact PK hG hk hlo a3 l0Q a4 a2 l0n lP lQ lG lV ln nPQ nPn nQn nGQ nGn nVQ nVn hB a7 a5 h1 h2 h3 h4 h5 h6 a6 (fun t o2 A2 a1 w2 hl=>by omega)
 | succ m ih=>intro o A cap w i hm a6 hB a7 a5 h1 h2 h3 h4 h5 h6;exact PK hG hk hlo a3 l0Q a4 a2 l0n lP lQ lG lV ln nPQ nPn nQn nGQ nGn nVQ nVn hB a7 a5 h1 h2 h3 h4 h5 h6 a6 (fun t o2 A2 a1 w2 hl=>ih o2 A2 a1 w2 t oG)
section
section eng3
variable {P:Program} {Q:Exit->Act->World->Prop} {n:Nw} {f:Fr} {w:World} {ops:Array Oper} {rest:List Oper} {d:Tmp} {ty t e:TypeId} {pos:String} {af:Array Edge} {x y:Operand}
theorem r_cap{dst:Option Tmp}{gd:Option (Nat×Bool)}{A:Option Addr}{m c:Nat}(hu:P.underlying t=some (.slice e))(hx:ev n f x= .slice A m c):
  RV P n f w ⟨dst,.call { callee:= .builtin .cap,args:=#[x],argTypes:=#[t] },ty,pos,af,gd⟩ (.int .i64 (c:Int)) w:=by
 simp[RV,execOp,resolve,invoke,builtin,hx,Builtin.cap_,run_underlying hu,goInt]
theorem run_app0{A B:Option Addr}{k cap c sz:Nat}(hu:P.underlying t=some (.slice e))(hs:(P.info? e).map (·.size)=some sz)(hk:k<=cap):
  (Builtin.append_ #[t,t] ty #[.slice A k cap,.slice B 0 c]).run P w= .ok (.slice A k cap) w:=by
 cases hq:P.info? e with
 | none=>simp[hq]at hs
 | some i=>
  simp only[hq,Option.map_some,Option.some.injEq]at hs;have hz:(Go.sizeOf e).run P w= .ok sz w:=by simp[Go.sizeOf,typeInfo,hq,hs]
  have h0:(Builtin.firstCells sz 0 (.slice B 0 c)).run P w= .ok #[] w:=by
   cases B with
   | none=>simp[Builtin.firstCells]
   | some b=>simp[Builtin.firstCells,loadCells,loadCellsFrom]
  cases A with
  | none=>simp[Builtin.append_,run_underlying hu,hz,Builtin.lenOf,hk,h0]
  | some a=>simp[Builtin.append_,run_underlying hu,hz,Builtin.lenOf,hk,h0,storeCells]
theorem r_app0{dst:Option Tmp}{gd:Option (Nat×Bool)}{A B:Option Addr}{k cap c sz:Nat}(hu:P.underlying t=some (.slice e))(hs:(P.info? e).map (·.size)=some sz)(hk:k<=cap)(hx:ev n f x= .slice A k cap)(hy:ev n f y= .slice B 0 c):
  RV P n f w ⟨dst,.call { callee:= .builtin .append,args:=#[x,y],argTypes:=#[t,t] },ty,pos,af,gd⟩ (.slice A k cap) w:=by
 have hr:=run_app0 (P:=P) (w:=w) (ty:=ty) (A:=A) (B:=B) (c:=c) hu hs hk;simp only[RV,execOp,resolve,invoke,builtin,Sem.run_bind,Sem.run_pure,Result.andThen_ok,List.map_toArray,List.map_cons,List.map_nil,hx,hy,hr]
theorem wl_appZ{tn:TypeId}{zv:Value}{sz by' k:Nat}(hu:P.underlying t=some (.slice e))(hn:P.underlying tn=some (.int .i64))(hi:(P.info? e).map (fun i=>(i.zero,i.size,i.bytes))=some (some zv,sz,by'))(hz:zv.cells.size=sz)(h0:0<k)(hs:0<sz)(hb:k*by'<=140737488355328)(h63:k<=4611686018427387904)
  (hx:ev n f x= .slice none 0 0) (hy:ev n f y= .int .i64 (k:Int))
  (K:∀ b cap w1,Own w1 w.heap.size e sz (some ⟨b,0,none⟩) 0 cap []->Same [] w w1->w.heap.size<=b->k<=cap->cap<=9223372036854775807->WL P ops Q rest n (upd f d (.slice (some ⟨b,0,none⟩) k cap)) w1):
  WL P ops Q (⟨some d,.call { callee:= .builtin .append,args:=#[x,y],argTypes:=#[t,tn] },ty,pos,af,none⟩::rest) n f w:=by
 obtain⟨i,hq,hzz⟩:=aR.1 hi;simp only[Prod.mk.injEq]at hzz;obtain⟨z1,z2,z3⟩:=hzz;have a1:(Builtin.firstCells i.size 0 (.slice none 0 0)).run P w.drew= .ok ([]:List Value).toArray w.drew:=by simp[Builtin.firstCells]
 have a2:=growslice_fits (need:=0+k) (old:=0) (bytes:=i.bytes) oG (by rw[Nat.zero_add,z3];exact hb);have hr:=Lib.run_append_grow_zeros w t tn ty e i zv .i64 .i64 hu hn hq z1 none 0 0 [] a1 k h0 oG oG oG (by rw[z3];omega) a2;rw[Nat.zero_add]at hr;have hge:=grownCap_ge w k 0 e;have hle:=grownCap_le_maxLen w k 0 e (by unfold maxLen;omega)
 generalize grownCap w k 0 e=C at hr hge hle
 refine wl (v:= .slice (some ⟨w.heap.size,0,none⟩) k C) (w':=w.drew.alloc (.cells (#[]++Builtin.zeroCells zv.cells k++Builtin.zeroCells zv.cells (C-k)) e)) ?_ (K _ _ _ ?_ ?_ (ae _) hge (by unfold maxLen at hle;omega))
 ·simp only[RV,execOp,resolve,invoke,builtin,Sem.run_bind,Sem.run_pure,Result.andThen_ok,List.map_toArray,List.map_cons,List.map_nil,hx,hy,hr]
 ·refine⟨by simp,.inr ⟨w.heap.size,C,_,rfl,ae _,heap_alloc_new w.drew _,ag _,hle,?_,by simp⟩⟩
  simp only[Array.size_append,Builtin.zeroCells,Array.size_map,Array.size_range,hz];simp only[List.size_toArray,List.length_nil,Nat.zero_add,<- Nat.add_mul];rw[show k+(C-k)=C by omega]
 ·have hd:Same [] w w.drew:=⟨rfl,rfl,rfl,ae _,fun _ _ _=>rfl⟩
  exact hd.trans (gY w.drew _)
theorem wl_appL{zv:Value}{base sz by' k cap m c:Nat}{A B:Option Addr}{xs news:List Value}(hu:P.underlying t=some (.slice e))(hi:(P.info? e).map (fun i=>(i.zero,i.size,i.bytes))=some (some zv,sz,by'))(hzs:zv.cells.size=sz)(hsz:0<sz)
  (a1:Own w base e sz A k cap xs) (hx:ev n f x= .slice A k cap) (hy:ev n f y= .slice B m c) (hn:0<m->∃ b o',B=some ⟨b,o',none⟩/\∀ j u,news[j]? =some u->w.cell? ⟨b,o'+j,none⟩=some u) (hl:news.length=m*sz) (h1:news.all (·.oneCell')=true) (h63:k+m<=9223372036854775807) (a2:(k+m)*by'<=140737488355328) (a4:base<=w.heap.size)
  (K:∀ A' a3 w1,Own w1 base e sz A' (k+m) a3 (xs++news)->Same (aL A) w w1->(∀ g∈aL A',g∈aL A\/w.heap.size<=g)->WL P ops Q rest n (upd f d (.slice A' (k+m) a3)) w1):
  WL P ops Q (⟨some d,.call { callee:= .builtin .append,args:=#[x,y],argTypes:=#[t,t] },ty,pos,af,none⟩::rest) n f w:=by
 by_cases hm:0<m
 ·obtain⟨b,o',rfl,hc⟩:=hn hm
  refine wl_appC hu hi hzs hsz a1 hx hy hc hl h1 hm h63 a2 a4 (fun g a3 w1 ho hs hg=>K _ _ _ ho hs (fun g' hg'=>?_));have e1:g'=g:=aj.1 hg';subst e1;rcases hg with hg|hg
  ·exact .inl (by rw[hg];simp)
  ·exact .inr hg
 ·obtain rfl:m=0:=by omega
  obtain rfl:news= []:=aB.1 (by simpa using hl);have hs:(P.info? e).map (·.size)=some sz:=by
   obtain⟨i,hq,hzz⟩:=aR.1 hi;simp only[Prod.mk.injEq]at hzz;simp[hq,hzz.2.1]
  refine wl (r_app0 hu hs a1.cap_le hx hy) ?_;exact K A cap w (by simpa using a1) (Same.refl _ _) (fun g hg=> .inl hg)
end eng3
end
section
section eng4
variable {P:Program} {Q:Exit->Act->World->Prop} {n:Nw} {f:Fr} {w w':World} {ops:Array Oper} {rest:List Oper} {d:Tmp} {ty t e:TypeId} {pos:String} {af:Array Edge} {x y:Operand}
theorem X1{dst:Option Tmp}{gd:Option (Nat×Bool)}{a:Addr}(hx:ev n f x= .pointer (some a)):
 RV P n f w ⟨dst,.nilCheck x,ty,pos,af,gd⟩ (.pointer (some a)) w:=by simp[RV,execOp,hx]
variable {base sz k cap:Nat} {A:Option Addr} {xs:List Value}
theorem Own.open_(h:Own w base e sz A k cap xs)(hk:0<k):∃(g:Nat) (a1:Array Value),A=some ⟨g,0,none⟩/\base<=g/\Blk w g e a1/\k*sz<=a1.size/\(∀ j,j<k*sz->a1[j]? =xs[j]?)/\∀ w1 o v,Blk w1 g e (a1.setIfInBounds o v)->Own w1 base e sz (some ⟨g,0,none⟩) k cap (xs.set o v):=by
 rcases h.2 with ⟨_,hn⟩|⟨g,c,a1,hv,hb,hg,hkc,hm,hs,ht⟩
 ·omega
 ·cases hv
  have hle:k*sz<=cap*sz:=aS sz hkc;refine⟨g,a1,rfl,hb,hg,by omega,fun j hj=>?_,fun w1 o v hw=>⟨by rw[List.length_set];exact h.1,.inr ⟨g,cap,_,rfl,hb,hw,hkc,hm,by rw[Array.size_setIfInBounds];exact hs,?_⟩⟩⟩
  ·rw[<- ht,List.getElem?_take_of_lt hj];simp
  ·rw[Array.toList_setIfInBounds,List.take_set,ht]
theorem xj{b1 b2 s1 s2 k1 k2 c1 c2:Nat}{e1 e2:TypeId}{A1 A2:Option Addr}{x1 x2:List Value}(h:Own w b1 e1 s1 A1 k1 c1 x1)(k:Own w b2 e2 s2 A2 k2 c2 x2)(hne:e1≠e2):∀ g∈aL A1,¬g∈aL A2:=fun g h1 h2=>by
 have ht:∀ {b s k c:Nat} {e:TypeId} {A:Option Addr} {x:List Value},Own w b e s A k c x->g∈aL A->∃ cs,Blk w g e cs:=fun h hg=>by
  rcases h.2 with ⟨hv,_⟩|⟨g',c',cur,hv,_,hb,_⟩
  ·cases hv;cases hg
  ·cases hv
   simp only[aL,List.mem_singleton]at hg
   subst hg;exact⟨cur,hb⟩
 obtain⟨c1,q1⟩:=ht h h1
 obtain⟨c2,q2⟩:=ht k h2
 exact hne (vW q1 q2)
def jq(n:Nat)(g:Nat->Value):List Value:=(List.range n).map g
theorem rowL_len(n:Nat)(g:Nat->Value):(jq n g).length=n:=by simp[jq]
theorem rowL_get{n j:Nat}{g:Nat->Value}(h:j<n):(jq n g)[j]? =some (g j):=by simp[jq,h]
theorem uY{n:Nat}{g g':Nat->Value}(h:∀ j,j<n->g j=g' j):jq n g=jq n g':=aI (fun j hj=>h j (ax.1 hj))
theorem Nj{n i:Nat}{g:Nat->Value}{v:Value}:(jq n g).set i v=jq n (fun x=>if x=i then v else g x):=by
 refine List.ext_getElem (by simp[jq]) (fun j h1 h2=>?_);simp only[jq,List.getElem_set,List.getElem_map,List.getElem_range];by_cases e:i=j
 ·subst e;simp
 ·rw[if_neg e,if_neg (fun h=>e h.symm)]
theorem BJ{n:Nat}{g:Nat->Value}{v:Value}:jq n g++[v]=jq (n+1) (fun x=>if x<n then g x else v):=by
 unfold jq;rw[List.range_succ,List.map_append,List.map_cons,List.map_nil,if_neg (Nat.lt_irrefl n)];refine congrArg (· ++ [v]) (aI (fun j hj=>?_));rw[if_pos (List.mem_range.1 hj)]
theorem Own.rowc{g:Nat->Value}{m:Nat}(h:Own w base e 1 A m cap (jq m g)){j:Nat}(hj:j<m):∃ q,A=some ⟨q,0,none⟩/\base<=q/\q<w.heap.size/\w.cell? ⟨q,0+j*1,none⟩=some (g j):=by
 have hne:jq m g≠[]:=fun e=>by have:=congrArg List.length e;rw[rowL_len]at this;simp at this;omega
 obtain⟨q,h1,h2,h3,h4⟩:=h.cell hne;have e0:0+j*1=j:=by omega
 exact⟨q,h1,h2,h3,by rw[e0];exact h4 j _ (rowL_get hj)⟩
end eng4
end
section
def SameQ(X:List Nat)(w w':World):Prop:=Same X w w'
theorem SameQ.trans{X:List Nat}{a b c:World}(h:SameQ X a b){Y:List Nat}(k:Same Y b c)(hy:∀ g∈Y,g∈X):SameQ X a c:=Same.trans h (k.weak hy)
structure ChG(Z:Nat->Prop)(w w':World):Prop where
 os:w'.os=w.os
 tape:w'.tape=w.tape
 output:w'.output=w.output
 size:w.heap.size<=w'.heap.size
 blk:∀ k,k<w.heap.size->¬Z k->w'.heap[k]? =w.heap[k]?
theorem ChG.refl(Z:Nat->Prop)(w:World):ChG Z w w:=⟨rfl,rfl,rfl,ae _,fun _ _ _=>rfl⟩
theorem ChG.st{Z:Nat->Prop}{Y:List Nat}{a b c:World}(h:ChG Z a b)(k:Same Y b c)(hy:∀ g∈Y,Z g\/a.heap.size<=g):ChG Z a c:=
 ⟨k.os.trans h.os,k.tape.trans h.tape,k.output.trans h.output,nLT h.size k.size,fun i hi hx=>(k.blk i (nLL hi h.size) (fun hm=>(hy i hm).elim hx (fun h2=>by omega))).trans (h.blk i hi hx)⟩
theorem ChG.trans{Z Z':Nat->Prop}{a b c:World}(h:ChG Z a b)(k:ChG Z' b c)(hz:∀ g,Z' g->Z g\/a.heap.size<=g):ChG Z a c:=
 ⟨k.os.trans h.os,k.tape.trans h.tape,k.output.trans h.output,nLT h.size k.size,fun i hi hx=>(k.blk i (nLL hi h.size) (fun hm=>(hz i hm).elim hx (fun h2=>by omega))).trans (h.blk i hi hx)⟩
theorem ChG.one{b:Nat}{w w':World}(h:ChG (fun g=>g=b) w w'):Same [b] w w':=⟨h.os,h.tape,h.output,h.size,fun k hk hx=>h.blk k hk (fun e=>hx (aj.2 e))⟩
theorem Blk.chG{Z:Nat->Prop}{w w':World}{b t:Nat}{cs:Array Value}(h:Blk w b t cs)(hc:ChG Z w w')(hx:¬Z b):Blk w' b t cs:=(hc.blk b h.lt hx).trans h
theorem Bel.chG{Z:Nat->Prop}{w0 w w':World}(h:Bel w0 w)(hc:ChG Z w w')(hz:∀ g,Z g->w0.heap.size<=g):Bel w0 w':=
 ⟨hc.os.trans h.os,hc.tape.trans h.tape,hc.output.trans h.output,nLT h.size hc.size,fun k hk=>(hc.blk k (nLL hk h.size) (fun hm=>by have:=hz k hm;omega)).trans (h.block k hk)⟩
theorem ChG.bel{Z:Nat->Prop}{w w':World}(h:Bel w w'):ChG Z w w':=⟨h.os,h.tape,h.output,h.size,fun k hk _=>h.block k hk⟩
theorem RowO.chG{w w':World}{lo bs g:Nat}{v:Value}{xs:List (Int×Int)}{cs:Array Value}{t:TypeId}(h:RowO w lo bs v xs)(hb:Blk w g t cs)(ht:90≠t)(hc:ChG (fun k=>k=g) w w'):RowO w' lo bs v xs:=by
 obtain⟨A,c,e,h1,h2⟩:=h;refine⟨A,c,e,⟨h1.1,?_⟩,h2⟩;have hty:=h1.typ;rcases h1.2 with hn|⟨q,c,cur,hv,hbb,hg,r⟩
 ·exact .inl hn
 ·refine .inr ⟨q,c,cur,hv,hbb,?_,r⟩
  rw[hc.blk q (u4 hg) (fun e=>?_)]
  ·exact hg
  ·subst e;exact ht (vW hg hb)
def rtG(gr:List Nd)(T:Nat->Int):List Nd:=(List.range gr.length).map (fun i=>⟨T i,(nd gr i).ln⟩)
theorem Pz(gr:List Nd)(T:Nat->Int):(rtG gr T).length=gr.length:=by simp[rtG]
theorem rtG_self(gr:List Nd):rtG gr (fun x=>(nd gr x).ty)=gr:=by
 refine List.ext_getElem (Pz _ _) (fun i h1 h2=>?_);have:=yV h2;simp[rtG,this]
theorem nd_canG{gr:List Nd}{o:List Nat}{x:Nat}(hx:x<o.length):nd (yQ gr o) x=⟨(nd gr (o.getD x 0)).ty,(nd gr (o.getD x 0)).ln.map (Mw o)⟩:=by simp[nd,yQ,CV,List.getD,hx]
def GrT(w:World)(lo hi:Nat)(A:Option Addr)(c:Nat)(gr:List Nd)(T:Nat->Int):Prop:=
 ∃ V:Nat->Value,Own w lo 93 2 A gr.length c (ndV (fun x=> .int .i64 (T x)) V gr.length)/\(∀ g∈aL A,g<hi)/\∀ x,x<gr.length->RowO w lo hi (V x) (nd gr x).ln
def Dis(V:Nat->Value)(n:Nat):Prop:=∀ x y,x<n->y<n->x≠y->∀ A m c A' m' c',V x= .slice A m c->V y= .slice A' m' c'->∀ g∈aL A,¬g∈aL A'
theorem Dis.congr{V V':Nat->Value}{n:Nat}(h:Dis V n)(e:∀ x,x<n->V x=V' x):Dis V' n:=fun x y hx hy hne A m c A' m' c' h1 h2=>h x y hx hy hne A m c A' m' c' ((e x hx).trans h1) ((e y hy).trans h2)
theorem Dis.snoc{V:Nat->Value}{L:Nat->List (Int×Int)}{w:World}{lo bs k n c:Nat}{A:Option Addr}(h:Dis V k)(hr:∀ x,x<k->RowO w lo bs (V x) (L x))(hg:∀ g∈aL A,bs<=g):Dis (fun x=>if x=k then .slice A n c else V x) (k+1):=fun x y hx hy hne A1 m1 c1 A2 m2 c2 h1 h2 g hg1 a1=>by
 have far:∀ z,z<k->∀ A3 m3 c3,V z= .slice A3 m3 c3->∀ g∈aL A3,g<bs:=fun z hz A3 m3 c3 e g hg=>by
  obtain⟨A4,c4,e4,_,h4⟩:=hr z hz
  rw[e]at e4
  cases e4
  exact h4 g hg
 by_cases e:x=k
 ·simp only[e,if_true,Value.slice.injEq]at h1
  by_cases e2:y=k
  ·exact hne (by rw[e,e2])
  ·simp only[e2,if_false]at h2
   rw[<- h1.1]at hg1
   have:=far y oG _ _ _ h2 g a1
   have:=hg g hg1
   omega
 ·simp only[e,if_false]at h1
  by_cases e2:y=k
  ·simp only[e2,if_true,Value.slice.injEq]at h2
   rw[<- h2.1]at a1
   have:=far x oG _ _ _ h1 g hg1
   have:=hg g a1
   omega
  ·simp only[e2,if_false]at h2
   exact h x y oG oG hne _ _ _ _ _ _ h1 h2 g hg1 a1
def GrD(w:World)(lo hi:Nat)(A:Option Addr)(c:Nat)(gr:List Nd)(T:Nat->Int):Prop:=
 ∃ V:Nat->Value,Own w lo 93 2 A gr.length c (ndV (fun x=> .int .i64 (T x)) V gr.length)/\(∀ g∈aL A,g<hi)/\(∀ x,x<gr.length->RowO w lo hi (V x) (nd gr x).ln)/\Dis V gr.length
section
variable {w w':World} {lo hi c:Nat} {A:Option Addr} {gr:List Nd} {T:Nat->Int}
theorem GrD.grt(h:GrD w lo hi A c gr T):GrT w lo hi A c gr T:=by obtain⟨V,h1,h2,h3,_⟩:=h;exact⟨V,h1,h2,h3⟩
theorem GrD.mk{base bs m:Nat}{V f:Nat->Value}(ho:Own w base 93 2 A m c (ndV f V m))(hm:gr.length=m)(hb:lo<=base)(hf:∀ x,x<m->f x= .int .i64 (T x))(hA:∀ g∈aL A,g<hi)(hbs:bs<=hi)(hr:∀ x,x<m->RowO w lo bs (V x) (nd gr x).ln)(hd:Dis V m):GrD w lo hi A c gr T:=by
 subst hm;refine⟨V,?_,hA,fun x hx=>(hr x hx).up hbs,hd⟩;rw[Q6 (f':=f) (h':=V) (fun x hx=>(hf x hx).symm) (fun _ _=>rfl)];exact ho.low hb
theorem GrT.nodes(h:GrT w lo hi A c gr T):NodesIn w A (rtG gr T):=by
 obtain⟨V,ho,_,hr⟩:=h;refine S4 (lo:=lo) (bs:=hi) ho (Pz gr T) (fun k hk=>?_) (fun k hk=>?_)
 ·simp[rtG]
 ·rw[Pz]at hk
  have e:((rtG gr T)[k]'(by rw[Pz];exact hk)).ln=(nd gr k).ln:=by simp[rtG]
  rw[e];exact hr k hk
theorem GrT.cap_le(h:GrT w lo hi A c gr T):gr.length<=c:=by obtain⟨V,ho,_⟩:=h;exact ho.cap_le
theorem GrT.congr(h:GrT w lo hi A c gr T){T':Nat->Int}(e:∀ i,i<gr.length->T i=T' i):GrT w lo hi A c gr T':=by
 obtain⟨V,ho,hA,hr⟩:=h;exact⟨V,by rw[Q6 (f':=fun x=> .int .i64 (T x)) (h':=V) (fun x hx=>by rw[e x hx]) (fun _ _=>rfl)];exact ho,hA,hr⟩
theorem GrT.tr{X:List Nat}(h:GrT w lo hi A c gr T)(hs:Same X w w')(hx:∀ g∈X,g<lo\/hi<=g):GrT w' lo hi A c gr T:=by
 obtain⟨V,ho,hA,hr⟩:=h;refine⟨V,ho.tr hs (fun g hg hm=>?_),hA,fun x hxl=>?_⟩
 ·have h1:=hx g hm
  have h2:=(ho.lt g hg).1;have h3:=hA g hg;omega
 ·obtain⟨A2,c2,e,h1,h2⟩:=hr x hxl
  refine⟨A2,c2,e,h1.tr hs (fun g hg hm=>?_),h2⟩;have h3:=hx g hm;have h4:=(h1.lt g hg).1;have h5:=h2 g hg;omega
theorem GrT.fr{w2:World}(h:GrT w lo hi A c gr T)(hf:FrSame lo w w2):GrT w2 lo hi A c gr T:=by
 obtain⟨V,ho,hA,hr⟩:=h;exact⟨V,ho.fr (ae _) hf,hA,fun x hx=>(hr x hx).fr hf⟩
theorem GrT.up{hi':Nat}(h:GrT w lo hi A c gr T)(hh:hi<=hi'):GrT w lo hi' A c gr T:=by
 obtain⟨V,ho,hA,hr⟩:=h;exact⟨V,ho,fun g hg=>nLL (hA g hg) hh,fun x hx=>(hr x hx).up hh⟩
theorem RowO.low{lo' bs:Nat}{v:Value}{xs:List (Int×Int)}(h:RowO w lo bs v xs)(hl:lo'<=lo):RowO w lo' bs v xs:=by
 obtain⟨A,c,e,h1,h2⟩:=h;exact⟨A,c,e,h1.low hl,h2⟩
theorem GrT.low{lo':Nat}(h:GrT w lo hi A c gr T)(hl:lo'<=lo):GrT w lo' hi A c gr T:=by
 obtain⟨V,ho,hA,hr⟩:=h;exact⟨V,ho.low hl,hA,fun x hx=>(hr x hx).low hl⟩
theorem GrT.mk{base bs m:Nat}{V f:Nat->Value}(ho:Own w base 93 2 A m c (ndV f V m))(hm:gr.length=m)(hb:lo<=base)(hf:∀ x,x<m->f x= .int .i64 (T x))(hA:∀ g∈aL A,g<hi)(hbs:bs<=hi)(hr:∀ x,x<m->RowO w lo bs (V x) (nd gr x).ln):GrT w lo hi A c gr T:=by
 subst hm;refine⟨V,?_,hA,fun x hx=>(hr x hx).up hbs⟩;rw[Q6 (f':=f) (h':=V) (fun x hx=>(hf x hx).symm) (fun _ _=>rfl)];exact ho.low hb
theorem own_of{e:TypeId}{base sz k cap g:Nat}{a2:Array Value}{xs:List Value}(hb:Blk w g e a2)(a1:base<=g)(hk:k<=cap)(hm:cap<=9223372036854775807)(hs:a2.size=cap*sz)(hx:a2.toList.take (k*sz)=xs):Own w base e sz (some ⟨g,0,none⟩) k cap xs:=by
 have hle:k*sz<=cap*sz:=aS sz hk;subst hx;exact⟨by rw[List.length_take,Array.length_toList];omega,.inr ⟨g,cap,a2,rfl,a1,hb,hk,by simpa[maxLen]using hm,hs,rfl⟩⟩
theorem own_row2{b m:Nat}{f h:Nat->Value}(hb:Blk w b 93 (kX m f h))(hl:lo<=b)(hm:m<=1000000):Own w lo 93 2 (some ⟨b,0,none⟩) m m (ndV f h m):=by
 refine own_of hb hl (ae _) oG (gz m f h) ?_;refine List.ext_getElem? (fun j=>?_);by_cases hj:j<m*2
 ·have h2:j/2<m:=by omega
  rw[List.getElem?_take_of_lt hj,Array.getElem?_toList];rcases Nat.mod_two_eq_zero_or_one j with e|e
  ·have e2:j=j/2*2:=by omega
   have h3:=EK (f:=f) (h:=h) h2;rw[show 0+j/2*2+0=j by omega]at h3;have h4:=(ZQ f h h2).1;rw[<- e2]at h4;rw[h3,h4]
  ·have e2:j=j/2*2+1:=by omega
   have h3:=I8 (f:=f) (h:=h) h2;rw[show 0+j/2*2+1=j by omega]at h3;have h4:=(ZQ f h h2).2;rw[<- e2]at h4;rw[h3,h4]
 ·rw[List.getElem?_eq_none (by rw[List.length_take];omega),List.getElem?_eq_none (by rw[VY];omega)]
theorem ndV_set0{f V:Nat->Value}{n k:Nat}{v:Value}:(ndV f V n).set (0+k*2+0) v=ndV (fun x=>if x=k then v else f x) V n:=by
 refine List.ext_getElem? (fun j=>?_);by_cases hj:j<n*2
 ·have h2:j/2<n:=by omega
  rcases Nat.mod_two_eq_zero_or_one j with e|e
  ·have e2:j=j/2*2:=by omega
   by_cases hjk:j/2=k
   ·rw[show 0+k*2+0=j by omega,List.getElem?_set_self (by rw[VY];exact hj)]
    have h3:=(ZQ (fun x=>if x=k then v else f x) V h2).1;rw[<- e2]at h3;rw[h3,if_pos hjk]
   ·rw[List.getElem?_set_ne oG]
    have h3:=(ZQ (fun x=>if x=k then v else f x) V h2).1;have h4:=(ZQ f V h2).1;rw[<- e2]at h3 h4;rw[h3,h4,if_neg hjk]
  ·have e2:j=j/2*2+1:=by omega
   rw[List.getElem?_set_ne oG];have h3:=(ZQ (fun x=>if x=k then v else f x) V h2).2;have h4:=(ZQ f V h2).2;rw[<- e2]at h3 h4;rw[h3,h4]
 ·rw[List.getElem?_eq_none (by rw[List.length_set,VY];omega),List.getElem?_eq_none (by rw[VY];omega)]
theorem GrT.open_{k:Nat}(h:GrT w lo hi A c gr T)(hk:k<gr.length):∃(V:Nat->Value) (g:Nat) (a1:Array Value),A=some ⟨g,0,none⟩/\lo<=g/\g<hi/\Blk w g 93 a1/\gr.length*2<=a1.size/\(∀ x,x<gr.length->a1[0+x*2+0]? =some (.int .i64 (T x)))/\(∀ x,x<gr.length->a1[0+x*2+1]? =some (V x))/\(∀ x,x<gr.length->RowO w lo hi (V x) (nd gr x).ln)/\
  ∀ w1 v,Blk w1 g 93 (a1.setIfInBounds (0+k*2+0) (.int .i64 v))->(∀ x,x<gr.length->RowO w1 lo hi (V x) (nd gr x).ln)->GrT w1 lo hi (some ⟨g,0,none⟩) c gr (fun x=>if x=k then v else T x):=by
 obtain⟨V,ho,hA,hr⟩:=h;obtain⟨g,a1,rfl,hg,hb,hsz,hrd,hcl⟩:=ho.open_ oG;refine⟨V,g,a1,rfl,hg,hA g (aj.2 rfl),hb,hsz,fun x hx=>?_,fun x hx=>?_,hr,fun w1 v hw hr2=>⟨V,?_,hA,hr2⟩⟩
 ·rw[hrd _ oG,show 0+x*2+0=x*2 by omega];exact(ZQ _ _ hx).1
 ·rw[hrd _ oG,show 0+x*2+1=x*2+1 by omega];exact(ZQ _ _ hx).2
 ·have h1:=hcl w1 _ _ hw
  rw[ndV_set0,Q6 (f':=fun x=> .int .i64 (if x=k then v else T x)) (h':=V) (fun x _=>by by_cases e:x=k<;>simp[e]) (fun _ _=>rfl)]at h1;exact h1
end
end
end Go.Proofs.YtiofaflajkgiaaaGreatDoor
