/- What these functions compute, at every world: hierarchy.Validate, ; and plain laws. -/
import Derived.Test.YtmfiholmfieieaaDoorU
import Derived.Test.YtmfiholmfieieaaDoorZst
import Derived.Test.YtmfiholmfieieaaDoorTables
namespace Go.Proofs.YtmfiholmfieieaaDoor
open Go.RowKit
variable {A:Option Addr}{X o:List Nat}{a b base bs cap i j k lo m n nf nt sz t x:Nat}{a1:Int}{e:TypeId}{f h:Nat->Value}{fs:List Ft}{l:List Ty}{m0 mk:Nat->Bool}{v:Value}{w w' w2:World}{xs:List (Int×Int)}
theorem O1{i:Int}:∀ {ps:List Int} {a1:Int},uj i a1 ps=0->∀ p∈ps,0<=p/\p<i
 | [],_,_,p,hp=>by cases hp
 | q::ps,a1,h,p,hp=>by
  unfold uj at h
  by_cases h1:q<0\/i<=q
  ·rw[if_pos h1]at h;cases h
  rw[if_neg h1]at h
  by_cases h2:q<=a1
  ·rw[if_pos h2]at h;cases h
  rw[if_neg h2]at h
  rcases aq.1 hp with rfl|hp
  ·omega
  ·exact O1 h p hp
theorem HY(hk:k<l.length)(h:jj l k=0):yQ (l[k]).name=true/\oX ((l.take k).map (·.name)) (l[k]).name=false/\(decide (k=0)==(l[k]).par.isEmpty)=true/\uj k (-1) (l[k]).par=0:=by
 cases h1:yQ (l[k]).name with
 | false=>rw[ty10 l k hk h1]at h;cases h
 | true=>
  cases h2:oX ((l.take k).map (·.name)) (l[k]).name with
  | true=>rw[ty7 l k hk h1 h2]at h;cases h
  | false=>
   cases h3:(decide (k=0)==(l[k]).par.isEmpty)with
   | false=>rw[ty5 l k hk h1 h2 h3]at h;cases h
   | true=>
    rw[tyF_par l k hk h1 h2 h3,List.drop_zero]at h;exact⟨rfl,rfl,rfl,h⟩
theorem kX{f:Nat->Int}:∀ {m i:Nat},(qJ f i m).1=0->∀ j,i<=j->j<i+m->f j=0
 | 0,i,_,j,h1,h2=>by omega
 | m+1,i,h,j,h1,h2=>by
  unfold qJ at h
  by_cases h3:f i≠0
  ·rw[if_pos h3]at h;exact absurd h h3
  rw[if_neg h3]at h
  by_cases e:j=i
  ·subst e;exact aG.1 h3
  ·exact kX h j oG oG
theorem B4(h:(xZ l).1=0):¬(l.length=0\/60<l.length):=by
 intro hb;simp only[xZ,if_pos hb]at h;cases h
theorem types_ok(h:(xZ l).1=0)(hk:k<l.length):jj l k=0:=by
 have hb:=B4 h;simp only[xZ,if_neg hb]at h;exact kX h k (ad _) oG
theorem vt_of(h:(xZ l).1=0):VT l:=fun _ hi p hp=>O1 (HY hi (types_ok h hi)).2.2.2 p hp
def HJ(l:List Ty)(b:Nat):Int:=if (List.range b).any (fun a=>(jv l a b).2.2)then 16 else 0
theorem Ry(h:a<b)(hm:(jv l a b).2.2=true):HJ l b=16:=by
 unfold HJ;rw[if_pos (List.any_eq_true.2 ⟨a,List.mem_range.2 h,hm⟩)]
theorem unmF_no(h:∀ a,a<b->(jv l a b).2.2=false):HJ l b=0:=by
 unfold HJ;rw[if_neg];intro hc;obtain⟨a,ha,hm⟩:=List.any_eq_true.1 hc;rw[h a (List.mem_range.1 ha)]at hm;cases hm
def S4(n:Nat)(t:Ft):Prop:=t.of<0\/(n:Int)<=t.of\/t.val<0\/(n:Int)<=t.val
instance(n:Nat)(t:Ft):Decidable (S4 n t):=by unfold S4;infer_instance
def Zz(n:Nat)(fs:List Ft)(i:Nat):Int:=match fs[i]? with
 | none=>0
 | some t=>if yQ t.name=false then 10 else if oX ((fs.take i).map (·.name)) t.name=true then 7 else if S4 n t then 3 else 0
theorem ft10(n:Nat)(l:List Ft)(k:Nat)(hlt:k<l.length)(h1:yQ l[k].name=false):Zz n l k=10:=by
 simp only[Zz,List.getElem?_eq_getElem hlt,h1,if_true]
theorem ft7(n:Nat)(l:List Ft)(k:Nat)(hlt:k<l.length)(h1:yQ l[k].name=true)(h2:oX ((l.take k).map (·.name)) l[k].name=true):Zz n l k=7:=by
 simp only[Zz,List.getElem?_eq_getElem hlt,h1,h2,if_true];rfl
theorem ft3(n:Nat)(l:List Ft)(k:Nat)(hlt:k<l.length)(h1:yQ l[k].name=true)(h2:oX ((l.take k).map (·.name)) l[k].name=false)(h3:S4 n l[k]):Zz n l k=3:=by
 simp only[Zz,List.getElem?_eq_getElem hlt,h1,h2,if_pos h3];rfl
theorem ft0(n:Nat)(l:List Ft)(k:Nat)(hlt:k<l.length)(h1:yQ l[k].name=true)(h2:oX ((l.take k).map (·.name)) l[k].name=false)(h3:¬S4 n l[k]):Zz n l k=0:=by
 simp only[Zz,List.getElem?_eq_getElem hlt,h1,h2,if_neg h3];rfl
def I9(l:List Ty):Fl:=qJ (HJ l) 0 l.length
def qz(l:List Ty)(fs:List Ft):Fl:=
 if 40<fs.length then (2,-1)
 else if (xZ l).1≠0 then xZ l
 else if (I9 l).1≠0 then I9 l
 else qJ (Zz l.length fs) 0 fs.length
theorem hf_size(h:l.length=0\/60<l.length\/40<fs.length):qz l fs=(2,-1):=by
 unfold qz;by_cases h4:40<fs.length
 ·rw[if_pos h4]
 ·have hb:l.length=0\/60<l.length:=by omega
  have ht:xZ l=(2,-1):=by simp only[xZ,if_pos hb]
  rw[if_neg h4,ht];rfl
theorem hf_types(h:¬40<fs.length)(ht:(xZ l).1≠0):qz l fs=((xZ l).1,(xZ l).2):=by
 unfold qz;rw[if_neg h,if_pos ht]
theorem hf_unmet(h:¬40<fs.length)(ht:(xZ l).1=0){k:Int}(hu:I9 l=(16,k)):qz l fs=(16,k):=by
 unfold qz;rw[if_neg h,if_neg (by rw[ht];exact fun h=>h rfl),hu];rfl
theorem hf_rest(h:¬40<fs.length)(ht:(xZ l).1=0)(hu:I9 l=(0,0)):qz l fs=qJ (Zz l.length fs) 0 (fs.length-0):=by
 unfold qz;rw[if_neg h,if_neg (by rw[ht];exact fun h=>h rfl),hu];rfl
theorem X6:zk Tryd.prog 64=true:=by kernel_rfl
theorem uq:(Tryd.prog.info? 43).map (·.size)=some 2:=by kernel_rfl
theorem sz83:(Tryd.prog.info? 83).map (·.size)=some 3:=by kernel_rfl
theorem ze3_Valid:(Tryd.prog.info? 3).map (·.zero)=some (some (.int .i64 0)):=by kernel_rfl
theorem P4:(Tryd.prog.info? 43).map (·.zero)=some (some (.agg #[.int .i64 0,.int .i64 0])):=by kernel_rfl
theorem ze83:(Tryd.prog.info? 83).map (·.zero)=some (some (.agg #[.string ⟨#[]⟩,.int .i64 0,.int .i64 0])):=by kernel_rfl
theorem Sj(A B:Option Addr)(c d:Nat)(l:List Ty)(fs:List Ft)(w:World)(bh:TabIn w)(hT:TypesIn w A l)(hF:FeatsIn w B fs):Calls Tryd.prog 44 #[.agg #[.slice A l.length c,.slice B fs.length d]] w fun e w'=>e= .returned (flV (qz l fs))/\Bel w w':=by
 refine enT Tryd.func44 Tryd.ntmps44 rfl rfl fun hB=>?_;refine zn2 ?_;refine qZ (cs:=#[_,_]) rfl (fun b1 w1 a4 s1 hr=>?_);refine qw (cs:=#[.int .i64 0,.int .i64 0]) P4 rfl (fun b2 w2 a1 s2 hr=>?_);have lo2:=hB.u.ob hr;refine zn4 ?_;replace hB:=hB.tr0 (s1.t s2);refine yy (rgq [] 15 16) 30 (.bool (decide (l.length=0\/60<l.length\/40<fs.length))) nu ?_ (fun gq=>?_)
 ·refine zn6 ?_;refine zQ 19 rfl (fun g19=>?_) (fun g19=>?_)
  ·refine gX ?_;exact vx
  refine jZ ?_;refine zQ 25 rfl (fun g25=>?_) (fun g25=>?_)
  ·refine zn5 ?_;exact vx
  refine zn9 ?_;exact vx
 refine e_S ?_;refine zK rfl (fun c30=>?_) (fun c30=>?_)
 ·refine zn2 ?_;refine aZ X6 (kj _ _ _) rfl (fun w3 s3=>?_);refine zJ a1.u (fun w4 hq s4=>?_);replace a1:=hq;refine zn4 ?_;refine xX (.inl rfl) rfl (zw U43 rfl rfl a1.range0 uq) ?_;exact⟨y8 (hf_size c30),hB.u⟩
 refine zn7 ?_;refine aZ kR (types_any _ _ _ _ (hT.mono hB)) rfl (fun w5 s5=>?_);refine yx (cs:=#[.int .i64 0,.int .i64 0]) P4 rfl (fun _=>rfl) (fun _=>rfl) uq rfl y5 (fun b3 w7 hb3 s6 hr=>?_);refine zn9 ?_;refine zK rfl (fun c37=>?_) (fun c37=>?_)
 ·refine zn3 ?_;refine zJ a1.u (fun w8 hq s7=>?_);replace a1:=hq;refine zn4 ?_;refine xX (.inl rfl) rfl (zw U43 rfl rfl a1.range0 uq) ?_;exact⟨y8 (hf_types oG oG),hB.u⟩
 have bb:(xZ l).1=0:=by omega
 have hv:=vt_of bb;refine zn6 ?_;refine zX kR (QW _ _ _ _ (hT.mono hB.u) hv oG) rfl (fun e' w9 hr=>?_);obtain⟨bu,bd,rfl,⟨a5,a6⟩,s8⟩:=hr;replace s8:=sB s8;have h2u:b2≠bu:=fun h=>absurd (oq (h ▸ a1.u) a5) dE
 have h2d:b2≠bd:=fun h=>absurd (oq (h ▸ a1.u) a6) dE
 refine⟨_,rfl,?_⟩;refine yx (cs:=#[.slice none 0 0,.slice none 0 0]) ze76 rfl (fun _=>rfl) (fun _=>rfl) sz76 rfl y5 (fun b4 w11 a7 s9 hr=>?_);refine jJ ?_;replace a5:=a5.tr0 s9;replace a6:=a6.tr0 s9;refine qk (rgq (rgq [] 5 5) 45 20) (fun m g w'=>∃(k:Nat),k<=l.length/\m=l.length-k/\g 45= .int .i64 k/\Bel w w'/\Blk w' b1 25 #[.slice A l.length c,.slice B fs.length d]/\Blk w' b2 43 #[.int .i64 0,.int .i64 0]/\Blk w' b4 76 #[.slice (some ⟨bu,0,none⟩) l.length l.length,.slice (some ⟨bd,0,none⟩) l.length l.length]/\Blk w' bu 127 (rU l.length (upN l))/\Blk w' bd 127 (rU l.length (ZZ l))/\I9 l=qJ (HJ l) k (l.length-k)) (l.length) ?_ (fun m g8 w12 hI=>?_)
 ·exact⟨0,ad _,rfl,rfl,hB.u,a4.u,a1.u,a7,a5,a6,rfl⟩
 obtain⟨k,hk,hm,h45,hB,a4,a1,a7,a5,a6,hU⟩:=hI;refine zZ 45 _ h45 nu (zn6 ?_);refine zK rfl (fun c46=>?_) (fun c46=>?_)
 ·have a3:k<l.length:=by omega
  refine R7 ?_;refine qk (rgq [6,7,8,9] 49 15) (fun m g w'=>∃(a:Nat),a<=k/\m=k-a/\g 49= .int .i64 a/\Bel w w'/\Blk w' b1 25 #[.slice A l.length c,.slice B fs.length d]/\Blk w' b2 43 #[.int .i64 0,.int .i64 0]/\Blk w' b4 76 #[.slice (some ⟨bu,0,none⟩) l.length l.length,.slice (some ⟨bd,0,none⟩) l.length l.length]/\Blk w' bu 127 (rU l.length (upN l))/\Blk w' bd 127 (rU l.length (ZZ l))/\(∀ j,j<a->(jv l j k).2.2=false)) (k) ?_ (fun m g11 w13 hI=>?_)
  ·exact⟨0,ad _,rfl,rfl,hB,a4,a1,a7,a5,a6,fun j hj=>by omega⟩
  obtain⟨a,ha,hma,h49,hB,a4,a1,a7,a5,a6,hM⟩:=hI;refine zZ 49 _ h49 nu (zn6 ?_);refine zK rfl (fun c50=>?_) (fun c50=>?_)
  ·refine Hw ?_;refine aZ kR (D6 l bu bd a k _ (bh.mono hB) ⟨a5,a6⟩ hv oG oG a3) rfl (fun w14 ab=>?_);refine wmT rfl (wl (yV (v:= .int _ _) rfl rfl) (wl (yV (v:= .bool _) rfl rfl) (wl (yV (v:= .bool _) rfl rfl) (jZ ?_))));refine jW rfl (fun bm=>?_) (fun bm=>?_)
   ·have ba:=Ry (show a<k by omega) bm;have bg:=hf_unmet (fs:=fs) oG bb (hU.trans (yw oG ba dE));refine zn3 ?_;refine aZ X6 (kj _ _ _) rfl (fun w15 s11=>?_);refine zJ a1.u (fun w16 hq s12=>?_);replace a1:=hq;refine jJ ?_;refine xX (.inl rfl) rfl (zw U43 rfl rfl a1.range0 uq) ?_;exact⟨y8 bg,hB.u⟩
   refine zn7 ?_;refine xY (k-(a+1)) oG agA ?_;replace hB:=hB.tr0 ab;replace a4:=a4.tr0 ab;replace a1:=a1.tr0 ab;replace a5:=a5.tr0 ab;replace a6:=a6.tr0 ab;replace a7:=a7.tr0 ab
   exact⟨a+1,by omega,rfl,rfl,hB,a4,a1,a7,a5,a6,fun j hj=>by
     by_cases e:j=a
     ·subst e;exact bm
     ·exact hM j oG⟩
  have ba:HJ l k=0:=unmF_no (fun j hj=>hM j oG);refine jZ ?_;refine xY (l.length-(k+1)) oG agA ?_;exact⟨k+1,by omega,rfl,rfl,hB,a4,a1,a7,a5,a6,hU.trans (uy a3 ba)⟩
 have hR:=Lib.hid (hf_rest (fs:=fs) oG bb (hU.trans (gz oG)));refine zn7 ?_;refine wl_mm (fun b65 w17 a2 s13 hr=>?_);have:=nLL a4.lt hr;have:=nLL a1.lt hr;have b8:=hB.ob hr;refine wl (uJ (v:= .map _) rfl) (jJ ?_);refine qk (rgq [11,12,13,14] 69 52) (fun m g w'=>∃(k:Nat) (mp:List (ByteArray×Value)),k<=fs.length/\m=fs.length-k/\g 69= .int .i64 k/\Bel w w'/\Blk w' b1 25 #[.slice A l.length c,.slice B fs.length d]/\Blk w' b2 43 #[.int .i64 0,.int .i64 0]/\MapS w' b65 mp/\(∀ s,lkB mp s=oX ((fs.take k).map (·.name)) s)/\qz l fs=qJ (Zz l.length fs) k (fs.length-k)) (fs.length) ?_ (fun m g20 w18 hI=>?_)
 ·exact⟨0,[],ad _,rfl,rfl,hB.u,a4.u,a1.u,a2,fun s=>rfl,hR.out⟩
 obtain⟨k,mp,hk,hm,h69,hB,a4,a1,a2,bf,ao⟩:=hI;refine zZ 69 _ h69 nu (zn6 ?_);refine zK rfl (fun c70=>?_) (fun c70=>?_)
 ·have a3:k<fs.length:=by omega
  obtain⟨tb,to,rfl,htb,htr⟩:=hF.at_ hB a3;refine zn8 ?_;refine wl (qK U83 rfl rfl htr sz83) ?_;refine qw (cs:=#[.string ⟨#[]⟩,.int .i64 0,.int .i64 0]) ze83 rfl (fun b12 w19 an b7 hr=>?_);have:=nLL a4.lt hr;have:=nLL a1.lt hr;have:=nLL a2.lt hr;have b9:=hB.ob hr;refine waI rfl ?_;refine zJ an (fun w20 hq b6=>?_);replace an:=hq;refine zn7 ?_;refine zX kR (MJ _ _) rfl (fun e' w21 hr=>?_);obtain⟨rfl,rfl⟩:=hr;refine⟨_,rfl,?_⟩;refine zn3 ?_;refine jW rfl (fun bk=>?_) (fun bk=>?_)
  ·have a8:=ft10 l.length fs k a3 (by simpa using bk);refine zn3 ?_;refine aZ X6 (kj _ _ _) rfl (fun w22 s16=>?_);refine zJ a1.u (fun w23 hq s17=>?_);replace a1:=hq;refine zn9 ?_;refine xX (.inl rfl) rfl (zw U43 rfl rfl a1.range0 uq) ?_;exact⟨y8 (ao.trans (yw (c:=10) oG a8 dE)),hB.u⟩
  have bc:yQ (fs[k]'a3).name=true:=by simpa using bk
  refine zn5 ?_;refine wl (x7 (v:= .map _) rfl) (zn2 ?_);replace a2:=(a2.tr0 b7).tr1 b6 oG;refine wl (r_lkS a2 Hj U9 ze3_Valid rfl rfl) (wmT rfl (wl (yV (v:=_) rfl rfl) (wl (yV (v:= .bool _) rfl rfl) (wl (uJ (v:=_) rfl) (zn8 ?_)))));refine jW rfl (fun b5=>?_) (fun b5=>?_)
  ·have a8:=ft7 l.length fs k a3 bc ((bf _).symm.trans b5);refine zn3 ?_;refine aZ X6 (kj _ _ _) rfl (fun w24 s18=>?_);refine zJ a1.u (fun w25 hq s19=>?_);replace a1:=hq;refine zn9 ?_;refine xX (.inl rfl) rfl (zw U43 rfl rfl a1.range0 uq) ?_;exact⟨y8 (ao.trans (yw (c:=7) oG a8 dE)),hB.u⟩
  have hsn:oX ((fs.take k).map (·.name)) (fs[k]'a3).name=false:=by rw[<- bf];exact b5
  have be:∀ s,lkB (NY mp (fs[k]'a3).name (.int .i64 k)) s=oX ((fs.take (k+1)).map (·.name)) s:=fun s=>by
    rw[o8 _ _ _ b5,QZ fs a3,List.map_append,List.map_cons,List.map_nil,E1,<- bf];simp[lkB]
  refine zn4 ?_;refine wl (x7 (v:= .map _) rfl) (zn3 ?_);refine HZ (v:= .int _ _) a2 Hj U9 rfl rfl rfl (fun w26 hq s20=>?_);replace a2:=hq;refine zn3 ?_;replace hB:=((hB.tr0 b7).tr1 b6 b9).tr1 s20 b8;replace a1:=((a1.tr0 b7).tr1 b6 oG).tr1 s20 oG;refine yy (rgq [] 94 24) 117 (.bool (decide ((fs[k]'a3).of<0\/(l.length:Int)<=(fs[k]'a3).of\/(fs[k]'a3).val<0\/(l.length:Int)<=(fs[k]'a3).val))) nu ?_ (fun gq=>?_)
  ·refine zn5 ?_;refine zQ 97 rfl (fun g97=>?_) (fun g97=>?_)
   ·refine zn20 ?_;exact vx
   refine VQ ?_;refine zQ 105 rfl (fun bj=>?_) (fun bj=>?_)
   ·refine jJ ?_;exact vx
   refine zn8 ?_;refine zQ 110 rfl (fun bi=>?_) (fun bi=>?_)
   ·refine zn7 ?_;exact vx
   refine Zv ?_;exact vx
  refine e_S ?_;refine zK rfl (fun a9=>?_) (fun a9=>?_)
  ·have a8:=ft3 l.length fs k a3 bc hsn a9;refine zn3 ?_;refine aZ X6 (kj _ _ _) rfl (fun w27 s21=>?_);refine zJ a1.u (fun w28 hq s22=>?_);replace a1:=hq;refine zn8 ?_;refine xX (.inl rfl) rfl (zw U43 rfl rfl a1.range0 uq) ?_;exact⟨y8 (ao.trans (yw (c:=3) oG a8 dE)),hB.u⟩
  have a8:=ft0 l.length fs k a3 bc hsn a9;refine zn7 ?_;refine xY (fs.length-(k+1)) oG agA ?_;exact⟨k+1,NY mp (fs[k]'a3).name (.int .i64 k),by omega,rfl,rfl,hB,a4.u,a1,a2,be,ao.trans (uy a3 a8)⟩
 refine zn7 ?_;refine uW (cs:=#[.int .i64 0,.int .i64 0]) ?_;refine zJ a1 (fun w29 hq s23=>?_);replace a1:=hq;refine zn3 ?_;refine xX (.inl rfl) rfl (zw U43 rfl rfl a1.range0 uq) ?_;exact⟨y8 (ao.trans (gz oG)),hB.u⟩
theorem meet_none(h:∀ i,i<l.length->gk l a b i=false):(jv l a b).2.2=false:=by
 have h0:vy l a b=0:=mask_eq_zero.2 h;simp only[jv,if_pos h0]
theorem meet_some(hv:VT l)(h60:l.length<=60)(hm:m<l.length)(a1:gk l a b m=true)(hl:∀ i,i<m->gk l a b i=false)(hs:∀ i,i<l.length->gk l a b i=true->sub l i m=true):(jv l a b).2.2=false:=by
 have h0:vy l a b≠0:=fun h=>by
  have:=mask_eq_zero.1 h m hm;rw[a1]at this;cases this
 have hz:=N6 h60 h0;have he:Lib.ctz 64 (vy l a b)=m:=by
  have h1:¬Lib.ctz 64 (vy l a b)<m:=fun h=>by
   have:=hl _ h;rw[show gk l a b (Lib.ctz 64 (vy l a b))=true from hz.2.1]at this;cases this
  have h2:¬m<Lib.ctz 64 (vy l a b):=fun h=>by
   have:=hz.2.2 m h;rw[a1]at this;cases this
  omega
 have hd:ZZ l (Lib.ctz 64 (vy l a b))=vy l a b:=by
  rw[he];refine j9 (fun i hi=>?_);cases h1:sub l i m with
  | true=>
   simp only[gk,Bool.and_eq_true]at a1;simp[gk,Qz hv h1 a1.1,Qz hv h1 a1.2]
  | false=>
   cases h2:gk l a b i with
   | false=>rfl
   | true=>rw[hs i hi h2]at h1;cases h1
 simp only[jv,if_neg h0,hd,ne_eq,not_true_eq_false,if_false]
inductive MS(l:List Ty)(a b c:Nat)(m:Int):Prop
 | none (h:m= -1) (h0:∀ i,i<c->gk l a b i=false)
 | some (n:Nat) (h:m=n) (hn:n<c) (h1:gk l a b n=true) (h2:∀ i,i<n->gk l a b i=false) (h3:∀ i,i<c->gk l a b i=true->sub l i n=true)
theorem MS.start(l:List Ty)(a b:Nat):MS l a b 0 (-1):= .none rfl (fun i h=>by omega)
theorem MS.skip{c:Nat}{m:Int}(h:MS l a b c m)(hc:gk l a b c=false):MS l a b (c+1) m:=by
 cases h with
 | none h h0=>exact .none h (fun i hi=>by
  by_cases e:i=c
  ·subst e;exact hc
  ·exact h0 i oG)
 | some n h hn h1 h2 h3=>exact .some n h oG h1 h2 (fun i hi a1=>by
  by_cases e:i=c
  ·subst e;rw[hc]at a1;cases a1
  ·exact h3 i oG a1)
theorem MS.first(hv:VT l){c:Nat}{m:Int}(h:MS l a b c m)(hm:m<0)(hc:gk l a b c=true):MS l a b (c+1) c:=by
 cases h with
 | none h h0=>exact .some c rfl oG hc h0 (fun i hi hci=>by
  by_cases e:i=c
  ·subst e;exact Q3 hv _
  ·rw[h0 i oG]at hci;cases hci)
 | some n h=>omega
theorem MS.pos{c:Nat}{m:Int}(h:MS l a b c m)(hm:¬m<0):∃ n:Nat,m=n/\n<c/\gk l a b n=true/\(∀ i,i<n->gk l a b i=false)/\∀ i,i<c->gk l a b i=true->sub l i n=true:=by
 cases h with
 | none h=>omega
 | some n h hn h1 h2 h3=>exact⟨n,h,hn,h1,h2,h3⟩
theorem MS.end_(hv:VT l)(h60:l.length<=60){m:Int}(h:MS l a b l.length m):(jv l a b).2.2=false:=by
 cases h with
 | none h h0=>exact meet_none h0
 | some n h hn h1 h2 h3=>exact meet_some hv h60 hn h1 h2 h3
theorem YY{a b:Int}(h:a=b):Ending.returned (.int .i64 b)= .returned (.int .i64 a):=by rw[h]
def capB(l:List Ty)(a b c:Nat):Bool:=sub l a c&&sub l b c
def joinB(l:List Ty)(a b c:Nat):Bool:=capB l a b c&&(List.range l.length).all (fun j=>!(!(decide (j=c))&&sub l j c&&capB l a b j))
def restN(l:List Ty)(a b k:Nat):Nat:=jq (fun i=>capB l a b i&&decide (k<=i)) l.length
structure RestAt(l:List Ty)(a b k i:Nat):Prop where
 lt:i<l.length
 le:k<=i
 cap:capB l a b i=true
 gap:∀ j,k<=j->j<i->joinB l a b j=false
 next:restN l a b k&&&(restN l a b k-1)=restN l a b (i+1)
theorem meet_is(hv:VT l)(h60:l.length<=60)(hm:m<l.length)(a1:gk l a b m=true)(hs:∀ i,i<l.length->gk l a b i=true->sub l i m=true):jv l a b=(m,true,false):=by
 have h0:vy l a b≠0:=fun h=>by
  have:=mask_eq_zero.1 h m hm
  grind
 have hz:=N6 h60 h0;have he:Lib.ctz 64 (vy l a b)=m:=by
  have h1:¬m<Lib.ctz 64 (vy l a b):=fun h=>by
   have:=hz.2.2 m h
   grind
  have h2:=IV hv (hs _ hz.1 hz.2.1);exact Nat.le_antisymm (Nat.le_of_not_lt h1) h2
 have hd:ZZ l (Lib.ctz 64 (vy l a b))=vy l a b:=by
  rw[he];refine j9 (fun i hi=>?_);cases h1:sub l i m with
  | true=>
   simp only[gk,Bool.and_eq_true]at a1;simp[gk,Qz hv h1 a1.1,Qz hv h1 a1.2]
  | false=>
   grind
 unfold jv
 grind
theorem meet_spec(h60:l.length<=60)(h:(jv l a b).2.1=true):(jv l a b).1<l.length/\gk l a b (jv l a b).1=true/\∀ i,i<l.length->gk l a b i=true->sub l i (jv l a b).1=true:=by
 by_cases h0:vy l a b=0
 ·grind[jv]
 by_cases hd:ZZ l (Lib.ctz 64 (vy l a b))≠vy l a b
 ·simp only[jv,if_neg h0,if_pos hd]at h;cases h
 have e:jv l a b=(Lib.ctz 64 (vy l a b),true,false):=by simp only[jv,if_neg h0,if_neg hd]
 have hz:=N6 h60 h0;rw[e];refine⟨hz.1,hz.2.1,fun i hi hc=>?_⟩;have hd':ZZ l (Lib.ctz 64 (vy l a b))=vy l a b:=aG.1 hd;have:=mask_inj.1 hd' i hi
 grind
theorem meet_comm(l:List Ty)(a b:Nat):jv l b a=jv l a b:=by
 have e:vy l b a=vy l a b:=j9 (fun i _=>Bool.and_comm _ _);unfold jv;rw[e]
structure I6(l:List Ty):Prop where
 vt:VT l
 pos:0<l.length
 le:l.length<=60
 all:∀ a b i,a<l.length->b<l.length->i<l.length->gk l a b i=true->(jv l a b).2.1=true
theorem J5(h:(qz l fs).1=0):I6 l:=by
 unfold qz at h;by_cases h4:40<fs.length
 ·grind
 rw[if_neg h4]at h;by_cases ht:(xZ l).1≠0
 ·grind
 rw[if_neg ht]at h;have ht0:=aG.1 ht;by_cases hu:(I9 l).1≠0
 ·grind
 have hu0:=aG.1 hu;have hv:=vt_of ht0;have hl:=B4 ht0;have h60:l.length<=60:=by omega
 have hlt:∀ a b,a<b->b<l.length->(jv l a b).2.2=false:=fun a b hab hb=>by
  have h1:=kX hu0 b (ad _) oG
  grind[jv,Ry,h1]
 have a1:∀ a b,a<l.length->b<l.length->(jv l a b).2.2=false:=fun a b ha hb=>by
  rcases Nat.lt_trichotomy a b with h1|h1|h1
  ·grind
  ·subst h1
   have:=meet_is hv h60 (a:=a) (b:=a) ha (by simp[gk,Q3 hv]) (fun i _ hc=>by
    simp only[gk,Bool.and_eq_true]at hc
    exact hc.1)
   rw[this]
  ·grind[meet_comm,h1]
 refine⟨hv,by omega,h60,fun a b i ha hb hi hc=>?_⟩;have h1:=a1 a b ha hb;have h0:vy l a b≠0:=fun h=>by
  have:=mask_eq_zero.1 h i hi
  grind
 by_cases hd:ZZ l (Lib.ctz 64 (vy l a b))≠vy l a b
 ·simp only[jv,if_neg h0,if_pos hd]at h1;cases h1
 ·simp only[jv,if_neg h0,if_neg hd]
theorem F8(hv:VT l)(h:sub l a b=true)(h2:sub l b a=true):a=b:=Nat.le_antisymm (IV hv h2) (IV hv h)
structure Tri(l:List Ty)(a b c m:Nat)(ok:Bool):Prop where
 yes:ok=true->m<l.length/\(sub l m a=true/\sub l m b=true/\sub l m c=true)/\∀ i,i<l.length->sub l i a=true->sub l i b=true->sub l i c=true->sub l i m=true
 no:ok=false->m=0/\∀ i,i<l.length->sub l i a=true->sub l i b=true->sub l i c=true->False
theorem Tri.uniq(hv:VT l){c:Nat}{p q:Bool}(h:Tri l a b c m p)(k:Tri l a b c n q):p=q/\m=n:=by
 cases p with
 | true=>
  obtain⟨h1,⟨h2,h3,h4⟩,h5⟩:=h.yes rfl;cases q with
  | true=>
   obtain⟨k1,⟨k2,k3,k4⟩,k5⟩:=k.yes rfl;exact⟨rfl,F8 hv (k5 m h1 h2 h3 h4) (h5 n k1 k2 k3 k4)⟩
  | false=>exact((k.no rfl).2 m h1 h2 h3 h4).elim
 | false=>
  cases q with
  | true=>
   obtain⟨k1,⟨k2,k3,k4⟩,k5⟩:=k.yes rfl;exact((h.no rfl).2 n k1 k2 k3 k4).elim
  | false=>exact⟨rfl,(h.no rfl).1.trans (k.no rfl).1.symm⟩
def twoF(l:List Ty)(fs:List Ft)(a b:Int):Fl:=
 if (qz l fs).1≠0 then qz l fs else if a<0\/(l.length:Int)<=a then (3,-2)else if b<0\/(l.length:Int)<=b then (3,-3)else (0,0)
structure TwoOk(l:List Ty)(fs:List Ft)(a b:Int):Prop where
 h:(qz l fs).1=0
 s:I6 l
 a0:0<=a
 al:a<l.length
 b0:0<=b
 bl:b<l.length
 z:twoF l fs a b=(0,0)
def hsub(l:List Ty)(fs:List Ft)(a b:Int):Bool:=if (twoF l fs a b).1≠0 then false else sub l a.toNat b.toNat
theorem JV{xs:List Int}{z:Int}(h:Own w base 3 1 A (xs.length+1) cap (xs.map (Value.int .i64)++[Value.int .i64 z])):Own w base 3 1 A (xs++[z]).length cap ((xs++[z]).map (Value.int .i64)):=by
 grind
theorem M9(A:Option Addr)(cap:Nat)(xs:List Int)(z:Int):Value.slice A (xs.length+1) cap=Value.slice A (xs++[z]).length cap:=by rw[List.length_append];rfl
structure Nd where
 ty:Int
 ln:List (Int×Int)
theorem V7{a b:Nd}(h1:a.ty=b.ty)(h2:a.ln=b.ln):a=b:=by
 cases a;cases b;simp only at h1 h2;rw[h1,h2]
instance:DecidableEq Nd:=fun a b=>decidable_of_iff (a.ty=b.ty/\a.ln=b.ln) ⟨fun h=>V7 h.1 h.2,fun h=>by rw[h];exact⟨rfl,rfl⟩⟩
def LinksIn(w:World)(A:Option Addr)(xs:List (Int×Int)):Prop:=
 xs.length<=vJ/\(xs≠[]->∃ b o,A=some ⟨b,o,none⟩/\b<w.heap.size/\∀ k (h:k<xs.length),w.rangeAt b (o+k*2) [.int .i64 (xs[k]).1,.int .i64 (xs[k]).2])
theorem LinksIn.mono(h:LinksIn w A xs)(hb:Bel w w'):LinksIn w' A xs:=
 ⟨h.1,fun hn=>by
  obtain⟨b,o,e,hl,hc⟩:=h.2 hn
  exact⟨b,o,e,nLL hl hb.size,fun k hk=>hb.range hl (hc k hk)⟩⟩
theorem LinksIn.at_(h:LinksIn w A xs)(hb:Bel w w')(hk:k<xs.length):
  ∃ b o,A=some ⟨b,o,none⟩/\b<w.heap.size/\w'.rangeAt b (o+k*2) [.int .i64 (xs[k]).1,.int .i64 (xs[k]).2]:=by
 obtain⟨b,o,e,hl,hc⟩:=h.2 (by rintro rfl;simp at hk);exact⟨b,o,e,hl,hb.range hl (hc k hk)⟩
def NdIn(w:World)(b o:Nat)(n:Nd):Prop:=∃ A c,w.rangeAt b o [.int .i64 n.ty,.slice A n.ln.length c]/\LinksIn w A n.ln
def NodesIn(w:World)(A:Option Addr)(g:List Nd):Prop:=
 g.length<=vJ/\(g≠[]->∃ b o,A=some ⟨b,o,none⟩/\b<w.heap.size/\∀ k (h:k<g.length),NdIn w b (o+k*2) g[k])
theorem NdIn.mono{w w':World}{b o:Nat}{n:Nd}(h:NdIn w b o n)(hb:Bel w w')(hl:b<w.heap.size):NdIn w' b o n:=by
 obtain⟨A,c,h1,h2⟩:=h;exact⟨A,c,hb.range hl h1,h2.mono hb⟩
theorem NodesIn.mono{w w':World}{A:Option Addr}{g:List Nd}(h:NodesIn w A g)(hb:Bel w w'):NodesIn w' A g:=
 ⟨h.1,fun hn=>by
  obtain⟨b,o,e,hl,hc⟩:=h.2 hn
  exact⟨b,o,e,nLL hl hb.size,fun k hk=>(hc k hk).mono hb hl⟩⟩
theorem NodesIn.at_{g:List Nd}(h:NodesIn w A g)(hb:Bel w w')(hk:k<g.length):
  ∃ b o A' c,A=some ⟨b,o,none⟩/\b<w.heap.size/\w'.rangeAt b (o+k*2) [.int .i64 (g[k]).ty,.slice A' (g[k]).ln.length c]/\LinksIn w A' (g[k]).ln:=by
 obtain⟨b,o,e,hl,hc⟩:=h.2 (by rintro rfl;simp at hk);obtain⟨A',c,h1,h2⟩:=hc k hk;exact⟨b,o,A',c,e,hl,hb.range hl h1,h2⟩
def gw(nf n:Nat)(x:Int×Int):Prop:=x.1<0\/(nf:Int)<=x.1\/x.2<0\/(n:Int)<=x.2
instance(nf n:Nat)(x:Int×Int):Decidable (gw nf n x):=by unfold gw;infer_instance
def yq(nf n:Nat):Int->List (Int×Int)->Int
 | _,[]=>0
 | last,x::xs=>if gw nf n x then 3 else if x.1<=last then 13 else yq nf n x.1 xs
def T9(nt nf n:Nat)(x:Nd):Int:=if x.ty<0\/(nt:Int)<=x.ty then 3 else yq nf n (-1) x.ln
def K4(nt nf:Nat)(g:List Nd)(i:Nat):Int:=match g[i]? with
 | none=>0
 | some x=>T9 nt nf g.length x
def vV(nt nf:Nat)(g:List Nd):Fl:=if g.length=0\/60<g.length then (2,-2)else qJ (K4 nt nf g) 0 g.length
theorem Ez{g:List Nd}(hi:i<g.length)(h:(g[i]).ty<0\/(nt:Int)<=(g[i]).ty):K4 nt nf g i=3:=by
 simp only[K4,List.getElem?_eq_getElem hi,T9,if_pos h]
theorem Yj{g:List Nd}(hi:i<g.length)(h:¬((g[i]).ty<0\/(nt:Int)<=(g[i]).ty)):K4 nt nf g i=yq nf g.length (-1) ((g[i]).ln.drop 0):=by
 simp only[K4,List.getElem?_eq_getElem hi,T9,if_neg h,List.drop_zero]
theorem ln_bad(hj:j<xs.length)(h:gw nf n xs[j]):yq nf n a1 (xs.drop j)=3:=by
 grind[List.drop_eq_getElem_cons,yq]
theorem ln_ord(hj:j<xs.length)(h:¬gw nf n xs[j])(h2:(xs[j]).1<=a1):yq nf n a1 (xs.drop j)=13:=by
 grind[List.drop_eq_getElem_cons,yq]
theorem ln_next(hj:j<xs.length)(h:¬gw nf n xs[j])(h2:¬(xs[j]).1<=a1):yq nf n a1 (xs.drop j)=yq nf n (xs[j]).1 (xs.drop (j+1)):=by
 grind[List.drop_eq_getElem_cons,yq]
theorem ln_end(hj:xs.length<=j):yq nf n a1 (xs.drop j)=0:=by
 rw[List.drop_eq_nil_of_le hj];rfl
theorem D7{nf n:Nat}:∀ {xs:List (Int×Int)} {a1:Int},yq nf n a1 xs=0->∀ x∈xs,¬gw nf n x
 | [],_,_,x,hx=>by cases hx
 | y::ys,a1,h,x,hx=>by
  unfold yq at h
  by_cases h1:gw nf n y
  ·grind
  rw[if_neg h1]at h
  by_cases h2:y.1<=a1
  ·omega
  rw[if_neg h2]at h
  rcases aq.1 hx with rfl|hx
  ·exact h1
  ·exact D7 h x hx
theorem O4{nf n:Nat}:∀ {xs:List (Int×Int)} {a1:Int},yq nf n a1 xs=0->-1<=a1->a1<nf->(xs.length:Int)<=nf-1-a1
 | [],a1,_,h1,h2=>by simp only[List.length_nil];omega
 | y::ys,a1,h,h1,h2=>by
  unfold yq at h
  by_cases h3:gw nf n y
  ·grind
  rw[if_neg h3]at h
  by_cases h4:y.1<=a1
  ·omega
  rw[if_neg h4]at h
  unfold gw at h3
  have:=O4 h oG oG
  grind
structure GOk(nt nf:Nat)(g:List Nd):Prop where
 pos:0<g.length
 le:g.length<=60
 ty:∀ i (h:i<g.length),0<=(g[i]).ty/\(g[i]).ty<nt
 ln:∀ i (h:i<g.length),∀ x∈(g[i]).ln,0<=x.1/\x.1<nf/\0<=x.2/\x.2<g.length
 few:∀ i (h:i<g.length),(g[i]).ln.length<=nf
structure CW(nf:Nat)(g:List Nd):Prop where
 pos:0<g.length
 le:g.length<=1000000
 ln:∀ i (h:i<g.length),∀ x∈(g[i]).ln,0<=x.1/\x.1<nf/\0<=x.2/\x.2<g.length
 few:∀ i (h:i<g.length),(g[i]).ln.length<=nf
theorem GOk.two{g:List Nd}(h:GOk nt nf g):CW nf g:=⟨h.pos,nLT h.le dE,h.ln,h.few⟩
theorem gok_of{g:List Nd}(h:(vV nt nf g).1=0):GOk nt nf g:=by
 unfold vV at h;by_cases h0:g.length=0\/60<g.length
 ·grind
 rw[if_neg h0]at h;have hi:∀ i (h:i<g.length),¬((g[i]).ty<0\/(nt:Int)<=(g[i]).ty)/\yq nf g.length (-1) (g[i]).ln=0:=fun i hl=>by
  have h1:=kX h i (ad _) oG
  grind[Ez,hl,h1,Yj]
 refine⟨by omega,by omega,fun i hl=>?_,fun i hl x hx=>?_,fun i hl=>?_⟩
 ·grind
 ·have:=D7 (hi i hl).2 x hx
  grind[gw]
 ·have:=O4 (hi i hl).2 oG oG
  omega
theorem Yx{g:List Nd}(h:(vV nt nf g).1=0):∀ i (hi:i<g.length),yq nf g.length (-1) (g[i]).ln=0:=fun i hl=>by
 unfold vV at h
 by_cases h0:g.length=0\/60<g.length
 ·grind
 rw[if_neg h0]at h
 have h1:=kX h i (ad _) oG
 grind[Ez,hl,h1,Yj]
theorem Xz{f:Nat->Int}:∀ {m i:Nat},(∀ j,i<=j->j<i+m->f j=0)->qJ f i m=(0,0)
 | 0,_,_=>rfl
 | m+1,i,h=>by
  unfold qJ
  rw[if_neg (fun e=>e (h i (Nat.le_refl _) oG))]
  exact Xz (fun j h1 h2=>h j oG oG)
theorem S5{f:Nat->Int}:∀ {m i:Nat},(qJ f i m).1=0->qJ f i m=(0,0)
 | 0,_,_=>rfl
 | m+1,i,h=>by
  unfold qJ at h ⊢
  by_cases h3:f i≠0
  ·grind
  ·rw[if_neg h3]at h ⊢;exact S5 h
def Ey(fs:List Ft)(z:Int):Ft:=fs.getD z.toNat ⟨⟨#[]⟩,0,0⟩
def E8(g:List Nd)(z:Int):Nd:=g.getD z.toNat ⟨0,[]⟩
def Eq(l:List Ty)(fs:List Ft)(g:List Nd)(t:Int)(x:Int×Int):Bool:=
 !(sub l t.toNat (Ey fs x.1).of.toNat) || !(sub l (E8 g x.2).ty.toNat (Ey fs x.1).val.toNat)
def tyN(l:List Ty)(fs:List Ft)(g:List Nd)(i:Nat):Int:=match g[i]? with
 | none=>0
 | some x=>if x.ln.any (Eq l fs g x.ty)then 12 else 0
def tyF(l:List Ty)(fs:List Ft)(g:List Nd):Fl:=qJ (tyN l fs g) 0 g.length
theorem tyN_yes{g:List Nd}(hi:i<g.length)(hj:j<(g[i]).ln.length)(h:Eq l fs g (g[i]).ty (g[i]).ln[j]=true):tyN l fs g i=12:=by
 simp only[tyN,List.getElem?_eq_getElem hi]
 grind
theorem HW{g:List Nd}(hi:i<g.length)(h:∀ j (hj:j<(g[i]).ln.length),Eq l fs g (g[i]).ty (g[i]).ln[j]=false):tyN l fs g i=0:=by
 simp only[tyN,List.getElem?_eq_getElem hi]
 grind[List.getElem_of_mem]
inductive Rch(g:List Nd):Nat->Prop
 | zero:Rch g 0
 | step {i:Nat} {x:Int×Int} (h:Rch g i) (hi:i<g.length) (hx:x∈(g[i]).ln):Rch g x.2.toNat
def CL(g:List Nd)(mk:Nat->Bool):Prop:=∀ i (hi:i<g.length),mk i=true->∀ x∈(g[i]).ln,mk x.2.toNat=true
def Only(g:List Nd)(mk:Nat->Bool):Prop:=∀ i,mk i=true->Rch g i
theorem reach_cl{g:List Nd}(h0:mk 0=true)(hc:CL g mk)(h:Rch g i):mk i=true:=by
 induction h with
 | zero=>exact h0
 | step h hi hx ih=>exact hc _ hi ih _ hx
def UnrIs(g:List Nd)(r:Int):Prop:=(r= -1/\∀ i,i<g.length->Rch g i)\/∃ k:Nat,r=k/\k<g.length/\¬Rch g k/\∀ i,i<k->Rch g i
theorem UnrIs.uniq{g:List Nd}{r s:Int}(h:UnrIs g r)(k:UnrIs g s):r=s:=by
 rcases h with ⟨h1,h2⟩|⟨a,h1,h2,h3,h4⟩<;>rcases k with ⟨k1,k2⟩|⟨b,k1,k2,k3,k4⟩
 ·omega
 ·grind
 ·grind
 ·grind
noncomputable def I8(g:List Nd):Int:=@Classical.epsilon Int ⟨0⟩ (UnrIs g)
theorem Nk{g:List Nd}{r:Int}(h:UnrIs g r):r=I8 g:=h.uniq (@Classical.epsilon_spec Int (UnrIs g) ⟨r,h⟩)
structure AllM(g:List Nd)(mk:Nat->Bool):Prop where
 zero:mk 0=true
 only:Only g mk
 cl:CL g mk
theorem AllM.no{g:List Nd}(h:AllM g mk)(hk:k<g.length)(hm:mk k=false)(hb:∀ i,i<k->mk i=true):((k:Nat):Int)=I8 g:=
 Nk (.inr ⟨k,rfl,hk,fun hr=>absurd ((reach_cl h.zero h.cl hr).symm.trans hm) (by simp),fun i hi=>h.only i (hb i hi)⟩)
theorem AllM.yes{g:List Nd}(h:AllM g mk)(hb:∀ i,i<g.length->mk i=true):(-1:Int)=I8 g:=
 Nk (.inl ⟨rfl,fun i hi=>h.only i (hb i hi)⟩)
def o5(mk:Nat->Bool)(j:Nat)(x:Nat):Bool:=if x=j then true else mk x
theorem QX(mk:Nat->Bool)(j:Nat):o5 mk j j=true:=by simp[o5]
theorem vW(h:mk x=true):o5 mk j x=true:=by
 unfold o5;split
 ·rfl
 ·exact h
theorem kV(h:o5 mk j x=true):x=j\/mk x=true:=by
 grind[o5]
def jy(n:Nat)(mk:Nat->Bool):Nat:=(List.range n).countP (fun i=>!mk i)
theorem OW(n:Nat)(mk:Nat->Bool):jy n mk<=n:=by
 grind[List.countP_le_length,mk,List.range,jy]
theorem Q6(hj:j<n)(h:mk j=false):jy n (o5 mk j)<jy n mk:=
 Q0 (fun x hx=>by
  cases hm:mk x with
  | false=>rfl
  | true=>
   have:=vW (j:=j) hm
   simp[this]at hx) (List.range n) j (av.2 hj) (by simp[h]) (by simp[QX])
structure DS(g:List Nd)(mk:Nat->Bool)(st:List Int)(i k:Nat):Prop where
 zero:mk 0=true
 only:Only g mk
 stk:∀ s∈st,∃ n:Nat,s=(n:Int)/\n<g.length/\mk n=true
 cl:∀ j (hj:j<g.length),mk j=true->j≠i->(j:Int)∈st\/∀ x∈(g[j]).ln,mk x.2.toNat=true
 me:∀(hi:i<g.length),mk i=true/\∀ x∈(g[i]).ln.take k,mk x.2.toNat=true
theorem DS.start{g:List Nd}(h:0<g.length):DS g (o5 (fun _=>false) 0) [0] g.length 0:=
 ⟨by simp[o5],fun i hi=>by
  rcases kV hi with rfl|h
  ·exact .zero
  ·exact absurd h aK,fun s hs=>by
  obtain rfl:=aj.1 hs
  exact⟨0,rfl,h,by simp[o5]⟩,fun j hj hm _=>by
  rcases kV hm with rfl|h
  ·exact .inl (by simp)
  ·exact absurd h aK,fun hi=>absurd hi (aA _)⟩
theorem DS.pop{g:List Nd}{st:List Int}{z:Int}(h:DS g mk (st++[z]) g.length 0):∃ n:Nat,z=(n:Int)/\n<g.length/\DS g mk st n 0:=by
 obtain⟨n,rfl,hn,hm⟩:=h.stk z (by simp);refine⟨n,rfl,hn,h.zero,h.only,fun s hs=>h.stk s (by simp[hs]),fun j hj hmj hne=>?_,fun hi=>⟨hm,fun x hx=>by simp at hx⟩⟩;rcases h.cl j hj hmj oG with h1|h1
 ·grind
 ·exact .inr h1
theorem DS.old{g:List Nd}{st:List Int}(h:DS g mk st i k)(hi:i<g.length)(hk:k<(g[i]).ln.length)(hm:mk ((g[i]).ln[k]).2.toNat=true):DS g mk st i (k+1):=
 ⟨h.zero,h.only,h.stk,h.cl,fun _=>⟨(h.me hi).1,fun x hx=>by
  rw[List.take_succ_eq_append_getElem hk]at hx
  rcases ay.1 hx with hx|hx
  ·exact(h.me hi).2 x hx
  ·rw[List.mem_singleton.1 hx];exact hm⟩⟩
theorem DS.new{g:List Nd}{st:List Int}(h:DS g mk st i k)(hi:i<g.length)(hk:k<(g[i]).ln.length)(ht:((g[i]).ln[k]).2=(t:Int))(htl:t<g.length):DS g (o5 mk t) (st++[(t:Int)]) i (k+1):=
 ⟨vW h.zero,fun j hj=>by
  rcases kV hj with rfl|hj
  ·have:=Rch.step (h.only i (h.me hi).1) hi (ap hk)
   rw[ht]at this;simpa using this
  ·exact h.only j hj,fun s hs=>by
  rcases ay.1 hs with hs|hs
  ·obtain⟨n,h1,h2,h3⟩:=h.stk s hs
   exact⟨n,h1,h2,vW h3⟩
  ·exact⟨t,aj.1 hs,htl,QX _ _⟩,fun j hj hm hne=>by
  rcases kV hm with rfl|hm
  ·exact .inl (by simp)
  ·rcases h.cl j hj hm hne with h1|h1
   ·exact .inl (by simp[h1])
   ·exact .inr (fun x hx=>vW (h1 x hx)),fun _=>⟨vW (h.me hi).1,fun x hx=>by
  rw[List.take_succ_eq_append_getElem hk]at hx
  rcases ay.1 hx with hx|hx
  ·exact vW ((h.me hi).2 x hx)
  ·rw[List.mem_singleton.1 hx,ht];simp[QX]⟩⟩
theorem DS.done{g:List Nd}{st:List Int}(h:DS g mk st i k)(hi:i<g.length)(hk:k=(g[i]).ln.length):DS g mk st g.length 0:=
 ⟨h.zero,h.only,h.stk,fun j hj hm _=>by
  by_cases e:j=i
  ·subst e
   have h1:=(h.me hj).2
   grind
  ·exact h.cl j hj hm e,fun hi=>absurd hi (aA _)⟩
theorem DS.end_{g:List Nd}(h:DS g mk [] g.length 0):AllM g mk:=
 ⟨h.zero,h.only,fun i hi hm x hx=>by
  rcases h.cl i hi hm oG with h1|h1
  ·cases h1
  ·exact h1 x hx⟩
def cntN(n:Nat)(mk:Nat->Bool):Nat:=(List.range n).countP mk
theorem cnt_le(n:Nat)(mk:Nat->Bool):cntN n mk<=n:=by
 grind[List.countP_le_length,mk,List.range,cntN]
structure PS(g:List Nd)(mk:Nat->Bool)(p:Nat):Prop where
 zero:mk 0=true
 only:Only g mk
 far:CL g mk\/p+1<=cntN g.length mk
structure PP(g:List Nd)(m0 mk:Nat->Bool)(i k:Nat):Prop where
 zero:mk 0=true
 only:Only g mk
 sup:∀ j,m0 j=true->mk j=true
 same:CL g m0->∀ j,mk j=true->m0 j=true
 done:∀ j (hj:j<g.length),j<i->m0 j=true->∀ x∈(g[j]).ln,mk x.2.toNat=true
 me:∀(hi:i<g.length),m0 i=true->∀ x∈(g[i]).ln.take k,mk x.2.toNat=true
theorem PS.start{g:List Nd}(h:0<g.length):PS g (o5 (fun _=>false) 0) 0:=
 ⟨by simp[o5],fun i hi=>by
  rcases kV hi with rfl|h
  ·exact .zero
  ·exact absurd h aK,.inr (by
  have:0<cntN g.length (o5 (fun _=>false) 0):=List.countP_pos_iff.2 ⟨0,av.2 h,by simp[o5]⟩
  omega)⟩
theorem PP.start{g:List Nd}{p:Nat}(h:PS g mk p):PP g mk mk 0 0:=
 ⟨h.zero,h.only,fun _ h=>h,fun _ _ h=>h,fun j _ hj=>by omega,fun _ _ x hx=>by simp at hx⟩
theorem PP.skip{g:List Nd}(h:PP g m0 mk i k)(hm:mk i=false):PP g m0 mk i (k+1):=
 ⟨h.zero,h.only,h.sup,h.same,h.done,fun _ h0=>absurd ((h.sup i h0).symm.trans hm) (by simp)⟩
theorem PP.next{g:List Nd}(h:PP g m0 mk i k)(hi:i<g.length)(hk:k=(g[i]).ln.length):PP g m0 mk (i+1) 0:=
 ⟨h.zero,h.only,h.sup,h.same,fun j hj hji h0 x hx=>by
  by_cases e:j=i
  ·subst e
   have:=h.me hj h0
   grind
  ·exact h.done j hj oG h0 x hx,fun _ _ x hx=>by simp at hx⟩
theorem PP.end_{g:List Nd}(hr:∀ i (hi:i<g.length),∀ x∈(g[i]).ln,x.2.toNat<g.length){p:Nat}(h0:PS g m0 p)(h:PP g m0 mk g.length 0):PS g mk (p+1):=by
 refine⟨h.zero,h.only,?_⟩;have hcl:CL g m0->CL g mk:=fun hc i hi hm x hx=>h.sup _ (hc i hi (h.same hc i hm) x hx)
 by_cases hc:CL g m0
 ·exact .inl (hcl hc)
 ·right
  rcases h0.far with h1|h1
  ·exact absurd h1 hc
  ·have hex:∃ i,∃ hi:i<g.length,m0 i=true/\∃ x,x∈(g[i]).ln/\m0 x.2.toNat=false:=az (fun hn=>hc (fun i hi hm x hx=>by
    cases hv:m0 x.2.toNat with
    | true=>rfl
    | false=>exact absurd ⟨i,hi,hm,x,hx,hv⟩ hn))
   obtain⟨i,hi,hm,x,hx,hv⟩:=hex;have a1:=h.done i hi hi hm x hx;have hl:=hr i hi x hx;have:cntN g.length m0<cntN g.length mk:=Q0 h.sup (List.range g.length) _ (av.2 hl) a1 hv;omega
theorem PS.end_{g:List Nd}(h:PS g mk g.length):AllM g mk:=
 ⟨h.zero,h.only,by
  rcases h.far with h1|h1
  ·exact h1
  ·have:=cnt_le g.length mk
   omega⟩
theorem snoc_of{st:List Int}(h:0<st.length):∃ s z,st=s++[z]:=by
 rcases List.eq_nil_or_concat st with rfl|⟨s,z,rfl⟩
 ·cases h
 ·grind
theorem Fw:row n (fun x=>if x=j then Value.bool true else .bool (mk x))=row n (fun x=> .bool (o5 mk j x)):=
 jX (fun x _=>by by_cases e:x=j<;>simp[o5,e])
structure FOk(nt:Nat)(fs:List Ft):Prop where
 at_:∀ i (h:i<fs.length),0<=(fs[i]).of/\(fs[i]).of<nt/\0<=(fs[i]).val/\(fs[i]).val<nt
theorem fok_of(h:(qz l fs).1=0):FOk l.length fs:=by
 unfold qz at h;by_cases h4:40<fs.length
 ·grind
 rw[if_neg h4]at h;by_cases ht:(xZ l).1≠0
 ·grind
 rw[if_neg ht]at h;by_cases hu:(I9 l).1≠0
 ·grind
 rw[if_neg hu]at h;refine⟨fun i hi=>?_⟩;have h1:=kX h i (ad _) oG
 grind[yQ,ft10,h1,oX,ft7,S4,ft3]
theorem lnTy_at{g:List Nd}{t:Int}{x:Int×Int}{fi ti yn on vn zn:Nat}(h1:x.1=(fi:Int))(hfi:fi<fs.length)(h2:x.2=(ti:Int))(hti:ti<g.length)(ht:t=(yn:Int))(ho:(fs[fi]).of=(on:Int))(hv:(fs[fi]).val=(vn:Int))(hz:(g[ti]).ty=(zn:Int)):
  Eq l fs g t x=(!sub l yn on || !sub l zn vn):=by
 unfold Eq Ey E8;rw[h1,h2,ht];have e1:fs.getD (fi:Int).toNat ⟨⟨#[]⟩,0,0⟩=fs[fi]:=by simp[List.getD,hfi]
 have e2:g.getD (ti:Int).toNat ⟨0,[]⟩=g[ti]:=by simp[List.getD,hti]
 rw[e1,e2,ho,hv,hz];simp
noncomputable def xy(l:List Ty)(fs:List Ft)(g:List Nd):Fl:=
 if (vV l.length fs.length g).1≠0 then vV l.length fs.length g else if (tyF l fs g).1≠0 then tyF l fs g else if 0<=I8 g then (5,I8 g)else (0,0)
theorem P8{g:List Nd}(h:¬(vV l.length fs.length g).1=0):xy l fs g=((vV l.length fs.length g).1,(vV l.length fs.length g).2):=by unfold xy;rw[if_pos h]
theorem wi_ty{g:List Nd}{k:Int}(h:(vV l.length fs.length g).1=0)(ht:tyF l fs g=(12,k)):xy l fs g=(12,k):=by
 grind[xy]
theorem wi_unr{g:List Nd}(h:(vV l.length fs.length g).1=0)(ht:tyF l fs g=(0,0))(hu:0<=I8 g):xy l fs g=(5,I8 g):=by
 grind[xy]
theorem IZ{g:List Nd}(h:(vV l.length fs.length g).1=0)(ht:tyF l fs g=(0,0))(hu:¬0<=I8 g):xy l fs g=(0,0):=by
 grind[xy]
noncomputable def kY(l:List Ty)(fs:List Ft)(g:List Nd):Fl:=if (qz l fs).1≠0 then qz l fs else xy l fs g
theorem gf_hier{g:List Nd}(h:¬(qz l fs).1=0):kY l fs g=((qz l fs).1,(qz l fs).2):=by unfold kY;rw[if_pos h]
theorem WV{g:List Nd}(h:(qz l fs).1=0):kY l fs g=((xy l fs g).1,(xy l fs g).2):=by unfold kY;rw[if_neg (fun e=>e h)]
def nd(g:List Nd)(i:Nat):Nd:=g.getD i ⟨0,[]⟩
theorem yv{g:List Nd}(hi:i<g.length):nd g i=g[i]:=by simp[nd,List.getD,hi]
def yJ(g:List Nd)(i:Nat):List Nat:=(nd g i).ln.map (fun x=>x.2.toNat)
inductive DL(g:List Nd):List Nat->List Nat->List Nat->Prop
 | nil {o:List Nat}:DL g [] o o
 | old {i:Nat} {is o o':List Nat} (h:i∈o) (t:DL g is o o'):DL g (i::is) o o'
 | new {i:Nat} {is o o1 o':List Nat} (h:¬i∈o) (s:DL g (yJ g i) (o++[i]) o1) (t:DL g is o1 o'):DL g (i::is) o o'
theorem DL.det{g:List Nd}{is a:List Nat}(h:DL g is o a):∀ {b:List Nat},DL g is o b->a=b:=by
 induction h with
 | nil=>intro b k;cases k;rfl
 | old h t ih=>
  intro b k;cases k with
  | old h' t'=>exact ih t'
  | new h' s' t'=>exact absurd h h'
 | new h s t ihs iht=>
  intro b k;cases k with
  | old h' t'=>exact absurd h' h
  | new h' s' t'=>
   have:=ihs s';subst this;exact iht t'
theorem DL.append{g:List Nd}{xs a b:List Nat}(h:DL g xs a b):∀ {ys c:List Nat},DL g ys b c->DL g (xs++ys) a c:=by
 induction h with
 | nil=>intro ys c k;exact k
 | old h t ih=>intro ys c k;exact .old h (ih k)
 | new h s t ihs iht=>intro ys c k;exact .new h s (iht k)
def V9(o:List Nat)(x:Nat):Bool:=decide (x∈o)
structure OOk(n:Nat)(o:List Nat):Prop where
 lt:∀ x∈o,x<n
 cnt:o.length+jy n (V9 o)<=n
theorem OOk.nil(n:Nat):OOk n []:=⟨fun x hx=>by simp at hx,by have:=OW n (V9 []);simpa using this⟩
theorem Ek(hi:i<n)(h:¬i∈o):jy n (V9 (o++[i]))<jy n (V9 o):=
 Q0 (fun x hx=>by
  simp only[V9,Bool.not_eq_true',decide_eq_false_iff_not,List.mem_append,not_or]at hx ⊢
  exact hx.1) (List.range n) i (av.2 hi) (by simp[V9,h]) (by simp[V9])
theorem lack_more(n:Nat)(o s:List Nat):jy n (V9 (o++s))<=jy n (V9 o):=
 List.countP_mono_left (fun x _ hx=>by
  simp only[V9,Bool.not_eq_true',decide_eq_false_iff_not,List.mem_append,not_or]at hx ⊢
  exact hx.1)
theorem OOk.snoc{n i:Nat}{o:List Nat}(h:OOk n o)(hi:i<n)(hn:¬i∈o):OOk n (o++[i]):=
 ⟨fun x hx=>by
  rcases ay.1 hx with hx|hx
  ·exact h.lt x hx
  ·rw[List.mem_singleton.1 hx];exact hi,by
  have h1:=Ek hi hn
  have h2:=h.cnt
  simp only[List.length_append,List.length_cons,List.length_nil]
  omega⟩
theorem DL.ok{g:List Nd}(hr:∀ i,i<g.length->∀ t∈yJ g i,t<g.length){is o':List Nat}(h:DL g is o o'):(∀ i∈is,i<g.length)->OOk g.length o->OOk g.length o'/\∃ s,o'=o++s:=by
 induction h with
 | nil=>intro _ k;exact⟨k,[],by simp⟩
 | old h t ih=>intro hi k;exact ih (fun i h=>hi i (am _ h)) k
 | new h s t ihs iht=>
  intro hi k;have hlt:=hi _ (au ..);obtain⟨h1,s1,e1⟩:=ihs (hr _ hlt) (k.snoc hlt h);obtain⟨h2,s2,e2⟩:=iht (fun i h=>hi i (am _ h)) h1;exact⟨h2,_,by rw[e2,e1,List.append_assoc,List.append_assoc]⟩
theorem B9{g:List Nd}(h:CW nf g):∀ i,i<g.length->∀ t∈yJ g i,t<g.length:=fun i hi t ht=>by
 simp only[yJ,yv hi,List.mem_map]at ht
 obtain⟨x,hx,rfl⟩:=ht
 have:=h.ln i hi x hx
 omega
theorem L8{g:List Nd}(hi:i<g.length)(hj:j<(g[i]).ln.length)(ht:((g[i]).ln[j]).2=(t:Int)):(yJ g i).take (j+1)=(yJ g i).take j++[t]:=by
 have hl:j<(yJ g i).length:=by simp[yJ,yv hi,hj]
 rw[List.take_succ_eq_append_getElem hl]
 congr 2
 simp[yJ,yv hi,ht]
def uk(o:List Nat)(x:Nat):Int:=if x∈o then (o.idxOf x:Nat)else -1
theorem numO_nil(x:Nat):uk [] x= -1:=by simp[uk]
theorem numO_neg(h:¬0<=uk o x):¬x∈o:=fun hx=>h (by simp only[uk,if_pos hx];omega)
theorem numO_pos(h:0<=uk o x):x∈o:=by
 unfold uk at h;by_cases hx:x∈o
 ·exact hx
 ·rw[if_neg hx]at h;omega
theorem numO_snoc(h:¬i∈o)(x:Nat):(if x=i then ((o.length:Nat):Int)else uk o x)=uk (o++[i]) x:=by
 unfold uk;by_cases e:x=i
 ·subst e
  simp[List.idxOf_append,h]
 ·by_cases hx:x∈o
  ·simp[e,hx,List.idxOf_append]
  ·simp[e,hx]
theorem row_num(h:¬i∈o):row n (fun x=>if x=i then Value.int .i64 ((o.length:Nat):Int)else .int .i64 (uk o x))=row n (fun x=> .int .i64 (uk (o++[i]) x)):=
 jX (fun x _=>by rw[<- numO_snoc h];split<;>rfl)
def oV(o:List Nat):List Value:=o.map (fun(n:Nat)=>Value.int .i64 (n:Int))
theorem own_oV(h:Own w base 3 1 A (o.length+1) cap (oV o++[Value.int .i64 (i:Int)])):Own w base 3 1 A (o++[i]).length cap (oV (o++[i])):=by
 unfold oV at h ⊢;rw[List.length_append,List.map_append];exact h
theorem sl_oV(A:Option Addr)(cap:Nat)(o:List Nat)(i:Nat):Value.slice A (o.length+1) cap=Value.slice A (o++[i]).length cap:=by rw[List.length_append];rfl
structure Chg(base:Nat)(X:List Nat)(w w':World):Prop where
 os:w'.os=w.os
 tape:w'.tape=w.tape
 output:w'.output=w.output
 size:w.heap.size<=w'.heap.size
 blk:∀ k,k<base->¬k∈X->w'.heap[k]? =w.heap[k]?
theorem Chg.refl(base:Nat)(X:List Nat)(w:World):Chg base X w w:=⟨rfl,rfl,rfl,ae _,fun _ _ _=>rfl⟩
theorem Chg.trans{base:Nat}{X:List Nat}{a b c:World}(h:Chg base X a b)(k:Chg base X b c):Chg base X a c:=
 ⟨k.os.trans h.os,k.tape.trans h.tape,k.output.trans h.output,nLT h.size k.size,fun i hi hx=>(k.blk i hi hx).trans (h.blk i hi hx)⟩
theorem Chg.st{Y:List Nat}{a b c:World}(h:Chg base X a b)(k:Same Y b c)(hb:base<=b.heap.size)(hy:∀ g∈Y,g∈X\/base<=g):Chg base X a c:=
 h.trans ⟨k.os,k.tape,k.output,k.size,fun i hi hx=>k.blk i (nLL hi hb) (fun hm=>by
  rcases hy i hm with h1|h1
  ·exact hx h1
  ·omega)⟩
theorem xx{Y:List Nat}{a b c:World}(h:Chg base X a b/\base<=b.heap.size)(k:Same Y b c)(hy:∀ g∈Y,g∈X\/base<=g:=by first|(simp;done)|(intro g hg;have h1:=aj.1 hg;first|(left;rw[h1];simp;done)|(right;omega))|(intro g hg;exact .inr (by have:=(Own.lt (by assumption) g hg).1;omega))):Chg base X a c/\base<=c.heap.size:=⟨h.1.st k h.2 hy,nLT h.2 (Same.size k)⟩
theorem Blk.chg{cs:Array Value}(h:Blk w b t cs)(hc:Chg base X w w')(hb:b<base)(hx:¬b∈X):Blk w' b t cs:=(hc.blk b hb hx).trans h
theorem Bel.chg{w0:World}(h:Bel w0 w)(hc:Chg base X w w')(hb:w0.heap.size<=base)(hx:∀ g∈X,w0.heap.size<=g):Bel w0 w':=
 ⟨hc.os.trans h.os,hc.tape.trans h.tape,hc.output.trans h.output,nLT h.size hc.size,fun k hk=>(hc.blk k (nLL hk hb) (fun hm=>by have:=hx k hm;omega)).trans (h.block k hk)⟩
def ky(m:Nat)(f h:Nat->Value):Array Value:=Array.ofFn (n:=m*2) (fun i=>if i.val%2=0 then f (i.val/2)else h (i.val/2))
theorem Y6(m:Nat)(f h:Nat->Value):(ky m f h).size=m*2:=by simp[ky]
theorem By(hi:i<m):(ky m f h)[0+i*2+0]? =some (f i):=by
 have e1:0+i*2+0=i*2:=by omega
 have e2:i*2<m*2:=by omega
 rw[e1];simp[ky,e2]
theorem E3(hi:i<m):(ky m f h)[0+i*2+1]? =some (h i):=by
 have e1:0+i*2+1=i*2+1:=by omega
 have e2:i*2+1<m*2:=by omega
 have e3:(i*2+1)%2=1:=by omega
 have e4:(i*2+1)/2=i:=by omega
 rw[e1];simp[ky,e2,e3,e4]
theorem Bv:(ky m f h).setIfInBounds (0+i*2+0) v=ky m (fun j=>if j=i then v else f j) h:=by
 apply Array.ext
 ·simp[ky]
 ·intro k h1 h2
  rw[Array.getElem_setIfInBounds (by simpa using h1)];simp only[ky,Array.getElem_ofFn];by_cases e:0+i*2+0=k
  ·have e1:k%2=0:=by omega
   have e2:k/2=i:=by omega
   rw[if_pos e];simp[e1,e2]
  ·rw[if_neg e]
   by_cases e1:k%2=0
   ·have e2:¬k/2=i:=by omega
    simp[e1,e2]
   ·simp[e1]
theorem Bj:(ky m f h).setIfInBounds (0+i*2+1) v=ky m f (fun j=>if j=i then v else h j):=by
 apply Array.ext
 ·simp[ky]
 ·intro k h1 h2
  rw[Array.getElem_setIfInBounds (by simpa using h1)];simp only[ky,Array.getElem_ofFn];by_cases e:0+i*2+1=k
  ·have e1:k%2=1:=by omega
   have e2:k/2=i:=by omega
   rw[if_pos e];simp[e1,e2]
  ·rw[if_neg e]
   by_cases e1:k%2=0
   ·simp[e1]
   ·have e2:¬k/2=i:=by omega
    simp[e1,e2]
theorem ZJ{f' h':Nat->Value}(hf:∀ j,j<m->f j=f' j)(hh:∀ j,j<m->h j=h' j):ky m f h=ky m f' h':=by
 apply Array.ext
 ·simp[ky]
 ·intro k h1 h2
  have hk:k<m*2:=by simpa[ky]using h1
  simp only[ky,Array.getElem_ofFn];rw[hf _ oG,hh _ oG]
theorem Bw(m:Nat)(a b:Value):madeCells #[a,b] (m*2)=ky m (fun _=>a) (fun _=>b):=by
 apply Array.ext
 ·simp[ky,madeCells]
 ·intro k h1 h2
  simp only[ky,madeCells,Array.getElem_ofFn,Array.getElem_map,Array.getElem_range];rcases(by omega:k%2=0\/k%2=1)with e|e
  ·simp[e]
  ·simp[e]
def Iw(o:List Nat)(x:Int×Int):Int×Int:=(x.1,uk o x.2.toNat)
def CX(g:List Nd)(o:List Nat)(i:Nat):Nd:=⟨(nd g i).ty,(nd g i).ln.map (Iw o)⟩
def xJ(g:List Nd)(o:List Nat):List Nd:=o.map (CX g o)
def lnV(xs:List (Int×Int)):List Value:=xs.flatMap (fun x=>[Value.int .i64 x.1,Value.int .i64 x.2])
theorem Wj(xs:List (Int×Int))(x:Int×Int):lnV xs++[Value.int .i64 x.1,Value.int .i64 x.2]=lnV (xs++[x]):=by simp[lnV]
theorem Vz:∀(xs:List (Int×Int)) (k:Nat) (hk:k<xs.length),(lnV xs)[k*2]? =some (Value.int .i64 (xs[k]).1)/\(lnV xs)[k*2+1]? =some (Value.int .i64 (xs[k]).2)
 | [],k,hk=>by simp at hk
 | x::xs,0,_=>by simp[lnV]
 | x::xs,k+1,hk=>by
  have h:=Vz xs k (by simpa using hk)
  have e1:(k+1)*2=k*2+1+1:=by omega
  have e2:(k+1)*2+1=k*2+1+1+1:=by omega
  have e3:lnV (x::xs)=Value.int .i64 x.1::Value.int .i64 x.2::lnV xs:=by simp[lnV]
  rw[e1,e3]
  simpa using h
theorem BK(h:Own w base 109 2 A xs.length cap (lnV xs)):LinksIn w A xs:=
 ⟨h.max,fun hn=>by
  have hne:lnV xs≠[]:=by
   cases xs with
   | nil=>exact absurd rfl hn
   | cons x r=>simp[lnV]
  obtain⟨g,e,hb,hg,hc⟩:=h.cell hne;refine⟨g,0,e,hg,fun k hk j v hj=>?_⟩;have h2:=Vz xs k hk
  match j,hj with
  | 0,hj=>cases hj;have:=hc _ _ h2.1;simpa using this
  | 1,hj=>cases hj;have:=hc _ _ h2.2;simpa using this
  | _+2,hj=>cases hj⟩
structure FrSame(B:Nat)(w w2:World):Prop where
 size:w.heap.size<=w2.heap.size
 blk:∀ k,B<=k->k<w.heap.size->w2.heap[k]? =w.heap[k]?
theorem FrSame.of{B:Nat}{w0:World}(h:FrSame B w0 w)(hs:Same X w w')(hx:∀ g∈X,g<B\/w0.heap.size<=g):FrSame B w0 w':=
 ⟨nLT h.size hs.size,fun k hk hk2=>by
  rw[hs.blk k (nLL hk2 h.size) (fun hm=>by have:=hx k hm;omega)]
  exact h.blk k hk hk2⟩
theorem FrSame.refl(B:Nat)(w:World):FrSame B w w:=⟨ae _,fun _ _ _=>rfl⟩
theorem FrSame.at_{B:Nat}{cs:Array Value}(h:FrSame B w w2)(hb:Blk w b t cs)(hl:B<=b):Blk w2 b t cs:=(h.blk b hl hb.lt).trans hb
def RowO(w:World)(lo bs:Nat)(v:Value)(xs:List (Int×Int)):Prop:=∃ A c,v= .slice A xs.length c/\Own w lo 109 2 A xs.length c (lnV xs)/\∀ g∈aL A,g<bs
theorem Own.typ{xs:List Value}(h:Own w base e sz A k cap xs):∀ g∈aL A,∃ cs,Blk w g e cs:=fun g hg=>by
 rcases h.2 with ⟨hn,_⟩|⟨g',c,cur,hv,hb,hgg,r⟩
 ·cases hn;cases hg
 ·cases hv
  simp only[aL,List.mem_singleton]at hg
  subst hg;exact⟨cur,hgg⟩
theorem Own.typ9{xs:List Value}(h:Own w base e sz A k cap xs)(ht:e≠t):∀ g∈aL A,∃ cs u,Blk w g u cs/\u≠t:=fun g hg=>by
 obtain⟨cs,k⟩:=h.typ g hg
 exact⟨cs,_,k,ht⟩
theorem RowO.tr{w w':World}{lo bs:Nat}{v:Value}{xs:List (Int×Int)}{X:List Nat}(h:RowO w lo bs v xs)(hs:Same X w w')(hx:∀ g∈X,bs<=g\/∃ cs t,Blk w g t cs/\t≠109):RowO w' lo bs v xs:=by
 obtain⟨A,c,h1,h2,h3⟩:=h;refine⟨A,c,h1,h2.tr hs (fun g hg hm=>?_),h3⟩;rcases hx g hm with h4|⟨cs,t,h4,h5⟩
 ·have:=h3 g hg;omega
 ·obtain⟨cs2,h6⟩:=h2.typ g hg
  exact h5 (oq h4 h6)
theorem RowO.c(h:RowO w lo bs v xs)(hs:Same X w w')(hx:∀ g∈X,bs<=g\/∃ cs t,Blk w g t cs/\t≠109:=by first|(simp;done)|(intro g hg;rw[List.mem_singleton.1 hg];first|exact .inr ⟨_,_,by assumption,by decide⟩|exact .inl oG)|(intro g hg;first|exact .inl (by have:=(Own.lt (by assumption) g hg).1;omega)|exact .inr (Own.typ9 (by assumption) dE g hg))):RowO w' lo bs v xs:=h.tr hs hx
theorem qq{V:Nat->Value}{L:Nat->List (Int×Int)}(h:∀ x,x<n->RowO w lo bs (V x) (L x))(hs:Same X w w')(hx:∀ g∈X,bs<=g\/∃ cs t,Blk w g t cs/\t≠109:=by first|(simp;done)|(intro g hg;rw[List.mem_singleton.1 hg];first|exact .inr ⟨_,_,by assumption,by decide⟩|exact .inl oG)|(intro g hg;first|exact .inl (by have:=(Own.lt (by assumption) g hg).1;omega)|exact .inr (Own.typ9 (by assumption) dE g hg))):∀ x,x<n->RowO w' lo bs (V x) (L x):=fun x k=>(h x k).tr hs hx
theorem RowO.up{bs':Nat}(h:RowO w lo bs v xs)(hb:bs<=bs'):RowO w lo bs' v xs:=by
 obtain⟨A,c,h1,h2,h3⟩:=h;exact⟨A,c,h1,h2,fun g hg=>nLL (h3 g hg) hb⟩
theorem RowO.of(hl:lo<=base)(h:Own w base 109 2 A xs.length cap (lnV xs)):RowO w lo w.heap.size (.slice A xs.length cap) xs:=⟨A,cap,rfl,h.low hl,fun g hg=>(h.lt g hg).2⟩
theorem RowO.fr(h:RowO w lo bs v xs)(hf:FrSame lo w w2):RowO w2 lo bs v xs:=by
 obtain⟨A,c,h1,h2,h3⟩:=h;refine⟨A,c,h1,⟨h2.1,?_⟩,h3⟩;rcases h2.2 with hn|⟨g,c,cur,hv,hb,hg,r⟩
 ·exact .inl hn
 ·exact .inr ⟨g,c,cur,hv,hb,(hf.blk g hb (jV hg)).trans hg,r⟩
def OrdF(w:World)(bn bd:Nat)(A:Option Addr)(o:List Nat):Prop:=
 (o= []/\A=none)\/(o≠[]/\∃ b,A=some ⟨b,0,none⟩/\b≠bn/\b<bd/\b<w.heap.size/\∀ k (hk:k<o.length),w.cell? ⟨b,0+k,none⟩=some (.int .i64 (o[k]:Nat)))
theorem OrdF.nil(w:World)(bn bd:Nat):OrdF w bn bd none []:= .inl ⟨rfl,rfl⟩
theorem OrdF.tr{bn bd:Nat}(h:OrdF w bn bd A o)(hs:Same X w w')(hx:∀ g∈X,g=bn\/bd<=g):OrdF w' bn bd A o:=by
 rcases h with h|⟨h1,b,h2,h3,h4,h5,h6⟩
 ·exact .inl h
 ·refine .inr ⟨h1,b,h2,h3,h4,nLL h5 hs.size,fun k hk=>?_⟩
  rw[World.cell?_of_block (hs.blk b h5 (fun hm=>by rcases hx b hm with h|h<;>omega))];exact h6 k hk
theorem OrdF.up{bn bd bd':Nat}(h:OrdF w bn bd A o)(hb:bd<=bd'):OrdF w bn bd' A o:=by
 rcases h with h|⟨h1,b,h2,h3,h4,h5,h6⟩
 ·exact .inl h
 ·exact .inr ⟨h1,b,h2,h3,nLL h4 hb,h5,h6⟩
def ndV(f h:Nat->Value)(k:Nat):List Value:=(List.range k).flatMap (fun x=>[f x,h x])
theorem Yz(f h:Nat->Value)(k:Nat):ndV f h (k+1)=ndV f h k++[f k,h k]:=by simp[ndV,List.range_succ,List.flatMap_append]
theorem ZV{f f' h h':Nat->Value}:∀ {k:Nat},(∀ x,x<k->f x=f' x)->(∀ x,x<k->h x=h' x)->ndV f h k=ndV f' h' k
 | 0,_,_=>rfl
 | k+1,h1,h2=>by rw[Yz,Yz,ZV (fun x hx=>h1 x oG) (fun x hx=>h2 x oG),h1 k oG,h2 k oG]
theorem V8(f h:Nat->Value):∀ k,(ndV f h k).length=k*2
 | 0=>rfl
 | k+1=>by rw[Yz,List.length_append,V8 f h k];simp only[List.length_cons,List.length_nil];omega
theorem Z7(f h:Nat->Value):∀ {k x:Nat},x<k->(ndV f h k)[x*2]? =some (f x)/\(ndV f h k)[x*2+1]? =some (h x)
 | 0,_,hx=>by omega
 | k+1,x,hx=>by
  have hl:=V8 f h k
  rw[Yz]
  by_cases e:x<k
  ·have ih:=Z7 f h e
   rw[List.getElem?_append_left oG,List.getElem?_append_left oG]
   exact ih
  ·have e2:x=k:=by omega
   subst e2
   rw[List.getElem?_append_right oG,List.getElem?_append_right oG,hl]
   have e3:x*2-x*2=0:=by omega
   have e4:x*2+1-x*2=1:=by omega
   rw[e3,e4];exact⟨rfl,rfl⟩
theorem Own.fr{xs:List Value}(h:Own w base e sz A k cap xs)(hl:lo<=base)(hf:FrSame lo w w2):Own w2 base e sz A k cap xs:=by
 refine⟨h.1,?_⟩;rcases h.2 with hn|⟨g,c,cur,hv,hb,hg,r⟩
 ·exact .inl hn
 ·exact .inr ⟨g,c,cur,hv,hb,(hf.blk g (nLT hl hb) (jV hg)).trans hg,r⟩
theorem BY{gr:List Nd}(ho:Own w base 107 2 A m cap (ndV f h m))(hm:gr.length=m)(hf:∀ k (hk:k<gr.length),f k= .int .i64 (gr[k]).ty)(hh:∀ k (hk:k<gr.length),RowO w lo bs (h k) (gr[k]).ln):NodesIn w A gr:=
 ⟨by rw[hm];exact ho.max,fun hn=>by
  have hne:ndV f h m≠[]:=fun h0=>by
   have h1:=V8 f h m
   rw[h0]at h1
   exact hn (aI.1 (by simp only[List.length_nil]at h1;omega))
  obtain⟨g,e,hb,hg,hc⟩:=ho.cell hne
  refine⟨g,0,e,hg,fun k hk=>?_⟩
  obtain⟨A',c,h1,h2,_⟩:=hh k hk
  have h3:=Z7 f h (show k<m by omega)
  refine⟨A',c,fun j v hj=>?_,BK h2⟩
  match j,hj with
  | 0,hj=>cases hj;rw[<- hf k hk];have:=hc _ _ h3.1;simpa using this
  | 1,hj=>cases hj;rw[<- h1];have:=hc _ _ h3.2;simpa using this
  | _+2,hj=>cases hj⟩
end Go.Proofs.YtmfiholmfieieaaDoor
