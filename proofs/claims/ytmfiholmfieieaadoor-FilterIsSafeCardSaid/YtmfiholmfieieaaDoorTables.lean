/- What these functions compute, at every world: term.Name, hierarchy.fault, hierarchy.Types, ref3.Sub, math/bits.TrailingZeros64, (hierarchy.Table).Meet, (hierarchy.Table).Sub, hierarchy.Tables; and plain laws. -/
import Derived.Test.YtmfiholmfieieaaDoorU
import Derived.Test.YtmfiholmfieieaaDoorZst
import Derived.Test.YtmfiholmfieieaaDoorProg
import Derived.Lib.TrailingZeros
namespace Go.Proofs.YtmfiholmfieieaaDoor
open Go.RowKit
variable {a b bd bu c i j k n x:Nat}{l:List Ty}{mk p:Nat->Bool}{w w':World}
def K0(c:UInt8):Bool:=decide (97<=c.toNat/\c.toNat<=122)||decide (48<=c.toNat/\c.toNat<=57)||decide (c.toNat=95)||decide (c.toNat=45)
theorem D4(c:UInt8):K0 c=true↔((97<=c.toNat/\c.toNat<=122)\/(48<=c.toNat/\c.toNat<=57)\/c.toNat=95\/c.toNat=45):=by simp[K0,or_assoc]
def Gv:List UInt8->Bool
 | []=>false
 | c::_=>decide (97<=c.toNat/\c.toNat<=122)
def yQ(s:ByteArray):Bool:=decide (s.size<=30)&&Gv s.data.toList&&s.data.toList.all K0
theorem JX{a b:Bool}(h:a=b):Ending.returned (.bool b)= .returned (.bool a):=by rw[h]
theorem hd_num(s:ByteArray):∃ c0:Nat,∀ h:0<s.size,(s[0]'h).toNat=c0:=by
 by_cases h:0<s.size
 ·exact⟨(s[0]'h).toNat,fun _=>rfl⟩
 ·exact⟨0,fun h'=>absurd h' h⟩
theorem isName_eq(s:ByteArray)(c0:Nat)(e0:∀ h:0<s.size,(s[0]'h).toNat=c0):
  yQ s=decide ((s.size≠0/\s.size<=30)/\(97<=c0/\c0<=122)/\(∀ k (hk:k<s.size),K0 (s[k]'hk)=true)):=by
 have ha:(s.data.toList.all K0=true)↔(∀ k (hk:k<s.size),K0 (s[k]'hk)=true):=by
  rw[List.all_eq_true]
  constructor
  ·intro h k hk
   exact h _ (ap (l:=s.data.toList) (n:=k) (by simpa using hk))
  ·intro h x hx
   obtain⟨k,hk,rfl⟩:=List.mem_iff_getElem.1 hx;exact h k (by simpa using hk)
 have hh:∀ h:0<s.size,Gv s.data.toList=decide (97<=c0/\c0<=122):=by
  intro h;rw[<- e0 h];obtain⟨⟨l⟩⟩:=s;cases l with
  | nil=>exact absurd h dE
  | cons c l=>rfl
 by_cases h0:s.size=0
 ·have:s.data.toList= []:=by
   apply List.eq_nil_of_length_eq_zero;simpa using h0
  simp[yQ,this,Gv,h0]
 ·have h:=hh oG
  rw[Bool.eq_iff_iff];simp only[yQ,h,Bool.and_eq_true,decide_eq_true_eq,ha]
  constructor
  ·rintro⟨⟨a,b⟩,c⟩;exact⟨⟨h0,a⟩,b,c⟩
  ·rintro⟨⟨_,a⟩,b,c⟩;exact⟨⟨a,b⟩,c⟩
theorem RY:(Tryd.prog.info? 43).map (·.size)=some 2:=by kernel_rfl
theorem ze43:(Tryd.prog.info? 43).map (·.zero)=some (some (.agg #[.int .i64 0,.int .i64 0])):=by kernel_rfl
theorem MJ(s:ByteArray)(w:World):Calls Tryd.prog 46 #[.string s] w fun e w'=>e= .returned (.bool (yQ s))/\w=w':=by
 obtain⟨c0,e0⟩:=hd_num s;have hN:=Lib.hid (isName_eq s c0 e0);refine enter Tryd.func46 Tryd.ntmps46 rfl (aE rfl) (zn7 ?_);refine yy (rgq [] 5 18) 22 (.bool (decide (s.size=0\/30<s.size\/c0<97\/122<c0))) nu ?_ (fun gq=>?_)
 ·refine zn5 ?_;refine zQ 8 rfl (fun g8=>?_) (fun g8=>?_)
  ·refine VQ ?_;refine kv ?_
   try have a6:=e0 oG
   first|exact ac (ah oG).symm|exact ac (ag oG).symm|exact ac (ai.2 oG)|exact ac ((decide_not).symm.trans (ai.2 oG))
  refine zn8 ?_;refine zQ 13 rfl (fun g13=>?_) (fun g13=>?_)
  ·refine zn9 ?_;refine kv ?_
   try have a6:=e0 oG
   first|exact ac (ah oG).symm|exact ac (ag oG).symm|exact ac (ai.2 oG)|exact ac ((decide_not).symm.trans (ai.2 oG))
  refine zn3 ?_;refine wl (r_ixS (i:=0) U9 rfl rfl oG) (zn4 ?_);refine zQ 18 rfl (fun g18=>?_) (fun g18=>?_)
  ·refine zn4 ?_;refine kv ?_
   try have a6:=e0 oG
   first|exact ac (ah oG).symm|exact ac (ag oG).symm|exact ac (ai.2 oG)|exact ac ((decide_not).symm.trans (ai.2 oG))
  refine zn3 ?_;refine wl (r_ixS (i:=0) U9 rfl rfl oG) (zn3 ?_);refine kv ?_
  try have a6:=e0 oG
  first|exact ac (ah oG).symm|exact ac (ag oG).symm|exact ac (ai.2 oG)|exact ac ((decide_not).symm.trans (ai.2 oG))
 refine e_S ?_;refine zK rfl (fun c22=>?_) (fun c22=>?_)
 ·refine zn8 ?_;exact⟨JX (by rw[hN.out];exact ag (fun h=>by omega)),rfl⟩
 refine gX ?_;refine qk (rgq [2,3,4] 25 30) (fun m g w'=>∃ k:Nat,k<=s.size/\m=s.size-k/\g 25= .int .i64 k/\w=w'/\(∀ j (hj:j<s.size),j<k->K0 (s[j]'hj)=true)) (s.size) ?_ (fun m g4 w1 hI=>?_)
 ·exact⟨0,ad _,rfl,rfl,rfl,fun j hj h=>by omega⟩
 obtain⟨k,hk,hm,h25,rfl,a3⟩:=hI;refine zZ 25 _ h25 nu (zn6 ?_);refine zK rfl (fun c26=>?_) (fun c26=>?_)
 ·refine VQ ?_;refine wl (r_ixS (i:=k) U9 rfl rfl oG) (zn4 ?_);refine yy (rgq [] 31 23) 53 (.bool (decide (¬((97<=(s[k]'oG).toNat/\(s[k]'oG).toNat<=122)\/(48<=(s[k]'oG).toNat/\(s[k]'oG).toNat<=57)\/(s[k]'oG).toNat=95\/(s[k]'oG).toNat=45)))) nu ?_ (fun gq=>?_)
  ·refine zn4 ?_;refine zQ 33 rfl (fun g33=>?_) (fun g33=>?_)
   ·refine zn6 ?_;refine zQ 37 rfl (fun g37=>?_) (fun g37=>?_)
    ·refine P0 ?_;exact vx
    refine zn6 ?_;refine zQ 40 rfl (fun a5=>?_) (fun a5=>?_)
    ·refine zn8 ?_;refine zQ 45 rfl (fun a4=>?_) (fun a4=>?_)
     ·refine zn8 ?_;exact vx
     refine zn6 ?_;refine zQ 49 rfl (fun a1=>?_) (fun a1=>?_)
     ·refine zn4 ?_;exact vx
     refine zn6 ?_;exact vx
    refine jJ ?_;refine zQ 49 rfl (fun a1=>?_) (fun a1=>?_)
    ·refine zn4 ?_;exact vx
    refine zn6 ?_;exact vx
   refine jZ ?_;refine zQ 40 rfl (fun a5=>?_) (fun a5=>?_)
   ·refine zn8 ?_;refine zQ 45 rfl (fun a4=>?_) (fun a4=>?_)
    ·refine zn8 ?_;exact vx
    refine zn6 ?_;refine zQ 49 rfl (fun a1=>?_) (fun a1=>?_)
    ·refine zn4 ?_;exact vx
    refine zn6 ?_;exact vx
   refine jJ ?_;refine zQ 49 rfl (fun a1=>?_) (fun a1=>?_)
   ·refine zn4 ?_;exact vx
   refine zn6 ?_;exact vx
  refine e_S ?_;refine zK rfl (fun c53=>?_) (fun c53=>?_)
  ·refine jJ ?_;exact⟨JX (by rw[hN.out];exact ag (fun h=>c53 ((D4 _).1 (h.2.2 k oG)))),rfl⟩
  have a2:∀ j (hj:j<s.size),j<k+1->K0 (s[j]'hj)=true:=fun j hj h=>by
    by_cases e:j=k
    · subst e;exact(D4 _).2 oG
    · exact a3 j hj oG
  refine zn7 ?_;refine xY (s.size-(k+1)) oG agA ?_;exact⟨k+1,by omega,rfl,rfl,rfl,fun j hj h=>a2 j hj h⟩
 refine jJ ?_;exact⟨JX (by rw[hN.out];exact ah ⟨by omega,by omega,fun j hj=>a3 j hj oG⟩),rfl⟩
theorem kj(a b:Int)(w:World):Calls Tryd.prog 64 #[.int .i64 a,.int .i64 b] w fun e w'=>e= .returned (flV (a,b))/\Bel w w':=by
 refine enT Tryd.func64 Tryd.ntmps64 rfl rfl fun hB=>?_;refine zn2 ?_;refine qw (cs:=#[.int .i64 0,.int .i64 0]) ze43 rfl (fun b4 w1 a1 s1 hr=>?_);have lo4:=hB.ob hr;refine zn6 ?_;refine VY ?_;refine zJ a1 (fun w2 hq s2=>?_);replace a1:=hq;refine zn3 ?_;refine xX (.inl rfl) rfl (zw U43 rfl rfl a1.range0 RY) ?_;exact⟨rfl,hB.u⟩
def jj(l:List Ty)(i:Nat):Int:=match l[i]? with
 | none=>0
 | some t=>if yQ t.name=false then 10 else if oX ((l.take i).map (·.name)) t.name=true then 7 else if (decide (i=0)==t.par.isEmpty)=false then 5 else uj i (-1) t.par
def xZ(l:List Ty):Fl:=if l.length=0\/60<l.length then (2,-1)else qJ (jj l) 0 l.length
theorem MW(xs:List Int):decide ((xs.length:Int)=0)=xs.isEmpty:=by cases xs<;>simp;omega
theorem mal_yes{xs:List Int}(h:(!(decide ((k:Int)=0)==decide ((xs.length:Int)=0)))=true):(decide (k=0)==xs.isEmpty)=false:=by
 rw[MW]at h
 simpa using h
theorem mal_no{xs:List Int}(h:(!(decide ((k:Int)=0)==decide ((xs.length:Int)=0)))=false):(decide (k=0)==xs.isEmpty)=true:=by
 rw[MW]at h
 simpa using h
theorem ty10(l:List Ty)(k:Nat)(hlt:k<l.length)(h1:yQ l[k].name=false):jj l k=10:=by
 simp only[jj,List.getElem?_eq_getElem hlt,h1,if_true]
theorem ty7(l:List Ty)(k:Nat)(hlt:k<l.length)(h1:yQ l[k].name=true)(h2:oX ((l.take k).map (·.name)) l[k].name=true):jj l k=7:=by
 simp only[jj,List.getElem?_eq_getElem hlt,h1,h2,if_true];rfl
theorem ty5(l:List Ty)(k:Nat)(hlt:k<l.length)(h1:yQ l[k].name=true)(h2:oX ((l.take k).map (·.name)) l[k].name=false)(h3:(decide (k=0)==l[k].par.isEmpty)=false):jj l k=5:=by
 simp only[jj,List.getElem?_eq_getElem hlt,h1,h2,h3,if_true];rfl
theorem tyF_par(l:List Ty)(k:Nat)(hlt:k<l.length)(h1:yQ l[k].name=true)(h2:oX ((l.take k).map (·.name)) l[k].name=false)(h3:(decide (k=0)==l[k].par.isEmpty)=true):jj l k=uj k (-1) (l[k].par.drop 0):=by
 simp only[jj,List.getElem?_eq_getElem hlt,h1,h2,h3,List.drop_zero];rfl
theorem sz126:(Tryd.prog.info? 126).map (·.size)=some 2:=by kernel_rfl
theorem ze126:(Tryd.prog.info? 126).map (·.zero)=some (some (.agg #[.string ⟨#[]⟩,.slice none 0 0])):=by kernel_rfl
theorem ze3:(Tryd.prog.info? 3).map (·.zero)=some (some (.int .i64 0)):=by kernel_rfl
theorem types_any(A:Option Addr)(c:Nat)(l:List Ty)(w:World)(hT:TypesIn w A l):Calls Tryd.prog 65 #[.slice A l.length c] w fun e w'=>e= .returned (flV (xZ l))/\Bel w w':=by
 refine enT Tryd.func65 Tryd.ntmps65 rfl rfl fun hB=>?_;refine zn2 ?_;refine qw (cs:=#[.int .i64 0,.int .i64 0]) ze43 rfl (fun b2 w1 a1 s1 hr=>?_);have lo2:=hB.ob hr;refine zn4 ?_;replace hB:=hB.tr0 s1;refine yy (rgq [] 11 8) 18 (.bool (decide (l.length=0\/60<l.length))) nu ?_ (fun gq=>?_)
 ·refine zn5 ?_;refine zQ 14 rfl (fun g14=>?_) (fun g14=>?_)
  ·refine zn4 ?_;exact vx
  refine zn7 ?_;exact vx
 refine e_S ?_;refine zK rfl (fun ba=>?_) (fun ba=>?_)
 ·refine zn2 ?_;refine aZ kR (kj _ _ _) rfl (fun w2 s2=>?_);refine zJ a1.u (fun w3 hq s3=>?_);replace a1:=hq;refine zn4 ?_;refine xX (.inl rfl) rfl (zw U43 rfl rfl a1.range0 RY) ?_;replace hB:=(hB.tr0 s2).tr1 s3 lo2;exact⟨y8 (by simp only[xZ,if_pos ba]),hB⟩
 have hR:=Lib.hid (show xZ l=qJ (jj l) 0 (l.length-0) by simp only[xZ,if_neg ba,Nat.sub_zero]);refine zn4 ?_;refine wl_mm (fun b20 w4 a3 s4 hr=>?_);have:=nLL a1.lt hr;have an:=hB.ob hr;refine wl (uJ (v:= .map _) rfl) (gX ?_);refine qk [4,5,6,7,8,10,23,24,25,26,27,28,29,30,31,32,33,34,35,36,37,38,39,40,41,42,43,44,45,46,47,48,49,50,51,52,53,54,55,56,57,58,59,60,61,62,63,64,65,66,67,68,69,70,71,72,73,74,75,76,77,78,79,80] (fun m g w'=>∃(k:Nat) (mp:List (ByteArray×Value)),k<=l.length/\m=l.length-k/\g 23= .int .i64 k/\Bel w w'/\Blk w' b2 43 #[.int .i64 0,.int .i64 0]/\MapS w' b20 mp/\(∀ s,lkB mp s=oX ((l.take k).map (·.name)) s)/\xZ l=qJ (jj l) k (l.length-k)) (l.length) ?_ (fun m g5 w5 hI=>?_)
 ·exact⟨0,[],ad _,rfl,rfl,hB.u,a1.u,a3,fun s=>rfl,hR.out⟩
 obtain⟨k,mp,hk,hm,h23,hB,a1,a3,b4,a6⟩:=hI;refine zZ 23 _ h23 nu (zn6 ?_);refine zK rfl (fun c24=>?_) (fun c24=>?_)
 ·have a2:k<l.length:=by omega
  obtain⟨tb,to,A',cp,rfl,htb,htr,a7⟩:=hT.at_ hB a2;refine zn8 ?_;refine wl (qK U126 rfl rfl htr sz126) ?_;refine qw (cs:=#[.string ⟨#[]⟩,.slice none 0 0]) ze126 rfl (fun b5 w6 hb5 s5 hr=>?_);have:=nLL a1.lt hr;have:=nLL a3.lt hr;have lo5:=hB.ob hr;refine waI rfl ?_;refine zJ hb5 (fun w7 hq s6=>?_);replace hb5:=hq;refine zn7 ?_;refine zX kR (MJ _ _) rfl (fun e' w8 hr=>?_);obtain⟨rfl,rfl⟩:=hr;refine⟨_,rfl,?_⟩;refine zn3 ?_;refine jW rfl (fun b9=>?_) (fun b9=>?_)
  ·have a4:=ty10 l k a2 (by simpa using b9);refine zn3 ?_;refine aZ kR (kj _ _ _) rfl (fun w9 s7=>?_);refine zJ a1.u (fun w10 hq s8=>?_);replace a1:=hq;refine zn9 ?_;refine xX (.inl rfl) rfl (zw U43 rfl rfl a1.range0 RY) ?_;exact⟨y8 (a6.trans (yw (c:=10) oG a4 dE)),hB.u⟩
  have b1:yQ (l[k]'a2).name=true:=by simpa using b9
  refine zn5 ?_;refine wl (x7 (v:= .map _) rfl) (zn2 ?_);replace a3:=(a3.tr0 s5).tr1 s6 oG;refine wl (r_lkS a3 Hj U9 ze3 rfl rfl) (wmT rfl (wl (yV (v:=_) rfl rfl) (wl (yV (v:= .bool _) rfl rfl) (wl (uJ (v:=_) rfl) (zn8 ?_)))));refine jW rfl (fun ab=>?_) (fun ab=>?_)
  ·have a4:=ty7 l k a2 b1 ((b4 _).symm.trans ab);refine zn3 ?_;refine aZ kR (kj _ _ _) rfl (fun w11 s9=>?_);refine zJ a1.u (fun w12 hq s10=>?_);replace a1:=hq;refine zn9 ?_;refine xX (.inl rfl) rfl (zw U43 rfl rfl a1.range0 RY) ?_;exact⟨y8 (a6.trans (yw (c:=7) oG a4 dE)),hB.u⟩
  have hsn:oX ((l.take k).map (·.name)) (l[k]'a2).name=false:=by rw[<- b4];exact ab
  have b3:∀ s,lkB (NY mp (l[k]'a2).name (.int .i64 k)) s=oX ((l.take (k+1)).map (·.name)) s:=fun s=>by
    rw[o8 _ _ _ ab,QZ l a2,List.map_append,List.map_cons,List.map_nil,E1,<- b4];simp[lkB]
  refine zn4 ?_;refine wl (x7 (v:= .map _) rfl) (zn3 ?_);refine HZ (v:= .int _ _) a3 Hj U9 rfl rfl rfl (fun w13 hq s11=>?_);replace a3:=hq;refine gX ?_;refine wl (r_neqB U4 rfl rfl) (x6 (e_S ?_));refine jW rfl (fun b8=>?_) (fun b8=>?_)
  ·have a4:=ty5 l k a2 b1 hsn (mal_yes b8);refine zn3 ?_;refine aZ kR (kj _ _ _) rfl (fun w14 s12=>?_);refine zJ a1.u (fun w15 hq s13=>?_);replace a1:=hq;refine zn9 ?_;refine xX (.inl rfl) rfl (zw U43 rfl rfl a1.range0 RY) ?_;exact⟨y8 (a6.trans (yw (c:=5) oG a4 dE)),hB.u⟩
  have b6:=mal_no b8;refine P0 ?_;refine qk (rgq [8,10] 60 20) (fun m g w'=>∃(j:Nat) (a5:Int),j<=(l[k]'a2).par.length/\m=(l[k]'a2).par.length-j/\g 60= .int .i64 j/\g 8= .int .i64 a5/\w13=w'/\jj l k=uj k a5 ((l[k]'a2).par.drop j)) ((l[k]'a2).par.length) ?_ (fun m g17 w16 hI=>?_)
  ·exact⟨0,-1,ad _,rfl,rfl,rfl,rfl,tyF_par l k a2 b1 hsn b6⟩
  obtain⟨j,a5,hj,hmj,h60,h8,rfl,hP⟩:=hI;refine zZ 60 _ h60 nu (zZ 8 _ h8 nu (zn6 ?_));refine zK rfl (fun c61=>?_) (fun c61=>?_)
  ·have a8:j<(l[k]'a2).par.length:=by omega
   have hmx:=a7.1;unfold vJ at hmx;obtain⟨pb,po,rfl,hpb,ao⟩:=a7.at_ a8;replace hB:=((hB.tr0 s5).tr1 s6 lo5).tr1 s11 an;replace ao:=hB.cell hpb ao;refine zn7 ?_;refine wl (qW (v:= .int _ _) U3 rfl rfl ao) (zn5 ?_);replace a1:=((a1.tr0 s5).tr1 s6 oG).tr1 s11 oG;refine yy [64,65,66,67,68,69,70] 70 (.bool (decide ((l[k]'a2).par[j]<0\/(k:Int)<=(l[k]'a2).par[j]))) nu ?_ (fun gq=>?_)
   ·refine zn4 ?_;refine zQ 66 rfl (fun g66=>?_) (fun g66=>?_)
    ·refine zn4 ?_;exact vx
    refine zn7 ?_;exact vx
   refine e_S ?_;refine zK rfl (fun a9=>?_) (fun a9=>?_)
   ·have a4:jj l k=3:=by rw[hP,List.drop_eq_getElem_cons a8];simp only[uj,if_pos a9]
    refine zn3 ?_;refine aZ kR (kj _ _ _) rfl (fun w17 s14=>?_);refine zJ a1.u (fun w18 hq s15=>?_);replace a1:=hq;refine Zv ?_;refine xX (.inl rfl) rfl (zw U43 rfl rfl a1.range0 RY) ?_;exact⟨y8 (a6.trans (yw (c:=3) oG a4 dE)),hB.u⟩
   refine jZ ?_;refine zK rfl (fun b7=>?_) (fun b7=>?_)
   ·have a4:jj l k=13:=by rw[hP,List.drop_eq_getElem_cons a8];simp only[uj,if_neg a9,if_pos b7]
    refine zn3 ?_;refine aZ kR (kj _ _ _) rfl (fun w19 s16=>?_);refine zJ a1.u (fun w20 hq s17=>?_);replace a1:=hq;refine Zv ?_;refine xX (.inl rfl) rfl (zw U43 rfl rfl a1.range0 RY) ?_;exact⟨y8 (a6.trans (yw (c:=13) oG a4 dE)),hB.u⟩
   have hP':jj l k=uj k (l[k]'a2).par[j] ((l[k]'a2).par.drop (j+1)):=by rw[hP,List.drop_eq_getElem_cons a8];simp only[uj,if_neg a9,if_neg b7]
   refine jJ ?_;refine xY ((l[k]'a2).par.length-(j+1)) oG agA ?_;exact⟨j+1,(l[k]'a2).par[j],by omega,rfl,rfl,rfl,rfl,hP'⟩
  have a4:=Lib.hid (show jj l k=0 by rw[hP,List.drop_eq_nil_of_le oG];rfl);refine jZ ?_;refine xY (l.length-(k+1)) oG agA ?_;exact⟨k+1,NY mp (l[k]'a2).name (.int .i64 k),by omega,rfl,rfl,hB.u,a1.u,a3,b3,a6.trans (uy a2 a4.out)⟩
 refine zn7 ?_;refine uW (cs:=#[.int .i64 0,.int .i64 0]) ?_;refine zJ a1 (fun w21 hq s18=>?_);replace a1:=hq;refine zn3 ?_;refine xX (.inl rfl) rfl (zw U43 rfl rfl a1.range0 RY) ?_;exact⟨y8 (a6.trans (gz oG)),hB.u⟩
def Ov(l:List Ty)(i:Nat):List Nat:=match l[i]? with
 | none=>[]
 | some t=>t.par.map Int.toNat
def F9(l:List Ty):Nat->Nat->Nat->Bool
 | 0,a,b=>decide (a=b)
 | f+1,a,b=>decide (a=b)||(Ov l a).any (fun p=>F9 l f p b)
def sub(l:List Ty)(a b:Nat):Bool:=F9 l a a b
def VT(l:List Ty):Prop:=∀ i (h:i<l.length),∀ p∈(l[i]).par,0<=p/\p<(i:Int)
theorem VT.par(h:VT l){p:Nat}(hp:p∈Ov l a):p<a:=by
 unfold Ov at hp;by_cases ha:a<l.length
 ·rw[List.getElem?_eq_getElem ha]at hp
  simp only[List.mem_map]at hp;obtain⟨q,hq,rfl⟩:=hp;have:=h a ha q hq;omega
 ·rw[List.getElem?_eq_none oG]at hp;cases hp
theorem DV{α:Type}{l:List α}{p q:α->Bool}(h:∀ x∈l,p x=q x):l.any p=l.any q:=by
 induction l with
 | nil=>rfl
 | cons a r ih=>
  simp only[List.any_cons];rw[h a (by simp),ih (fun x hx=>h x (by simp[hx]))]
theorem subF_fuel(hv:VT l)(b:Nat):∀(n a:Nat),a<=n->∀ f,a<=f->F9 l f a b=F9 l a a b:=by
 intro n
 induction n with
 | zero=>
  intro a ha f hf;have:a=0:=by omega
  subst this;have hp:Ov l 0= []:=by
   cases h:Ov l 0 with
   | nil=>rfl
   | cons p r=>exact absurd (hv.par (a:=0) (p:=p) (by rw[h];simp)) oG
  cases f<;>simp[F9,hp]
 | succ n ih=>
  intro a ha f hf;cases a with
  | zero=>exact ih 0 oG f oG
  | succ a=>
   cases f with
   | zero=>omega
   | succ f=>
    simp only[F9]
    congr 1
    apply DV
    intro p hp;have:=hv.par hp;rw[ih p oG f oG,ih p oG a oG]
theorem Lj(hv:VT l)(a b:Nat):sub l a b=(decide (a=b)||(Ov l a).any (fun p=>sub l p b)):=by
 unfold sub;cases a with
 | zero=>
  have hp:Ov l 0= []:=by
   cases h:Ov l 0 with
   | nil=>rfl
   | cons p r=>exact absurd (hv.par (a:=0) (p:=p) (by rw[h];simp)) oG
  simp[F9,hp]
 | succ a=>
  conv=>lhs;unfold F9
  congr 1
  apply DV
  intro p hp;have:=hv.par hp;rw[subF_fuel hv b (a+1) p oG a oG]
theorem Q3(hv:VT l)(a:Nat):sub l a a=true:=by rw[Lj hv];simp
theorem YJ(hv:VT l)(a b:Nat):sub l a b=true↔a=b\/∃ p∈Ov l a,sub l p b=true:=by
 rw[Lj hv];simp
theorem sub_le(hv:VT l):∀(n a b:Nat),a<=n->sub l a b=true->b<=a:=by
 intro n
 induction n with
 | zero=>
  intro a b ha h;rcases(YJ hv a b).1 h with rfl|⟨p,hp,_⟩
  ·omega
  ·have:=hv.par hp;omega
 | succ n ih=>
  intro a b ha h;rcases(YJ hv a b).1 h with rfl|⟨p,hp,hs⟩
  ·omega
  ·have:=hv.par hp
   have:=ih p b oG hs;omega
theorem IV(hv:VT l)(h:sub l a b=true):b<=a:=sub_le hv a a b (ae _) h
theorem sub_trans(hv:VT l)(c:Nat):∀(n a b:Nat),a<=n->sub l a b=true->sub l b c=true->sub l a c=true:=by
 intro n
 induction n with
 | zero=>
  intro a b ha h h2;rcases(YJ hv a b).1 h with rfl|⟨p,hp,_⟩
  ·exact h2
  ·have:=hv.par hp;omega
 | succ n ih=>
  intro a b ha h h2;rcases(YJ hv a b).1 h with rfl|⟨p,hp,hs⟩
  ·exact h2
  ·have:=hv.par hp
   exact(YJ hv a c).2 (.inr ⟨p,hp,ih p b oG hs h2⟩)
theorem Qz(hv:VT l)(h:sub l a b=true)(h2:sub l b c=true):sub l a c=true:=sub_trans hv c a a b (ae _) h h2
theorem sub_par(hv:VT l)(hi:i<l.length){p:Int}(hp:p∈(l[i]).par):sub l i p.toNat=true:=by
 refine(YJ hv i _).2 (.inr ⟨p.toNat,?_,Q3 hv _⟩);simp only[Ov,List.getElem?_eq_getElem hi,List.mem_map];exact⟨p,hp,rfl⟩
def parB(ps:List Int)(x:Nat):Bool:=ps.any (fun p=>decide (p=(x:Int)))
theorem W0(ps:List Int)(x:Nat):parB ps x=true↔(x:Int)∈ps:=by simp[parB]
structure Marks(l:List Ty)(a i:Nat)(mk:Nat->Bool):Prop where
 ok:∀ j,mk j=true->sub l a j=true
 all:∀ c,c<=i->sub l a c=true->∃ j,j<=i/\mk j=true/\sub l j c=true
theorem Marks.start(hv:VT l)(a:Nat):Marks l a a (fun j=>if j=a then true else false):=
 ⟨fun j h=>by
  by_cases e:j=a
  ·subst e;exact Q3 hv _
  ·simp[e]at h,fun c _ h=>⟨a,ae _,by simp,h⟩⟩
theorem Marks.yes(hv:VT l)(h:Marks l a i mk)(hi:i<l.length)(hm:mk i=true):Marks l a (i-1) (fun x=>mk x||parB (l[i]).par x):=
 ⟨fun j hj=>by
  simp only[Bool.or_eq_true]at hj
  rcases hj with hj|hj
  ·exact h.ok j hj
  ·have:=sub_par hv hi ((W0 _ _).1 hj)
   simp only[Int.toNat_natCast]at this
   exact Qz hv (h.ok i hm) this,fun c hc hs=>by
  by_cases hi0:i=0
  ·subst hi0
   obtain⟨j,hj,h1,h2⟩:=h.all c oG hs
   exact⟨j,by omega,by simp[h1],h2⟩
  obtain⟨j,hj,h1,h2⟩:=h.all c oG hs
  by_cases e:j=i
  ·subst e
   rcases(YJ hv j c).1 h2 with rfl|⟨p,hp,hps⟩
   ·omega
   ·have hlt:=hv.par hp
    refine⟨p,by omega,?_,hps⟩
    simp only[Ov,List.getElem?_eq_getElem hi,List.mem_map]at hp
    obtain⟨q,hq,rfl⟩:=hp
    have:=hv j hi q hq
    have hq':((q.toNat:Nat):Int)∈(l[j]).par:=by rw[Int.toNat_of_nonneg this.1];exact hq
    simp only[Bool.or_eq_true]
    exact .inr ((W0 _ _).2 hq')
  ·exact⟨j,by omega,by simp[h1],h2⟩⟩
theorem Marks.no(h:Marks l a i mk)(hm:mk i=false):Marks l a (i-1) mk:=
 ⟨h.ok,fun c hc hs=>by
  obtain⟨j,hj,h1,h2⟩:=h.all c oG hs
  by_cases e:j=i
  ·subst e;rw[hm]at h1;cases h1
  ·exact⟨j,by omega,h1,h2⟩⟩
theorem Marks.end_(hv:VT l)(h:Marks l a i mk)(hi:i<=b)(hb:b<=a->b<=i):mk b=sub l a b:=by
 cases hs:sub l a b
 ·cases hm:mk b
  ·rfl
  ·rw[h.ok b hm]at hs;cases hs
 ·have hle:=IV hv hs
  have hib:i=b:=Nat.le_antisymm hi (hb hle);subst hib;obtain⟨j,hj,h1,h2⟩:=h.all i (ae _) hs;have:=IV hv h2;have:j=i:=by omega
  subst this;exact h1
def jq(p:Nat->Bool):Nat->Nat
 | 0=>0
 | n+1=>jq p n|||(if p n then 2^n else 0)
theorem jz(p:Nat->Bool):∀(n j:Nat),(jq p n).testBit j=(decide (j<n)&&p j)
 | 0,j=>by simp[jq]
 | n+1,j=>by
  rw[jq,Nat.testBit_or,jz p n j]
  by_cases h:j=n
  ·subst h
   cases hp:p j<;>simp[Nat.testBit_two_pow_self]
  ·have h1:(if p n then 2^n else 0:Nat).testBit j=false:=by
    cases hp:p n
    ·simp
    ·simp[Ne.symm h]
   have h2:decide (j<n+1)=decide (j<n):=by simp;omega
   rw[h1,h2];simp
theorem mask_lt(p:Nat->Bool)(n:Nat):jq p n<2^n:=by
 apply Nat.lt_pow_two_of_testBit
 intro i hi;rw[jz];simp;omega
theorem QJ(p:Nat->Bool)(h:n<=60):jq p n<18446744073709551616:=by
 have h1:=mask_lt p n;have h2:2^n<=2^60:=Nat.pow_le_pow_right dE h;have h3:(2:Nat)^60=1152921504606846976:=by decide
 omega
theorem K3(h:∀ j,x.testBit j=(decide (j<n)&&p j)):x=jq p n:=
 Nat.eq_of_testBit_eq (fun j=>by rw[h,jz])
theorem j9{q:Nat->Bool}(h:∀ j,j<n->p j=q j):jq p n=jq q n:=by
 apply K3
 intro j;rw[jz];by_cases hj:j<n
 ·rw[h j hj]
 ·simp[hj]
theorem mask_or(p q:Nat->Bool)(n:Nat):jq p n|||jq q n=jq (fun j=>p j||q j) n:=
 K3 (fun j=>by rw[Nat.testBit_or,jz,jz];cases decide (j<n)<;>simp)
theorem mask_and(p q:Nat->Bool)(n:Nat):jq p n&&&jq q n=jq (fun j=>p j&&q j) n:=
 K3 (fun j=>by rw[Nat.testBit_and,jz,jz];cases decide (j<n)<;>simp)
theorem Wx(h:k<n):2^k=jq (fun j=>decide (j=k)) n:=by
 apply K3
 intro j;rw[Nat.testBit_two_pow];by_cases e:k=j
 ·subst e;simp[h]
 ·simp[e,Ne.symm e]
theorem mask_zero(n:Nat):jq (fun _=>false) n=0:=by
 symm;apply K3;intro j;simp
theorem mask_eq_zero:jq p n=0↔∀ j,j<n->p j=false:=by
 constructor
 ·intro h j hj
  have:=jz p n j;rw[h]at this
  simpa[hj]using this.symm
 ·intro h
  rw[<- mask_zero n];exact j9 h
theorem mask_inj{q:Nat->Bool}:jq p n=jq q n↔∀ j,j<n->p j=q j:=by
 constructor
 ·intro h j hj
  have h1:=jz p n j;have h2:=jz q n j;rw[h]at h1;rw[h1]at h2
  simpa[hj]using h2
 ·exact j9
theorem Bz(x j:Nat):decide (((x>>>j)&&&1)=1)=x.testBit j:=by
 rw[Nat.testBit_eq_decide_div_mod_eq,Nat.shiftRight_eq_div_pow,Nat.and_one_is_mod]
theorem N6(hn:n<=60)(h0:jq p n≠0):Lib.ctz 64 (jq p n)<n/\p (Lib.ctz 64 (jq p n))=true/\∀ j,j<Lib.ctz 64 (jq p n)->p j=false:=by
 have hlt:jq p n<2^64:=by
  have h1:=QJ p hn;have h2:(2:Nat)^64=18446744073709551616:=by decide
  omega
 obtain⟨m,hm,hk⟩:=Lib.ctzFrom_spec 64 (jq p n) oG hlt;have e:Lib.ctz 64 (jq p n)=Lib.ctzFrom 64 (jq p n):=by simp[Lib.ctz,h0]
 rw[e]
 generalize hc:Lib.ctzFrom 64 (jq p n)=c at *
 have hb:∀ j,(jq p n).testBit j=(decide (c<=j)&&(2*m+1).testBit (j-c)):=by
  intro j;rw[hm,Nat.mul_comm,Nat.testBit_mul_two_pow]
 have a1:(jq p n).testBit c=true:=by rw[hb];simp
 rw[jz]at a1;simp only[Bool.and_eq_true,decide_eq_true_eq]at a1;refine⟨a1.1,a1.2,fun j hj=>?_⟩;have:=hb j;rw[jz]at this;have hcj:¬c<=j:=by omega
 simp only[hcj,decide_false,Bool.false_and]at this;have hjn:j<n:=by omega
 simpa[hjn]using this
def TabIn(w:World):Prop:=0<w.heap.size/\∀ k,k<64->w.cell? ⟨0,0+k*1,none⟩=some (.int .u8 ((Lib.deBruijn64tab.getD k 0:Nat):Int))
theorem TabIn.mono(h:TabIn w)(hb:Bel w w'):TabIn w':=⟨nLL h.1 hb.size,fun k hk=>hb.cell h.1 (h.2 k hk)⟩
theorem ctz_eq(h0:x≠0)(hx:x<18446744073709551616)(hc:18446744073709551616-x=c):x&&&c=2^Lib.ctz 64 x/\Lib.ctz 64 x<64:=by
 subst hc
 exact Lib.lowest_bit 64 x h0 (by
  have:(2:Nat)^64=18446744073709551616 := by decide
  omega)
def tzI(x:Nat):Nat:=((x&&&(18446744073709551616-x))*285870213051353865%18446744073709551616)>>>58
theorem tzI_spec(h0:x≠0)(hx:x<18446744073709551616):tzI x<64/\Lib.deBruijn64tab.getD (tzI x) 0=Lib.ctz 64 x:=by
 have h:=ctz_eq h0 hx rfl;have h2:=Lib.deBruijn64_at (Lib.ctz 64 x) h.2;unfold tzI;rw[h.1,Nat.shiftRight_eq_div_pow];exact h2
def upN(l:List Ty)(i:Nat):Nat:=jq (fun j=>sub l i j) l.length
def ZZ(l:List Ty)(j:Nat):Nat:=jq (fun i=>sub l i j) l.length
def rU(n:Nat)(g:Nat->Nat):Array Value:=row n (fun i=> .int .u64 (g i))
def TableIn(w:World)(l:List Ty)(bu bd:Nat):Prop:=Blk w bu 127 (rU l.length (upN l))/\Blk w bd 127 (rU l.length (ZZ l))
theorem Blk.bel{t:TypeId}{cs:Array Value}(h:Blk w b t cs)(hb:Bel w w'):Blk w' b t cs:=(hb.block b h.lt).trans h
theorem TableIn.mono(h:TableIn w l bu bd)(hb:Bel w w'):TableIn w' l bu bd:=⟨h.1.bel hb,h.2.bel hb⟩
theorem TableIn.up(h:TableIn w l bu bd)(hi:i<l.length):w.cell? ⟨bu,0+i*1,none⟩=some (.int .u64 (upN l i)):=h.1.cell (uz hi)
theorem TableIn.down(h:TableIn w l bu bd)(hi:i<l.length):w.cell? ⟨bd,0+i*1,none⟩=some (.int .u64 (ZZ l i)):=h.2.cell (uz hi)
theorem HX(h:l.length<=60)(i:Nat):upN l i<18446744073709551616:=QJ _ h
theorem H5(h:l.length<=60)(i:Nat):ZZ l i<18446744073709551616:=QJ _ h
def C6(n bu bd:Nat):Value:= .agg #[.slice (some ⟨bu,0,none⟩) n n,.slice (some ⟨bd,0,none⟩) n n]
def gk(l:List Ty)(a b:Nat)(i:Nat):Bool:=sub l i a&&sub l i b
def vy(l:List Ty)(a b:Nat):Nat:=jq (gk l a b) l.length
theorem comm_and(l:List Ty)(a b:Nat):ZZ l a&&&ZZ l b=vy l a b:=mask_and _ _ _
def jv(l:List Ty)(a b:Nat):Nat×Bool×Bool:=
 if vy l a b=0 then (0,false,false)
 else if ZZ l (Lib.ctz 64 (vy l a b))≠vy l a b then (0,false,true)
 else (Lib.ctz 64 (vy l a b),true,false)
def meetV(r:Nat×Bool×Bool):Value:= .tuple #[.int .i64 r.1,.bool r.2.1,.bool r.2.2]
theorem PV{m:Nat}{p q:Bool}{r:Nat×Bool×Bool}(h:r=(m,p,q)):Ending.returned (.tuple #[.int .i64 (m:Int),.bool p,.bool q])= .returned (meetV r):=by rw[h];rfl
theorem sz127:(Tryd.prog.info? 127).map (·.size)=some 1:=by kernel_rfl
theorem sz5:(Tryd.prog.info? 5).map (·.size)=some 1:=by kernel_rfl
theorem tz_any(x:Nat)(w:World)(h0:x≠0)(hx:x<18446744073709551616)(a1:TabIn w):Calls Tryd.prog 73 #[.int .u64 x] w fun e w'=>e= .returned (.int .i64 (Lib.ctz 64 x:Nat))/\w=w':=by
 have hz:=tzI_spec h0 hx;have hgd:=a1.2 (tzI x) hz.1;rw[hz.2]at hgd;refine enter Tryd.func73 Tryd.ntmps73 rfl (aE rfl) (jJ ?_);refine zK rfl (fun c4=>?_) (fun c4=>?_)
 ·exact absurd c4 oG
 refine zn6 ?_;refine wl (r_negU rfl oG hx rfl) (wl (Iq (b:=18446744073709551616-x) rfl rfl hx oG) (wl (r_mulU (b:=285870213051353865) rfl rfl rfl) (wl (r_shr (b:=58) rfl rfl dE rfl) (wl (JK (i:=tzI x) Tryd.underlying162 sz5 rfl rfl hz.1 rfl) (wl (qW (v:= .int _ _) U5 rfl rfl hgd) (wl (r_cvI U5 U3 rfl (by have:=(ctz_eq h0 hx rfl).2;omega)) (zn5 ?_)))))));exact⟨rfl,rfl⟩
theorem D6(l:List Ty)(bu bd a b:Nat)(w:World)(a4:TabIn w)(hI:TableIn w l bu bd)(_hv:VT l)(a2:l.length<=60)(ha:a<l.length)(hb:b<l.length):Calls Tryd.prog 52 #[C6 l.length bu bd,.int .i64 a,.int .i64 b] w fun e w'=>e= .returned (meetV (jv l a b))/\Bel w w':=by
 have hca:=H5 a2 a;have hcb:=H5 a2 b;have hcc:vy l a b<18446744073709551616:=QJ _ a2;refine enT Tryd.func52 Tryd.ntmps52 rfl rfl fun hB=>?_;refine zn2 ?_;refine qZ (cs:=#[_,_]) rfl (fun b3 w1 hb3 s1 hr=>?_);refine zn6 ?_;refine Qw kR kR (fun w2 s2=>?_);refine zn4 ?_;refine ws (qW (v:= .int _ _) VW rfl rfl ((hI.mono hB.u).down ha)) (zn4 ?_);refine ws (qW (v:= .int _ _) VW rfl rfl ((hI.mono hB.u).down hb)) (ws (Iq rfl rfl hca hcb) (ws (uJ (v:= .int .u64 (vy l a b:Nat)) (congrArg (fun z:Nat=>Value.int .u64 (z:Int)) (comm_and l a b))) (o6 (zn8 ?_))));refine zK rfl (fun c22=>?_) (fun c22=>?_)
 ·have hz0:vy l a b=0:=by omega
  refine zn9 ?_;refine fin3 (.inl rfl) rfl rfl rfl rfl ?_;replace hB:=hB.tr0 (s1.t s2);exact⟨PV (by simp only[jv,if_pos hz0]),hB⟩
 have a1:vy l a b≠0:=fun h=>c22 (by rw[h];rfl)
 have hz:=N6 a2 a1;refine zn5 ?_;refine zX kR (tz_any _ _ a1 hcc (a4.mono hB.u)) rfl (fun e' w3 hr=>?_);obtain⟨rfl,rfl⟩:=hr;refine⟨_,rfl,?_⟩;refine zn9 ?_;refine wl (xW (i:=Lib.ctz 64 (vy l a b)) U74 sz127 rfl rfl hz.1 rfl) (wl (qW (v:= .int _ _) VW rfl rfl ((hI.mono hB.u).down hz.1)) (zn4 ?_));refine zK rfl (fun c31=>?_) (fun c31=>?_)
 ·have a3:ZZ l (Lib.ctz 64 (vy l a b))≠vy l a b:=by omega
  refine zn9 ?_;refine fin3 (.inl rfl) rfl rfl rfl rfl ?_;replace hB:=hB.tr0 (s1.t s2);exact⟨PV (by simp only[jv,if_neg a1,if_pos a3]),hB⟩
 have heq:ZZ l (Lib.ctz 64 (vy l a b))=vy l a b:=by omega
 refine gX ?_;refine fin3 (.inl rfl) rfl rfl rfl rfl ?_;replace hB:=hB.tr0 (s1.t s2);exact⟨PV (by simp only[jv,if_neg a1,heq,ne_eq,not_true_eq_false,if_false]),hB⟩
theorem RQ(l:List Ty)(bu bd a b:Nat)(w:World)(hI:TableIn w l bu bd)(h60:l.length<=60)(ha:a<l.length)(hb:b<l.length):Calls Tryd.prog 70 #[C6 l.length bu bd,.int .i64 a,.int .i64 b] w fun e w'=>e= .returned (.bool (sub l a b))/\Bel w w':=by
 have hca:=HX h60 a;refine enT Tryd.func70 Tryd.ntmps70 rfl rfl fun hB=>?_;refine zn2 ?_;refine qZ (cs:=#[_,_]) rfl (fun b3 w1 hb3 s1 hr=>?_);refine zn9 ?_;refine wl (qW (v:= .int _ _) VW rfl rfl ((hI.mono hB.u).up ha)) (wmI rfl (wl (r_shr (b:=b) rfl rfl oG rfl) (wl (Iq (b:=1) rfl rfl (Nat.lt_of_le_of_lt (Nat.shiftRight_le _ _) hca) dE) (zn6 ?_))));refine⟨JX ?_,hB.u⟩;have h1:=Bz (upN l a) b;unfold upN at h1;rw[jz]at h1;simp only[hb,decide_true,Bool.true_and]at h1;rw[<- h1];exact ai.2 (by unfold upN;omega)
def Ix(l:List Ty)(k:Nat)(ps:List Int)(x:Nat):Bool:=decide (x=k)||ps.any (fun p=>sub l p.toNat x)
theorem parM_zero(hk:k<l.length):jq (Ix l k []) l.length=2^k:=by
 rw[Wx hk];exact j9 (fun j _=>by simp[Ix])
theorem parM_snoc{ps:List Int}(hj:j<ps.length):jq (Ix l k (ps.take j)) l.length|||upN l (ps[j]).toNat=jq (Ix l k (ps.take (j+1))) l.length:=by
 unfold upN;rw[mask_or];refine j9 (fun x _=>?_);simp only[Ix];rw[List.take_succ_eq_append_getElem hj,List.any_append];simp[Bool.or_assoc]
theorem parM_end(hv:VT l)(hk:k<l.length):jq (Ix l k (l[k]).par) l.length=upN l k:=by
 unfold upN;refine j9 (fun x _=>?_);rw[Lj hv];have e1:decide (x=k)=decide (k=x):=by simp only[eq_comm]
 simp only[Ix,e1]
 congr 1
 simp only[Ov,List.getElem?_eq_getElem hk,List.any_map];rfl
def upP(l:List Ty)(k i:Nat):Nat:=if i<k then upN l i else 0
def uS(l:List Ty)(k X i:Nat):Nat:=if i=k then X else upP l k i
theorem uS_k(l:List Ty)(k X:Nat):uS l k X k=X:=by simp[uS]
theorem uS_lt{X p:Nat}(h:p<k):uS l k X p=upN l p:=by
 have:p≠k:=by omega
 simp[uS,upP,this,h]
theorem uS_end(l:List Ty)(k i:Nat):uS l k (upN l k) i=upP l (k+1) i:=by
 unfold uS upP;by_cases h:i=k
 ·subst h;simp
 ·have:(i<k+1)↔(i<k):=by omega
  simp[h,this]
def dnP(l:List Ty)(k j:Nat):Nat:=jq (fun i=>decide (i<k)&&sub l i j) l.length
theorem dnP_zero(l:List Ty)(j:Nat):dnP l 0 j=0:=mask_eq_zero.2 (fun i _=>by simp)
theorem dnP_yes(hk:k<l.length)(h:sub l k j=true):dnP l k j|||2^k=dnP l (k+1) j:=by
 unfold dnP;rw[Wx hk,mask_or];refine j9 (fun i _=>?_);by_cases e:i=k
 ·subst e;simp[h]
 ·have e1:decide (i<k+1)=decide (i<k):=ai.2 oG
  simp[e,e1]
theorem dnP_no(h:sub l k j=false):dnP l k j=dnP l (k+1) j:=by
 unfold dnP;refine j9 (fun i _=>?_);by_cases e:i=k
 ·subst e;simp[h]
 ·have e1:decide (i<k+1)=decide (i<k):=ai.2 oG
  simp[e1]
theorem dnP_end(l:List Ty)(j:Nat):dnP l l.length j=ZZ l j:=by
 unfold dnP ZZ;exact j9 (fun i hi=>by simp[hi])
theorem upP_end(h:i<l.length):upP l l.length i=upN l i:=by simp[upP,h]
def dS(l:List Ty)(k j x:Nat):Nat:=if x<j then dnP l (k+1) x else dnP l k x
theorem dS_j(l:List Ty)(k j:Nat):dS l k j j=dnP l k j:=by simp[dS]
theorem dS_yes(hk:k<l.length)(h:sub l k j=true)(x:Nat):(if x=j then dS l k j j|||2^k else dS l k j x)=dS l k (j+1) x:=by
 by_cases e:x=j
 ·subst e;simp only[if_true,dS_j,dnP_yes hk h];simp[dS]
 ·have e1:(x<j+1)↔(x<j):=by omega
  simp[e,dS,e1]
theorem dS_no(h:sub l k j=false)(x:Nat):dS l k j x=dS l k (j+1) x:=by
 by_cases e:x=j
 ·subst e;rw[dS_j,dnP_no h];simp[dS]
 ·have e1:(x<j+1)↔(x<j):=by omega
  simp[dS,e1]
theorem dS_lt(h:l.length<=60)(k j x:Nat):dS l k j x<18446744073709551616:=by
 unfold dS dnP;split<;>exact QJ _ h
theorem uS_bd(h:l.length<=60){X:Nat}(hX:X<18446744073709551616):uS l k X x<18446744073709551616:=by
 unfold uS upP;split
 ·exact hX
 ·split
  ·exact HX h _
  ·decide
theorem JQ{g:Nat->Nat}{f:Nat->Nat}(h:∀ j,j<n->g j=f j):row n (fun j=>Value.int .u64 ((g j:Nat):Int))=row n (fun j=>Value.int .u64 ((f j:Nat):Int)):=jX (fun j hj=>by rw[h j hj])
theorem LK{g:Nat->Nat}:row n (fun j=>if j=k then Value.int .u64 (c:Int)else Value.int .u64 ((g j:Nat):Int))=row n (fun j=>Value.int .u64 ((if j=k then c else g j:Nat):Int)):=jX (fun j _=>by split<;>rfl)
theorem in127:(Tryd.prog.info? 127).map (fun i=>(i.zero,i.size,i.bytes))=some (some (.int .u64 0),1,8):=by kernel_rfl
theorem SX:(Tryd.prog.info? 126).map (·.size)=some 2:=by kernel_rfl
theorem sz76:(Tryd.prog.info? 76).map (·.size)=some 2:=by kernel_rfl
theorem Sz:(Tryd.prog.info? 126).map (·.zero)=some (some (.agg #[.string ⟨#[]⟩,.slice none 0 0])):=by kernel_rfl
theorem ze76:(Tryd.prog.info? 76).map (·.zero)=some (some (.agg #[.slice none 0 0,.slice none 0 0])):=by kernel_rfl
theorem QW(A:Option Addr)(c:Nat)(l:List Ty)(w:World)(hT:TypesIn w A l)(hv:VT l)(bb:l.length<=60):Calls Tryd.prog 20 #[.slice A l.length c] w fun e w'=>∃ bu bd,e= .returned (C6 l.length bu bd)/\TableIn w' l bu bd/\Bel w w':=by
 refine enT Tryd.func20 Tryd.ntmps20 rfl rfl fun hB=>?_;refine zn2 ?_;refine qw (cs:=#[.slice none 0 0,.slice none 0 0]) ze76 rfl (fun b2 w1 a7 s1 hr=>?_);have lo2:=hB.ob hr;refine zn3 ?_;have z2:=a7.lt;replace hB:=hB.tr0 s1;have hsz:=Bel.size hB;refine Zj 8 [9,10,11,12,13,14,15,3] (fun ix=>Nat.beq ix 2||Nat.beq ix 5||Nat.beq ix 7) (fun ix v wv=>match ix with|0=>v= .slice A l.length c|1=>v= .int .i64 l.length|2=>∃ bu,v= .slice (some ⟨bu,0,none⟩) l.length l.length/\w1.heap.size<=bu/\Blk wv bu 127 (row l.length (fun _=> .int .u64 0))|3=>v= .slice A l.length c|4=>v= .int .i64 l.length|5=>∃ bd,v= .slice (some ⟨bd,0,none⟩) l.length l.length/\w1.heap.size<=bd/\Blk wv bd 127 (row l.length (fun _=> .int .u64 0))|6=>∃ bu bd,v= .agg #[.slice (some ⟨bu,0,none⟩) l.length l.length,.slice (some ⟨bd,0,none⟩) l.length l.length]/\w1.heap.size<=bu/\Blk wv bu 127 (row l.length (fun _=> .int .u64 0))/\w1.heap.size<=bd/\Blk wv bd 127 (row l.length (fun _=> .int .u64 0))/\bu≠bd|7=>∃ b,v= .pointer (some ⟨b,0,none⟩)/\w1.heap.size<=b/\Blk wv b 76 #[.slice none 0 0,.slice none 0 0]|_=>True) kR kR ?_ ?_ ?_
 ·intro ix v wv wv2 h s2
  match ix,h with
  | 0,h=>exact h
  | 1,h=>exact h
  | 2,h=>
   obtain⟨bu,bg,a5,a1⟩:=(show ∃ bu,v= .slice (some ⟨bu,0,none⟩) l.length l.length/\w1.heap.size<=bu/\Blk wv bu 127 (row l.length (fun _=> .int .u64 0))from h)
   exact⟨bu,bg,a5,a1.tr0 s2⟩
  | 3,h=>exact h
  | 4,h=>exact h
  | 5,h=>
   obtain⟨bd,bf,a6,a2⟩:=(show ∃ bd,v= .slice (some ⟨bd,0,none⟩) l.length l.length/\w1.heap.size<=bd/\Blk wv bd 127 (row l.length (fun _=> .int .u64 0))from h)
   exact⟨bd,bf,a6,a2.tr0 s2⟩
  | 6,h=>
   obtain⟨bu,bd,bo,a5,a1,a6,a2,be⟩:=(show ∃ bu bd,v= .agg #[.slice (some ⟨bu,0,none⟩) l.length l.length,.slice (some ⟨bd,0,none⟩) l.length l.length]/\w1.heap.size<=bu/\Blk wv bu 127 (row l.length (fun _=> .int .u64 0))/\w1.heap.size<=bd/\Blk wv bd 127 (row l.length (fun _=> .int .u64 0))/\bu≠bd from h)
   exact⟨bu,bd,bo,a5,a1.tr0 s2,a6,a2.tr0 s2,be⟩
  | 7,h=>
   obtain⟨b3,e3,b4,a4⟩:=(show ∃ b,v= .pointer (some ⟨b,0,none⟩)/\w1.heap.size<=b/\Blk wv b 76 #[.slice none 0 0,.slice none 0 0]from h)
   exact⟨b3,e3,b4,a4.tr0 s2⟩
  | _+8,h=>exact trivial
 ·intro ix o hix hoq gg wx s3 hd b8
  match ix,hix,hoq with
  | 0,_,hoq=>
   cases sI hoq;exact oVq (x7 (v:= .slice _ _ _) rfl) rfl
  | 1,_,hoq=>
   cases sI hoq;have d0:gg 9= .slice A l.length c:=hd 0 (zq kR);have e9:=d0;refine zz 9 _ e9 nu ?_;exact oVq (O0 U22 rfl) rfl
  | 2,_,hoq=>
   cases sI hoq;have b6:=s3;have d1:gg 10= .int .i64 l.length:=hd 1 (zq kR);have e10:=d1;refine zz 10 _ e10 nu ?_;refine jK (fun ops Q K=>?_);refine P6 U74 in127 rfl rfl rfl oG oG (fun b11 w2 ba s4 hr=>?_);exact K _ _ ⟨s4,⟨_,rfl,nLT b6.size hr,ba⟩,fRq hr ba.lt⟩
  | 3,_,hoq=>
   cases sI hoq;exact oVq (x7 (v:= .slice _ _ _) rfl) rfl
  | 4,_,hoq=>
   cases sI hoq;have d3:gg 12= .slice A l.length c:=hd 3 (zq kR);have e12:=d3;refine zz 12 _ e12 nu ?_;exact oVq (O0 U22 rfl) rfl
  | 5,_,hoq=>
   cases sI hoq;have b6:=s3;have d4:gg 13= .int .i64 l.length:=hd 4 (zq kR);have e13:=d4;refine zz 13 _ e13 nu ?_;refine jK (fun ops Q K=>?_);refine P6 U74 in127 rfl rfl rfl oG oG (fun b14 w3 b9 s5 hr=>?_);exact K _ _ ⟨s5,⟨_,rfl,nLT b6.size hr,b9⟩,fRq hr b9.lt⟩
  | 6,_,hoq=>
   cases sI hoq;have d2:∃ bu,gg 11= .slice (some ⟨bu,0,none⟩) l.length l.length/\w1.heap.size<=bu/\Blk wx bu 127 (row l.length (fun _=> .int .u64 0)):=hd 2 (zq kR);obtain⟨bu,bg,a5,a1⟩:=d2;have d5:∃ bd,gg 14= .slice (some ⟨bd,0,none⟩) l.length l.length/\w1.heap.size<=bd/\Blk wx bd 127 (row l.length (fun _=> .int .u64 0)):=hd 5 (zq kR);obtain⟨bd,bf,a6,a2⟩:=d5;have be:bu≠bd:=fun h=>b8 2 5 bu (zq kR) (zq kR) dE rfl rfl (show j5 (gg 11)=some bu by rw[bg];rfl) (show j5 (gg 14)=some bu by rw[bf,h];rfl)
   refine zz 11 _ bg nu (zz 14 _ bf nu ?_);exact oVq (My (v0:= .slice _ _ _) (v1:= .slice _ _ _) (fun v0 v1=>#[v0,v1]) rfl rfl kR) ⟨_,_,rfl,a5,a1,a6,a2,be⟩
  | 7,_,hoq=>
   cases sI hoq;have b6:=s3;refine jK (fun ops Q K=>?_);refine qw (cs:=#[.slice none 0 0,.slice none 0 0]) ze76 rfl (fun b3 w4 a4 s6 hr=>?_);exact K _ _ ⟨s6,⟨_,rfl,nLT b6.size hr,a4⟩,fRq hr a4.lt⟩
  | _+8,hix,_=>exact absurd hix oG
 intro gg w5 s7 hR b8;have d6:∃ bu bd,gg 15= .agg #[.slice (some ⟨bu,0,none⟩) l.length l.length,.slice (some ⟨bd,0,none⟩) l.length l.length]/\w1.heap.size<=bu/\Blk w5 bu 127 (row l.length (fun _=> .int .u64 0))/\w1.heap.size<=bd/\Blk w5 bd 127 (row l.length (fun _=> .int .u64 0))/\bu≠bd:=hR 6 dE;obtain⟨bu,bd,bo,a5,a1,a6,a2,be⟩:=d6;have d7:∃ b,gg 3= .pointer (some ⟨b,0,none⟩)/\w1.heap.size<=b/\Blk w5 b 76 #[.slice none 0 0,.slice none 0 0]:=hR 7 dE;obtain⟨b3,e3,b4,a4⟩:=d7;have h3u:b3≠bu:=fun h=>absurd (oq (h ▸ a4) a1) dE
 have h3d:b3≠bd:=fun h=>absurd (oq (h ▸ a4) a2) dE
 have bj:b2<b3:=nLL z2 b4;have bh:b2<bu:=nLL z2 a5;have bi:b2<bd:=nLL z2 a6;replace b4:=nLT hsz b4;replace a5:=nLT hsz a5;replace a6:=nLT hsz a6;refine xz 15 _ bo nu (xz 3 _ e3 nu ?_);refine zJ a4 (fun w6 hq s8=>?_);replace a4:=hq;refine gX ?_;replace a1:=a1.tr1 s8 oG;replace a2:=a2.tr1 s8 oG;refine qk (rgq [4,5,7,8] 18 56) (fun m g w'=>∃(k:Nat),k<=l.length/\m=l.length-k/\g 18= .int .i64 k/\Bel w w'/\Blk w' b2 76 #[.slice none 0 0,.slice none 0 0]/\Blk w' b3 76 #[.slice (some ⟨bu,0,none⟩) l.length l.length,.slice (some ⟨bd,0,none⟩) l.length l.length]/\Blk w' bu 127 (row l.length (fun i=> .int .u64 ((upP l k i:Nat):Int)))/\Blk w' bd 127 (row l.length (fun i=> .int .u64 ((dnP l k i:Nat):Int)))) (l.length) ?_ (fun m g3 w7 hI=>?_)
 ·refine⟨0,ad _,rfl,rfl,hB.u,a7.u,a4,?_,?_⟩
  · rw[JQ (f:=fun _=>0) (fun j _=>by simp[upP])];exact a1
  · rw[JQ (f:=fun _=>0) (fun j _=>dnP_zero l j)];exact a2
 obtain⟨k,hk,hm,h18,hB,a7,a4,a1,a2⟩:=hI;refine zZ 18 _ h18 nu (zn6 ?_);refine zK rfl (fun c19=>?_) (fun c19=>?_)
 ·have a3:k<l.length:=by omega
  obtain⟨tb,to,A',cp,rfl,htb,htr,b7⟩:=hT.at_ hB a3;have hmx:=b7.1;unfold vJ at hmx;refine zn8 ?_;refine wl (qK U126 rfl rfl htr SX) ?_;refine qw (cs:=#[.string ⟨#[]⟩,.slice none 0 0]) Sz rfl (fun b5 w8 a9 s9 hr=>?_);have:=a7.ob hr;have:=a1.ob hr;have:=a2.ob hr;have:=a4.ob hr;have lo5:=hB.ob hr;refine waI rfl ?_;refine zJ a9 (fun w9 hq b1=>?_);replace a9:=hq;refine zn3 ?_;refine K6 6 kR kR (fun w10 ab=>?_);refine zn4 ?_;refine ws (r_shl1 rfl rfl oG rfl) (zn1 ?_);refine Jy ?_;replace a1:=((a1.tr0 s9).tr1 b1 oG).tr0 ab;refine xj (v:= .int _ _) a1 rfl rfl sz127 (by rw[row_size];omega) rfl Q1 (fun w11 hq ao=>?_);replace a1:=hq;replace hB:=(((hB.tr0 s9).tr1 b1 lo5).tr0 ab).tr1 ao a5;replace a7:=(((a7.tr0 s9).tr1 b1 oG).tr0 ab).tr1 ao oG;replace a2:=(((a2.tr0 s9).tr1 b1 oG).tr0 ab).tr1 ao oG;replace a4:=(((a4.tr0 s9).tr1 b1 oG).tr0 ab).tr1 ao oG;replace a9:=(a9.tr0 ab).tr1 ao oG;replace a1:Blk w11 bu 127 (row l.length (fun i=> .int .u64 ((uS l k (jq (Ix l k ((l[k]'a3).par.take 0)) l.length) i:Nat):Int))):=by
    rw[LK (g:=fun i=>upP l k i)]at a1;rw[JQ (f:=fun i=>if i=k then 2^k else upP l k i) (fun j _=>by rw[List.take_zero,parM_zero a3];rfl)];exact a1
  refine jJ ?_;refine qk (rgq [7] 32 17) (fun m g w'=>∃(j:Nat),j<=(l[k]'a3).par.length/\m=(l[k]'a3).par.length-j/\g 32= .int .i64 j/\Bel w w'/\Blk w' b2 76 #[.slice none 0 0,.slice none 0 0]/\Blk w' b3 76 #[.slice (some ⟨bu,0,none⟩) l.length l.length,.slice (some ⟨bd,0,none⟩) l.length l.length]/\Blk w' bu 127 (row l.length (fun i=> .int .u64 ((uS l k (jq (Ix l k ((l[k]'a3).par.take j)) l.length) i:Nat):Int)))/\Blk w' bd 127 (row l.length (fun i=> .int .u64 ((dnP l k i:Nat):Int)))/\Blk w' b5 126 #[.string (l[k]'a3).name,.slice A' (l[k]'a3).par.length cp]) ((l[k]'a3).par.length) ?_ (fun m g7 w12 hI=>?_)
  ·exact⟨0,ad _,rfl,rfl,hB,a7,a4,a1,a2,a9⟩
  obtain⟨j,hj,hmj,h32,hB,a7,a4,a1,a2,a9⟩:=hI;refine zZ 32 _ h32 nu (zn6 ?_);refine zK rfl (fun c33=>?_) (fun c33=>?_)
  ·have an:j<(l[k]'a3).par.length:=by omega
   obtain⟨pb,po,rfl,hpb,bc⟩:=b7.at_ an;replace bc:=hB.cell hpb bc;have hpr:=hv k a3 _ (ap an);obtain⟨pn,hpn⟩:∃ pn:Nat,pn=((l[k]'a3).par[j]).toNat:=⟨_,rfl⟩
   have hpi:(l[k]'a3).par[j]=(pn:Int):=by rw[hpn];exact(Int.toNat_of_nonneg hpr.1).symm
   rw[hpi]at bc hpr;have hXl:=QJ (Ix l k ((l[k]'a3).par.take j)) bb;refine zn7 ?_;refine wl (qW (v:= .int _ _) U3 rfl rfl bc) (zn3 ?_);refine K6 12 kR kR (fun w13 s13=>?_);refine zn4 ?_;replace a1:=a1.tr0 s13;refine ws (qW (v:= .int _ _) VW rfl rfl (a1.cell (uz a3))) (zn4 ?_);refine ws (qW (v:= .int _ _) VW rfl rfl (a1.cell (uz oG))) (ws (Y7 rfl rfl (uS_bd bb hXl) (uS_bd bb hXl)) (zn1 ?_));refine Jy ?_;refine xj (v:= .int _ _) a1 rfl rfl sz127 (by rw[row_size];omega) rfl Q1 (fun w14 hq s14=>?_);replace a1:=hq;replace a1:Blk w14 bu 127 (row l.length (fun i=> .int .u64 ((uS l k (jq (Ix l k ((l[k]'a3).par.take (j+1))) l.length) i:Nat):Int))):=by
     rw[LK (g:=fun i=>uS l k (jq (Ix l k ((l[k]'a3).par.take j)) l.length) i)]at a1
     rw[JQ (f:=fun i=>if i=k then uS l k (jq (Ix l k ((l[k]'a3).par.take j)) l.length) k|||uS l k (jq (Ix l k ((l[k]'a3).par.take j)) l.length) pn else uS l k (jq (Ix l k ((l[k]'a3).par.take j)) l.length) i) (fun i _=>by
       rw[uS_k,uS_lt (show pn<k by omega),hpn,parM_snoc an];by_cases e:i=k
       · simp[e,uS_k]
       · simp[e,uS])]
     exact a1
   refine zn7 ?_;refine xY ((l[k]'a3).par.length-(j+1)) oG agA ?_;replace a2:=(a2.tr0 s13).tr1 s14 oG;exact⟨j+1,by omega,rfl,rfl,hB.u,a7.u,a4.u,a1,a2,a9.u⟩
  have bn:j=(l[k]'a3).par.length:=by omega
  rw[bn,List.take_length,parM_end hv a3,JQ (f:=fun i=>upP l (k+1) i) (fun i _=>uS_end l k i)]at a1;refine Zv ?_;refine qk (rgq [8] 51 22) (fun m g w'=>∃(j:Nat),j<=l.length/\m=l.length-j/\g 51= .int .i64 j/\Bel w w'/\Blk w' b2 76 #[.slice none 0 0,.slice none 0 0]/\Blk w' b3 76 #[.slice (some ⟨bu,0,none⟩) l.length l.length,.slice (some ⟨bd,0,none⟩) l.length l.length]/\Blk w' bu 127 (row l.length (fun i=> .int .u64 ((upP l (k+1) i:Nat):Int)))/\Blk w' bd 127 (row l.length (fun i=> .int .u64 ((dS l k j i:Nat):Int)))) (l.length) ?_ (fun m g12 w15 hI=>?_)
  ·refine⟨0,ad _,rfl,rfl,hB,a7,a4,a1,?_⟩;rw[JQ (f:=fun i=>dnP l k i) (fun i _=>by simp[dS])];exact a2
  obtain⟨j,hj,hmj,h51,hB,a7,a4,a1,a2⟩:=hI;refine zZ 51 _ h51 nu (zn6 ?_);refine zK rfl (fun c52=>?_) (fun c52=>?_)
  ·have an:j<l.length:=by omega
   have bk:upP l (k+1) k=upN l k:=by simp[upP]
   have huv:=HX bb k;have a8:=Bz (upN l k) j;have hbt:(upN l k).testBit j=sub l k j:=by unfold upN;rw[jz];simp[an]
   rw[hbt]at a8;refine P0 ?_;refine wl (qW (v:= .int _ _) VW rfl rfl (a1.cell (uz a3))) (wmI rfl (wl (r_shr (b:=j) rfl rfl oG rfl) (wl (Iq (b:=1) rfl rfl (by rw[bk];exact Nat.lt_of_le_of_lt (Nat.shiftRight_le _ _) huv) dE) (zn3 ?_))));refine zK rfl (fun bq=>?_) (fun bq=>?_)
   ·have bm:sub l k j=true:=by rw[<- a8];exact ah (by rw[bk]at bq;omega)
    refine K6 9 kR kR (fun w16 s15=>?_);refine zn4 ?_;replace a2:=a2.tr0 s15;refine ws (qW (v:= .int _ _) VW rfl rfl (a2.cell (uz an))) (zn1 ?_);refine ws (r_shl1 rfl rfl oG rfl) (ws (Y7 rfl rfl (dS_lt bb _ _ _) (nLL (Nat.pow_lt_pow_right dE (show k<60 by omega)) dE)) (zn1 ?_));refine Jy ?_;refine xj (v:= .int _ _) a2 rfl rfl sz127 (by rw[row_size];omega) rfl Q1 (fun w17 hq s16=>?_);replace a2:=hq;rw[LK (g:=fun i=>dS l k j i),JQ (f:=fun i=>dS l k (j+1) i) (fun i _=>dS_yes a3 bm i)]at a2;refine zn7 ?_;refine xY (l.length-(j+1)) oG agA ?_;replace a1:=(a1.tr0 s15).tr1 s16 oG;exact⟨j+1,by omega,rfl,rfl,hB.u,a7.u,a4.u,a1,a2⟩
   have bm:sub l k j=false:=by rw[<- a8];exact ag (by rw[bk]at bq;omega)
   rw[JQ (f:=fun i=>dS l k (j+1) i) (fun i _=>dS_no bm i)]at a2;refine zn7 ?_;refine xY (l.length-(j+1)) oG agA ?_;exact⟨j+1,by omega,rfl,rfl,hB,a7,a4,a1,a2⟩
  have bn:j=l.length:=by omega
  rw[bn,JQ (f:=fun i=>dnP l (k+1) i) (fun i hi=>by simp[dS,hi])]at a2;refine jZ ?_;refine xY (l.length-(k+1)) oG agA ?_;exact⟨k+1,by omega,rfl,rfl,hB,a7,a4,a1,a2⟩
 have hkl:k=l.length:=by omega
 subst hkl;refine zn8 ?_;refine zJ a7 (fun w18 hq s17=>?_);replace a7:=hq;refine zn3 ?_;refine xX (.inl rfl) rfl (zw U76 rfl rfl a7.range0 sz76) ?_;refine⟨bu,bd,rfl,⟨?_,?_⟩,hB.u⟩;replace a1:=a1.tr1 s17 oG
 · rw[JQ (f:=upN l) (fun i hi=>upP_end hi)]at a1;exact a1
 replace a2:=a2.tr1 s17 oG
 · rw[JQ (f:=ZZ l) (fun i _=>dnP_end l i)]at a2;exact a2
end Go.Proofs.YtmfiholmfieieaaDoor
