/- What these functions compute, at every world: term.Name, hierarchy.fault, hierarchy.Types, ref3.Name, ref3.TypesFault, ref3.Sub, math/bits.TrailingZeros64, (hierarchy.Table).Meet and 1 more; and plain laws. -/
import Derived.Test.YtgcgnkmmbecfmaaGreatDoorU
import Derived.Test.YtgcgnkmmbecfmaaGreatDoorZst
import Derived.Test.YtgcgnkmmbecfmaaGreatDoorProg
import Derived.Lib.TrailingZeros
namespace Go.Proofs.YtgcgnkmmbecfmaaGreatDoor
open Go.RowKit Go.Proofs.Tryz
variable {a b bd bu i k n x:Nat}{l:List Ty}{mk p:Nat->Bool}{w w':World}
def Q5(c:UInt8):Bool:=decide (97<=c.toNat/\c.toNat<=122)||decide (48<=c.toNat/\c.toNat<=57)||decide (c.toNat=95)||decide (c.toNat=45)
theorem Qk(c:UInt8):Q5 c=true↔((97<=c.toNat/\c.toNat<=122)\/(48<=c.toNat/\c.toNat<=57)\/c.toNat=95\/c.toNat=45):=by simp[Q5,or_assoc]
def nameHd:List UInt8->Bool
 | []=>false
 | c::_=>decide (97<=c.toNat/\c.toNat<=122)
def yJ(s:ByteArray):Bool:=decide (s.size<=30)&&nameHd s.data.toList&&s.data.toList.all Q5
theorem jJ{a b:Bool}(h:a=b):Ending.returned (.bool b)= .returned (.bool a):=by rw[h]
theorem hd_num(s:ByteArray):∃ c0:Nat,∀ h:0<s.size,(s[0]'h).toNat=c0:=by
 by_cases h:0<s.size
 ·exact⟨(s[0]'h).toNat,fun _=>rfl⟩
 ·exact⟨0,fun h'=>absurd h' h⟩
theorem OQ(s:ByteArray)(c0:Nat)(e0:∀ h:0<s.size,(s[0]'h).toNat=c0):
  yJ s=decide ((s.size≠0/\s.size<=30)/\(97<=c0/\c0<=122)/\(∀ k (hk:k<s.size),Q5 (s[k]'hk)=true)):=by
 have ha:(s.data.toList.all Q5=true)↔(∀ k (hk:k<s.size),Q5 (s[k]'hk)=true):=by
  rw[List.all_eq_true]
  constructor
  ·intro h k hk
   exact h _ (am (l:=s.data.toList) (n:=k) (by simpa using hk))
  ·intro h x hx
   obtain⟨k,hk,rfl⟩:=List.mem_iff_getElem.1 hx;exact h k (by simpa using hk)
 have hh:∀ h:0<s.size,nameHd s.data.toList=decide (97<=c0/\c0<=122):=by
  intro h;rw[<- e0 h];obtain⟨⟨l⟩⟩:=s;cases l with
  | nil=>exact absurd h dE
  | cons c l=>rfl
 by_cases h0:s.size=0
 ·have:s.data.toList= []:=by
   apply List.eq_nil_of_length_eq_zero;simpa using h0
  simp[yJ,this,nameHd,h0]
 ·have h:=hh oG
  rw[Bool.eq_iff_iff];simp only[yJ,h,Bool.and_eq_true,decide_eq_true_eq,ha]
  constructor
  ·rintro⟨⟨a,b⟩,c⟩;exact⟨⟨h0,a⟩,b,c⟩
  ·rintro⟨⟨_,a⟩,b,c⟩;exact⟨⟨a,b⟩,c⟩
theorem ZW:(prog.info? 36).map (·.size)=some 2:=by kernel_rfl
theorem ze36:(prog.info? 36).map (·.zero)=some (some (.agg #[.int .i64 0,.int .i64 0])):=by kernel_rfl
theorem E7(s:ByteArray)(w:World):Calls prog 38 #[.string s] w fun e w'=>e= .returned (.bool (yJ s))/\w=w':=by
 obtain⟨c0,e0⟩:=hd_num s;have hN:=Lib.hid (OQ s c0 e0);refine enter func38 ntmps38 rfl (aD rfl) (zn7 ?_);refine xw (rg [] 5 18) 22 (.bool (decide (s.size=0\/30<s.size\/c0<97\/122<c0))) nu ?_ (fun gq=>?_)
 ·refine zn5 ?_;refine zw 8 rfl (fun g8=>?_) (fun g8=>?_)
  ·refine ZV ?_;refine zJ (e_R ⟨rfl,agA,?_⟩);show Value.bool _=Value.bool _
   try have a9:=e0 oG
   first|exact ae (ai oG).symm|exact ae (ap oG).symm|exact ae (aj.2 oG)|exact ae ((decide_not).symm.trans (aj.2 oG))
  refine zn8 ?_;refine zw 13 rfl (fun g13=>?_) (fun g13=>?_)
  ·refine zn9 ?_;refine zJ (e_R ⟨rfl,agA,?_⟩);show Value.bool _=Value.bool _
   try have a9:=e0 oG
   first|exact ae (ai oG).symm|exact ae (ap oG).symm|exact ae (aj.2 oG)|exact ae ((decide_not).symm.trans (aj.2 oG))
  refine zn3 ?_;refine wl (K1 (i:=0) U9 rfl rfl oG) (zn4 ?_);refine zw 18 rfl (fun g18=>?_) (fun g18=>?_)
  ·refine zn4 ?_;refine zJ (e_R ⟨rfl,agA,?_⟩);show Value.bool _=Value.bool _
   try have a9:=e0 oG
   first|exact ae (ai oG).symm|exact ae (ap oG).symm|exact ae (aj.2 oG)|exact ae ((decide_not).symm.trans (aj.2 oG))
  refine zn3 ?_;refine wl (K1 (i:=0) U9 rfl rfl oG) (zn3 ?_);refine zJ (e_R ⟨rfl,agA,?_⟩);show Value.bool _=Value.bool _
  try have a9:=e0 oG
  first|exact ae (ai oG).symm|exact ae (ap oG).symm|exact ae (aj.2 oG)|exact ae ((decide_not).symm.trans (aj.2 oG))
 refine e_S ?_;refine zQ rfl (fun c22=>?_) (fun c22=>?_)
 ·refine zn8 ?_;exact⟨jJ (by rw[hN.out];exact ap (fun h=>by omega)),rfl⟩
 refine jq ?_;refine qx (rg [2,3,4] 25 30) (fun m g w'=>∃ k:Nat,k<=s.size/\m=s.size-k/\g 25= .int .i64 k/\w=w'/\(∀ j (hj:j<s.size),j<k->Q5 (s[j]'hj)=true)) (s.size) ?_ (fun m g4 w1 hI=>?_)
 ·exact⟨0,ag _,rfl,rfl,rfl,fun j hj h=>by omega⟩
 obtain⟨k,hk,hm,h25,rfl,a3⟩:=hI;refine zX 25 _ h25 nu (zn6 ?_);refine zQ rfl (fun c26=>?_) (fun c26=>?_)
 ·refine ZV ?_;refine wl (K1 (i:=k) U9 rfl rfl oG) (zn4 ?_);refine xw (rg [] 31 23) 53 (.bool (decide (¬((97<=(s[k]'oG).toNat/\(s[k]'oG).toNat<=122)\/(48<=(s[k]'oG).toNat/\(s[k]'oG).toNat<=57)\/(s[k]'oG).toNat=95\/(s[k]'oG).toNat=45)))) nu ?_ (fun gq=>?_)
  ·refine zn4 ?_;refine zw 33 rfl (fun g33=>?_) (fun g33=>?_)
   ·refine zn6 ?_;refine zw 37 rfl (fun g37=>?_) (fun g37=>?_)
    ·refine Kz ?_;refine zJ (e_R ⟨rfl,agA,?_⟩);exact clA
    refine zn6 ?_;refine zw 40 rfl (fun a5=>?_) (fun a5=>?_)
    ·refine zn8 ?_;refine zw 45 rfl (fun a4=>?_) (fun a4=>?_)
     ·refine zn8 ?_;refine zJ (e_R ⟨rfl,agA,?_⟩);exact clA
     refine zn6 ?_;refine zw 49 rfl (fun a1=>?_) (fun a1=>?_)
     ·refine zn4 ?_;refine zJ (e_R ⟨rfl,agA,?_⟩);exact clA
     refine zn6 ?_;refine zJ (e_R ⟨rfl,agA,?_⟩);exact clA
    refine vj ?_;refine zw 49 rfl (fun a1=>?_) (fun a1=>?_)
    ·refine zn4 ?_;refine zJ (e_R ⟨rfl,agA,?_⟩);exact clA
    refine zn6 ?_;refine zJ (e_R ⟨rfl,agA,?_⟩);exact clA
   refine yW ?_;refine zw 40 rfl (fun a5=>?_) (fun a5=>?_)
   ·refine zn8 ?_;refine zw 45 rfl (fun a4=>?_) (fun a4=>?_)
    ·refine zn8 ?_;refine zJ (e_R ⟨rfl,agA,?_⟩);exact clA
    refine zn6 ?_;refine zw 49 rfl (fun a1=>?_) (fun a1=>?_)
    ·refine zn4 ?_;refine zJ (e_R ⟨rfl,agA,?_⟩);exact clA
    refine zn6 ?_;refine zJ (e_R ⟨rfl,agA,?_⟩);exact clA
   refine vj ?_;refine zw 49 rfl (fun a1=>?_) (fun a1=>?_)
   ·refine zn4 ?_;refine zJ (e_R ⟨rfl,agA,?_⟩);exact clA
   refine zn6 ?_;refine zJ (e_R ⟨rfl,agA,?_⟩);exact clA
  refine e_S ?_;refine zQ rfl (fun c53=>?_) (fun c53=>?_)
  ·refine vj ?_;exact⟨jJ (by rw[hN.out];exact ap (fun h=>c53 ((Qk _).1 (h.2.2 k oG)))),rfl⟩
  have a2:∀ j (hj:j<s.size),j<k+1->Q5 (s[j]'hj)=true:=fun j hj h=>by
    by_cases e:j=k
    · subst e;exact(Qk _).2 oG
    · exact a3 j hj oG
  refine zn7 ?_;refine x8 (s.size-(k+1)) oG agA ?_;exact⟨k+1,by omega,rfl,rfl,rfl,fun j hj h=>a2 j hj h⟩
 refine vj ?_;exact⟨jJ (by rw[hN.out];exact ai ⟨by omega,by omega,fun j hj=>a3 j hj oG⟩),rfl⟩
theorem uZ(a b:Int)(w:World):Calls prog 54 #[.int .i64 a,.int .i64 b] w fun e w'=>e= .returned (flV (a,b))/\Bel w w':=by
 refine enT func54 ntmps54 rfl rfl fun hB=>?_;refine zn2 ?_;refine qW (cs:=#[.int .i64 0,.int .i64 0]) ze36 rfl (fun b4 w1 a1 s1 hr=>?_);have lo4:=hB.ob hr;refine zn6 ?_;refine wl (vw (v0:= .int _ _) (v1:= .int _ _) (fun v0 v1=>#[v0,v1]) rfl rfl kR) ?_;refine zZ a1 rfl rfl ZW rfl qz (fun w2 hq s2=>?_);replace a1:=hq;refine zn3 ?_;refine xK (.inl rfl) rfl (zW U36 rfl rfl a1.range0 ZW) ?_;exact⟨rfl,hB.u⟩
def j6(l:List Ty)(i:Nat):Int:=match l[i]? with
 | none=>0
 | some t=>if yJ t.name=false then 10 else if seen ((l.take i).map (·.name)) t.name=true then 7 else if (decide (i=0)==t.par.isEmpty)=false then 5 else kj i (-1) t.par
def xZ(l:List Ty):Fl:=if l.length=0\/60<l.length then (2,-1)else qQ (j6 l) 0 l.length
theorem Eq(xs:List Int):decide ((xs.length:Int)=0)=xs.isEmpty:=by cases xs<;>simp;omega
theorem mal_yes{xs:List Int}(h:(!(decide ((k:Int)=0)==decide ((xs.length:Int)=0)))=true):(decide (k=0)==xs.isEmpty)=false:=by
 rw[Eq]at h
 simpa using h
theorem mal_no{xs:List Int}(h:(!(decide ((k:Int)=0)==decide ((xs.length:Int)=0)))=false):(decide (k=0)==xs.isEmpty)=true:=by
 rw[Eq]at h
 simpa using h
theorem ty10(l:List Ty)(k:Nat)(hlt:k<l.length)(h1:yJ l[k].name=false):j6 l k=10:=by
 simp only[j6,List.getElem?_eq_getElem hlt,h1,if_true]
theorem ty7(l:List Ty)(k:Nat)(hlt:k<l.length)(h1:yJ l[k].name=true)(h2:seen ((l.take k).map (·.name)) l[k].name=true):j6 l k=7:=by
 simp only[j6,List.getElem?_eq_getElem hlt,h1,h2,if_true];rfl
theorem ty5(l:List Ty)(k:Nat)(hlt:k<l.length)(h1:yJ l[k].name=true)(h2:seen ((l.take k).map (·.name)) l[k].name=false)(h3:(decide (k=0)==l[k].par.isEmpty)=false):j6 l k=5:=by
 simp only[j6,List.getElem?_eq_getElem hlt,h1,h2,h3,if_true];rfl
theorem Rj(l:List Ty)(k:Nat)(hlt:k<l.length)(h1:yJ l[k].name=true)(h2:seen ((l.take k).map (·.name)) l[k].name=false)(h3:(decide (k=0)==l[k].par.isEmpty)=true):j6 l k=kj k (-1) (l[k].par.drop 0):=by
 simp only[j6,List.getElem?_eq_getElem hlt,h1,h2,h3,List.drop_zero];rfl
theorem sz3:(prog.info? 3).map (·.size)=some 1:=by kernel_rfl
theorem sz94:(prog.info? 94).map (·.size)=some 2:=by kernel_rfl
theorem ze3:(prog.info? 3).map (·.zero)=some (some (.int .i64 0)):=by kernel_rfl
theorem ze94:(prog.info? 94).map (·.zero)=some (some (.agg #[.string ⟨#[]⟩,.slice none 0 0])):=by kernel_rfl
theorem types_any(A:Option Addr)(c:Nat)(l:List Ty)(w:World)(hT:TypesIn w A l):Calls prog 55 #[.slice A l.length c] w fun e w'=>e= .returned (flV (xZ l))/\Bel w w':=by
 refine enT func55 ntmps55 rfl rfl fun hB=>?_;refine zn2 ?_;refine qW (cs:=#[.int .i64 0,.int .i64 0]) ze36 rfl (fun b2 w1 a1 s1 hr=>?_);have lo2:=hB.ob hr;refine zn4 ?_;replace hB:=hB.tr0 s1;refine xw (rg [] 11 8) 18 (.bool (decide (l.length=0\/60<l.length))) nu ?_ (fun gq=>?_)
 ·refine zn5 ?_;refine zw 14 rfl (fun g14=>?_) (fun g14=>?_)
  ·refine zn4 ?_;refine zJ (e_R ⟨rfl,agA,?_⟩);exact clA
  refine zn7 ?_;refine zJ (e_R ⟨rfl,agA,?_⟩);exact clA
 refine e_S ?_;refine zQ rfl (fun bd=>?_) (fun bd=>?_)
 ·refine zn2 ?_;refine ba kR (uZ _ _ _) rfl (fun w2 s2=>?_);refine zZ a1.u rfl rfl ZW rfl qz (fun w3 hq s3=>?_);replace a1:=hq;refine zn4 ?_;refine xK (.inl rfl) rfl (zW U36 rfl rfl a1.range0 ZW) ?_;replace hB:=(hB.tr0 s2).tr1 s3 lo2;exact⟨xq (by simp only[xZ,if_pos bd]),hB⟩
 have hR:=Lib.hid (show xZ l=qQ (j6 l) 0 (l.length-0) by simp only[xZ,if_neg bd,Nat.sub_zero]);refine zn4 ?_;refine wl_mm (fun b20 w4 a3 s4 hr=>?_);have:=nLL a1.lt hr;have b1:=hB.ob hr;refine wl (uK (v:= .map _) rfl) (jq ?_);refine qx [4,5,6,7,8,10,23,24,25,26,27,28,29,30,31,32,33,34,35,36,37,38,39,40,41,42,43,44,45,46,47,48,49,50,51,52,53,54,55,56,57,58,59,60,61,62,63,64,65,66,67,68,69,70,71,72,73,74,75,76,77,78,79,80] (fun m g w'=>∃(k:Nat) (mp:List (ByteArray×Value)),k<=l.length/\m=l.length-k/\g 23= .int .i64 k/\Bel w w'/\Blk w' b2 36 #[.int .i64 0,.int .i64 0]/\MapS w' b20 mp/\(∀ s,lkB mp s=seen ((l.take k).map (·.name)) s)/\xZ l=qQ (j6 l) k (l.length-k)) (l.length) ?_ (fun m g5 w5 hI=>?_)
 ·exact⟨0,[],ag _,rfl,rfl,hB.u,a1.u,a3,fun s=>rfl,hR.out⟩
 obtain⟨k,mp,hk,hm,h23,hB,a1,a3,b7,a9⟩:=hI;refine zX 23 _ h23 nu (zn6 ?_);refine zQ rfl (fun c24=>?_) (fun c24=>?_)
 ·have a2:k<l.length:=by omega
  obtain⟨tb,to,A',cp,rfl,htb,htr,ab⟩:=hT.at_ hB a2;refine zn8 ?_;refine wl (qw U94 rfl rfl htr sz94) ?_;refine qW (cs:=#[.string ⟨#[]⟩,.slice none 0 0]) ze94 rfl (fun b5 w6 hb5 s5 hr=>?_);have:=nLL a1.lt hr;have:=nLL a3.lt hr;have lo5:=hB.ob hr;refine waI rfl ?_;refine zZ hb5 rfl rfl sz94 rfl qz (fun w7 hq s6=>?_);replace hb5:=hq;refine zn7 ?_;refine qq kR (E7 _ _) rfl (fun e' w8 hr=>?_);obtain⟨rfl,rfl⟩:=hr;refine⟨_,rfl,?_⟩;refine zn3 ?_;refine jQ rfl (fun bc=>?_) (fun bc=>?_)
  ·have a4:=ty10 l k a2 (by simpa using bc);refine zn3 ?_;refine ba kR (uZ _ _ _) rfl (fun w9 s7=>?_);refine zZ a1.u rfl rfl ZW rfl qz (fun w10 hq s8=>?_);replace a1:=hq;refine zn9 ?_;refine xK (.inl rfl) rfl (zW U36 rfl rfl a1.range0 ZW) ?_;exact⟨xq (a9.trans (x7 (c:=10) oG a4 dE)),hB.u⟩
  have b4:yJ (l[k]'a2).name=true:=by simpa using bc
  refine zn5 ?_;refine wl (xz (v:= .map _) rfl) (zn2 ?_);replace a3:=(a3.tr0 s5).tr1 s6 oG;refine wl (r_lkS a3 U95 U9 ze3 rfl rfl) (wmT rfl (wl (vY (v:=_) rfl rfl) (wl (vY (v:= .bool _) rfl rfl) (wl (uK (v:=_) rfl) (zn8 ?_)))));refine jQ rfl (fun ao=>?_) (fun ao=>?_)
  ·have a4:=ty7 l k a2 b4 ((b7 _).symm.trans ao);refine zn3 ?_;refine ba kR (uZ _ _ _) rfl (fun w11 s9=>?_);refine zZ a1.u rfl rfl ZW rfl qz (fun w12 hq s10=>?_);replace a1:=hq;refine zn9 ?_;refine xK (.inl rfl) rfl (zW U36 rfl rfl a1.range0 ZW) ?_;exact⟨xq (a9.trans (x7 (c:=7) oG a4 dE)),hB.u⟩
  have hsn:seen ((l.take k).map (·.name)) (l[k]'a2).name=false:=by rw[<- b7];exact ao
  have b6:∀ s,lkB (O6 mp (l[k]'a2).name (.int .i64 k)) s=seen ((l.take (k+1)).map (·.name)) s:=fun s=>by
    rw[Z6 _ _ _ ao,ZZ l a2,List.map_append,List.map_cons,List.map_nil,Xw,<- b7];simp[lkB]
  refine zn4 ?_;refine wl (xz (v:= .map _) rfl) (zn3 ?_);refine wl_muS (v:= .int _ _) a3 U95 U9 rfl rfl rfl (fun w13 hq s11=>?_);replace a3:=hq;refine jq ?_;refine wl (Fj U4 rfl rfl) (zJ (e_S ?_));refine jQ rfl (fun bb=>?_) (fun bb=>?_)
  ·have a4:=ty5 l k a2 b4 hsn (mal_yes bb);refine zn3 ?_;refine ba kR (uZ _ _ _) rfl (fun w14 s12=>?_);refine zZ a1.u rfl rfl ZW rfl qz (fun w15 hq s13=>?_);replace a1:=hq;refine zn9 ?_;refine xK (.inl rfl) rfl (zW U36 rfl rfl a1.range0 ZW) ?_;exact⟨xq (a9.trans (x7 (c:=5) oG a4 dE)),hB.u⟩
  have b8:=mal_no bb;refine Kz ?_;refine qx (rg [8,10] 60 20) (fun m g w'=>∃(j:Nat) (a5:Int),j<=(l[k]'a2).par.length/\m=(l[k]'a2).par.length-j/\g 60= .int .i64 j/\g 8= .int .i64 a5/\w13=w'/\j6 l k=kj k a5 ((l[k]'a2).par.drop j)) ((l[k]'a2).par.length) ?_ (fun m g17 w16 hI=>?_)
  ·exact⟨0,-1,ag _,rfl,rfl,rfl,rfl,Rj l k a2 b4 hsn b8⟩
  obtain⟨j,a5,hj,hmj,h60,h8,rfl,hP⟩:=hI;refine zX 60 _ h60 nu (zX 8 _ h8 nu (zn6 ?_));refine zQ rfl (fun c61=>?_) (fun c61=>?_)
  ·have ac:j<(l[k]'a2).par.length:=by omega
   have hmx:=ab.1;unfold vJ at hmx;obtain⟨pb,po,rfl,hpb,b3⟩:=ab.at_ ac;replace hB:=((hB.tr0 s5).tr1 s6 lo5).tr1 s11 b1;replace b3:=hB.cell hpb b3;refine zn7 ?_;refine wl (qy (v:= .int _ _) U3 rfl rfl b3) (zn5 ?_);replace a1:=((a1.tr0 s5).tr1 s6 oG).tr1 s11 oG;refine xw [64,65,66,67,68,69,70] 70 (.bool (decide ((l[k]'a2).par[j]<0\/(k:Int)<=(l[k]'a2).par[j]))) nu ?_ (fun gq=>?_)
   ·refine zn4 ?_;refine zw 66 rfl (fun g66=>?_) (fun g66=>?_)
    ·refine zn4 ?_;refine zJ (e_R ⟨rfl,agA,?_⟩);exact clA
    refine zn7 ?_;refine zJ (e_R ⟨rfl,agA,?_⟩);exact clA
   refine e_S ?_;refine zQ rfl (fun an=>?_) (fun an=>?_)
   ·have a4:j6 l k=3:=by rw[hP,List.drop_eq_getElem_cons ac];simp only[kj,if_pos an]
    refine zn3 ?_;refine ba kR (uZ _ _ _) rfl (fun w17 s14=>?_);refine zZ a1.u rfl rfl ZW rfl qz (fun w18 hq s15=>?_);replace a1:=hq;refine uw ?_;refine xK (.inl rfl) rfl (zW U36 rfl rfl a1.range0 ZW) ?_;exact⟨xq (a9.trans (x7 (c:=3) oG a4 dE)),hB.u⟩
   refine yW ?_;refine zQ rfl (fun b9=>?_) (fun b9=>?_)
   ·have a4:j6 l k=13:=by rw[hP,List.drop_eq_getElem_cons ac];simp only[kj,if_neg an,if_pos b9]
    refine zn3 ?_;refine ba kR (uZ _ _ _) rfl (fun w19 s16=>?_);refine zZ a1.u rfl rfl ZW rfl qz (fun w20 hq s17=>?_);replace a1:=hq;refine uw ?_;refine xK (.inl rfl) rfl (zW U36 rfl rfl a1.range0 ZW) ?_;exact⟨xq (a9.trans (x7 (c:=13) oG a4 dE)),hB.u⟩
   have hP':j6 l k=kj k (l[k]'a2).par[j] ((l[k]'a2).par.drop (j+1)):=by rw[hP,List.drop_eq_getElem_cons ac];simp only[kj,if_neg an,if_neg b9]
   refine vj ?_;refine x8 ((l[k]'a2).par.length-(j+1)) oG agA ?_;exact⟨j+1,(l[k]'a2).par[j],by omega,rfl,rfl,rfl,rfl,hP'⟩
  have a4:=Lib.hid (show j6 l k=0 by rw[hP,List.drop_eq_nil_of_le oG];rfl);refine yW ?_;refine x8 (l.length-(k+1)) oG agA ?_;exact⟨k+1,O6 mp (l[k]'a2).name (.int .i64 k),by omega,rfl,rfl,hB.u,a1.u,a3,b6,a9.trans (vQ a2 a4.out)⟩
 refine zn7 ?_;refine wl (gQ (vs:=#[]) (cs:=#[.int .i64 0,.int .i64 0]) (by simp) kR) ?_;refine zZ a1 rfl rfl ZW rfl qz (fun w21 hq s18=>?_);replace a1:=hq;refine zn3 ?_;refine xK (.inl rfl) rfl (zW U36 rfl rfl a1.range0 ZW) ?_;exact⟨xq (a9.trans (jz oG)),hB.u⟩
theorem seen_yes{j:Nat}{s:ByteArray}(hk:k<l.length)(hj:j<k)(h:(l[j]'oG).name=s):seen ((l.take k).map (·.name)) s=true:=by
 simp only[seen,List.any_eq_true,decide_eq_true_eq,List.mem_map];refine⟨_,⟨l[j]'oG,?_,rfl⟩,h⟩;rw[List.mem_take_iff_getElem];exact⟨j,by omega,rfl⟩
theorem O9(s:ByteArray)(w:World):Calls prog 28 #[.string s] w fun e w'=>e= .returned (.bool (yJ s))/\Bel w w':=by
 obtain⟨c0,e0⟩:=hd_num s;have hN:=Lib.hid (OQ s c0 e0);refine enT func28 ntmps28 rfl rfl fun hB=>?_;refine zn7 ?_;refine xw (rg [] 7 8) 14 (.bool (decide (s.size<1\/30<s.size))) nu ?_ (fun gq=>?_)
 ·refine zn5 ?_;refine zw 10 rfl (fun g10=>?_) (fun g10=>?_)
  ·refine zn4 ?_;refine zJ (e_R ⟨rfl,agA,?_⟩);exact clA
  refine zn7 ?_;refine zJ (e_R ⟨rfl,agA,?_⟩);exact clA
 refine e_S ?_;refine zQ rfl (fun c14=>?_) (fun c14=>?_)
 ·refine zn8 ?_;exact⟨jJ (by rw[hN.out];exact ap (fun h=>by omega)),hB⟩
 refine zn6 ?_;refine wl_cvB U9 underlying105 U5 rfl (fun b16 c16 w1 a3 s1 hr=>?_);refine zn5 ?_;refine qx (rg (rg [] 2 5) 18 36) (fun m g w'=>∃ k:Nat,k<=s.size/\m=s.size-k/\g 18= .int .i64 k/\w1=w'/\(0<k->97<=c0/\c0<=122)/\(∀ j (hj:j<s.size),j<k->Q5 (s[j]'hj)=true)) (s.size) ?_ (fun m g4 w2 hI=>?_)
 ·exact⟨0,ag _,rfl,rfl,rfl,fun h=>by omega,fun j hj h=>by omega⟩
 obtain⟨k,hk,hm,h18,rfl,hz,a2⟩:=hI;refine zX 18 _ h18 nu (zn6 ?_);refine zQ rfl (fun c19=>?_) (fun c19=>?_)
 ·refine zn8 ?_;refine wl (qy (v:= .int _ _) U5 rfl rfl (a3 k oG)) (zn5 ?_);refine xw [5,23,24,25,26,27,28] 5 (.bool (decide (97<=(s[k]'oG).toNat/\(s[k]'oG).toNat<=122))) nu ?_ (fun gq=>?_)
  ·refine zn4 ?_;refine zw 25 rfl (fun g25=>?_) (fun g25=>?_)
   ·refine zn6 ?_;refine zJ (e_R ⟨rfl,agA,?_⟩);exact clA
   refine zn4 ?_;refine zJ (e_R ⟨rfl,agA,?_⟩);exact clA
  refine e_S (xV ?_);refine xw (rg [6] 29 14) 6 (.bool (decide ((48<=(s[k]'oG).toNat/\(s[k]'oG).toNat<=57)\/(s[k]'oG).toNat=95\/(s[k]'oG).toNat=45))) nu ?_ (fun gq=>?_)
  ·refine zn4 ?_;refine zw 31 rfl (fun g31=>?_) (fun g31=>?_)
   ·refine zn6 ?_;refine zw 35 rfl (fun g35=>?_) (fun g35=>?_)
    ·refine zn8 ?_;refine zJ (e_R ⟨rfl,agA,?_⟩);exact clA
    refine zn6 ?_;refine zw 39 rfl (fun a4=>?_) (fun a4=>?_)
    ·refine zn4 ?_;refine zJ (e_R ⟨rfl,agA,?_⟩);exact clA
    refine zn6 ?_;refine zJ (e_R ⟨rfl,agA,?_⟩);exact clA
   refine yW ?_;refine zw 39 rfl (fun a4=>?_) (fun a4=>?_)
   ·refine zn4 ?_;refine zJ (e_R ⟨rfl,agA,?_⟩);exact clA
   refine zn6 ?_;refine zJ (e_R ⟨rfl,agA,?_⟩);exact clA
  refine e_S (xV ?_);refine xw (rg [] 43 10) 52 (.bool (decide (¬(97<=(s[k]'oG).toNat/\(s[k]'oG).toNat<=122)/\(¬((48<=(s[k]'oG).toNat/\(s[k]'oG).toNat<=57)\/(s[k]'oG).toNat=95\/(s[k]'oG).toNat=45)\/k=0)))) nu ?_ (fun gq=>?_)
  ·refine zn4 ?_;refine zw 45 rfl (fun g45=>?_) (fun g45=>?_)
   ·refine zn6 ?_;refine zw 48 rfl (fun g48=>?_) (fun g48=>?_)
    ·refine zn5 ?_;refine zJ (e_R ⟨rfl,agA,?_⟩);exact clA
    refine zn7 ?_;refine zJ (e_R ⟨rfl,agA,?_⟩);exact clA
   refine zn7 ?_;refine zJ (e_R ⟨rfl,agA,?_⟩);exact clA
  refine e_S ?_;refine zQ rfl (fun c52=>?_) (fun c52=>?_)
  ·have hno:¬((97<=c0/\c0<=122)/\∀ j (hj:j<s.size),Q5 (s[j]'hj)=true):=fun h=>by
     have h1:=(Qk _).1 (h.2 k oG);have h2:k=0:=by omega
     subst h2;have:=e0 oG;omega
   refine vj ?_;replace hB:=hB.tr0 s1;exact⟨jJ (by rw[hN.out];exact ap (fun h=>hno h.2)),hB⟩
  have hz':97<=c0/\c0<=122:=by
    by_cases e:k=0
    · subst e;have:=e0 oG;omega
    · exact hz oG
  have a1:∀ j (hj:j<s.size),j<k+1->Q5 (s[j]'hj)=true:=fun j hj h=>by
    by_cases e:j=k
    · subst e;exact(Qk _).2 oG
    · exact a2 j hj oG
  refine zn7 ?_;refine x8 (s.size-(k+1)) oG agA ?_;exact⟨k+1,by omega,rfl,rfl,rfl,fun _=>hz',fun j hj h=>a1 j hj h⟩
 refine vj ?_;replace hB:=hB.tr0 s1;exact⟨jJ (by rw[hN.out];exact ai ⟨by omega,hz oG,fun j hj=>a2 j hj oG⟩),hB⟩
theorem C3(A:Option Addr)(c:Nat)(l:List Ty)(w:World)(hc:l.length<=c)(hT:TypesIn w A l):Calls prog 47 #[.slice A l.length c] w fun e w'=>e= .returned (flV (xZ l))/\Bel w w':=by
 refine enT func47 ntmps47 rfl rfl fun hB=>?_;refine zn2 ?_;refine qW (cs:=#[.int .i64 0,.int .i64 0]) ze36 rfl (fun b2 w1 a2 s1 hr=>?_);have lo2:=hB.ob hr;refine zn4 ?_;replace hB:=hB.tr0 s1;refine xw (rg [] 9 8) 16 (.bool (decide (l.length=0\/60<l.length))) nu ?_ (fun gq=>?_)
 ·refine zn5 ?_;refine zw 12 rfl (fun g12=>?_) (fun g12=>?_)
  ·refine zn4 ?_;refine zJ (e_R ⟨rfl,agA,?_⟩);exact clA
  refine zn7 ?_;refine zJ (e_R ⟨rfl,agA,?_⟩);exact clA
 refine e_S ?_;refine zQ rfl (fun bf=>?_) (fun bf=>?_)
 ·refine zn2 ?_;refine wl (vw (v0:= .int _ _) (v1:= .int _ _) (fun v0 v1=>#[v0,v1]) rfl rfl kR) ?_;refine zZ a2 rfl rfl ZW rfl qz (fun w2 hq s2=>?_);replace a2:=hq;refine zn4 ?_;refine xK (.inl rfl) rfl (zW U36 rfl rfl a2.range0 ZW) ?_;replace hB:=hB.tr1 s2 lo2;exact⟨xq (by simp only[xZ,if_pos bf]),hB⟩
 have hR:=Lib.hid (show xZ l=qQ (j6 l) 0 (l.length-0) by simp only[xZ,if_neg bf,Nat.sub_zero]);refine jq ?_;refine qx (rg [3,4,6,7,8] 20 69) (fun m g w'=>∃(k:Nat),k<=l.length/\m=l.length-k/\g 20= .int .i64 k/\Bel w w'/\Blk w' b2 36 #[.int .i64 0,.int .i64 0]/\xZ l=qQ (j6 l) k (l.length-k)) (l.length) ?_ (fun m g4 w3 hI=>?_)
 ·exact⟨0,ag _,rfl,rfl,hB,a2,hR.out⟩
 obtain⟨k,hk,hm,h20,hB,a2,a9⟩:=hI;refine zX 20 _ h20 nu (zn6 ?_);refine zQ rfl (fun c21=>?_) (fun c21=>?_)
 ·have a1:k<l.length:=by omega
  obtain⟨tb,to,A',cp,rfl,htb,htr,a5⟩:=hT.at_ hB a1;refine zn8 ?_;refine wl (qw U94 rfl rfl htr sz94) ?_;refine qW (cs:=#[.string ⟨#[]⟩,.slice none 0 0]) ze94 rfl (fun b4 w4 ac s3 hr=>?_);have:=a2.ob hr;have lo4:=hB.ob hr;refine waI rfl ?_;refine zZ ac rfl rfl sz94 rfl qz (fun w5 hq s4=>?_);replace ac:=hq;refine zn7 ?_;refine ba kR (O9 _ _) rfl (fun w6 s5=>?_);refine zn3 ?_;refine jQ rfl (fun be=>?_) (fun be=>?_)
  ·have a4:=ty10 l k a1 (by simpa using be);refine zn3 ?_;refine wl (vw (v0:= .int _ _) (v1:= .int _ _) (fun v0 v1=>#[v0,v1]) rfl rfl kR) ?_;refine zZ a2.u rfl rfl ZW rfl qz (fun w7 hq s6=>?_);replace a2:=hq;refine zn9 ?_;refine xK (.inl rfl) rfl (zW U36 rfl rfl a2.range0 ZW) ?_;exact⟨xq (a9.trans (x7 (c:=10) oG a4 dE)),hB.u⟩
  have b9:yJ (l[k]'a1).name=true:=by simpa using be
  refine zn7 ?_;refine wl (I7 (h:=k) U22 sz94 rfl rfl oG) (zn5 ?_);refine qx (rg [6] 35 12) (fun m g w'=>∃(j:Nat),j<=k/\m=k-j/\g 35= .int .i64 j/\Bel w w'/\Blk w' b2 36 #[.int .i64 0,.int .i64 0]/\Blk w' b4 94 #[.string (l[k]'a1).name,.slice A' (l[k]'a1).par.length cp]/\seen ((l.take j).map (·.name)) (l[k]'a1).name=false) (k) ?_ (fun m g9 w8 hI=>?_)
  ·exact⟨0,ag _,rfl,rfl,hB.u,a2.u,ac.u,rfl⟩
  obtain⟨j,hj,hmj,h35,hB,a2,ac,hse⟩:=hI;refine zX 35 _ h35 nu (zn6 ?_);refine zQ rfl (fun c36=>?_) (fun c36=>?_)
  ·have hjt:j<l.length:=by omega
   obtain⟨ub,uo,B',cq,he,hub,hur,_⟩:=hT.at_ hB hjt;cases he;refine zn7 ?_;refine wl (qw U94 rfl rfl hur sz94) ?_;refine yx (cs:=#[.string ⟨#[]⟩,.slice none 0 0]) ze94 rfl (fun _=>rfl) (fun _=>rfl) sz94 rfl qz (fun b6 w10 hb6 s7 hr=>?_);refine jq ?_;refine zQ rfl (fun bd=>?_) (fun bd=>?_)
   ·have a4:=ty7 l k a1 b9 (seen_yes a1 oG bd);refine zn3 ?_;refine wl (vw (v0:= .int _ _) (v1:= .int _ _) (fun v0 v1=>#[v0,v1]) rfl rfl kR) ?_;refine zZ a2.u rfl rfl ZW rfl qz (fun w11 hq s8=>?_);replace a2:=hq;refine uw ?_;refine xK (.inl rfl) rfl (zW U36 rfl rfl a2.range0 ZW) ?_;exact⟨xq (a9.trans (x7 (c:=7) oG a4 dE)),hB.u⟩
   have b3:seen ((l.take (j+1)).map (·.name)) (l[k]'a1).name=false:=by rw[ZZ l hjt,List.map_append,List.map_cons,List.map_nil,Xw,hse];simp[bd]
   refine zn7 ?_;refine x8 (k-(j+1)) oG agA ?_;exact⟨j+1,by omega,rfl,rfl,hB.u,a2.u,ac.u,b3⟩
  have hsn:seen ((l.take k).map (·.name)) (l[k]'a1).name=false:=by
    have e:k=j:=by omega
    subst e;exact hse
  refine ZV ?_;refine wl (Fj U4 rfl rfl) (zJ (e_S ?_));refine jQ rfl (fun bc=>?_) (fun bc=>?_)
  ·have a4:=ty5 l k a1 b9 hsn (mal_yes bc);refine zn3 ?_;refine wl (vw (v0:= .int _ _) (v1:= .int _ _) (fun v0 v1=>#[v0,v1]) rfl rfl kR) ?_;refine zZ a2 rfl rfl ZW rfl qz (fun w12 hq s9=>?_);replace a2:=hq;refine zn9 ?_;refine xK (.inl rfl) rfl (zW U36 rfl rfl a2.range0 ZW) ?_;exact⟨xq (a9.trans (x7 (c:=5) oG a4 dE)),hB.u⟩
  have bb:=mal_no bc;refine jq ?_;refine qx (rg [7,8] 59 29) (fun m g w'=>∃(j:Nat) (a3:Int),j<=(l[k]'a1).par.length/\m=(l[k]'a1).par.length-j/\g 59= .int .i64 j/\w8=w'/\(j=0->a3= -1)/\(∀ h:0<j/\j-1<(l[k]'a1).par.length,a3=((l[k]'a1).par[j-1]'h.2))/\j6 l k=kj k a3 ((l[k]'a1).par.drop j)) ((l[k]'a1).par.length) ?_ (fun m g17 w13 hI=>?_)
  ·exact⟨0,-1,ag _,rfl,rfl,rfl,fun _=>rfl,fun h=>by omega,Rj l k a1 b9 hsn bb⟩
  obtain⟨j,a3,hj,hmj,h59,rfl,hl0,hl1,hP⟩:=hI;refine zX 59 _ h59 nu (zn6 ?_);refine zQ rfl (fun c60=>?_) (fun c60=>?_)
  ·have an:j<(l[k]'a1).par.length:=by omega
   have hmx:=a5.1;unfold vJ at hmx;have ab:=a5;obtain⟨pb,po,rfl,hpb,b7⟩:=a5.at_ an;replace b7:=hB.cell hpb b7;have hpd:∀ h:j-1<(l[k]'a1).par.length,w8.cell? ⟨pb,po+(j-1)*1,none⟩=some (.int .i64 ((l[k]'a1).par[j-1]'h)):=fun h=>by
     obtain⟨pb2,po2,he,b8,b5⟩:=ab.at_ h;cases he;exact hB.cell b8 b5
   refine zn8 ?_;refine wl (qy (v:= .int _ _) U3 rfl rfl b7) (zn6 ?_);refine xw [64,65,66,67,68,69,70] 70 (.bool (decide ((l[k]'a1).par[j]<0\/(k:Int)<=(l[k]'a1).par[j]))) nu ?_ (fun gq=>?_)
   ·refine zn4 ?_;refine zw 66 rfl (fun g66=>?_) (fun g66=>?_)
    ·refine zn4 ?_;refine zJ (e_R ⟨rfl,agA,?_⟩);exact clA
    refine zn7 ?_;refine zJ (e_R ⟨rfl,agA,?_⟩);exact clA
   refine e_S ?_;refine zQ rfl (fun b1=>?_) (fun b1=>?_)
   ·have a4:j6 l k=3:=by rw[hP,List.drop_eq_getElem_cons an];simp only[kj,if_pos b1]
    refine zn3 ?_;refine wl (vw (v0:= .int _ _) (v1:= .int _ _) (fun v0 v1=>#[v0,v1]) rfl rfl kR) ?_;refine zZ a2 rfl rfl ZW rfl qz (fun w14 hq s10=>?_);replace a2:=hq;refine uw ?_;refine xK (.inl rfl) rfl (zW U36 rfl rfl a2.range0 ZW) ?_;exact⟨xq (a9.trans (x7 (c:=3) oG a4 dE)),hB.u⟩
   refine zn3 ?_;refine xw (rg [] 73 12) 84 (.bool (decide (0<j/\(l[k]'a1).par[j]<=((l[k]'a1).par[j-1]'oG)))) nu ?_ (fun gq=>?_)
   ·refine zn4 ?_;refine zw 75 rfl (fun g75=>?_) (fun g75=>?_)
    ·refine zn9 ?_;refine wl (kZ (c:=((j-1:Nat):Int)) rfl rfl oG oG) (zn1 ?_);refine wl (x9 (i:=j-1) U59 sz3 rfl rfl oG rfl) (zn1 ?_);refine wl (qy (v:= .int _ _) U3 rfl rfl (hpd oG)) (zn3 ?_);refine zJ (e_R ⟨rfl,agA,?_⟩);exact clA
    refine zn9 ?_;refine zJ (e_R ⟨rfl,agA,?_⟩);exact clA
   refine e_S ?_;refine zQ rfl (fun ao=>?_) (fun ao=>?_)
   ·have a4:j6 l k=13:=by rw[hP,List.drop_eq_getElem_cons an,hl1 ⟨ao.1,by omega⟩];simp only[kj,if_neg b1,if_pos ao.2]
    refine zn3 ?_;refine wl (vw (v0:= .int _ _) (v1:= .int _ _) (fun v0 v1=>#[v0,v1]) rfl rfl kR) ?_;refine zZ a2 rfl rfl ZW rfl qz (fun w15 hq s11=>?_);replace a2:=hq;refine vj ?_;refine xK (.inl rfl) rfl (zW U36 rfl rfl a2.range0 ZW) ?_;exact⟨xq (a9.trans (x7 (c:=13) oG a4 dE)),hB.u⟩
   have hP':j6 l k=kj k (l[k]'a1).par[j] ((l[k]'a1).par.drop (j+1)):=by
     have hnl:¬(l[k]'a1).par[j]<=a3:=fun h=>by
      by_cases e:j=0
      ·have:=hl0 e;omega
      ·have:=hl1 ⟨by omega,by omega⟩;exact ao ⟨by omega,by omega⟩
     rw[hP,List.drop_eq_getElem_cons an];simp only[kj,if_neg b1,if_neg hnl]
   refine zn7 ?_;refine x8 ((l[k]'a1).par.length-(j+1)) oG agA ?_;exact⟨j+1,(l[k]'a1).par[j],by omega,rfl,rfl,rfl,fun h=>by omega,fun h=>rfl,hP'⟩
  have a4:=Lib.hid (show j6 l k=0 by rw[hP,List.drop_eq_nil_of_le oG];rfl);refine yW ?_;refine x8 (l.length-(k+1)) oG agA ?_;exact⟨k+1,by omega,rfl,rfl,hB,a2,a9.trans (vQ a1 a4.out)⟩
 refine zn7 ?_;refine wl (gQ (vs:=#[]) (cs:=#[.int .i64 0,.int .i64 0]) (by simp) kR) ?_;refine zZ a2 rfl rfl ZW rfl qz (fun w16 hq s12=>?_);replace a2:=hq;refine zn3 ?_;refine xK (.inl rfl) rfl (zW U36 rfl rfl a2.range0 ZW) ?_;exact⟨xq (a9.trans (jz oG)),hB.u⟩
def PW(l:List Ty)(i:Nat):List Nat:=match l[i]? with
 | none=>[]
 | some t=>t.par.map Int.toNat
def HV(l:List Ty):Nat->Nat->Nat->Bool
 | 0,a,b=>decide (a=b)
 | f+1,a,b=>decide (a=b)||(PW l a).any (fun p=>HV l f p b)
def sub(l:List Ty)(a b:Nat):Bool:=HV l a a b
def VT(l:List Ty):Prop:=∀ i (h:i<l.length),∀ p∈(l[i]).par,0<=p/\p<(i:Int)
theorem VT.par(h:VT l){p:Nat}(hp:p∈PW l a):p<a:=by
 unfold PW at hp;by_cases ha:a<l.length
 ·rw[List.getElem?_eq_getElem ha]at hp
  simp only[List.mem_map]at hp;obtain⟨q,hq,rfl⟩:=hp;have:=h a ha q hq;omega
 ·rw[List.getElem?_eq_none oG]at hp;cases hp
theorem BQ{α:Type}{l:List α}{p q:α->Bool}(h:∀ x∈l,p x=q x):l.any p=l.any q:=by
 induction l with
 | nil=>rfl
 | cons a r ih=>
  simp only[List.any_cons];rw[h a (by simp),ih (fun x hx=>h x (by simp[hx]))]
theorem subF_fuel(hv:VT l)(b:Nat):∀(n a:Nat),a<=n->∀ f,a<=f->HV l f a b=HV l a a b:=by
 intro n
 induction n with
 | zero=>
  intro a ha f hf;have:a=0:=by omega
  subst this;have hp:PW l 0= []:=by
   cases h:PW l 0 with
   | nil=>rfl
   | cons p r=>exact absurd (hv.par (a:=0) (p:=p) (by rw[h];simp)) oG
  cases f<;>simp[HV,hp]
 | succ n ih=>
  intro a ha f hf;cases a with
  | zero=>exact ih 0 oG f oG
  | succ a=>
   cases f with
   | zero=>omega
   | succ f=>
    simp only[HV]
    congr 1
    apply BQ
    intro p hp;have:=hv.par hp;rw[ih p oG f oG,ih p oG a oG]
theorem sub_eq(hv:VT l)(a b:Nat):sub l a b=(decide (a=b)||(PW l a).any (fun p=>sub l p b)):=by
 unfold sub;cases a with
 | zero=>
  have hp:PW l 0= []:=by
   cases h:PW l 0 with
   | nil=>rfl
   | cons p r=>exact absurd (hv.par (a:=0) (p:=p) (by rw[h];simp)) oG
  simp[HV,hp]
 | succ a=>
  conv=>lhs;unfold HV
  congr 1
  apply BQ
  intro p hp;have:=hv.par hp;rw[subF_fuel hv b (a+1) p oG a oG]
theorem Y0(hv:VT l)(a:Nat):sub l a a=true:=by rw[sub_eq hv];simp
theorem J9(hv:VT l)(a b:Nat):sub l a b=true↔a=b\/∃ p∈PW l a,sub l p b=true:=by
 rw[sub_eq hv];simp
theorem sub_le(hv:VT l):∀(n a b:Nat),a<=n->sub l a b=true->b<=a:=by
 intro n
 induction n with
 | zero=>
  intro a b ha h;rcases(J9 hv a b).1 h with rfl|⟨p,hp,_⟩
  ·omega
  ·have:=hv.par hp;omega
 | succ n ih=>
  intro a b ha h;rcases(J9 hv a b).1 h with rfl|⟨p,hp,hs⟩
  ·omega
  ·have:=hv.par hp
   have:=ih p b oG hs;omega
theorem Nz(hv:VT l)(h:sub l a b=true):b<=a:=sub_le hv a a b (ah _) h
theorem sub_trans(hv:VT l)(c:Nat):∀(n a b:Nat),a<=n->sub l a b=true->sub l b c=true->sub l a c=true:=by
 intro n
 induction n with
 | zero=>
  intro a b ha h h2;rcases(J9 hv a b).1 h with rfl|⟨p,hp,_⟩
  ·exact h2
  ·have:=hv.par hp;omega
 | succ n ih=>
  intro a b ha h h2;rcases(J9 hv a b).1 h with rfl|⟨p,hp,hs⟩
  ·exact h2
  ·have:=hv.par hp
   exact(J9 hv a c).2 (.inr ⟨p,hp,ih p b oG hs h2⟩)
theorem XY(hv:VT l){c:Nat}(h:sub l a b=true)(h2:sub l b c=true):sub l a c=true:=sub_trans hv c a a b (ah _) h h2
theorem sub_par(hv:VT l)(hi:i<l.length){p:Int}(hp:p∈(l[i]).par):sub l i p.toNat=true:=by
 refine(J9 hv i _).2 (.inr ⟨p.toNat,?_,Y0 hv _⟩);simp only[PW,List.getElem?_eq_getElem hi,List.mem_map];exact⟨p,hp,rfl⟩
def Ox(ps:List Int)(x:Nat):Bool:=ps.any (fun p=>decide (p=(x:Int)))
theorem Lk(ps:List Int)(x:Nat):Ox ps x=true↔(x:Int)∈ps:=by simp[Ox]
theorem parB_snoc(ps:List Int){j:Nat}(hj:j<ps.length)(x:Nat):Ox (ps.take (j+1)) x=(Ox (ps.take j) x||decide (ps[j]=(x:Int))):=by
 simp only[Ox];rw[List.take_succ_eq_append_getElem hj,List.any_append];simp
structure Marks(l:List Ty)(a i:Nat)(mk:Nat->Bool):Prop where
 ok:∀ j,mk j=true->sub l a j=true
 all:∀ c,c<=i->sub l a c=true->∃ j,j<=i/\mk j=true/\sub l j c=true
theorem Marks.start(hv:VT l)(a:Nat):Marks l a a (fun j=>if j=a then true else false):=
 ⟨fun j h=>by
  by_cases e:j=a
  ·subst e;exact Y0 hv _
  ·simp[e]at h,fun c _ h=>⟨a,ah _,by simp,h⟩⟩
theorem Marks.yes(hv:VT l)(h:Marks l a i mk)(hi:i<l.length)(hm:mk i=true):Marks l a (i-1) (fun x=>mk x||Ox (l[i]).par x):=
 ⟨fun j hj=>by
  simp only[Bool.or_eq_true]at hj
  rcases hj with hj|hj
  ·exact h.ok j hj
  ·have:=sub_par hv hi ((Lk _ _).1 hj)
   simp only[Int.toNat_natCast]at this
   exact XY hv (h.ok i hm) this,fun c hc hs=>by
  by_cases hi0:i=0
  ·subst hi0
   obtain⟨j,hj,h1,h2⟩:=h.all c oG hs
   exact⟨j,by omega,by simp[h1],h2⟩
  obtain⟨j,hj,h1,h2⟩:=h.all c oG hs
  by_cases e:j=i
  ·subst e
   rcases(J9 hv j c).1 h2 with rfl|⟨p,hp,hps⟩
   ·omega
   ·have hlt:=hv.par hp
    refine⟨p,by omega,?_,hps⟩
    simp only[PW,List.getElem?_eq_getElem hi,List.mem_map]at hp
    obtain⟨q,hq,rfl⟩:=hp
    have:=hv j hi q hq
    have hq':((q.toNat:Nat):Int)∈(l[j]).par:=by rw[Int.toNat_of_nonneg this.1];exact hq
    simp only[Bool.or_eq_true]
    exact .inr ((Lk _ _).2 hq')
  ·exact⟨j,by omega,by simp[h1],h2⟩⟩
theorem Marks.no(h:Marks l a i mk)(hm:mk i=false):Marks l a (i-1) mk:=
 ⟨h.ok,fun c hc hs=>by
  obtain⟨j,hj,h1,h2⟩:=h.all c oG hs
  by_cases e:j=i
  ·subst e;rw[hm]at h1;cases h1
  ·exact⟨j,by omega,h1,h2⟩⟩
theorem Marks.end_(hv:VT l)(h:Marks l a i mk)(hi:i<=b)(hb:b<=a->b<=i):mk b=sub l a b:=by
 cases hs:sub l a b
 ·cases hm:mk b
  ·rfl
  ·rw[h.ok b hm]at hs;cases hs
 ·have hle:=Nz hv hs
  have hib:i=b:=Nat.le_antisymm hi (hb hle);subst hib;obtain⟨j,hj,h1,h2⟩:=h.all i (ah _) hs;have:=Nz hv h2;have:j=i:=by omega
  subst this;exact h1
theorem in4:(Tryz.prog.info? 4).map (fun i=>(i.zero,i.size,i.bytes))=some (some (.bool false),1,1):=by kernel_rfl
theorem sz4:(Tryz.prog.info? 4).map (·.size)=some 1:=by kernel_rfl
theorem IK(A:Option Addr)(c:Nat)(l:List Ty)(a b:Nat)(w:World)(hT:TypesIn w A l)(hv:VT l)(h60:l.length<=60)(ha:a<l.length)(hb:b<l.length):Calls Tryz.prog 32 #[.slice A l.length c,.int .i64 a,.int .i64 b] w fun e w'=>e= .returned (.bool (sub l a b))/\Bel w w':=by
 have hmx:=hT.1;unfold vJ at hmx;refine enT Tryz.func32 Tryz.ntmps32 rfl rfl fun hB=>?_;refine zn9 ?_;refine XV (m:=l.length) JW in4 rfl rfl rfl oG hmx (fun b1 w1 a1 s1 hr=>?_);have lo13:=hB.ob hr;refine zn8 ?_;refine xQ (v:= .bool _) a1 rfl rfl sz4 (by rw[row_size];omega) rfl kv (fun w2 hq s2=>?_);replace a1:=hq;refine zn4 ?_;have a9:Blk w2 b1 4 (row l.length (fun j=> .bool (if j=a then true else false))):=by
   rw[show (row l.length (fun j=>Value.bool (if j=a then true else false)))=row l.length (fun j=>if j=a then Value.bool true else Value.bool false)from xJ (fun j _=>by split<;>rfl)];exact a1
 refine zn6 ?_;refine qx (rg [8,10] 18 23) (fun m g w'=>∃(i:Nat) (mk:Nat->Bool),i<=a/\m=i/\g 8= .int .i64 i/\(b<=a->b<=i)/\Bel w w'/\Blk w' b1 4 (row l.length (fun j=> .bool (mk j)))/\Marks l a i mk) (a) ?_ (fun m g4 w3 hI=>?_)
 ·exact⟨a,_,ah _,rfl,rfl,fun h=>h,hB.u,a9,Marks.start hv a⟩
 obtain⟨i,mk,hi,hm,h8,hbi,hB,a1,hM⟩:=hI;refine zX 8 _ h8 nu (zn8 ?_);refine zQ rfl (fun c20=>?_) (fun c20=>?_)
 ·refine zn9 ?_;refine wl (qy (v:= .bool _) U4 rfl rfl (a1.cell (vW oG))) (zJ (e_S ?_));refine jQ rfl (fun ao=>?_) (fun ao=>?_)
  ·have a2:i<l.length:=by omega
   obtain⟨tb,to,A',cp,rfl,htb,htr,a5⟩:=hT.at_ hB a2;have hpx:=a5.1;unfold vJ at hpx;refine zn6 ?_;refine wl (qy (v:= .slice _ _ _) U59 rfl rfl (htr 1 _ rfl)) (zn5 ?_);refine qx (rg [10] 33 8) (fun m g w'=>∃(j:Nat),j<=(l[i]'a2).par.length/\m=(l[i]'a2).par.length-j/\g 33= .int .i64 j/\Bel w w'/\Blk w' b1 4 (row l.length (fun x=> .bool (mk x||Ox ((l[i]'a2).par.take j) x)))) ((l[i]'a2).par.length) ?_ (fun m g8 w4 hI=>?_)
   ·refine⟨0,ag _,rfl,rfl,hB,?_⟩;rw[show (row l.length (fun x=>Value.bool (mk x||Ox ((l[i]'a2).par.take 0) x)))=row l.length (fun j=> .bool (mk j))from xJ (fun x _=>by simp[Ox])];exact a1
   obtain⟨j,hj,hmj,h33,hB,a1⟩:=hI;refine zX 33 _ h33 nu (zn6 ?_);refine zQ rfl (fun c34=>?_) (fun c34=>?_)
   ·have an:j<(l[i]'a2).par.length:=by omega
    obtain⟨pb,po,rfl,hpb,ac⟩:=a5.at_ an;replace ac:=hB.cell hpb ac;have hpr:=hv i a2 _ (am an);refine zn7 ?_;refine wl (qy (v:= .int _ _) U3 rfl rfl ac) (zn6 ?_);refine wl (x9 (i:=((l[i]'a2).par[j]).toNat) JW sz4 rfl (show ev _ _ _=_ from congrArg (Value.int .i64) (Int.toNat_of_nonneg hpr.1).symm) oG rfl) ?_;refine xQ (v:= .bool _) a1 rfl rfl sz4 (by rw[row_size];omega) rfl kv (fun w5 hq s3=>?_);replace a1:=hq;refine zn7 ?_;refine x8 ((l[i]'a2).par.length-(j+1)) oG agA ?_;refine⟨j+1,by omega,rfl,rfl,hB.u,?_⟩
    rw[show (row l.length (fun x=>Value.bool (mk x||Ox ((l[i]'a2).par.take (j+1)) x)))=row l.length (fun x=>if x=((l[i]'a2).par[j]).toNat then Value.bool true else .bool (mk x||Ox ((l[i]'a2).par.take j) x))from xJ (fun x _=>by
     rw[parB_snoc _ an];by_cases e:x=((l[i]'a2).par[j]).toNat
     ·rw[if_pos e];have:(l[i]'a2).par[j]=(x:Int):=by omega
      simp[this]
     ·rw[if_neg e];have:¬(l[i]'a2).par[j]=(x:Int):=by omega
      simp[this])]
    exact a1
   have ab:=hM.yes hv a2 ao;have hjl:j=(l[i]'a2).par.length:=by omega
   rw[hjl,List.take_length]at a1;obtain⟨a4,a3⟩:∃ a4:Nat->Bool,a4=fun x=>mk x||Ox (l[i]'a2).par x:=⟨_,rfl⟩
   rw[show (row l.length (fun x=>Value.bool (mk x||Ox (l[i]'a2).par x)))=row l.length (fun x=> .bool (a4 x))from xJ (fun x _=>by rw[a3])]at a1;rw[<- a3]at ab;refine zn8 ?_;refine wl (kZ (c:=((i-1:Nat):Int)) rfl rfl oG oG) (zn2 ?_);refine x8 (i-1) oG agA ?_;exact⟨i-1,a4,by omega,rfl,rfl,fun h=>by omega,hB,a1,ab⟩
  have ab:=hM.no ao;obtain⟨a4,a3⟩:∃ a4,a4=mk:=⟨_,rfl⟩
  rw[<- a3]at ab a1;clear a3;refine zn5 ?_;refine wl (kZ (c:=((i-1:Nat):Int)) rfl rfl oG oG) (zn2 ?_);refine x8 (i-1) oG agA ?_;exact⟨i-1,a4,by omega,rfl,rfl,fun h=>by omega,hB,a1,ab⟩
 refine yW ?_;refine wl (qy (v:= .bool _) U4 rfl rfl (a1.cell (vW oG))) (zn5 ?_);exact⟨jJ (hM.end_ hv oG hbi).symm,hB⟩
def u4(p:Nat->Bool):Nat->Nat
 | 0=>0
 | n+1=>u4 p n|||(if p n then 2^n else 0)
theorem kY(p:Nat->Bool):∀(n j:Nat),(u4 p n).testBit j=(decide (j<n)&&p j)
 | 0,j=>by simp[u4]
 | n+1,j=>by
  rw[u4,Nat.testBit_or,kY p n j]
  by_cases h:j=n
  ·subst h
   cases hp:p j<;>simp[Nat.testBit_two_pow_self]
  ·have h1:(if p n then 2^n else 0:Nat).testBit j=false:=by
    cases hp:p n
    ·simp
    ·simp[Ne.symm h]
   have h2:decide (j<n+1)=decide (j<n):=by simp;omega
   rw[h1,h2];simp
theorem mask_lt(p:Nat->Bool)(n:Nat):u4 p n<2^n:=by
 apply Nat.lt_pow_two_of_testBit
 intro i hi;rw[kY];simp;omega
theorem XZ(p:Nat->Bool)(h:n<=60):u4 p n<18446744073709551616:=by
 have h1:=mask_lt p n;have h2:2^n<=2^60:=Nat.pow_le_pow_right dE h;have h3:(2:Nat)^60=1152921504606846976:=by decide
 omega
theorem Iq(h:∀ j,x.testBit j=(decide (j<n)&&p j)):x=u4 p n:=
 Nat.eq_of_testBit_eq (fun j=>by rw[h,kY])
theorem kW{q:Nat->Bool}(h:∀ j,j<n->p j=q j):u4 p n=u4 q n:=by
 apply Iq
 intro j;rw[kY];by_cases hj:j<n
 ·rw[h j hj]
 ·simp[hj]
theorem mask_or(p q:Nat->Bool)(n:Nat):u4 p n|||u4 q n=u4 (fun j=>p j||q j) n:=
 Iq (fun j=>by rw[Nat.testBit_or,kY,kY];cases decide (j<n)<;>simp)
theorem mask_and(p q:Nat->Bool)(n:Nat):u4 p n&&&u4 q n=u4 (fun j=>p j&&q j) n:=
 Iq (fun j=>by rw[Nat.testBit_and,kY,kY];cases decide (j<n)<;>simp)
theorem G5(h:k<n):2^k=u4 (fun j=>decide (j=k)) n:=by
 apply Iq
 intro j;rw[Nat.testBit_two_pow];by_cases e:k=j
 ·subst e;simp[h]
 ·simp[e,Ne.symm e]
theorem mask_zero(n:Nat):u4 (fun _=>false) n=0:=by
 symm;apply Iq;intro j;simp
theorem mask_eq_zero:u4 p n=0↔∀ j,j<n->p j=false:=by
 constructor
 ·intro h j hj
  have:=kY p n j;rw[h]at this
  simpa[hj]using this.symm
 ·intro h
  rw[<- mask_zero n];exact kW h
theorem mask_inj{q:Nat->Bool}:u4 p n=u4 q n↔∀ j,j<n->p j=q j:=by
 constructor
 ·intro h j hj
  have h1:=kY p n j;have h2:=kY q n j;rw[h]at h1;rw[h1]at h2
  simpa[hj]using h2
 ·exact kW
theorem T6(x j:Nat):decide (((x>>>j)&&&1)=1)=x.testBit j:=by
 rw[Nat.testBit_eq_decide_div_mod_eq,Nat.shiftRight_eq_div_pow,Nat.and_one_is_mod]
theorem Ik(hn:n<=60)(h0:u4 p n≠0):Lib.ctz 64 (u4 p n)<n/\p (Lib.ctz 64 (u4 p n))=true/\∀ j,j<Lib.ctz 64 (u4 p n)->p j=false:=by
 have hlt:u4 p n<2^64:=by
  have h1:=XZ p hn;have h2:(2:Nat)^64=18446744073709551616:=by decide
  omega
 obtain⟨m,hm,hk⟩:=Lib.ctzFrom_spec 64 (u4 p n) oG hlt;have e:Lib.ctz 64 (u4 p n)=Lib.ctzFrom 64 (u4 p n):=by simp[Lib.ctz,h0]
 rw[e]
 generalize hc:Lib.ctzFrom 64 (u4 p n)=c at *
 have hb:∀ j,(u4 p n).testBit j=(decide (c<=j)&&(2*m+1).testBit (j-c)):=by
  intro j;rw[hm,Nat.mul_comm,Nat.testBit_mul_two_pow]
 have a1:(u4 p n).testBit c=true:=by rw[hb];simp
 rw[kY]at a1;simp only[Bool.and_eq_true,decide_eq_true_eq]at a1;refine⟨a1.1,a1.2,fun j hj=>?_⟩;have:=hb j;rw[kY]at this;have hcj:¬c<=j:=by omega
 simp only[hcj,decide_false,Bool.false_and]at this;have hjn:j<n:=by omega
 simpa[hjn]using this
def TabIn(w:World):Prop:=0<w.heap.size/\∀ k,k<64->w.cell? ⟨0,0+k*1,none⟩=some (.int .u8 ((Lib.deBruijn64tab.getD k 0:Nat):Int))
theorem TabIn.mono(h:TabIn w)(hb:Bel w w'):TabIn w':=⟨nLL h.1 hb.size,fun k hk=>hb.cell h.1 (h.2 k hk)⟩
theorem ctz_eq{c:Nat}(h0:x≠0)(hx:x<18446744073709551616)(hc:18446744073709551616-x=c):x&&&c=2^Lib.ctz 64 x/\Lib.ctz 64 x<64:=by
 subst hc
 exact Lib.lowest_bit 64 x h0 (by
  have:(2:Nat)^64=18446744073709551616 := by decide
  omega)
def tzI(x:Nat):Nat:=((x&&&(18446744073709551616-x))*285870213051353865%18446744073709551616)>>>58
theorem tzI_spec(h0:x≠0)(hx:x<18446744073709551616):tzI x<64/\Lib.deBruijn64tab.getD (tzI x) 0=Lib.ctz 64 x:=by
 have h:=ctz_eq h0 hx rfl;have h2:=Lib.deBruijn64_at (Lib.ctz 64 x) h.2;unfold tzI;rw[h.1,Nat.shiftRight_eq_div_pow];exact h2
def upN(l:List Ty)(i:Nat):Nat:=u4 (fun j=>sub l i j) l.length
def Q9(l:List Ty)(j:Nat):Nat:=u4 (fun i=>sub l i j) l.length
def rU(n:Nat)(g:Nat->Nat):Array Value:=row n (fun i=> .int .u64 (g i))
def TableIn(w:World)(l:List Ty)(bu bd:Nat):Prop:=Blk w bu 99 (rU l.length (upN l))/\Blk w bd 99 (rU l.length (Q9 l))
theorem Blk.bel{t:TypeId}{cs:Array Value}(h:Blk w b t cs)(hb:Bel w w'):Blk w' b t cs:=(hb.block b h.lt).trans h
theorem TableIn.mono(h:TableIn w l bu bd)(hb:Bel w w'):TableIn w' l bu bd:=⟨h.1.bel hb,h.2.bel hb⟩
theorem TableIn.up(h:TableIn w l bu bd)(hi:i<l.length):w.cell? ⟨bu,0+i*1,none⟩=some (.int .u64 (upN l i)):=h.1.cell (vW hi)
theorem TableIn.down(h:TableIn w l bu bd)(hi:i<l.length):w.cell? ⟨bd,0+i*1,none⟩=some (.int .u64 (Q9 l i)):=h.2.cell (vW hi)
theorem upN_lt(h:l.length<=60)(i:Nat):upN l i<18446744073709551616:=XZ _ h
theorem downN_lt(h:l.length<=60)(i:Nat):Q9 l i<18446744073709551616:=XZ _ h
def tabV(n bu bd:Nat):Value:= .agg #[.slice (some ⟨bu,0,none⟩) n n,.slice (some ⟨bd,0,none⟩) n n]
def jY(l:List Ty)(a b:Nat)(i:Nat):Bool:=sub l i a&&sub l i b
def vK(l:List Ty)(a b:Nat):Nat:=u4 (jY l a b) l.length
theorem comm_and(l:List Ty)(a b:Nat):Q9 l a&&&Q9 l b=vK l a b:=mask_and _ _ _
def meet(l:List Ty)(a b:Nat):Nat×Bool×Bool:=
 if vK l a b=0 then (0,false,false)
 else if Q9 l (Lib.ctz 64 (vK l a b))≠vK l a b then (0,false,true)
 else (Lib.ctz 64 (vK l a b),true,false)
def meetV(r:Nat×Bool×Bool):Value:= .tuple #[.int .i64 r.1,.bool r.2.1,.bool r.2.2]
theorem Cy{m:Nat}{p q:Bool}{r:Nat×Bool×Bool}(h:r=(m,p,q)):Ending.returned (.tuple #[.int .i64 (m:Int),.bool p,.bool q])= .returned (meetV r):=by rw[h];rfl
theorem sz5_Meet:(prog.info? 5).map (·.size)=some 1:=by kernel_rfl
theorem sz99:(prog.info? 99).map (·.size)=some 1:=by kernel_rfl
theorem tz_any(x:Nat)(w:World)(h0:x≠0)(hx:x<18446744073709551616)(a1:TabIn w):Calls prog 70 #[.int .u64 x] w fun e w'=>e= .returned (.int .i64 (Lib.ctz 64 x:Nat))/\w=w':=by
 have hz:=tzI_spec h0 hx;have hgd:=a1.2 (tzI x) hz.1;rw[hz.2]at hgd;refine enter func70 ntmps70 rfl (aD rfl) (vj ?_);refine zQ rfl (fun c4=>?_) (fun c4=>?_)
 ·exact absurd c4 oG
 refine zn6 ?_;refine wl (r_negU rfl oG hx rfl) (wl (MK (b:=18446744073709551616-x) rfl rfl hx oG) (wl (r_mulU (b:=285870213051353865) rfl rfl rfl) (wl (r_shr (b:=58) rfl rfl dE rfl) (wl (CQ (i:=tzI x) underlying144 sz5_Meet rfl rfl hz.1 rfl) (wl (qy (v:= .int _ _) U5 rfl rfl hgd) (wl (CJ U5 U3 rfl (by have:=(ctz_eq h0 hx rfl).2;omega)) (zn5 ?_)))))));exact⟨rfl,rfl⟩
theorem G4(l:List Ty)(bu bd a b:Nat)(w:World)(a4:TabIn w)(hI:TableIn w l bu bd)(_hv:VT l)(a2:l.length<=60)(ha:a<l.length)(hb:b<l.length):Calls prog 56 #[tabV l.length bu bd,.int .i64 a,.int .i64 b] w fun e w'=>e= .returned (meetV (meet l a b))/\Bel w w':=by
 have hca:=downN_lt a2 a;have hcb:=downN_lt a2 b;have hcc:vK l a b<18446744073709551616:=XZ _ a2;refine enT func56 ntmps56 rfl rfl fun hB=>?_;refine zn2 ?_;refine xy (v:= .agg #[_,_]) (cs:=#[_,_]) rfl rfl (fun b3 w1 hb3 s1 hr=>?_);refine zn6 ?_;refine oZ kR kR (fun w2 s2=>?_);refine zn4 ?_;refine ws (qy (v:= .int _ _) U99 rfl rfl ((hI.mono hB.u).down ha)) (zn4 ?_);refine ws (qy (v:= .int _ _) U99 rfl rfl ((hI.mono hB.u).down hb)) (ws (MK rfl rfl hca hcb) (ws (uK (v:= .int .u64 (vK l a b:Nat)) (congrArg (fun z:Nat=>Value.int .u64 (z:Int)) (comm_and l a b))) (ux (zn8 ?_))));refine zQ rfl (fun c22=>?_) (fun c22=>?_)
 ·have hz0:vK l a b=0:=by omega
  refine zn9 ?_;refine Sy (.inl rfl) rfl rfl rfl rfl ?_;replace hB:=hB.tr0 (s1.t s2);exact⟨Cy (by simp only[meet,if_pos hz0]),hB⟩
 have a1:vK l a b≠0:=fun h=>c22 (by rw[h];rfl)
 have hz:=Ik a2 a1;refine zn5 ?_;refine qq kR (tz_any _ _ a1 hcc (a4.mono hB.u)) rfl (fun e' w3 hr=>?_);obtain⟨rfl,rfl⟩:=hr;refine⟨_,rfl,?_⟩;refine zn9 ?_;refine wl (x9 (i:=Lib.ctz 64 (vK l a b)) U72 sz99 rfl rfl hz.1 rfl) (wl (qy (v:= .int _ _) U99 rfl rfl ((hI.mono hB.u).down hz.1)) (zn4 ?_));refine zQ rfl (fun c31=>?_) (fun c31=>?_)
 ·have a3:Q9 l (Lib.ctz 64 (vK l a b))≠vK l a b:=by omega
  refine zn9 ?_;refine Sy (.inl rfl) rfl rfl rfl rfl ?_;replace hB:=hB.tr0 (s1.t s2);exact⟨Cy (by simp only[meet,if_neg a1,if_pos a3]),hB⟩
 have heq:Q9 l (Lib.ctz 64 (vK l a b))=vK l a b:=by omega
 refine jq ?_;refine Sy (.inl rfl) rfl rfl rfl rfl ?_;replace hB:=hB.tr0 (s1.t s2);exact⟨Cy (by simp only[meet,if_neg a1,heq,ne_eq,not_true_eq_false,if_false]),hB⟩
theorem H9(l:List Ty)(bu bd a b:Nat)(w:World)(hI:TableIn w l bu bd)(h60:l.length<=60)(ha:a<l.length)(hb:b<l.length):Calls prog 42 #[tabV l.length bu bd,.int .i64 a,.int .i64 b] w fun e w'=>e= .returned (.bool (sub l a b))/\Bel w w':=by
 have hca:=upN_lt h60 a;refine enT func42 ntmps42 rfl rfl fun hB=>?_;refine zn2 ?_;refine xy (v:= .agg #[_,_]) (cs:=#[_,_]) rfl rfl (fun b3 w1 hb3 s1 hr=>?_);refine zn9 ?_;refine wl (qy (v:= .int _ _) U99 rfl rfl ((hI.mono hB.u).up ha)) (wmI rfl (wl (r_shr (b:=b) rfl rfl oG rfl) (wl (MK (b:=1) rfl rfl (Nat.lt_of_le_of_lt (Nat.shiftRight_le _ _) hca) dE) (zn6 ?_))));refine⟨jJ ?_,hB.u⟩;have h1:=T6 (upN l a) b;unfold upN at h1;rw[kY]at h1;simp only[hb,decide_true,Bool.true_and]at h1;rw[<- h1];exact aj.2 (by unfold upN;omega)
end Go.Proofs.YtgcgnkmmbecfmaaGreatDoor
