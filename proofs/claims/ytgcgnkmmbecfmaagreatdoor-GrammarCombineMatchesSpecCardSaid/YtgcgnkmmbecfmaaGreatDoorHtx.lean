/- What these functions compute, at every world: , unicode/utf8.RuneCountInString, unicode/utf8.word[string]; and plain laws. -/
import Derived.Test.YtgcgnkmmbecfmaaGreatDoorLxd
import Derived.Test.YtgcgnkmmbecfmaaGreatDoorU
import Derived.Test.YtgcgnkmmbecfmaaGreatDoorZst
import Derived.Test.YtgcgnkmmbecfmaaGreatDoorWrd
import Derived.Test.YtgcgnkmmbecfmaaGreatDoorGro
import Derived.Test.YtgcgnkmmbecfmaaGreatDoorTrm
import Derived.ArgAppend
import Derived.Test.YtgcgnkmmbecfmaaGreatDoorEng3
import Derived.Test.YtgcgnkmmbecfmaaGreatDoorHLaw
import Derived.Test.YtgcgnkmmbecfmaaGreatDoorGLoose
namespace Go.Proofs.YtgcgnkmmbecfmaaGreatDoor
open Go.RowKit
set_option maxHeartbeats 2000000
variable {A:Option Addr}{b c cap g hi k lo m n o sz t:Nat}{cs:Array Value}{e:TypeId}{l:List Ty}{ns:List ByteArray}{ps xs:List Int}{v:Value}{vs:List Value}{w w' w1:World}
def StrsD(w:World)(A:Option Addr)(ss:List ByteArray):Prop:=
 ss≠[]->∃ b o,A=some ⟨b,o,none⟩/\b<w.heap.size/\∀ k (h:k<ss.length),w.cell? ⟨b,o+k*1,none⟩=some (.string ss[k])
theorem StrsD.at_{ss:List ByteArray}(h:StrsD w A ss)(hb:Bel w w')(hk:k<ss.length):
  ∃ b o,A=some ⟨b,o,none⟩/\w'.cell? ⟨b,o+k*1,none⟩=some (.string ss[k]):=by
 obtain⟨b,o,e,hl,hc⟩:=h (by rintro rfl;simp at hk);exact⟨b,o,e,hb.cell hl (hc k hk)⟩
def OJ(ns:List ByteArray)(ps:List Int)(i:Nat):Ty:=⟨ns.getD i ⟨#[]⟩,if 0<i then [ps.getD i 0]else []⟩
def K3(ns:List ByteArray)(ps:List Int)(k:Nat):List Ty:=(List.range k).map (OJ ns ps)
theorem Bq(ns:List ByteArray)(ps:List Int)(k:Nat):K3 ns ps (k+1)=K3 ns ps k++[OJ ns ps k]:=by
 grind[K3,List.range_succ]
theorem GZ(hk:k<ns.length)(h:¬0<k):OJ ns ps k=⟨ns[k],[]⟩:=by
 simp[OJ,h,List.getD,List.getElem?_eq_getElem hk]
theorem hierAt_pos(hk:k<ns.length)(hk2:k<ps.length)(h:0<k):OJ ns ps k=⟨ns[k],[ps[k]]⟩:=by
 simp[OJ,h,List.getD,List.getElem?_eq_getElem hk,List.getElem?_eq_getElem hk2]
def TS2:List Nat:=94::25::TS
inductive TyData(w:World):List Ty->List Value->Prop
 | nil:TyData w [] []
 | snoc {l:List Ty} {vs:List Value} {x:Ty} {A:Option Addr} {c:Nat} (h:TyData w l vs) (hp:IntsIn w A x.par):TyData w (l++[x]) (vs++[.string x.name,.slice A x.par.length c])
theorem TyData.len(h:TyData w l vs):vs.length=l.length*2:=by
 induction h with
 | nil=>rfl
 | snoc h hl ih=>simp only[List.length_append,List.length_cons,List.length_nil,ih];omega
theorem TyData.get(h:TyData w l vs):∀ k (hk:k<l.length),∃ A c,vs[k*2]? =some (.string (l[k]).name)/\vs[k*2+1]? =some (.slice A (l[k]).par.length c)/\IntsIn w A (l[k]).par:=by
 induction h with
 | nil=>intro k hk;simp at hk
 | @snoc l cs t A c h hp ih=>
  intro k hk;have hlen:=h.len;by_cases e:k<l.length
  ·grind
  ·simp only[List.length_append,List.length_cons,List.length_nil]at hk
   have ek:k=l.length:=by omega
   subst ek;have eg:(l++[t])[l.length]'(by simp)=t:=by simp
   rw[eg];refine⟨A,c,?_,?_,hp⟩
   ·grind
   ·grind
theorem gof_types{B:Nat}{cs:List Value}(ho:Own w B 94 2 A k cap cs)(ht:TyData w l cs):TypesIn w A l:=by
 have hlk:l.length=k:=by have h1:=ho.len;have h2:=ht.len;omega
 refine⟨by rw[hlk];exact ho.max,fun hn=>?_⟩
 obtain⟨g,e,hb,hg,hc⟩:=ho.cell (by
  intro h0;have:=ht.len;rw[h0]at this;cases l with
  | nil=>exact hn rfl
  | cons a r=>simp only[List.length_nil,List.length_cons]at this;omega)
 refine⟨g,0,e,hg,fun j hj=>?_⟩;obtain⟨A',c,h1,h2,h3⟩:=ht.get j hj;refine⟨A',c,?_,h3⟩;intro i v hi
 match i,hi with
 | 0,hi=>cases hi;have:=hc _ _ h1;simpa using this
 | 1,hi=>cases hi;have:=hc _ _ h2;simpa using this
 | _+2,hi=>cases hi
theorem hof_end{B:Nat}{cs:List Value}(ho:Own w B 94 2 A k cap cs)(ht:Fz [] n TS2 w (fun w=>TyData w l cs)):Fz [] w.heap.size TS w (fun w=>TypesIn w A l):=
 ((ho.fz (ts:=TS) (Ok dE dE dE)).and ((ht.up).sub dE)).imp (fun _ h=>gof_types h.1 h.2)
theorem Gy{cs:List Value}(h:Fz [] n TS2 w (fun w=>TyData w (K3 ns ps k) cs))(hk:k<ns.length)(h0:¬0<k):Fz [] w.heap.size TS2 w (fun w=>TyData w (K3 ns ps (k+1)) (cs++[.string ns[k],.slice none 0 0])):=by
 rw[Bq,GZ hk h0];exact h.up.imp (fun _ h=> .snoc (x:=⟨ns[k],[]⟩) h ⟨ag _,fun h=>absurd rfl h⟩)
theorem hof_pos{cs:List Value}(h:Fz [] n TS2 w (fun w=>TyData w (K3 ns ps k) cs))(hk:k<ns.length)(hk2:k<ps.length)(h0:0<k)(hb:Blk w b 3 #[.int .i64 ps[k]]):Fz [] w.heap.size TS2 w (fun w=>TyData w (K3 ns ps (k+1)) (cs++[.string ns[k],.slice (some ⟨b,0,none⟩) 1 1])):=by
 rw[Bq,hierAt_pos hk hk2 h0]
 exact(h.and (Fz.blk (X:=[]) hb (by simp) (Ok dE dE dE _))).imp (fun _ h=> .snoc (x:=⟨ns[k],[ps[k]]⟩) h.1 ⟨by show 1<=vJ;decide,fun _=>⟨b,0,rfl,h.2.lt,fun j hj=>by
  have:j=0:=by simp at hj;omega
  subst this
  exact h.2.cell rfl⟩⟩)
section
abbrev cG:Array Value:=#[.slice none 0 0,.slice none 0 0,.slice none 0 0,.slice none 0 0,.slice none 0 0]
inductive RlCs(w:World):List Rl->List Value->Prop
 | nil:RlCs w [] []
 | cons {r:Rl} {G S B:Option Addr} {gn cg cs cb:Nat} {l:List Rl} {vs:List Value} (hn:gn=r.gr.length) (hG:NodesIn w G r.gr) (hS:SimsIn w S r.mean.type.args) (hT:TmsIn w B r.mean.args) (t:RlCs w l vs):RlCs w (r::l) (.string r.name:: .slice G gn cg:: .int .i64 r.kids:: .int .i64 r.wt:: .int .i64 r.mean.kind:: .string r.mean.name:: .int .i64 r.mean.index:: .string r.mean.type.base:: .slice S r.mean.type.args.length cs:: .slice B r.mean.args.length cb::vs)
def rlC(r:Rl)(G S B:Option Addr)(cg cs cb:Nat):List Value:=[.string r.name,.slice G r.gr.length cg,.int .i64 r.kids,.int .i64 r.wt,.int .i64 r.mean.kind,.string r.mean.name,.int .i64 r.mean.index,.string r.mean.type.base,.slice S r.mean.type.args.length cs,.slice B r.mean.args.length cb]
theorem RlCs.len{l:List Rl}(h:RlCs w l vs):vs.length=l.length*10:=by
 induction h with
 | nil=>rfl
 | cons _ _ _ _ _ ih=>simp only[List.length_cons,ih];omega
theorem RlCs.get{l:List Rl}(h:RlCs w l vs):∀ k (hk:k<l.length),∃ G cg S cs B cb,(∀ j v,(rlC (l[k]) G S B cg cs cb)[j]? =some v->vs[k*10+j]? =some v)/\NodesIn w G (l[k]).gr/\SimsIn w S (l[k]).mean.type.args/\TmsIn w B (l[k]).mean.args:=by
 induction h with
 | nil=>intro k hk;simp at hk
 | @cons r G S B gn cg cs cb l vs hn hG hS hT t ih=>
  intro k hk
  match k,hk with
  | 0,_=>
   subst hn;refine⟨G,cg,S,cs,B,cb,fun j v hj=>?_,hG,hS,hT⟩
   match j,hj with
   | 0,hj=>exact hj
   | 1,hj=>exact hj
   | 2,hj=>exact hj
   | 3,hj=>exact hj
   | 4,hj=>exact hj
   | 5,hj=>exact hj
   | 6,hj=>exact hj
   | 7,hj=>exact hj
   | 8,hj=>exact hj
   | 9,hj=>exact hj
   | _+10,hj=>cases hj
  | k+1,hk=>
   obtain⟨G',cg',S',cs',B',cb',h1,h2⟩:=ih k (by simpa using hk);refine⟨G',cg',S',cs',B',cb',fun j v hj=>?_,h2⟩;rw[show (k+1)*10+j=k*10+j+10 by omega];exact h1 j v hj
theorem RlCs.rules{l:List Rl}(h:RlCs w l vs)(hb:Blk w b t vs.toArray)(hl:l.length<=vJ):RulesIn w (some ⟨b,0,none⟩) l:=
 ⟨hl,fun _=>⟨b,0,rfl,hb.lt,fun k hk=>by
  obtain⟨G,cg,S,cs,B,cb,h1,h2⟩:=h.get k hk
  exact⟨G,cg,S,cs,B,cb,Iv hb (fun j v hj=>by rw[List.getElem?_toArray,Nat.zero_add];exact h1 j v hj),h2⟩⟩⟩
theorem HW(xs:List ByteArray)(h:Blk w b t (xs.map Value.string).toArray):StrsD w (some ⟨b,0,none⟩) xs:=
 fun _=>⟨b,0,rfl,h.lt,fun k hk=>h.cell (by simp[hk])⟩
def RowV(w:World)(r:List Int)(v:Value):Prop:=∃ A c,v= .slice A r.length c/\IntsIn w A r/\0<r.length/\r.length<=1000
inductive RowVs(w:World):List (List Int)->List Value->Prop
 | nil:RowVs w [] []
 | cons {r:List Int} {rs:List (List Int)} {v:Value} {vs:List Value} (h:RowV w r v) (t:RowVs w rs vs):RowVs w (r::rs) (v::vs)
theorem RowVs.pos{rs:List (List Int)}(h:RowVs w rs vs):∀ r∈rs,0<r.length/\r.length<=1000:=by
 induction h with
 | nil=>intro r hr;cases hr
 | cons h _ ih=>
  intro r hr;rcases ax.1 hr with rfl|hr
  ·obtain⟨_,_,_,_,h3,h4⟩:=h;exact⟨h3,h4⟩
  ·exact ih r hr
theorem RowVs.get{rs:List (List Int)}(h:RowVs w rs vs):∀ k (hk:k<rs.length),∃ A c,vs[k]? =some (.slice A (rs[k]).length c)/\IntsIn w A rs[k]:=by
 induction h with
 | nil=>intro k hk;simp at hk
 | cons h _ ih=>
  intro k hk
  match k,hk with
  | 0,_=>obtain⟨A,c,h1,h2,_⟩:=h;exact⟨A,c,by rw[h1];rfl,h2⟩
  | k+1,hk=>exact ih k (by simpa using hk)
theorem xx{rs:List (List Int)}(h:Blk w b t vs.toArray)(hr:RowVs w rs vs)(hl:rs.length<=1000):RowsIn w (some ⟨b,0,none⟩) rs:=
 ⟨hl,hr.pos,fun _=>⟨b,0,rfl,h.lt,fun k hk=>by
  obtain⟨A,c,h1,h2⟩:=hr.get k hk
  exact⟨A,c,h.cell (by simpa using h1),h2⟩⟩⟩
def kidsAt:Nat->Int->List Rl->List Rl
 | _,_,[]=>[]
 | 0,z,r::l=>⟨r.name,r.gr,z,r.wt,r.mean⟩::l
 | k+1,z,r::l=>r::kidsAt k z l
theorem RlCs.kids{l:List Rl}(h:RlCs w l vs)(z:Int):∀ k,k<l.length->RlCs w (kidsAt k z l) (vs.set (k*10+2) (.int .i64 z)):=by
 induction h with
 | nil=>intro k hk;simp at hk
 | @cons r G S B gn cg cs cb l vs hn hG hS hT t ih=>
  intro k hk
  match k,hk with
  | 0,_=>exact .cons (r:=⟨r.name,r.gr,z,r.wt,r.mean⟩) hn hG hS hT t
  | k+1,hk=>
   rw[show (k+1)*10+2=k*10+2+10 by omega];exact .cons hn hG hS hT (ih k (by simpa using hk))
def GmD(T:List Ty)(F:List Ft)(R:List Rl)(L:List Lx)(S:List Nd)(w0 w:World)(v:Value):Prop:=
 ∃ At ct Bf cf br cells A cap AS cst n,v= .agg #[.slice At T.length ct,.slice Bf F.length cf,.slice (some ⟨br,0,none⟩) R.length R.length,.slice A L.length cap,.slice AS S.length cst]/\w0.heap.size<=br/\L.length<=cap/\Blk w br 50 cells/\Fz [] n [50] w (fun w=>TypesIn w At T/\FeatsIn w Bf F/\RlCs w R cells.toList/\LexesIn w A L/\NodesIn w AS S)
def IsP(xs:List Int)(w:World)(v:Value):Prop:=∃ b,v= .slice (some ⟨b,0,none⟩) xs.length xs.length/\IntsIn w (some ⟨b,0,none⟩) xs
def RsP(rs:List (List Int))(w:World)(v:Value):Prop:=∃ b,v= .slice (some ⟨b,0,none⟩) rs.length rs.length/\RowsIn w (some ⟨b,0,none⟩) rs
def GrP(rs:List (List Int))(w:World)(v:Value):Prop:=∃ G c n,v= .agg #[.slice G rs.length c]/\Fz [] n TS w (fun w=>NodesIn w G (rs.map K5))
theorem IsP.tr0(h:IsP xs w v)(hs:Same [] w w1):IsP xs w1 v:=by
 obtain⟨b,e,h⟩:=h;exact⟨b,e,h.mono hs.bel⟩
theorem jW{P:Program}{n:Nw}{f:Fr}(xs:List Int){len d:Nat}{t ty:TypeId}{pos:String}{af:Array Edge}{parts:Array (Nat×Operand)}(hv:parts.toList.map (fun p=>(p.1,ev n f p.2))=xs.zipIdx.map (fun x=>(x.2,Value.int .i64 x.1)))
  (hu:P.underlying t=some (.slice e)) (hs:(P.info? e).map (·.size)=some 1) (hz:(P.info? e).map (·.zero)=some (some (.int .i64 0))) (hn:len=xs.length:=by rfl) (hl:¬len*1>2^24:=by decide) (hl0:len*1≠0:=by decide)
  (a1:Instr.fill (fun i=>some (i*1,1)) ((Array.range (len*1)).map ((Value.int .i64 0).cells[· % (Value.int .i64 0).cells.size]!)) (xs.zipIdx.map (fun x=>(x.2,Value.int .i64 x.1)))=some (flat (xs.zipIdx.map (fun x=>(x.2,Value.int .i64 x.1)))):=by kernel_rfl)
  (hcs:flat (xs.zipIdx.map (fun x=>(x.2,Value.int .i64 x.1)))=(xs.map (Value.int .i64)).toArray:=by kernel_rfl) (hm:xs.length<=vJ:=by decide):OS P n f w ⟨some d,.buildSlice t len parts,ty,pos,af,none⟩ (fun v w''=>Same [] w w''/\IsP xs w'' v/\SK false w w'' v):=
 jK (fun _ _ K=>qV _ hv hu hs hz hl hl0 a1 hcs (fun b w1 hb hs hr=>K _ _ ⟨hs,⟨b,by rw[hn],qY xs hb hm⟩,y8⟩))
theorem RsP.tr0{xs:List (List Int)}(h:RsP xs w v)(hs:Same [] w w1):RsP xs w1 v:=by
 obtain⟨b,e,h⟩:=h;exact⟨b,e,h.mono hs.bel⟩
theorem GrP.tr0{xs:List (List Int)}{w w1:World}{v:Value}(h:GrP xs w v)(hs:Same [] w w1):GrP xs w1 v:=by
 obtain⟨G,c,n,e,h⟩:=h;exact⟨G,c,n,e,h.tr0 hs⟩
section fz
variable {X:List Nat} {n:Nat} {w w':World} {P:World->Prop}
theorem Fz.add{bG base:Nat}{xs:List Value}(h:Fz X n TS w P)(hS:Same (bG::aL A) w w')(hb:Blk w bG 32 cs)(ho:Own w base 46 9 A k cap xs):Fz X n TS w' P:=
 h.trX hS (fun g hg=>by
  rcases ax.1 hg with e|hg
  ·exact .inr (.inr ⟨_,_,by rw[e];exact hb,.inl dE⟩)
  ·obtain⟨cs,h⟩:=YX ho g hg
   exact .inr (.inr ⟨_,_,h,.inl dE⟩))
end fz
def zGr:Array Value:=cG
def tyET:Ts:= .f (.b false) (.b true)
def tyEET:Ts:= .f (.b false) tyET
section st
structure SmC(T:List Ty)(F:List Ft)(R:List Rl)(b0 b1 b2 b3 b4 b5 b23 b93 base capt c12 c15:Nat)(At A12 A15:Option Addr)(cr:Array Value)(w wc:World):Prop where
 bel:Bel w wc
 bs:base<=wc.heap.size
 k0:Blk wc b0 32 zGr
 k1:Blk wc b1 41 #[.string ⟨#[101]⟩,.slice none 0 0]
 k2:Blk wc b2 41 #[.string ⟨#[116]⟩,.slice none 0 0]
 k3:Blk wc b3 41 #[.string tyET.sm.base,.slice A12 tyET.sm.args.length c12]
 k4:Blk wc b4 41 #[.string tyEET.sm.base,.slice A15 tyEET.sm.args.length c15]
 k93:Blk wc b93 50 cr
 dt:Fz [] base TS wc (fun w=>TypesIn w At T/\FeatsIn w (some ⟨b23,0,none⟩) F/\RlCs w R cr.toList)
 p12:Fz [] base TS wc (fun w=>SimsIn w A12 tyET.sm.args)
 p15:Fz [] base TS wc (fun w=>SimsIn w A15 tyEET.sm.args)
 lo5:w.heap.size<=b5
 lo93:w.heap.size<=b93
 o:b0<b5/\b1<b5/\b2<b5/\b3<b5/\b4<b5/\b5<b93
 l:b5<base/\b93<base
variable {T F R b0 b1 b2 b3 b4 b5 b23 b93 base capt c12 c15 At A12 A15 cr}
theorem SmC.tr{w wc w1:World}{Z:List Nat}(h:SmC T F R b0 b1 b2 b3 b4 b5 b23 b93 base capt c12 c15 At A12 A15 cr w wc)(hs:Same Z wc w1)(hz:∀ x∈Z,(x=b5\/base<=x)/\∃ t cs,Blk wc x t cs/\Sp TS t cs):SmC T F R b0 b1 b2 b3 b4 b5 b23 b93 base capt c12 c15 At A12 A15 cr w w1:=by
 obtain⟨o0,o1,o2,o3,o4,o9⟩:=h.o;obtain⟨l5,l9⟩:=h.l;have hf:∀ g∈Z,base<=g\/g∈[]\/∃ t cs,Blk wc g t cs/\Sp TS t cs:=fun g hg=> .inr (.inr (hz g hg).2)
 have lo5:=h.lo5;have lo93:=h.lo93
 exact { h with
  bel:=h.bel.tr hs (fun x hx=>by rcases(hz x hx).1 with e|e<;>omega)
  bs:=nLT h.bs hs.size
  k0:=h.k0.tr hs (fun hx=>by rcases(hz _ hx).1 with e|e<;>omega)
  k1:=h.k1.tr hs (fun hx=>by rcases(hz _ hx).1 with e|e<;>omega)
  k2:=h.k2.tr hs (fun hx=>by rcases(hz _ hx).1 with e|e<;>omega)
  k3:=h.k3.tr hs (fun hx=>by rcases(hz _ hx).1 with e|e<;>omega)
  k4:=h.k4.tr hs (fun hx=>by rcases(hz _ hx).1 with e|e<;>omega)
  k93:=h.k93.tr hs (fun hx=>by rcases(hz _ hx).1 with e|e<;>omega)
  dt:=h.dt.trX hs hf
  p12:=h.p12.trX hs hf
  p15:=h.p15.trX hs hf }
theorem SmC.tr0{wc:World}(h:SmC T F R b0 b1 b2 b3 b4 b5 b23 b93 base capt c12 c15 At A12 A15 cr w wc)(hs:Same [] wc w1):SmC T F R b0 b1 b2 b3 b4 b5 b23 b93 base capt c12 c15 At A12 A15 cr w w1:=h.tr hs (by simp)
theorem SmC.add{wc:World}{xs:List Value}(h:SmC T F R b0 b1 b2 b3 b4 b5 b23 b93 base capt c12 c15 At A12 A15 cr w wc)(hS:Same (b5::aL A) wc w1)(hb:Blk wc b5 32 cs)(ho:Own wc base 46 9 A k cap xs):SmC T F R b0 b1 b2 b3 b4 b5 b23 b93 base capt c12 c15 At A12 A15 cr w w1:=
 h.tr hS (fun g hg=>by
  rcases ax.1 hg with e|hg
  ·exact⟨.inl e,_,_,by rw[e];exact hb,.inl dE⟩
  ·obtain⟨cs,h⟩:=YX ho g hg
   exact⟨.inr (ho.lt g hg).1,_,_,h,.inl dE⟩)
variable (T F R b0 b1 b2 b3 b4 b5 b23 b93 base capt c12 c15 At A12 A15 cr)
def SmSt(k:Nat)(lx:List Lx)(w wc:World):Prop:=SmC T F R b0 b1 b2 b3 b4 b5 b23 b93 base capt c12 c15 At A12 A15 cr w wc/\∃ A cap xs nL,Blk wc b5 32 #[.slice At 15 capt,.slice (some ⟨b23,0,none⟩) 5 5,.slice (some ⟨b93,0,none⟩) 6 6,.slice A k cap,.slice none 0 0]/\Own wc base 46 9 A k cap xs/\Fz [] nL TS wc (fun w=>LxData w lx xs)
variable {T F R b0 b1 b2 b3 b4 b5 b23 b93 base capt c12 c15 At A12 A15 cr}
theorem SmSt.tr0{k:Nat}{lx:List Lx}{w wc w1:World}(h:SmSt T F R b0 b1 b2 b3 b4 b5 b23 b93 base capt c12 c15 At A12 A15 cr k lx w wc)(hs:Same [] wc w1):SmSt T F R b0 b1 b2 b3 b4 b5 b23 b93 base capt c12 c15 At A12 A15 cr k lx w w1:=by
 obtain⟨hC,A,cap,xs,nL,hb5,ho,hL⟩:=h;exact⟨hC.tr0 hs,A,cap,xs,nL,hb5.tr0 hs,ho.tr0 hs,hL.tr0 hs⟩
end st
def starB(g:List Nd):Bool:=(List.range g.length).all (fun i=>decide (i=0)||(List.range i).any (fun j=>(Ow g (j:Int)).ln.any (fun x=>decide (x.2=(i:Int)))))
theorem unr_star{g:List Nd}(h:starB g=true):Kq g= -1:=by
 refine(O1 (.inl ⟨rfl,?_⟩)).symm;intro i
 induction i using Nat.strongRecOn with
 | ind i ih=>
  intro hi;have h1:=aC.1 h i (aw.2 hi);by_cases e:i=0
  ·subst e;exact .zero
  ·simp only[e,decide_false,Bool.false_or]at h1
   obtain⟨j,hj,h2⟩:=List.any_eq_true.1 h1;obtain⟨x,hx,h3⟩:=List.any_eq_true.1 h2;have hji:=aw.1 hj;have hjl:j<g.length:=by omega
   have hx2:x∈(g[j]).ln:=by
    grind[Ow,List.getD]
   have hr:=Rch.step (ih j hji hjl) hjl hx2
   grind
def grB(T:List Ty)(F:List Ft)(g:List Nd):Bool:=decide ((j9 T.length F.length g).1=0)&&decide (tyF T F g=(0,0))&&starB g
theorem grB_ok{T:List Ty}{F:List Ft}{g:List Nd}(h:grB T F g=true):xk T F g=(0,0):=by
 simp only[grB,Bool.and_eq_true,decide_eq_true_eq]at h
 grind[IQ,unr_star]
def tvB(x:Tv):Bool:=decide ((twk x.tm 1 0 0).2.1=0)&&(tyv [] x).isSome
theorem tvB_ok{x:Tv}(h:tvB x=true):tmF x.tm=(0,0):=by
 simp only[tvB,Bool.and_eq_true,decide_eq_true_eq]at h;obtain⟨τ,hτ⟩:=a6.1 h.2;unfold tmF;rw[if_pos h.1,if_pos ⟨x,τ,rfl,hτ⟩]
structure RlS where
 name:ByteArray
 rows:List (List Int)
 kids:Int
 wt:Int
 mean:Tv
def RlS.rl(r:RlS):Rl:=⟨r.name,r.rows.map K5,r.kids,r.wt,r.mean.tm⟩
structure LxS where
 word:ByteArray
 rows:List (List Int)
 wt:Int
 mean:Tv
def LxS.lx(r:LxS):Lx:=⟨r.word,r.rows.map K5,r.wt,r.mean.tm⟩
def RlP(r:RlS)(w:World)(v:Value):Prop:=∃ G c n S cs B cb m,v= .agg #[.string r.name,.slice G r.rows.length c,.int .i64 r.kids,.int .i64 r.wt,.int .i64 r.mean.tm.kind,.string r.mean.tm.name,.int .i64 r.mean.tm.index,.string r.mean.tm.type.base,.slice S r.mean.tm.type.args.length cs,.slice B r.mean.tm.args.length cb]/\Fz [] n TS w (fun w=>NodesIn w G (r.rows.map K5))/\Fz [] m TS w (fun w=>SimsIn w S r.mean.tm.type.args/\TmsIn w B r.mean.tm.args)
theorem RlP.tr0{r:RlS}{w w1:World}{v:Value}(h:RlP r w v)(hs:Same [] w w1):RlP r w1 v:=by
 obtain⟨G,c,n,S,cs,B,cb,m,e,h1,h2⟩:=h;exact⟨G,c,n,S,cs,B,cb,m,e,h1.tr0 hs,h2.tr0 hs⟩
theorem Fz.rcons{r:RlS}{G S B:Option Addr}{cs cb:Nat}{l:List Rl}(hG:Fz [] n TS w (fun w=>NodesIn w G (r.rows.map K5)))(hM:Fz [] m TS w (fun w=>SimsIn w S r.mean.tm.type.args/\TmsIn w B r.mean.tm.args))(hR:Fz [] k TS w (fun w=>RlCs w l vs)):
  Fz [] w.heap.size TS w (fun w=>RlCs w (r.rl::l) (.string r.name:: .slice G r.rows.length c:: .int .i64 r.kids:: .int .i64 r.wt:: .int .i64 r.mean.tm.kind:: .string r.mean.tm.name:: .int .i64 r.mean.tm.index:: .string r.mean.tm.type.base:: .slice S r.mean.tm.type.args.length cs:: .slice B r.mean.tm.args.length cb::vs)):=
 (hG.and (hM.and hR)).imp (fun _ h=>RlCs.cons (r:=r.rl) (by simp[RlS.rl]) h.1 h.2.1.1 h.2.1.2 h.2.2)
def rlB(T:List Ty)(F:List Ft)(r:RlS):Bool:=yJ r.name && !decide (VQ r.rl)&&grB T F r.rl.gr&&gX r.rl.gr r.kids&&tvB r.mean
def lxB(T:List Ty)(F:List Ft)(r:LxS):Bool:=kw r.word && !decide (Mk r.lx)&&grB T F r.lx.gr&&tvB r.mean
def rlsB(T:List Ty)(F:List Ft)(R:List RlS):Bool:=(List.range R.length).all (fun i=>match R[i]? with
 | none=>false
 | some r=>rlB T F r && !seen ((R.take i).map (·.name)) r.name)
def gramB(T:List Ty)(F:List Ft)(R:List RlS)(X:List LxS)(S:List Nd):Bool:=decide ((qK T F).1=0)&&decide (3<F.length)&&decide (R.length<=40)&&decide (X.length<=100)&&rlsB T F R&&X.all (lxB T F)&&grB T F S
theorem rlB_ok{T:List Ty}{F:List Ft}{r:RlS}(h:rlB T F r=true):yJ r.rl.name=true/\K0 T F r.rl=0:=by
 simp only[rlB,Bool.and_eq_true,Bool.not_eq_true',decide_eq_false_iff_not]at h;refine⟨h.1.1.1.1,?_⟩;rw[rl_ok h.1.1.1.2 (by rw[grB_ok h.1.1.2]) h.1.2];exact congrArg (·.1) (tvB_ok h.2)
theorem lxB_ok{T:List Ty}{F:List Ft}{r:LxS}(h:lxB T F r=true):PY T F r.lx=0:=by
 simp only[lxB,Bool.and_eq_true,Bool.not_eq_true',decide_eq_false_iff_not]at h;rw[lx_ok h.1.1.1 h.1.1.2 (by rw[grB_ok h.1.2])];exact congrArg (·.1) (tvB_ok h.2)
theorem rlsB_ok{T:List Ty}{F:List Ft}{R:List RlS}(h:rlsB T F R=true){i:Nat}(hi:i<R.length):uj T F (R.map RlS.rl) i=0:=by
 have h1:=aC.1 h i (aw.2 hi);simp only[List.getElem?_eq_getElem hi,Bool.and_eq_true,Bool.not_eq_true']at h1;have hi2:i<(R.map RlS.rl).length:=by simpa using hi
 have e:(R.map RlS.rl)[i]'hi2=(R[i]).rl:=by simp
 have e2:(((R.map RlS.rl).take i).map (·.name))=(R.take i).map (·.name):=by rw[<- List.map_take,List.map_map];rfl
 obtain⟨a,b⟩:=rlB_ok h1.1;rw[rnF hi2 (by rw[e];exact a) (by rw[e,e2];exact h1.2),e];exact b
theorem Ev{f:Nat->Int}:∀(m i:Nat),(∀ k,i<=k->k<i+m->f k=0)->qQ f i m=(0,0)
 | 0,_,_=>rfl
 | m+1,i,h=>by
  rw[qQ,if_neg (fun e=>e (h i (Nat.le_refl _) oG))]
  exact Ev m (i+1) (fun k h1 h2=>h k oG oG)
theorem Pk{f:Nat->Int}(h:∀ i,i<n->f i=0):qQ f 0 n=(0,0):=Ev n 0 (fun k _ h2=>h k oG)
theorem gram_ok{T:List Ty}{F:List Ft}{R:List RlS}{X:List LxS}{S:List Nd}(h:gramB T F R X S=true):yj T F (R.map RlS.rl) (X.map LxS.lx) S=(0,0):=by
 simp only[gramB,Bool.and_eq_true,decide_eq_true_eq]at h;obtain⟨⟨⟨⟨⟨⟨h1,h2⟩,h3⟩,h4⟩,h5⟩,h6⟩,h7⟩:=h;refine gr_ok h1 oG (by simp only[List.length_map];omega) (Pk (fun i hi=>rlsB_ok h5 (by simpa using hi))) (Pk (fun i hi=>?_)) (by rw[grB_ok h7]);have hi2:i<X.length:=by simpa using hi
 rw[lnF hi,show (X.map LxS.lx)[i]'hi=(X[i]).lx by simp];exact lxB_ok (aC.1 h6 _ (am hi2))
end
theorem QJ{f:Nat->Int}:∀(m i:Nat),(qQ f i m).1=0->∀ k,i<=k->k<i+m->f k=0
 | 0,i,_,k,h1,h2=>by omega
 | m+1,i,h,k,h1,h2=>by
  by_cases e:f i=0
  ·rw[qQ,if_neg (fun h=>h e)]at h
   by_cases ek:k=i
   ·rw[ek];exact e
   ·exact QJ m (i+1) h k oG oG
  ·rw[qQ,if_pos e]at h
   exact absurd h e
theorem OV{f:Nat->Int}:∀(m i:Nat),(qQ f i m).1=0->qQ f i m=(0,0)
 | 0,i,_=>by rw[qQ]
 | m+1,i,h=>by
  by_cases e:f i=0
  ·rw[qQ,if_neg (fun h=>h e)]at h ⊢;exact OV m (i+1) h
  ·rw[qQ,if_pos e]at h;exact absurd h e
theorem gr_nums{fs:List Ft}{rs:List Rl}{xs:List Lx}{st:List Nd}(h:(yj l fs rs xs st).1=0):rs.length<=40/\xs.length<=100/\(∀ r∈rs,0<=r.wt/\r.wt<=1000000)/\(∀ x∈xs,0<=x.wt/\x.wt<=1000000)/\∀ r∈rs,1<=r.kids:=by
 have h1:(qK l fs).1=0:=by
  refine aG (fun e=>?_);rw[M8 e]at h;exact e h
 have h2:¬fs.length<=3:=fun e=>by rw[Bx h1 e]at h;cases h
 have h3:¬(40<rs.length\/100<xs.length):=fun e=>by rw[Ej h1 h2 e]at h;cases h
 have h4:(qQ (uj l fs rs) 0 rs.length).1=0:=by
  refine aG (fun e=>?_);rw[Xj (c:=(qQ (uj l fs rs) 0 rs.length).1) (i:=(qQ (uj l fs rs) 0 rs.length).2) h1 h2 h3 rfl e]at h;exact e h
 have h40:qQ (uj l fs rs) 0 rs.length=(0,0):=OV _ _ h4;have h5:(qQ (Jy l fs xs) 0 xs.length).1=0:=by
  refine aG (fun e=>?_);rw[Wq (c:=(qQ (Jy l fs xs) 0 xs.length).1) (i:=(qQ (Jy l fs xs) 0 xs.length).2) h1 h2 h3 h40 rfl e]at h;exact e h
 have key:∀ r∈rs,¬VQ r:=by
  intro r hr;obtain⟨i,hi,rfl⟩:=aW hr;have q5:=QJ _ _ h4 i (ag _) oG;have q6:yJ (rs[i]).name=true:=by
   cases e:yJ (rs[i]).name with
   | true=>rfl
   | false=>rw[rn10 hi e]at q5;cases q5
  have q7:seen ((rs.take i).map (·.name)) (rs[i]).name=false:=by
   cases e:seen ((rs.take i).map (·.name)) (rs[i]).name with
   | false=>rfl
   | true=>rw[rn7 hi q6 e]at q5;cases q5
  rw[rnF hi q6 q7]at q5;intro e;rw[F9 e]at q5;cases q5
 refine⟨by omega,by omega,fun r hr=>?_,fun x hx=>?_,fun r hr=>?_⟩
 ·have:=key r hr;unfold VQ at this;omega
 ·obtain⟨i,hi,rfl⟩:=aW hx
  have q5:=QJ _ _ h5 i (ag _) oG;rw[lnF hi]at q5;have q6:kw (xs[i]).word=true:=by
   cases e:kw (xs[i]).word with
   | true=>rfl
   | false=>rw[Dx e]at q5;cases q5
  have:¬Mk xs[i]:=fun e=>by rw[FK q6 e]at q5;cases q5
  unfold Mk at this;omega
 ·have:=key r hr;unfold VQ at this;omega
theorem rc_any(s:ByteArray)(w:World)(hsz:s.size<9223372036854775807):Calls Tryz.prog 76 #[.string s] w fun e w'=>e= .returned (.int .i64 (((ch s 0).length:Nat):Int))/\Bel w w':=by
 refine enT Tryz.func76 Tryz.ntmps76 rfl rfl fun hB=>?_;refine zn9 ?_;refine wl_rg U9 rfl (fun b4 w1 a1 s1 hr=>?_);have lo4:=hB.ob hr;refine zn3 ?_;refine qx [2,5,6,7,8] (fun m g w'=>∃ p n:Nat,p<=s.size/\m=s.size-p/\n<=p/\g 2= .int .i64 n/\n+(ch s p).length=(ch s 0).length/\Bel w w'/\ItIn w' b4 s p) (s.size) ?_ (fun m g2 w2 hI=>?_)
 ·exact⟨0,0,ag _,rfl,ah _,rfl,Nat.zero_add _,hB.u,a1⟩
 obtain⟨p,n,hp,hm,hnp,h2,hc,hB,a1⟩:=hI;refine zX 2 _ h2 nu (zn2 ?_);rcases aQ (p) (s).size with hnlt|hnge
 ·refine wl_nx a1 rfl hnlt (fun w3 hq s2=>?_);replace a1:=hq;have hwp:=Yw hnlt;have hwl:=Rz hnlt;rw[EQ hnlt,List.length_cons]at hc;refine wl (vY (v:= .bool true) rfl rfl) (uw ?_);refine x8 (s.size-(p+wdt s p)) oG agA ?_;exact⟨p+wdt s p,n+1,hwl,rfl,by omega,rfl,by omega,hB.u,a1⟩
 refine wl (r_ne a1 rfl (Nat.not_lt.2 hnge)) ?_;rw[Wk (Nat.not_lt.2 hnge),List.length_nil,Nat.add_zero]at hc;refine wl (vY (v:= .bool false) rfl rfl) (PK ?_);exact⟨by rw[<- hc];rfl,hB⟩
theorem XK(s:ByteArray)(w:World)(h8:8<=s.size):Calls Tryz.prog 94 #[.string s] w fun e w'=>e= .returned (.int .u64 ((wo 7 s:Nat):Int))/\Bel w w':=by
 have q0:=ov s 0;have q1:=ov s 1;have q2:=ov s 2;have q3:=ov s 3;have q4:=ov s 4;have q5:=ov s 5;have q6:=ov s 6;have q7:=ov s 7;have r0:=uQ s (k:=0) dE;have r1:=uQ s (k:=1) dE;have r2:=uQ s (k:=2) dE;have r3:=uQ s (k:=3) dE;have r4:=uQ s (k:=4) dE;have r5:=uQ s (k:=5) dE;have r6:=uQ s (k:=6) dE;have r7:=uQ s (k:=7) dE;refine enT Tryz.func94 Tryz.ntmps94 rfl rfl fun hB=>?_;refine yW ?_;refine oZ kR kR (fun w1 s1=>?_);refine zn1 ?_;refine ws (u7 (i:=0) U9 rfl rfl oG) (ws (E2 U5 U99 rfl (P0 oG)) (zn1 ?_));refine ws (u7 (i:=1) U9 rfl rfl oG) (ws (E2 U5 U99 rfl (P0 oG)) (ws (MX (b:=8) rfl rfl dE oG rfl) (ws (VX rfl rfl r0 oG) (zn1 ?_))));refine ws (u7 (i:=2) U9 rfl rfl oG) (ws (E2 U5 U99 rfl (P0 oG)) (ws (MX (b:=16) rfl rfl dE oG rfl) (ws (VX rfl rfl r1 oG) (zn1 ?_))));refine ws (u7 (i:=3) U9 rfl rfl oG) (ws (E2 U5 U99 rfl (P0 oG)) (ws (MX (b:=24) rfl rfl dE oG rfl) (ws (VX rfl rfl r2 oG) (zn1 ?_))));refine ws (u7 (i:=4) U9 rfl rfl oG) (ws (E2 U5 U99 rfl (P0 oG)) (ws (MX (b:=32) rfl rfl dE oG rfl) (ws (VX rfl rfl r3 oG) (zn1 ?_))));refine ws (u7 (i:=5) U9 rfl rfl oG) (ws (E2 U5 U99 rfl (P0 oG)) (ws (MX (b:=40) rfl rfl dE oG rfl) (ws (VX rfl rfl r4 oG) (zn1 ?_))));refine ws (u7 (i:=6) U9 rfl rfl oG) (ws (E2 U5 U99 rfl (P0 oG)) (ws (MX (b:=48) rfl rfl dE oG rfl) (ws (VX rfl rfl r5 oG) (zn1 ?_))));refine ws (u7 (i:=7) U9 rfl rfl oG) (ws (E2 U5 U99 rfl (P0 oG)) (ws (MX (b:=56) rfl rfl dE oG rfl) (ws (VX rfl rfl r6 oG) (zn1 ?_))));refine ux (zn3 ?_);exact⟨rfl,hB.u⟩
structure Rw where
 kind:Int
 name:ByteArray
 typ:Sm
 index:Int
 kids:List Int
 up:Int
def rws:Int->Nat->Tv->List Rw
 | up,_,.con nm τ=>[⟨1,nm,τ.sm,0,[],up⟩]
 | up,_,.var i=>[⟨2,⟨#[]⟩,smZ,i,[],up⟩]
 | up,p,.abs τ x=>⟨3,⟨#[]⟩,τ.sm,0,[((p+1:Nat):Int)],up⟩::rws p (p+1) x
 | up,p,.app x y=>⟨4,⟨#[]⟩,smZ,0,[((p+1:Nat):Int),((p+1+x.size:Nat):Int)],up⟩::(rws p (p+1) x++rws p (p+1+x.size) y)
theorem Jj:∀(up:Int) (p:Nat) (v:Tv),(rws up p v).length=v.size
 | _,_,.con _ _=>rfl
 | _,_,.var _=>rfl
 | _,p,.abs τ x=>by simp only[rws,List.length_cons,Jj _ _ x,Tv.size]
 | _,p,.app x y=>by simp only[rws,List.length_cons,List.length_append,Jj _ _ x,Jj _ _ y,Tv.size]
def RwAt(l:List Rw)(p:Nat)(s:List Rw):Prop:=∀ j (h:j<s.length),l[p+j]? =some s[j]
theorem RwAt.app{l:List Rw}{p:Nat}{s t:List Rw}(h:RwAt l p (s++t)):RwAt l p s/\RwAt l (p+s.length) t:=by
 refine⟨fun j hj=>?_,fun j hj=>?_⟩
 ·have:=h j (by rw[List.length_append];omega)
  grind
 ·have:=h (s.length+j) (by rw[List.length_append];omega)
  grind
theorem RwAt.cons{l:List Rw}{p:Nat}{r:Rw}{t:List Rw}(h:RwAt l p (r::t)):l[p]? =some r/\RwAt l (p+1) t:=by
 refine⟨h 0 (by simp),fun j hj=>?_⟩;have:=h (j+1) (by rw[List.length_cons];omega)
 grind
inductive Chn(l:List Rw):Int->List Ts->Prop
 | nil:Chn l (-1) []
 | abs {u:Nat} {r:Rw} {τ:Ts} {Γ:List Ts} (h:l[u]? =some r) (hk:r.kind=3) (ht:r.typ=τ.sm) (hu:r.up<u) (hc:Chn l r.up Γ):Chn l u (τ::Γ)
 | app {u:Nat} {r:Rw} {Γ:List Ts} (h:l[u]? =some r) (hk:r.kind≠3) (hu:r.up<u) (hc:Chn l r.up Γ):Chn l u Γ
def JY(l:List Rw):Nat->List Ts->Tv->Prop
 | p,_,.con _ τ=>∃ r,l[p]? =some r/\r.kind=1/\r.typ=τ.sm
 | p,Γ,.var i=>∃ r,l[p]? =some r/\r.kind=2/\r.index=i/\r.up<p/\Chn l r.up Γ
 | p,Γ,.abs τ x=>(∃ r,l[p]? =some r/\r.kind=3/\r.typ=τ.sm/\r.kids= [((p+1:Nat):Int)])/\JY l (p+1) (τ::Γ) x
 | p,Γ,.app x y=>(∃ r,l[p]? =some r/\r.kind=4/\r.kids= [((p+1:Nat):Int),((p+1+x.size:Nat):Int)])/\JY l (p+1) Γ x/\JY l (p+1+x.size) Γ y
theorem F6{l:List Rw}:∀ {v:Tv} {up:Int} {p:Nat} {Γ:List Ts},RwAt l p (rws up p v)->Chn l up Γ->up<p->JY l p Γ v
 | .con nm τ,up,p,Γ,h,hc,hu=>⟨_,(h.cons).1,rfl,rfl⟩
 | .var i,up,p,Γ,h,hc,hu=>⟨_,(h.cons).1,rfl,rfl,hu,hc⟩
 | .abs τ x,up,p,Γ,h,hc,hu=>by
  obtain⟨h1,h2⟩:=RwAt.cons h
  exact⟨⟨_,h1,rfl,rfl,rfl⟩,F6 h2 (.abs h1 rfl rfl hu hc) oG⟩
 | .app x y,up,p,Γ,h,hc,hu=>by
  obtain⟨h1,h2⟩:=RwAt.cons h
  obtain⟨h3,h4⟩:=h2.app
  rw[Jj]at h4
  have hC:Chn l p Γ:= .app h1 (show (4:Int)≠3 by decide) hu hc
  exact⟨⟨_,h1,rfl,rfl⟩,F6 h3 hC oG,F6 h4 hC oG⟩
def nds:List Ts->Tv->List (List Ts×Tv)
 | Γ,.con nm τ=>[(Γ,.con nm τ)]
 | Γ,.var i=>[(Γ,.var i)]
 | Γ,.abs τ x=>(Γ,.abs τ x)::nds (τ::Γ) x
 | Γ,.app x y=>(Γ,.app x y)::(nds Γ x++nds Γ y)
theorem E6:∀(Γ:List Ts) (v:Tv),(nds Γ v).length=v.size
 | _,.con _ _=>rfl
 | _,.var _=>rfl
 | _,.abs τ x=>by simp only[nds,List.length_cons,E6 _ x,Tv.size]
 | _,.app x y=>by simp only[nds,List.length_cons,List.length_append,E6 _ x,E6 _ y,Tv.size]
theorem Dz{l:List Rw}:∀ {v:Tv} {p:Nat} {Γ:List Ts},JY l p Γ v->v.ok Γ.length->(∀ σ∈Γ,σ.size<=200)->∀ j (h:j<(nds Γ v).length),JY l (p+j) (nds Γ v)[j].1 (nds Γ v)[j].2/\(nds Γ v)[j].2.ok (nds Γ v)[j].1.length/\(∀ σ∈(nds Γ v)[j].1,σ.size<=200)/\(nds Γ v)[j].2.size<=v.size/\((tyv Γ v).isSome=true->(tyv (nds Γ v)[j].1 (nds Γ v)[j].2).isSome=true)
 | .con nm τ,p,Γ,h,ho,hG,j,hj=>by
  obtain rfl:j=0:=by simp[nds]at hj;omega
  exact⟨h,ho,hG,ah _,id⟩
 | .var i,p,Γ,h,ho,hG,j,hj=>by
  obtain rfl:j=0:=by simp[nds]at hj;omega
  exact⟨h,ho,hG,ah _,id⟩
 | .abs τ x,p,Γ,h,ho,hG,j,hj=>by
  cases j with
  | zero=>exact⟨h,ho,hG,ah _,id⟩
  | succ j=>
   have:=Dz (v:=x) h.2 ho.2 (fun q hq=>by
    rcases ax.1 hq with rfl|hq
    ·exact ho.1
    ·exact hG q hq) j (by simp only[nds,List.length_cons]at hj;omega)
   obtain⟨a1,a2,a3,a5,a4⟩:=this
   have hp:p+(j+1)=p+1+j:=by omega
   refine⟨by rw[hp];exact a1,a2,a3,nLT a5 (by simp[Tv.size]),fun hs=>a4 ?_⟩
   simp only[tyv,Option.isSome_map]at hs
   exact hs
 | .app x y,p,Γ,h,ho,hG,j,hj=>by
  cases j with
  | zero=>exact⟨h,ho,hG,ah _,id⟩
  | succ j=>
   have hs:(tyv Γ (.app x y)).isSome=true->(tyv Γ x).isSome=true/\(tyv Γ y).isSome=true:=by
    intro e;simp only[tyv]at e
    split at e
    ·rename_i a r z h1 h2
     rw[h1,h2];exact⟨rfl,rfl⟩
    ·cases e
   by_cases hx:j<(nds Γ x).length
   ·obtain⟨a1,a2,a3,a5,a4⟩:=Dz (v:=x) h.2.1 ho.1 hG j hx
    have hp:p+(j+1)=p+1+j:=by omega
    have e:(nds Γ (.app x y))[j+1]=(nds Γ x)[j]:=by simp only[nds,List.getElem_cons_succ];exact List.getElem_append_left hx
    rw[e];exact⟨by rw[hp];exact a1,a2,a3,nLT a5 (by simp only[Tv.size];omega),fun k=>a4 (hs k).1⟩
   ·have hl:=E6 Γ x
    have hj2:j-x.size<(nds Γ y).length:=by simp only[nds,List.length_cons,List.length_append]at hj;omega
    obtain⟨a1,a2,a3,a5,a4⟩:=Dz (v:=y) h.2.2 ho.2 hG (j-x.size) hj2;have hp:p+(j+1)=p+1+x.size+(j-x.size):=by omega
    have e:(nds Γ (.app x y))[j+1]=(nds Γ y)[j-x.size]:=by
     simp only[nds,List.getElem_cons_succ];rw[List.getElem_append_right oG];simp only[hl]
    rw[e];exact⟨by rw[hp];exact a1,a2,a3,nLT a5 (by simp only[Tv.size];omega),fun k=>a4 (hs k).2⟩
def TyAt(l:List Rw)(p:Nat)(τ:Ts):Prop:=∀ Γ v,JY l p Γ v->tyv Γ v=some τ
theorem yq{α:Type}{o:Option α}{a b:α}(h:o=some a)(k:o=some b):a=b:=Option.some.inj (h.symm.trans k)
theorem TyAt.con{l:List Rw}{p:Nat}{r:Rw}{τ:Ts}(h:l[p]? =some r)(hk:r.kind=1)(ht:r.typ=τ.sm):TyAt l p τ:=by
 intro Γ v hv;cases v with
 | con nm σ=>
  obtain⟨r',h1,_,h2⟩:=hv;cases yq h h1;rw[Ts.sm_inj (h2.symm.trans ht)];rfl
 | var i=>obtain⟨r',h1,h2,_⟩:=hv;cases yq h h1;rw[hk]at h2;cases h2
 | abs σ x=>obtain⟨⟨r',h1,h2,_⟩,_⟩:=hv;cases yq h h1;rw[hk]at h2;cases h2
 | app x y=>obtain⟨⟨r',h1,h2,_⟩,_⟩:=hv;cases yq h h1;rw[hk]at h2;cases h2
theorem Chn.uniq{l:List Rw}{u:Int}{Γ Δ:List Ts}(h:Chn l u Γ)(k:Chn l u Δ):Γ=Δ:=by
 induction h generalizing Δ with
 | nil=>
  generalize e:(-1:Int)=z at k
  cases k with
  | nil=>rfl
  | @abs u=>omega
  | @app u=>omega
 | @abs u r τ Γ h hk ht hu hc ih=>
  generalize e:(u:Int)=z at k
  cases k with
  | nil=>omega
  | @abs u2 r2 τ2 Γ2 h2 hk2 ht2 hu2 hc2=>
   obtain rfl:u=u2:=by omega
   cases yq h h2
   grind[Ts.sm_inj]
  | @app u2 r2 Γ2 h2 hk2 hu2 hc2=>
   grind
 | @app u r Γ h hk hu hc ih=>
  generalize e:(u:Int)=z at k
  cases k with
  | nil=>omega
  | @abs u2 r2 τ2 Γ2 h2 hk2 ht2 hu2 hc2=>
   grind
  | @app u2 r2 Γ2 h2 hk2 hu2 hc2=>
   grind
theorem TyAt.var{l:List Rw}{p i:Nat}{r:Rw}{τ:Ts}{Γ:List Ts}(h:l[p]? =some r)(hk:r.kind=2)(hi:r.index=i)(hc:Chn l r.up Γ)(ht:Γ[i]? =some τ):TyAt l p τ:=by
 intro Δ v hv;cases v with
 | con nm σ=>obtain⟨r',h1,h2,_⟩:=hv;cases yq h h1;rw[hk]at h2;cases h2
 | var j=>
  obtain⟨r',h1,_,h2,_,h3⟩:=hv;cases yq h h1;rw[hi]at h2;rw[show j=i by omega,<- hc.uniq h3];exact ht
 | abs σ x=>obtain⟨⟨r',h1,h2,_⟩,_⟩:=hv;cases yq h h1;rw[hk]at h2;cases h2
 | app x y=>obtain⟨⟨r',h1,h2,_⟩,_⟩:=hv;cases yq h h1;rw[hk]at h2;cases h2
theorem TyAt.abs{l:List Rw}{p:Nat}{r:Rw}{τ ρ:Ts}(h:l[p]? =some r)(hk:r.kind=3)(ht:r.typ=τ.sm)(hx:TyAt l (p+1) ρ):TyAt l p (.f τ ρ):=by
 intro Γ v hv;cases v with
 | con nm σ=>obtain⟨r',h1,h2,_⟩:=hv;cases yq h h1;rw[hk]at h2;cases h2
 | var i=>obtain⟨r',h1,h2,_⟩:=hv;cases yq h h1;rw[hk]at h2;cases h2
 | abs σ x=>
  obtain⟨⟨r',h1,h2,h3,_⟩,h4⟩:=hv;cases yq h h1;show (tyv (σ::Γ) x).map (Ts.f σ)=_;rw[hx _ _ h4,Ts.sm_inj (h3.symm.trans ht)];rfl
 | app x y=>obtain⟨⟨r',h1,h2,_⟩,_⟩:=hv;cases yq h h1;rw[hk]at h2;cases h2
theorem TyAt.app{l:List Rw}{p q:Nat}{r:Rw}{a ρ:Ts}(h:l[p]? =some r)(hk:r.kind=4)(hq:r.kids= [((p+1:Nat):Int),(q:Int)])(hx:TyAt l (p+1) (.f a ρ))(hy:TyAt l q a):TyAt l p ρ:=by
 intro Γ v hv;cases v with
 | con nm σ=>obtain⟨r',h1,h2,_⟩:=hv;cases yq h h1;rw[hk]at h2;cases h2
 | var i=>obtain⟨r',h1,h2,_⟩:=hv;cases yq h h1;rw[hk]at h2;cases h2
 | abs σ x=>obtain⟨⟨r',h1,h2,_⟩,_⟩:=hv;cases yq h h1;rw[hk]at h2;cases h2
 | app x y=>
  obtain⟨⟨r',h1,_,h2⟩,h3,h4⟩:=hv;cases yq h h1;rw[hq]at h2;simp only[List.cons.injEq,and_true,true_and]at h2;rw[show p+1+x.size=q by omega]at h4;simp only[tyv,hx _ _ h3,hy _ _ h4];rw[if_pos (Ts.eqb_iff.2 rfl)]
theorem ty_no{l:List Rw}{p q:Nat}{r:Rw}{α β:Ts}{Γ:List Ts}{v:Tv}(hv:JY l p Γ v)(h:l[p]? =some r)(hk:r.kind=4)(hq:r.kids= [((p+1:Nat):Int),(q:Int)])(hx:TyAt l (p+1) α)(hy:TyAt l q β)(hn:∀ ρ:Ts,α≠Ts.f β ρ):tyv Γ v=none:=by
 cases v with
 | con nm σ=>obtain⟨r',h1,h2,_⟩:=hv;cases yq h h1;rw[hk]at h2;cases h2
 | var i=>obtain⟨r',h1,h2,_⟩:=hv;cases yq h h1;rw[hk]at h2;cases h2
 | abs σ x=>obtain⟨⟨r',h1,h2,_⟩,_⟩:=hv;cases yq h h1;rw[hk]at h2;cases h2
 | app x y=>
  obtain⟨⟨r',h1,_,h2⟩,h3,h4⟩:=hv;cases yq h h1;rw[hq]at h2;simp only[List.cons.injEq,and_true,true_and]at h2;rw[show p+1+x.size=q by omega]at h4;simp only[tyv,hx _ _ h3,hy _ _ h4];cases α with
  | b t=>rfl
  | f a ρ=>
   by_cases e:a=β
   ·grind
   ·simp only[]
    rw[if_neg (fun k=>e (Ts.eqb_iff.1 k))]
theorem own_top{base:Nat}{xs ys:List Value}(h:Own w base e sz (some ⟨g,0,none⟩) m cap (xs++ys))(hx:xs.length=n*sz):w.rangeAt g (0+n*sz) ys:=fun i v hv=>by
 have hi:i<ys.length:=(au.1 hv).1
 obtain⟨g',e,_,_,hc⟩:=h.cell (by intro e;rw[List.append_eq_nil_iff]at e;rw[e.2]at hi;simp at hi)
 cases e
 have:=hc (xs.length+i) v (by rw[List.getElem?_append_right oG];rw[Nat.add_sub_cancel_left];exact hv)
 rw[hx]at this
 rw[Nat.zero_add]
 exact this
theorem Blk.sub{xs:List Value}(h:Blk w b t cs)(hx:(cs.toList.drop o).take n=xs):w.rangeAt b o xs:=h.range (fun j v hj=>by
 subst hx
 rw[List.getElem?_take]at hj
 split at hj
 ·rw[List.getElem?_drop]at hj
  simpa using hj
 ·cases hj)
inductive StkS(w:World):List (Sm×Nat)->List Value->Prop
 | nil:StkS w [] []
 | snoc {l:List (Sm×Nat)} {vs:List Value} {s:Sm} {d:Nat} {A:Option Addr} {c:Nat} (h:StkS w l vs) (hs:SimsIn w A s.args):StkS w (l++[(s,d)]) (vs++[.string s.base,.slice A s.args.length c,.int .i64 d])
theorem StkS.len{l:List (Sm×Nat)}(h:StkS w l vs):vs.length=l.length*3:=by
 induction h with
 | nil=>rfl
 | snoc h hs ih=>simp only[List.length_append,ih,List.length_cons,List.length_nil];omega
theorem StkS.pop{l:List (Sm×Nat)}(h:StkS w l vs)(hl:0<l.length):∃ l' vs' s d A c,l=l'++[(s,d)]/\vs=vs'++[.string s.base,.slice A s.args.length c,.int .i64 (d:Nat)]/\StkS w l' vs'/\SimsIn w A s.args:=by
 cases h with
 | nil=>simp at hl
 | snoc h hs=>exact⟨_,_,_,_,_,_,rfl,rfl,h,hs⟩
inductive StkT(w:World):List (Tm×Nat×Nat)->List Value->Prop
 | nil:StkT w [] []
 | snoc {l:List (Tm×Nat×Nat)} {vs:List Value} {t:Tm} {d b:Nat} {A B:Option Addr} {c m:Nat} (h:StkT w l vs) (hs:SimsIn w A t.type.args) (ht:TmsIn w B t.args):StkT w (l++[(t,d,b)]) (vs++[.int .i64 t.kind,.string t.name,.int .i64 t.index,.string t.type.base,.slice A t.type.args.length c,.slice B t.args.length m,.int .i64 d,.int .i64 b])
theorem StkT.len{l:List (Tm×Nat×Nat)}(h:StkT w l vs):vs.length=l.length*8:=by
 induction h with
 | nil=>rfl
 | snoc h hs ht ih=>simp only[List.length_append,ih,List.length_cons,List.length_nil];omega
theorem StkT.pop{l:List (Tm×Nat×Nat)}(h:StkT w l vs)(hl:0<l.length):∃ l' vs' t d b A B c m,l=l'++[(t,d,b)]/\vs=vs'++[.int .i64 t.kind,.string t.name,.int .i64 t.index,.string t.type.base,.slice A t.type.args.length c,.slice B t.args.length m,.int .i64 (d:Nat),.int .i64 (b:Nat)]/\StkT w l' vs'/\SimsIn w A t.type.args/\TmsIn w B t.args:=by
 cases h with
 | nil=>simp at hl
 | snoc h hs ht=>exact⟨_,_,_,_,_,_,_,_,_,rfl,rfl,h,hs,ht⟩
theorem I4{α:Type}(l:List α)(x:α):(l++[x]).reverse=x::l.reverse:=by simp
theorem Ts.kids_len(τ:Ts):τ.sm.args.length<=2:=by cases τ<;>simp[Ts.sm,Sm.args]
def Ts.kids:Ts->List Ts
 | .b _=>[]
 | .f x y=>[x,y]
theorem Ts.kids_sm(τ:Ts):τ.sm.args=τ.kids.map Ts.sm:=by cases τ<;>rfl
theorem Ts.kids_lt{τ x:Ts}(h:x∈τ.kids):x.size<τ.size:=by
 cases τ with
 | b t=>cases h
 | f a b=>
  simp only[Ts.kids,List.mem_cons,List.not_mem_nil,or_false]at h;rcases h with rfl|rfl<;>simp only[Ts.size]<;>omega
theorem Ts.ext{a b:Ts}(hb:a.sm.base=b.sm.base)(hk:a.kids=b.kids):a=b:=by
 cases a with
 | b s=>cases b with
  | b t=>cases s<;>cases t<;>first|rfl|(exfalso;revert hb;simp[Ts.sm,Sm.base,smE,smT])
  | f x y=>cases hk
 | f x y=>cases b with
  | b t=>cases hk
  | f u v=>simp only[Ts.kids,List.cons.injEq,and_true]at hk;rw[hk.1,hk.2]
theorem L1{τ:Ts}(h:SimsIn w A τ.sm.args)(hk:k<τ.kids.length):∃ b o A' c,A=some ⟨b,o,none⟩/\b<w.heap.size/\w.rangeAt b (o+k*2) [Value.string (τ.kids[k]).sm.base,.slice A' (τ.kids[k]).sm.args.length c]/\SimsIn w A' (τ.kids[k]).sm.args:=by
 obtain⟨b,o,A',c,h1,h2,h3,h4⟩:=h.at_ (k:=k) (by rw[Ts.kids_sm,List.length_map];exact hk);have e:τ.sm.args[k]'(by rw[Ts.kids_sm,List.length_map];exact hk)=(τ.kids[k]).sm:=by simp only[Ts.kids_sm,List.getElem_map]
 rw[e]at h3 h4;exact⟨b,o,A',c,h1,h2,h3,h4⟩
theorem take_kid{a b:List Ts}{j:Nat}(h:a.take j=b.take j)(ha:j<a.length)(hb:j<b.length)(e:a[j]=b[j]):a.take (j+1)=b.take (j+1):=by
 rw[List.take_succ_eq_append_getElem ha,List.take_succ_eq_append_getElem hb,h,e]
section
section rules
variable {P:Program} {Q:Exit->Act->World->Prop} {n:Nw} {f:Fr} {w w':World} {ops:Array Oper} {rest:List Oper} {d:Nat} {ty:TypeId} {pos:String} {af:Array Edge} {x y z:Operand} {t t' e:TypeId}
theorem r_slF{dst:Option Tmp}{gd:Option (Nat×Bool)}{h:Nat}(hu:P.underlying t=some (.slice e))(hs:(P.info? e).map (·.size)=some sz)(hx:ev n f x= .slice A m c)(hy:ev n f y= .int .i64 (h:Int))(hz:ev n f z= .int .i64 (h:Int))(hh:h<=c):
  RV P n f w ⟨dst,.slice t x none (some y) (some z),ty,pos,af,gd⟩ (.slice A h h) w:=by
 cases hq:P.info? e with
 | none=>simp[hq]at hs
 | some i=>
  have h1:(Instr.sliceBound (.int .i64 (h:Int)) h .slice3C).run P w= .ok h w:=by simp[Instr.sliceBound,asIntOf]
  have h2:(Instr.sliceBound (.int .i64 (h:Int)) c .slice3Acap).run P w= .ok h w:=by simp[Instr.sliceBound,asIntOf,hh]
  have h3:(Instr.sliceBound (.int .i64 (h:Int)) h .slice3B).run P w= .ok h w:=by simp[Instr.sliceBound,asIntOf]
  cases A<;>simp[RV,execOp,hx,hy,hz,Instr.sliceAt,run_underlying hu,Instr.slice,Instr.sliceBounds,h1,h2,h3,sizeOf,typeInfo,hq,R8]
theorem wl_appFl{zv:Value}{a5:Nat}{olds:List Value}(hu:P.underlying t=some (.slice e))(hi:(P.info? e).map (fun i=>(i.zero,i.size,i.bytes))=some (some zv,sz,a5))(hzs:zv.cells.size=sz)(hsz:0<sz)
  (hlo:olds.length=k*sz) (a3:∀ b',A=some b'->∀ j u,olds[j]? =some u->w.cell? (b'.add j)=some u) (hno:A=none->k=0) (hb:Blk w b e cs) (hx:ev n f x= .slice A k k) (hy:ev n f y= .slice (some ⟨b,0,none⟩) m c) (hl:cs.size=m*sz) (h1:cs.toList.all (·.oneCell')=true) (hm:0<m) (h63:k+m<=9223372036854775807) (a2:(k+m)*a5<=140737488355328)
  (K:∀ g a1 w1,Own w1 w.heap.size e sz (some ⟨g,0,none⟩) (k+m) a1 (olds++cs.toList)->Same [] w w1->w.heap.size<=g->WL P ops Q rest n (upd f d (.slice (some ⟨g,0,none⟩) (k+m) a1)) w1):
  WL P ops Q (⟨some d,.call { callee:= .builtin .append,args:=#[x,y],argTypes:=#[t,t] },ty,pos,af,none⟩::rest) n f w:=by
 cases A with
 | none=>
  obtain rfl:=hno rfl;obtain rfl:olds= []:=List.eq_nil_of_length_eq_zero (by simpa using hlo);refine j7 hu hi hzs hsz (Own.nil w w.heap.size e sz) hb hx hy hl h1 hm h63 a2 (ah _) (fun g a1 w1 ho hs hg=>K g a1 w1 ho hs ?_);rcases hg with h|h
  ·cases h
  ·exact h
 | some b'=>
  obtain⟨i,hq,a4⟩:=aT.1 hi;simp only[Prod.mk.injEq]at a4;obtain⟨v',w1,hr,ho,hg⟩:=run_append_arg_grows (P:=P) w t ty e i zv sz a5 hu hq a4.1 a4.2.1 a4.2.2 hzs hsz b' k k olds hlo (a3 b' rfl) ⟨b,0,none⟩ m c cs.toList (by simpa using hl) (World.news_of_block hb) oG h63 a2;have hv:∃ g a1,v'= .slice (some ⟨g,0,none⟩) (k+m) a1/\w.heap.size<=g:=by
   rcases ho.2 with ⟨_,h0⟩|⟨g,a1,_,rfl,hg',_⟩
   ·omega
   ·exact⟨g,a1,rfl,hg'⟩
  obtain⟨g,a1,rfl,hgl⟩:=hv;refine wl (v:= .slice (some ⟨g,0,none⟩) (k+m) a1) (w':=w1) ?_ (K g a1 w1 ho (MW (A:=none) (k:=0) (cap:=0) hg) hgl);simp only[RV,execOp,resolve,invoke,builtin,Sem.run_bind,Sem.run_pure,Result.andThen_ok,List.map_toArray,List.map_cons,List.map_nil,hx,hy,hr]
end rules
inductive SimR(w:World):List Sm->List Value->Prop
 | nil:SimR w [] []
 | snoc {l:List Sm} {vs:List Value} {s:Sm} {A:Option Addr} {c:Nat} (h:SimR w l vs) (hs:SimsIn w A s.args):SimR w (l++[s]) (vs++[.string s.base,.slice A s.args.length c])
theorem SimR.len{l:List Sm}(h:SimR w l vs):vs.length=l.length*2:=by
 induction h with
 | nil=>rfl
 | snoc h hs ih=>simp only[List.length_append,ih,List.length_cons,List.length_nil];omega
theorem SimR.mono{w w':World}{l:List Sm}{vs:List Value}(h:SimR w l vs)(hb:Bel w w'):SimR w' l vs:=by
 induction h with
 | nil=>exact .nil
 | snoc h hs ih=>exact .snoc ih (hs.mono hb)
theorem SimR.at_{l:List Sm}(h:SimR w l vs):∀ {k:Nat} (hk:k<l.length),∃ A c,vs[k*2]? =some (.string (l[k]).base)/\vs[k*2+1]? =some (.slice A (l[k]).args.length c)/\SimsIn w A (l[k]).args:=by
 induction h with
 | nil=>intro k hk;simp at hk
 | @snoc l vs s A c h hs ih=>
  intro k hk;have hl:=h.len;by_cases e:k<l.length
  ·grind
  ·have ek:k=l.length:=by rw[List.length_append]at hk;simp at hk;omega
   subst ek;rw[List.getElem_append_right (Nat.le_refl _)];simp only[Nat.sub_self,List.getElem_cons_zero];refine⟨A,c,?_,?_,hs⟩
   ·grind
   ·grind
theorem SimsIn.row{l:List Sm}(h:SimsIn w (some ⟨b,o,none⟩) l):∃ vs,SimR w l vs/\∀ j u,vs[j]? =some u->w.cell? ⟨b,o+j,none⟩=some u:=by
 have key:∀ k,k<=l.length->∃ vs,SimR w (l.take k) vs/\∀ j u,vs[j]? =some u->w.cell? ⟨b,o+j,none⟩=some u:=by
  intro k
  induction k with
  | zero=>exact fun _=>⟨[],.nil,fun j u hj=>by simp at hj⟩
  | succ k ih=>
   intro hk;obtain⟨vs,h1,h2⟩:=ih oG;obtain⟨b',o',A',c',e,_,hr,hs⟩:=h.at_ (k:=k) oG;cases e;have hl:=h1.len;rw[List.length_take,Nat.min_eq_left oG]at hl;refine⟨vs++[.string (l[k]).base,.slice A' (l[k]).args.length c'],?_,fun j u hj=>?_⟩
   ·rw[ZZ l oG];exact .snoc h1 hs
   ·by_cases e:j<vs.length
    ·grind
    ·rw[List.getElem?_append_right oG]at hj
     have:=hr (j-vs.length) u hj
     grind
 obtain⟨vs,h1,h2⟩:=key l.length (ah _)
 grind
theorem sims_own{base:Nat}{l:List Sm}(ho:Own w base 41 2 (some ⟨g,0,none⟩) n cap vs)(h:SimR w l vs)(hn:l.length=n)(hp:0<n):SimsIn w (some ⟨g,0,none⟩) l:=by
 have hl:=h.len;obtain⟨g',e,_,hg,hc⟩:=ho.cell (by intro e;rw[e]at hl;simp at hl;omega);cases e;refine .more (by have:=ho.max;unfold vJ;omega) hg (fun k hk=>?_);obtain⟨A,c,h1,h2,h3⟩:=h.at_ hk;rw[show l[k]=Sm.mk (l[k]).base (l[k]).args from Sm.eta _];refine SimAt.mk (c:=c) hg (fun i v hv=>?_) h3
 match i,hv with
 | 0,hv=>cases hv;have:=hc _ _ h1;rwa[Nat.zero_add]
 | 1,hv=>cases hv;have:=hc _ _ h2;rwa[Nat.zero_add]
 | i+2,hv=>simp at hv
def CtxIn(w:World)(C:Option Addr)(Γ:List Ts):Prop:=SimsIn w C (Γ.reverse.map Ts.sm)/\(C=none->Γ= [])
theorem CtxIn.mono{w w':World}{C:Option Addr}{Γ:List Ts}(h:CtxIn w C Γ)(hb:Bel w w'):CtxIn w' C Γ:=⟨h.1.mono hb,h.2⟩
theorem CtxIn.nil(w:World):CtxIn w none []:=⟨.nil,fun _=>rfl⟩
theorem CtxIn.at_{w:World}{C:Option Addr}{Γ:List Ts}(h:CtxIn w C Γ){i:Nat}{τ:Ts}(hi:Γ[i]? =some τ):∃ b o A c,C=some ⟨b,o,none⟩/\b<w.heap.size/\w.rangeAt b (o+(Γ.length-1-i)*2) [.string τ.sm.base,.slice A τ.sm.args.length c]/\SimsIn w A τ.sm.args:=by
 obtain⟨hl,rfl⟩:=au.1 hi;obtain⟨b,o,A,c,h1,h2,h3,h4⟩:=h.1.at_ (k:=Γ.length-1-i) (by rw[List.length_map,List.length_reverse];omega)
 grind
theorem CtxIn.row{w:World}{C:Option Addr}{Γ:List Ts}(h:CtxIn w C Γ):∃ vs,SimR w (Γ.reverse.map Ts.sm) vs/\vs.length=Γ.length*2/\(∀ b',C=some b'->∀ j u,vs[j]? =some u->w.cell? (b'.add j)=some u)/\(C=none->Γ.length=0):=by
 have hn:C=none->Γ.length=0:=fun e=>by rw[h.2 e];rfl
 cases C with
 | none=>
  have:=h.2 rfl;subst this;exact⟨[],.nil,rfl,fun b' e=>(by cases e),hn⟩
 | some a=>
  cases hq:Γ with
  | nil=>exact⟨[],.nil,rfl,fun b' e j u hj=>by simp at hj,fun e=>by cases e⟩
  | cons τ Γ'=>
   have h1:=h.1;rw[hq]at h1
   generalize el:List.map Ts.sm (τ::Γ').reverse=l at h1
   cases h1 with
   | nil=>rw[List.map_eq_nil_iff]at el;simp at el
   | @more b o _ hl hb hx=>
    obtain⟨vs,h2,h3⟩:=SimsIn.row (.more hl hb hx);refine⟨vs,h2,by rw[h2.len,<- el,List.length_map,List.length_reverse],fun b' e j u hj=>?_,fun e=>by cases e⟩;cases e;rw[Addr.add_mid];exact h3 j u hj
theorem ctx_app{base:Nat}{Γ:List Ts}{τ:Ts}(ho:Own w base 41 2 (some ⟨g,0,none⟩) n cap (vs++[.string τ.sm.base,.slice A τ.sm.args.length c]))(h:SimR w (Γ.reverse.map Ts.sm) vs)(hs:SimsIn w A τ.sm.args)(hn:Γ.length+1=n):CtxIn w (some ⟨g,0,none⟩) (τ::Γ):=by
 refine⟨?_,fun e=>by cases e⟩;have e:(τ::Γ).reverse.map Ts.sm=Γ.reverse.map Ts.sm++[τ.sm]:=by simp
 rw[e];exact sims_own ho (.snoc h hs) (by simp;exact hn) oG
theorem R6{X:List Nat}(hs:Same X w w')(hb:b<w.heap.size)(hx:b∉X)(h:w.cell? ⟨b,o,none⟩=some v):w'.cell? ⟨b,o,none⟩=some v:=by
 have e:=hs.blk b hb hx;unfold World.cell? at h ⊢;simp only[e];exact h
theorem NJ{w w':World}{b:Nat}(hb:Blk w b 41 #[.string ⟨#[]⟩,.slice none 0 0])(hs:Same [b] w w'):∀(τ:Ts) {A:Option Addr},SimsIn w A τ.sm.args->SimsIn w' A τ.sm.args
 | .b t,A,h=>by cases t<;>exact .nil
 | .f x y,A,h=>by
  have far:∀(τ:Ts) (o c:Nat) (A':Option Addr),w.rangeAt b o [.string τ.sm.base,.slice A' τ.sm.args.length c]->False:=fun τ o c A' hr=>by
   have h0:=hr 0 _ rfl
   have h1:=hr 1 _ rfl
   rw[Nat.add_zero,cell_of_row w b o _ _ _ hb]at h0
   rw[cell_of_row w b (o+1) _ _ _ hb]at h1
   match o,h0,h1 with
   | 0,h0,h1=>
    simp only[List.getElem?_toArray,List.getElem?_cons_zero,Option.some.injEq,Value.string.injEq,List.getElem?_cons_succ,Value.slice.injEq,Nat.zero_add]at h0 h1
    obtain⟨p,q,rfl⟩:∃ p q,τ= .f p q:=by
     cases τ with
     | b t=>exfalso;revert h0;cases t<;>decide
     | f p q=>exact⟨p,q,rfl⟩
    have h2:0=2:=h1.2.1;cases h2
   | 1,h0,_=>simp at h0
   | o+2,h0,_=>simp at h0
  obtain⟨b1,o1,A0,c0,rfl,hl,hr0,hs0⟩:=h.at_ (k:=0) (by simp[Ts.sm,Sm.args]);obtain⟨_,_,A1,c1,e1,_,hr1,hs1⟩:=h.at_ (k:=1) (by simp[Ts.sm,Sm.args]);cases e1;have hne:b1∉[b]:=fun hm=>by
   obtain rfl:=aq.1 hm;exact far x _ _ _ hr0
  refine .more (show 2<=vJ by decide) (nLL hl hs.size) (fun k hk=>?_)
  match k,hk with
  | 0,_=>
   show SimAt w' b1 (o1+0*2) x.sm;rw[Sm.eta x.sm];exact SimAt.mk (nLL hl hs.size) (fun i v hv=>R6 hs hl hne (hr0 i v hv)) (NJ hb hs x hs0)
  | 1,_=>
   show SimAt w' b1 (o1+1*2) y.sm;rw[Sm.eta y.sm];exact SimAt.mk (nLL hl hs.size) (fun i v hv=>R6 hs hl hne (hr1 i v hv)) (NJ hb hs y hs1)
end
def iV(xs:List Int):List Value:=xs.map (Value.int .i64)
theorem iV_len(xs:List Int):(iV xs).length=xs.length:=by simp[iV]
theorem IntsIn.news(h:IntsIn w A xs):0<xs.length->∃ b o',A=some ⟨b,o',none⟩/\∀ j u,(iV xs)[j]? =some u->w.cell? ⟨b,o'+j,none⟩=some u:=fun hm=>by
 obtain⟨b,o,e,_,hc⟩:=h.2 (by rintro rfl;simp at hm)
 refine⟨b,o,e,fun j u hj=>?_⟩
 simp only[iV,List.getElem?_map,Option.map_eq_some_iff]at hj
 obtain⟨x,hx,rfl⟩:=hj
 obtain⟨hk,rfl⟩:=au.1 hx
 simpa using hc j hk
def MatIn(w:World)(A:Option Addr)(L:List (List Int)):Prop:=
 L.length<=vJ/\(L≠[]->∃ b o,A=some ⟨b,o,none⟩/\b<w.heap.size/\∀ k (hk:k<L.length),∃ A' c,w.cell? ⟨b,o+k*1,none⟩=some (.slice A' (L[k]).length c)/\IntsIn w A' L[k])
theorem MatIn.mono{w w':World}{A:Option Addr}{L:List (List Int)}(h:MatIn w A L)(hb:Bel w w'):MatIn w' A L:=
 ⟨h.1,fun hn=>by
  obtain⟨b,o,e,hl,hc⟩:=h.2 hn
  refine⟨b,o,e,nLL hl hb.size,fun k hk=>?_⟩
  obtain⟨A',c,h1,h2⟩:=hc k hk
  exact⟨A',c,hb.cell hl h1,h2.mono hb⟩⟩
theorem MatIn.at_{L:List (List Int)}(h:MatIn w A L)(hb:Bel w w')(hk:k<L.length):
  ∃ b o A' c,A=some ⟨b,o,none⟩/\w'.cell? ⟨b,o+k*1,none⟩=some (.slice A' (L[k]).length c)/\IntsIn w A' L[k]:=by
 obtain⟨b,o,e,hl,hc⟩:=h.2 (by rintro rfl;simp at hk);obtain⟨A',c,h1,h2⟩:=hc k hk;exact⟨b,o,A',c,e,hb.cell hl h1,h2⟩
section
theorem Xz{base:Nat}{t:TypeId}{xs:List Value}(h:Own w base e sz A k c xs)(hb:Blk w b t cs)(hne:e≠t):∀ g∈aL A,g≠b:=fun g hg e1=>by
 obtain⟨c2,h2⟩:=h.typ g hg
 grind[jy]
def fnd(l:List Ty)(s:ByteArray):Int:=match l.findIdx? (fun t=>decide (t.name=s))with
 | some k=>(k:Int)
 | none=>-1
def ats(l:List Ty):List ByteArray->Option (List Int)
 | []=>some []
 | x::xs=>if fnd l x<0 then none else (ats l xs).map (fun r=>fnd l x::r)
def PrIn(lo hi:Nat)(w:World)(A:Option Addr)(xs:List Int):Prop:=xs.length<=vJ/\(xs≠[]->∃ g cs,A=some ⟨g,0,none⟩/\lo<=g/\g<hi/\Blk w g 3 cs/\cs.toList.take xs.length=iV xs)
theorem PrIn.tr{lo hi:Nat}{w w':World}{A:Option Addr}{xs:List Int}{X:List Nat}(h:PrIn lo hi w A xs)(hs:Same X w w')(hx:∀ g∈X,hi<=g\/∃ cs t,Blk w g t cs/\t≠3):PrIn lo hi w' A xs:=
 ⟨h.1,fun hn=>by
  obtain⟨g,cs,e,hlo,hl,hb,ht⟩:=h.2 hn
  refine⟨g,cs,e,hlo,hl,hb.tr hs (fun hm=>?_),ht⟩
  rcases hx g hm with h1|⟨cs2,t,hb2,hne⟩
  ·omega
  ·exact hne (jy hb2 hb)⟩
theorem PrIn.up{hi':Nat}(h:PrIn lo hi w A xs)(hl:hi<=hi'):PrIn lo hi' w A xs:=
 ⟨h.1,fun hn=>by
  obtain⟨g,cs,e,hlo,hg,hb,ht⟩:=h.2 hn
  exact⟨g,cs,e,hlo,by omega,hb,ht⟩⟩
theorem PrIn.low{lo':Nat}(h:PrIn lo hi w A xs)(hl:lo'<=lo):PrIn lo' hi w A xs:=
 ⟨h.1,fun hn=>by
  obtain⟨g,cs,e,hlo,hg,hb,ht⟩:=h.2 hn
  exact⟨g,cs,e,by omega,hg,hb,ht⟩⟩
theorem PrIn.fr(h:PrIn lo hi w A xs)(hf:FrSame lo w w'):PrIn lo hi w' A xs:=
 ⟨h.1,fun hn=>by
  obtain⟨g,cs,e,hlo,hg,hb,ht⟩:=h.2 hn
  exact⟨g,cs,e,hlo,hg,hf.at_ hb hlo,ht⟩⟩
theorem own_pr{base:Nat}(h:Own w base 3 1 A k cap (iV xs)):PrIn base w.heap.size w A xs:=by
 have h1:=h.len;have h2:=h.max;rw[iV_len,Nat.mul_one]at h1;refine⟨by unfold vJ;omega,fun hn=>?_⟩;have hp:=List.length_pos_iff.2 hn;obtain⟨g,cur,e,hlo,hb,_,_,ht⟩:=h.whole oG;rw[Nat.mul_one,<- h1]at ht;exact⟨g,cur,e,hlo,hb.lt,hb,ht⟩
def RowT(lo hi:Nat)(w:World)(l:List Ty)(vs:List Value):Prop:=vs.length=l.length*2/\∀ k (hk:k<l.length),∃ A c,vs[k*2]? =some (.string (l[k]).name)/\vs[k*2+1]? =some (.slice A (l[k]).par.length c)/\PrIn lo hi w A (l[k]).par
theorem RowT.nil(lo hi:Nat)(w:World):RowT lo hi w [] []:=⟨rfl,fun k hk=>by simp at hk⟩
theorem RowT.tr{lo hi:Nat}{w w':World}{l:List Ty}{vs:List Value}{X:List Nat}(h:RowT lo hi w l vs)(hs:Same X w w')(hx:∀ g∈X,hi<=g\/∃ cs t,Blk w g t cs/\t≠3):RowT lo hi w' l vs:=
 ⟨h.1,fun k hk=>by obtain⟨A,c,e1,e2,hp⟩:=h.2 k hk;exact⟨A,c,e1,e2,hp.tr hs hx⟩⟩
theorem RowT.up{lo hi hi':Nat}{w:World}{l:List Ty}{vs:List Value}(h:RowT lo hi w l vs)(hl:hi<=hi'):RowT lo hi' w l vs:=
 ⟨h.1,fun k hk=>by obtain⟨A,c,e1,e2,hp⟩:=h.2 k hk;exact⟨A,c,e1,e2,hp.up hl⟩⟩
theorem RowT.fr{lo hi:Nat}{w w':World}{l:List Ty}{vs:List Value}(h:RowT lo hi w l vs)(hf:FrSame lo w w'):RowT lo hi w' l vs:=
 ⟨h.1,fun k hk=>by obtain⟨A,c,e1,e2,hp⟩:=h.2 k hk;exact⟨A,c,e1,e2,hp.fr hf⟩⟩
theorem RowT.snoc{lo hi:Nat}{w:World}{l:List Ty}{vs:List Value}{s:ByteArray}{xs:List Int}{A:Option Addr}{c:Nat}(h:RowT lo hi w l vs)(hp:PrIn lo hi w A xs):RowT lo hi w (l++[⟨s,xs⟩]) (vs++[.string s,.slice A xs.length c]):=by
 have h1:=h.1;refine⟨by simp[h1];omega,fun k hk=>?_⟩;by_cases e:k<l.length
 ·obtain⟨A2,c2,e1,e2,hp2⟩:=h.2 k e
  grind
 ·have e2:k=l.length:=by simp at hk;omega
  subst e2;refine⟨A,c,?_,?_,?_⟩
  ·grind
  ·grind
  ·simpa using hp
section rules
variable {P:Program} {n:Nw} {f:Fr} {w:World} {ty:TypeId} {pos:String} {af:Array Edge} {x y:Operand} {t e:TypeId}
end rules
end
end Go.Proofs.YtgcgnkmmbecfmaaGreatDoor
