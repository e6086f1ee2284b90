/- What these functions compute, at every world: equal.graphOf, equal.Small$1, equal.hierarchyOf; and plain laws. -/
import Derived.Test.YtiofaflajkgiaaaGreatDoorLxd
import Derived.Test.YtiofaflajkgiaaaGreatDoorEng2
import Derived.Test.YtiofaflajkgiaaaGreatDoorRng
import Derived.Test.YtiofaflajkgiaaaGreatDoorGro
import Derived.Test.YtiofaflajkgiaaaGreatDoorU
import Derived.Test.YtiofaflajkgiaaaGreatDoorZst
namespace Go.Proofs.YtiofaflajkgiaaaGreatDoor
open Go.RowKit Go.Proofs.Tryz
def StrsD(w:World)(A:Option Addr)(ss:List ByteArray):Prop:=
 ss≠[]->∃ b o,A=some ⟨b,o,none⟩/\b<w.heap.size/\∀ k (h:k<ss.length),w.cell? ⟨b,o+k*1,none⟩=some (.string ss[k])
theorem StrsD.at_{w w':World}{A:Option Addr}{ss:List ByteArray}(h:StrsD w A ss)(hb:Bel w w'){k:Nat}(hk:k<ss.length):
  ∃ b o,A=some ⟨b,o,none⟩/\w'.cell? ⟨b,o+k*1,none⟩=some (.string ss[k]):=by
 obtain⟨b,o,e,hl,hc⟩:=h (by rintro rfl;simp at hk);exact⟨b,o,e,hb.cell hl (hc k hk)⟩
def O3(ns:List ByteArray)(ps:List Int)(i:Nat):Ty:=⟨ns.getD i ⟨#[]⟩,if 0<i then [ps.getD i 0]else []⟩
def Jx(ns:List ByteArray)(ps:List Int)(k:Nat):List Ty:=(List.range k).map (O3 ns ps)
theorem C0(ns:List ByteArray)(ps:List Int)(k:Nat):Jx ns ps (k+1)=Jx ns ps k++[O3 ns ps k]:=by
 unfold Jx;rw[List.range_succ,List.map_append];rfl
theorem H3{ns:List ByteArray}{ps:List Int}{k:Nat}(hk:k<ns.length)(h:¬0<k):O3 ns ps k=⟨ns[k],[]⟩:=by
 simp[O3,h,List.getD,List.getElem?_eq_getElem hk]
theorem hierAt_pos{ns:List ByteArray}{ps:List Int}{k:Nat}(hk:k<ns.length)(hk2:k<ps.length)(h:0<k):O3 ns ps k=⟨ns[k],[ps[k]]⟩:=by
 simp[O3,h,List.getD,List.getElem?_eq_getElem hk,List.getElem?_eq_getElem hk2]
def TS2:List Nat:=113::25::TS
inductive TyData(w:World):List Ty->List Value->Prop
 | nil:TyData w [] []
 | snoc {l:List Ty} {vs:List Value} {x:Ty} {A:Option Addr} {c:Nat} (h:TyData w l vs) (hp:IntsIn w A x.par):TyData w (l++[x]) (vs++[.string x.name,.slice A x.par.length c])
theorem TyData.len{w:World}{l:List Ty}{vs:List Value}(h:TyData w l vs):vs.length=l.length*2:=by
 induction h with
 | nil=>rfl
 | snoc h hl ih=>simp only[List.length_append,List.length_cons,List.length_nil,ih];omega
theorem TyData.get{w:World}{l:List Ty}{vs:List Value}(h:TyData w l vs):∀ k (hk:k<l.length),∃ A c,vs[k*2]? =some (.string (l[k]).name)/\vs[k*2+1]? =some (.slice A (l[k]).par.length c)/\IntsIn w A (l[k]).par:=by
 induction h with
 | nil=>intro k hk;simp at hk
 | @snoc l cs t A c h hp ih=>
  intro k hk;have a1:=h.len;by_cases e:k<l.length
  ·obtain⟨A',c',h1,h2,h3⟩:=ih k e
   refine⟨A',c',?_,?_,?_⟩
   ·rw[List.getElem?_append_left oG,h1,List.getElem_append_left e]
   ·rw[List.getElem?_append_left oG,h2,List.getElem_append_left e]
   ·rw[List.getElem_append_left e];exact h3
  ·simp only[List.length_append,List.length_cons,List.length_nil]at hk
   have ek:k=l.length:=by omega
   subst ek;have eg:(l++[t])[l.length]'(by simp)=t:=by simp
   rw[eg];refine⟨A,c,?_,?_,hp⟩
   ·rw[List.getElem?_append_right oG,a1];simp
   ·rw[List.getElem?_append_right oG,a1];simp
theorem gof_types{w:World}{B:Nat}{A:Option Addr}{k cap:Nat}{cs:List Value}{l:List Ty}(ho:Own w B 113 2 A k cap cs)(ht:TyData w l cs):TypesIn w A l:=by
 have hlk:l.length=k:=by have h1:=ho.len;have h2:=ht.len;omega
 refine⟨by rw[hlk];exact ho.max,fun hn=>?_⟩
 obtain⟨g,e,hb,hg,hc⟩:=ho.cell (by
  intro h0;have:=ht.len;rw[h0]at this;cases l with
  | nil=>exact hn rfl
  | cons a r=>simp only[List.length_nil,List.length_cons]at this;omega)
 refine⟨g,0,e,hg,fun j hj=>?_⟩;obtain⟨A',c,h1,h2,h3⟩:=ht.get j hj;refine⟨A',c,?_,h3⟩;intro i v hi
 match i,hi with
 | 0,hi=>cases hi;have:=hc _ _ h1;simpa using this
 | 1,hi=>cases hi;have:=hc _ _ h2;simpa using this
 | _+2,hi=>cases hi
theorem hof_end{w:World}{B n:Nat}{A:Option Addr}{k cap:Nat}{cs:List Value}{l:List Ty}(ho:Own w B 113 2 A k cap cs)(ht:Fz [] n TS2 w (fun w=>TyData w l cs)):Fz [] w.heap.size TS w (fun w=>TypesIn w A l):=
 ((ho.fz (ts:=TS) (EY dE dE dE)).and ((ht.up).sub dE)).imp (fun _ h=>gof_types h.1 h.2)
theorem H2{w:World}{n k:Nat}{ns:List ByteArray}{ps:List Int}{cs:List Value}(h:Fz [] n TS2 w (fun w=>TyData w (Jx ns ps k) cs))(hk:k<ns.length)(h0:¬0<k):Fz [] w.heap.size TS2 w (fun w=>TyData w (Jx ns ps (k+1)) (cs++[.string ns[k],.slice none 0 0])):=by
 rw[C0,H3 hk h0];exact h.up.imp (fun _ h=> .snoc (x:=⟨ns[k],[]⟩) h ⟨ag _,fun h=>absurd rfl h⟩)
theorem hof_pos{w:World}{n k b:Nat}{ns:List ByteArray}{ps:List Int}{cs:List Value}(h:Fz [] n TS2 w (fun w=>TyData w (Jx ns ps k) cs))(hk:k<ns.length)(hk2:k<ps.length)(h0:0<k)(hb:Blk w b 3 #[.int .i64 ps[k]]):Fz [] w.heap.size TS2 w (fun w=>TyData w (Jx ns ps (k+1)) (cs++[.string ns[k],.slice (some ⟨b,0,none⟩) 1 1])):=by
 rw[C0,hierAt_pos hk hk2 h0]
 exact(h.and (Fz.blk (X:=[]) hb (by simp) (EY dE dE dE _))).imp (fun _ h=> .snoc (x:=⟨ns[k],[ps[k]]⟩) h.1 ⟨by show 1<=jx;decide,fun _=>⟨b,0,rfl,h.2.lt,fun j hj=>by
  have:j=0:=by simp at hj;omega
  subst this
  exact h.2.cell rfl⟩⟩)
section
inductive RlCs(w:World):List Rl->List Value->Prop
 | nil:RlCs w [] []
 | cons {r:Rl} {G S B:Option Addr} {gn cg cs cb:Nat} {l:List Rl} {vs:List Value} (hn:gn=r.gr.length) (hG:NodesIn w G r.gr) (hS:SimsIn w S r.mean.type.args) (hT:TmsIn w B r.mean.args) (t:RlCs w l vs):RlCs w (r::l) (.string r.name:: .slice G gn cg:: .int .i64 r.kids:: .int .i64 r.wt:: .int .i64 r.mean.kind:: .string r.mean.name:: .int .i64 r.mean.index:: .string r.mean.type.base:: .slice S r.mean.type.args.length cs:: .slice B r.mean.args.length cb::vs)
def rlC(r:Rl)(G S B:Option Addr)(cg cs cb:Nat):List Value:=[.string r.name,.slice G r.gr.length cg,.int .i64 r.kids,.int .i64 r.wt,.int .i64 r.mean.kind,.string r.mean.name,.int .i64 r.mean.index,.string r.mean.type.base,.slice S r.mean.type.args.length cs,.slice B r.mean.args.length cb]
theorem RlCs.len{w:World}{l:List Rl}{vs:List Value}(h:RlCs w l vs):vs.length=l.length*10:=by
 induction h with
 | nil=>rfl
 | cons _ _ _ _ _ ih=>simp only[List.length_cons,ih];omega
theorem RlCs.get{w:World}{l:List Rl}{vs:List Value}(h:RlCs w l vs):∀ k (hk:k<l.length),∃ G cg S cs B cb,(∀ j v,(rlC (l[k]) G S B cg cs cb)[j]? =some v->vs[k*10+j]? =some v)/\NodesIn w G (l[k]).gr/\SimsIn w S (l[k]).mean.type.args/\TmsIn w B (l[k]).mean.args:=by
 induction h with
 | nil=>intro k hk;simp at hk
 | @cons r G S B gn cg cs cb l vs hn hG hS hT t ih=>
  intro k hk
  match k,hk with
  | 0,_=>
   subst hn;refine⟨G,cg,S,cs,B,cb,fun j v hj=>?_,hG,hS,hT⟩
   match j,hj with
   | 0,hj=>exact hj
   | 1,hj=>exact hj
   | 2,hj=>exact hj
   | 3,hj=>exact hj
   | 4,hj=>exact hj
   | 5,hj=>exact hj
   | 6,hj=>exact hj
   | 7,hj=>exact hj
   | 8,hj=>exact hj
   | 9,hj=>exact hj
   | _+10,hj=>cases hj
  | k+1,hk=>
   obtain⟨G',cg',S',cs',B',cb',h1,h2⟩:=ih k (by simpa using hk);refine⟨G',cg',S',cs',B',cb',fun j v hj=>?_,h2⟩;rw[show (k+1)*10+j=k*10+j+10 by omega];exact h1 j v hj
theorem RlCs.rules{w:World}{b t:Nat}{l:List Rl}{vs:List Value}(h:RlCs w l vs)(hb:Blk w b t vs.toArray)(hl:l.length<=jx):RulesIn w (some ⟨b,0,none⟩) l:=
 ⟨hl,fun _=>⟨b,0,rfl,hb.lt,fun k hk=>by
  obtain⟨G,cg,S,cs,B,cb,h1,h2⟩:=h.get k hk
  exact⟨G,cg,S,cs,B,cb,KY hb (fun j v hj=>by rw[List.getElem?_toArray,Nat.zero_add];exact h1 j v hj),h2⟩⟩⟩
theorem FZ{w:World}{b t:Nat}(xs:List ByteArray)(h:Blk w b t (xs.map Value.string).toArray):StrsD w (some ⟨b,0,none⟩) xs:=
 fun _=>⟨b,0,rfl,h.lt,fun k hk=>h.cell (by simp[hk])⟩
def RowV(w:World)(r:List Int)(v:Value):Prop:=∃ A c,v= .slice A r.length c/\IntsIn w A r/\0<r.length/\r.length<=1000
inductive RowVs(w:World):List (List Int)->List Value->Prop
 | nil:RowVs w [] []
 | cons {r:List Int} {rs:List (List Int)} {v:Value} {vs:List Value} (h:RowV w r v) (t:RowVs w rs vs):RowVs w (r::rs) (v::vs)
theorem RowVs.pos{w:World}{rs:List (List Int)}{vs:List Value}(h:RowVs w rs vs):∀ r∈rs,0<r.length/\r.length<=1000:=by
 induction h with
 | nil=>intro r hr;cases hr
 | cons h _ ih=>
  intro r hr;rcases ap.1 hr with rfl|hr
  ·obtain⟨_,_,_,_,h3,h4⟩:=h;exact⟨h3,h4⟩
  ·exact ih r hr
theorem RowVs.get{w:World}{rs:List (List Int)}{vs:List Value}(h:RowVs w rs vs):∀ k (hk:k<rs.length),∃ A c,vs[k]? =some (.slice A (rs[k]).length c)/\IntsIn w A rs[k]:=by
 induction h with
 | nil=>intro k hk;simp at hk
 | cons h _ ih=>
  intro k hk
  match k,hk with
  | 0,_=>obtain⟨A,c,h1,h2,_⟩:=h;exact⟨A,c,by rw[h1];rfl,h2⟩
  | k+1,hk=>exact ih k (by simpa using hk)
theorem x8{w:World}{b t:Nat}{rs:List (List Int)}{vs:List Value}(h:Blk w b t vs.toArray)(hr:RowVs w rs vs)(hl:rs.length<=1000):RowsIn w (some ⟨b,0,none⟩) rs:=
 ⟨hl,hr.pos,fun _=>⟨b,0,rfl,h.lt,fun k hk=>by
  obtain⟨A,c,h1,h2⟩:=hr.get k hk
  exact⟨A,c,h.cell (by simpa using h1),h2⟩⟩⟩
def kidsAt:Nat->Int->List Rl->List Rl
 | _,_,[]=>[]
 | 0,z,r::l=>⟨r.name,r.gr,z,r.wt,r.mean⟩::l
 | k+1,z,r::l=>r::kidsAt k z l
theorem RlCs.kids{w:World}{l:List Rl}{vs:List Value}(h:RlCs w l vs)(z:Int):∀ k,k<l.length->RlCs w (kidsAt k z l) (vs.set (k*10+2) (.int .i64 z)):=by
 induction h with
 | nil=>intro k hk;simp at hk
 | @cons r G S B gn cg cs cb l vs hn hG hS hT t ih=>
  intro k hk
  match k,hk with
  | 0,_=>exact .cons (r:=⟨r.name,r.gr,z,r.wt,r.mean⟩) hn hG hS hT t
  | k+1,hk=>
   rw[show (k+1)*10+2=k*10+2+10 by omega];exact .cons hn hG hS hT (ih k (by simpa using hk))
def GmD(T:List Ty)(F:List Ft)(R:List Rl)(L:List Lx)(S:List Nd)(w0 w:World)(v:Value):Prop:=
 ∃ At ct Bf cf br cells A cap AS cst n,v= .agg #[.slice At T.length ct,.slice Bf F.length cf,.slice (some ⟨br,0,none⟩) R.length R.length,.slice A L.length cap,.slice AS S.length cst]/\w0.heap.size<=br/\L.length<=cap/\Blk w br 74 cells/\Fz [] n [74] w (fun w=>TypesIn w At T/\FeatsIn w Bf F/\RlCs w R cells.toList/\LexesIn w A L/\NodesIn w AS S)
def IsP(xs:List Int)(w:World)(v:Value):Prop:=∃ b,v= .slice (some ⟨b,0,none⟩) xs.length xs.length/\IntsIn w (some ⟨b,0,none⟩) xs
def RsP(rs:List (List Int))(w:World)(v:Value):Prop:=∃ b,v= .slice (some ⟨b,0,none⟩) rs.length rs.length/\RowsIn w (some ⟨b,0,none⟩) rs
def GrP(rs:List (List Int))(w:World)(v:Value):Prop:=∃ G c n,v= .agg #[.slice G rs.length c]/\Fz [] n TS w (fun w=>NodesIn w G (rs.map VJ))
theorem IsP.tr0{xs:List Int}{w w1:World}{v:Value}(h:IsP xs w v)(hs:Same [] w w1):IsP xs w1 v:=by
 obtain⟨b,e,h⟩:=h;exact⟨b,e,h.mono hs.bel⟩
theorem jy{P:Program}{n:Nw}{f:Fr}{w:World}(xs:List Int){len d:Nat}{t e ty:TypeId}{pos:String}{af:Array Edge}{parts:Array (Nat×Operand)}(hv:parts.toList.map (fun p=>(p.1,ev n f p.2))=xs.zipIdx.map (fun x=>(x.2,Value.int .i64 x.1)))
  (hu:P.underlying t=some (.slice e)) (hs:(P.info? e).map (·.size)=some 1) (hz:(P.info? e).map (·.zero)=some (some (.int .i64 0))) (hn:len=xs.length:=by rfl) (hl:¬len*1>2^24:=by decide) (hl0:len*1≠0:=by decide)
  (a1:Instr.fill (fun i=>some (i*1,1)) ((Array.range (len*1)).map ((Value.int .i64 0).cells[· % (Value.int .i64 0).cells.size]!)) (xs.zipIdx.map (fun x=>(x.2,Value.int .i64 x.1)))=some (flat (xs.zipIdx.map (fun x=>(x.2,Value.int .i64 x.1)))):=by kernel_rfl)
  (hcs:flat (xs.zipIdx.map (fun x=>(x.2,Value.int .i64 x.1)))=(xs.map (Value.int .i64)).toArray:=by kernel_rfl) (hm:xs.length<=jx:=by decide):OS P n f w ⟨some d,.buildSlice t len parts,ty,pos,af,none⟩ (fun v w''=>Same [] w w''/\IsP xs w'' v/\Rj false w w'' v):=
 jZ (fun _ _ K=>qv _ hv hu hs hz hl hl0 a1 hcs (fun b w1 hb hs hr=>K _ _ ⟨hs,⟨b,by rw[hn],qw xs hb hm⟩,xQ⟩))
theorem RsP.tr0{xs:List (List Int)}{w w1:World}{v:Value}(h:RsP xs w v)(hs:Same [] w w1):RsP xs w1 v:=by
 obtain⟨b,e,h⟩:=h;exact⟨b,e,h.mono hs.bel⟩
theorem GrP.tr0{xs:List (List Int)}{w w1:World}{v:Value}(h:GrP xs w v)(hs:Same [] w w1):GrP xs w1 v:=by
 obtain⟨G,c,n,e,h⟩:=h;exact⟨G,c,n,e,h.tr0 hs⟩
section fz
variable {X:List Nat} {n:Nat} {w w':World} {P:World->Prop}
theorem Fz.add{bG base k cap:Nat}{A:Option Addr}{cs:Array Value}{xs:List Value}(h:Fz X n TS w P)(hS:Same (bG::aL A) w w')(hb:Blk w bG 42 cs)(ho:Own w base 38 9 A k cap xs):Fz X n TS w' P:=
 h.trX hS (fun g hg=>by
  rcases ap.1 hg with e|hg
  ·exact .inr (.inr ⟨_,_,by rw[e];exact hb,.inl dE⟩)
  ·obtain⟨cs,h⟩:=Y4 ho g hg
   exact .inr (.inr ⟨_,_,h,.inl dE⟩))
end fz
def zGr:Array Value:=#[.slice none 0 0,.slice none 0 0,.slice none 0 0,.slice none 0 0,.slice none 0 0]
def tyET:Ts:= .f (.b false) (.b true)
def tyEET:Ts:= .f (.b false) tyET
section st
structure SmC(T:List Ty)(F:List Ft)(R:List Rl)(b0 b1 b2 b3 b4 b5 b23 b93 base capt c12 c15:Nat)(At A12 A15:Option Addr)(cr:Array Value)(w wc:World):Prop where
 bel:Bel w wc
 bs:base<=wc.heap.size
 k0:Blk wc b0 42 zGr
 k1:Blk wc b1 31 #[.string ⟨#[101]⟩,.slice none 0 0]
 k2:Blk wc b2 31 #[.string ⟨#[116]⟩,.slice none 0 0]
 k3:Blk wc b3 31 #[.string tyET.sm.base,.slice A12 tyET.sm.args.length c12]
 k4:Blk wc b4 31 #[.string tyEET.sm.base,.slice A15 tyEET.sm.args.length c15]
 k93:Blk wc b93 74 cr
 dt:Fz [] base TS wc (fun w=>TypesIn w At T/\FeatsIn w (some ⟨b23,0,none⟩) F/\RlCs w R cr.toList)
 p12:Fz [] base TS wc (fun w=>SimsIn w A12 tyET.sm.args)
 p15:Fz [] base TS wc (fun w=>SimsIn w A15 tyEET.sm.args)
 lo5:w.heap.size<=b5
 lo93:w.heap.size<=b93
 o:b0<b5/\b1<b5/\b2<b5/\b3<b5/\b4<b5/\b5<b93
 l:b5<base/\b93<base
variable {T F R b0 b1 b2 b3 b4 b5 b23 b93 base capt c12 c15 At A12 A15 cr}
theorem SmC.tr{w wc w1:World}{Z:List Nat}(h:SmC T F R b0 b1 b2 b3 b4 b5 b23 b93 base capt c12 c15 At A12 A15 cr w wc)(hs:Same Z wc w1)(hz:∀ x∈Z,(x=b5\/base<=x)/\∃ t cs,Blk wc x t cs/\Sp TS t cs):SmC T F R b0 b1 b2 b3 b4 b5 b23 b93 base capt c12 c15 At A12 A15 cr w w1:=by
 obtain⟨o0,o1,o2,o3,o4,o9⟩:=h.o;obtain⟨l5,l9⟩:=h.l;have hf:∀ g∈Z,base<=g\/g∈[]\/∃ t cs,Blk wc g t cs/\Sp TS t cs:=fun g hg=> .inr (.inr (hz g hg).2)
 have lo5:=h.lo5;have lo93:=h.lo93
 exact { h with
  bel:=h.bel.tr hs (fun x hx=>by rcases(hz x hx).1 with e|e<;>omega)
  bs:=nLT h.bs hs.size
  k0:=h.k0.tr hs (fun hx=>by rcases(hz _ hx).1 with e|e<;>omega)
  k1:=h.k1.tr hs (fun hx=>by rcases(hz _ hx).1 with e|e<;>omega)
  k2:=h.k2.tr hs (fun hx=>by rcases(hz _ hx).1 with e|e<;>omega)
  k3:=h.k3.tr hs (fun hx=>by rcases(hz _ hx).1 with e|e<;>omega)
  k4:=h.k4.tr hs (fun hx=>by rcases(hz _ hx).1 with e|e<;>omega)
  k93:=h.k93.tr hs (fun hx=>by rcases(hz _ hx).1 with e|e<;>omega)
  dt:=h.dt.trX hs hf
  p12:=h.p12.trX hs hf
  p15:=h.p15.trX hs hf }
theorem SmC.tr0{w wc w1:World}(h:SmC T F R b0 b1 b2 b3 b4 b5 b23 b93 base capt c12 c15 At A12 A15 cr w wc)(hs:Same [] wc w1):SmC T F R b0 b1 b2 b3 b4 b5 b23 b93 base capt c12 c15 At A12 A15 cr w w1:=h.tr hs (by simp)
theorem SmC.add{w wc w1:World}{k cap:Nat}{A:Option Addr}{cs:Array Value}{xs:List Value}(h:SmC T F R b0 b1 b2 b3 b4 b5 b23 b93 base capt c12 c15 At A12 A15 cr w wc)(hS:Same (b5::aL A) wc w1)(hb:Blk wc b5 42 cs)(ho:Own wc base 38 9 A k cap xs):SmC T F R b0 b1 b2 b3 b4 b5 b23 b93 base capt c12 c15 At A12 A15 cr w w1:=
 h.tr hS (fun g hg=>by
  rcases ap.1 hg with e|hg
  ·exact⟨.inl e,_,_,by rw[e];exact hb,.inl dE⟩
  ·obtain⟨cs,h⟩:=Y4 ho g hg
   exact⟨.inr (ho.lt g hg).1,_,_,h,.inl dE⟩)
variable (T F R b0 b1 b2 b3 b4 b5 b23 b93 base capt c12 c15 At A12 A15 cr)
def SmSt(k:Nat)(lx:List Lx)(w wc:World):Prop:=SmC T F R b0 b1 b2 b3 b4 b5 b23 b93 base capt c12 c15 At A12 A15 cr w wc/\∃ A cap xs nL,Blk wc b5 42 #[.slice At 15 capt,.slice (some ⟨b23,0,none⟩) 5 5,.slice (some ⟨b93,0,none⟩) 6 6,.slice A k cap,.slice none 0 0]/\Own wc base 38 9 A k cap xs/\Fz [] nL TS wc (fun w=>LxData w lx xs)
variable {T F R b0 b1 b2 b3 b4 b5 b23 b93 base capt c12 c15 At A12 A15 cr}
theorem SmSt.tr0{k:Nat}{lx:List Lx}{w wc w1:World}(h:SmSt T F R b0 b1 b2 b3 b4 b5 b23 b93 base capt c12 c15 At A12 A15 cr k lx w wc)(hs:Same [] wc w1):SmSt T F R b0 b1 b2 b3 b4 b5 b23 b93 base capt c12 c15 At A12 A15 cr k lx w w1:=by
 obtain⟨hC,A,cap,xs,nL,hb5,ho,hL⟩:=h;exact⟨hC.tr0 hs,A,cap,xs,nL,hb5.tr0 hs,ho.tr0 hs,hL.tr0 hs⟩
end st
def starB(g:List Nd):Bool:=(List.range g.length).all (fun i=>decide (i=0)||(List.range i).any (fun j=>(NK g (j:Int)).ln.any (fun x=>decide (x.2=(i:Int)))))
theorem unr_star{g:List Nd}(h:starB g=true):JX g= -1:=by
 refine(Ez (.inl ⟨rfl,?_⟩)).symm;intro i
 induction i using Nat.strongRecOn with
 | ind i ih=>
  intro hi;have h1:=aD.1 h i (ax.2 hi);by_cases e:i=0
  ·subst e;exact .zero
  ·simp only[e,decide_false,Bool.false_or]at h1
   obtain⟨j,hj,h2⟩:=List.any_eq_true.1 h1;obtain⟨x,hx,h3⟩:=List.any_eq_true.1 h2;have hji:=ax.1 hj;have a1:j<g.length:=by omega
   have hx2:x∈(g[j]).ln:=by
    have e2:NK g (j:Int)=g[j]:=by simp[NK,List.getD,a1]
    rw[e2]at hx;exact hx
   have hr:=Rch.step (ih j hji a1) a1 hx2;have e3:x.2=(i:Int):=by simpa using h3
   rw[e3]at hr;simpa using hr
def grB(T:List Ty)(F:List Ft)(g:List Nd):Bool:=decide ((vJ T.length F.length g).1=0)&&decide (tyF T F g=(0,0))&&starB g
theorem grB_ok{T:List Ty}{F:List Ft}{g:List Nd}(h:grB T F g=true):x7 T F g=(0,0):=by
 simp only[grB,Bool.and_eq_true,decide_eq_true_eq]at h;exact XY h.1.1 h.1.2 (by rw[unr_star h.2];decide)
def tvB(x:Tv):Bool:=decide ((twk x.tm 1 0 0).2.1=0)&&(tyv [] x).isSome
theorem T0{x:Tv}(h:tvB x=true):tmF x.tm=(0,0):=by
 simp only[tvB,Bool.and_eq_true,decide_eq_true_eq]at h;obtain⟨τ,hτ⟩:=aV.1 h.2;unfold tmF;rw[if_pos h.1,if_pos ⟨x,τ,rfl,hτ⟩]
structure RlS where
 name:ByteArray
 rows:List (List Int)
 kids:Int
 wt:Int
 mean:Tv
def RlS.rl(r:RlS):Rl:=⟨r.name,r.rows.map VJ,r.kids,r.wt,r.mean.tm⟩
structure LxS where
 word:ByteArray
 rows:List (List Int)
 wt:Int
 mean:Tv
def LxS.lx(r:LxS):Lx:=⟨r.word,r.rows.map VJ,r.wt,r.mean.tm⟩
def RlP(r:RlS)(w:World)(v:Value):Prop:=∃ G c n S cs B cb m,v= .agg #[.string r.name,.slice G r.rows.length c,.int .i64 r.kids,.int .i64 r.wt,.int .i64 r.mean.tm.kind,.string r.mean.tm.name,.int .i64 r.mean.tm.index,.string r.mean.tm.type.base,.slice S r.mean.tm.type.args.length cs,.slice B r.mean.tm.args.length cb]/\Fz [] n TS w (fun w=>NodesIn w G (r.rows.map VJ))/\Fz [] m TS w (fun w=>SimsIn w S r.mean.tm.type.args/\TmsIn w B r.mean.tm.args)
theorem RlP.tr0{r:RlS}{w w1:World}{v:Value}(h:RlP r w v)(hs:Same [] w w1):RlP r w1 v:=by
 obtain⟨G,c,n,S,cs,B,cb,m,e,h1,h2⟩:=h;exact⟨G,c,n,S,cs,B,cb,m,e,h1.tr0 hs,h2.tr0 hs⟩
theorem Fz.rcons{r:RlS}{G S B:Option Addr}{c cs cb n m k:Nat}{l:List Rl}{vs:List Value}{w:World}(hG:Fz [] n TS w (fun w=>NodesIn w G (r.rows.map VJ)))(hM:Fz [] m TS w (fun w=>SimsIn w S r.mean.tm.type.args/\TmsIn w B r.mean.tm.args))(hR:Fz [] k TS w (fun w=>RlCs w l vs)):
  Fz [] w.heap.size TS w (fun w=>RlCs w (r.rl::l) (.string r.name:: .slice G r.rows.length c:: .int .i64 r.kids:: .int .i64 r.wt:: .int .i64 r.mean.tm.kind:: .string r.mean.tm.name:: .int .i64 r.mean.tm.index:: .string r.mean.tm.type.base:: .slice S r.mean.tm.type.args.length cs:: .slice B r.mean.tm.args.length cb::vs)):=
 (hG.and (hM.and hR)).imp (fun _ h=>RlCs.cons (r:=r.rl) (by simp[RlS.rl]) h.1 h.2.1.1 h.2.1.2 h.2.2)
def lxB(T:List Ty)(F:List Ft)(r:LxS):Bool:=yX r.word && !decide (IY r.lx)&&grB T F r.lx.gr&&tvB r.mean
theorem lxB_ok{T:List Ty}{F:List Ft}{r:LxS}(h:lxB T F r=true):KK T F r.lx=0:=by
 simp only[lxB,Bool.and_eq_true,Bool.not_eq_true',decide_eq_false_iff_not]at h;rw[Wy h.1.1.1 h.1.1.2 (by rw[grB_ok h.1.2])];exact congrArg (·.1) (T0 h.2)
end
section
section monok
variable {P:Program} {Q:Exit->Act->World->Prop} {n:Nw} {f:Fr} {w:World}
def vO(f:Fr)(o:Oper):Value:=match o.dst with
 | some d=>f d
 | none=>undef
def rO(R:Nat->Value->World->Prop)(i:Nat)(o:Oper)(v:Value)(w:World):Prop:=match o.dst with
 | some _=>R i v w
 | none=>R i undef w
def monoK(l:List Oper)(m:Nat)(S:List Nat):Bool:=
 decide (l.length=m)&&(List.range l.length).all (fun i=>match l[i]? with
  | some o=>o.guard.isNone&&(vV o).all (fun j=>decide (j<i))&&(match o.dst with
   | some d=>mem S d&&(List.range l.length).all (fun j=>decide (i=j)||(match l[j]? with|some o'=>!(o'.dst==some d)|none=>true))
   | none=>true)
  | none=>false)
theorem TX{Post:Value->World->Prop}{op:Op}{ty:TypeId}{pos:String}{af:Array Edge}(h:∀(ops:Array Oper) (Q:Exit->Act->World->Prop),(∀ w',Post undef w'->WL P ops Q [] n f w')->WL P ops Q [⟨none,op,ty,pos,af,none⟩] n f w):OS P n f w ⟨none,op,ty,pos,af,none⟩ Post:=by
 unfold OS;intro K Q hK
 have h1:=h #[] (S3 K Q) (fun w' hp=>by
  unfold WL;refine wpList_nil ?_;have:=hK undef w' hp
  exact this)
 unfold WL wpList at h1;rw[if_pos (by simp[Region.wanted])]at h1;have ho:¬LetsOut (S3 K Q):=fun⟨_,_,h⟩=>h
 rcases h1 with h1|⟨_,h1⟩
 ·exact IW (Q:=S3 K Q) (fun a w h=>h) (fun c a w h=>h) ho h1
 ·exact absurd h1 ho
end monok
end
section
section seven
variable {P:Program} {Q:Exit->Act->World->Prop} {n:Nw} {f:Fr} {w:World}
def stU(st:Nat->Bool)(i k:Nat):Bool:=if k=i then true else st k
def stL(sp:Nat->Bool)(listed:Array Bool)(k:Nat):Bool:=listed.getD k false&&sp k
def Ox(l:List Oper):Nat->Nat->Nat->Bool
 | 0,_,_=>false
 | k+1,s,i=>match l[s]? with
  | some o=>(vV o).any (fun j=>Nat.beq j i||Ox l k j i)
  | none=>false
theorem W4{l:List Oper}{listed:Array Bool}(hD:Dn l listed):∀ {k s i:Nat},Ox l k s i=true->listed.getD s false=true->listed.getD i false=true
 | 0,_,_,h,_=>by cases h
 | k+1,s,i,h,hs=>by
  unfold Ox at h
  cases ho:l[s]? with
  | none=>rw[ho]at h;cases h
  | some o=>
   rw[ho]at h
   obtain⟨j,hj,h2⟩:=List.any_eq_true.1 h
   have hjl:=hD s o ho hs j hj
   rw[Bool.or_eq_true]at h2
   rcases h2 with h2|h2
   ·rw[<- Nat.eq_of_beq_eq_true h2];exact hjl
   ·exact W4 hD h2 hjl
theorem c_monoU{id:Nat}{l:List Oper}(m:Nat)(S X:List Nat)(sp:Nat->Bool)(R:(Nat->Bool)->Nat->Value->Nat->Nat->World->Prop)(hm:P.follows .mixedOrders=true)(hB:monoK l m S=true)
  (hst:∀ st i v la ha w1 w2,R st i v la ha w1->Same [] w1 w2->R st i v la ha w2)
  (step:∀ st i o,i<m->sp i=false->l[i]? =some o->(∀ s,sp s=true->Ox l m s i=true->st s=false)->∀ f' w' (la ha:Nat->Nat),Same X w w'->Ag S f' f->(∀ j o',j∈vV o->l[j]? =some o'->R st j (vO f' o') (la j) (ha j) w')->OS P n f' w' o (fun v w''=>Same [] w' w''/\R st i v w'.heap.size w''.heap.size w''))
  (a6:∀ st i o,i<m->sp i=true->st i=false->l[i]? =some o->(∀ s,sp s=true->Ox l m s i=true->st s=false)->∀ f' w' (la ha:Nat->Nat),Same X w w'->Ag S f' f->(∀ j o',j∈vV o->l[j]? =some o'->R st j (vO f' o') (la j) (ha j) w')->(∀ j k,j∈vV o->k∈vV o->j≠k->ha j<=la k\/ha k<=la j)->OS P n f' w' o (fun v w''=>Same X w w''/\w'.heap.size<=w''.heap.size/\rO (fun i v w''=>R (stU st i) i v w'.heap.size w''.heap.size w'') i o v w''/\∀ k o',k≠i->l[k]? =some o'->R st k (vO f' o') (la k) (ha k) w'->R (stU st i) k (vO f' o') (la k) (ha k) w''))
  (b3:∀ i o,l[i]? =some o->o.dst=none->sp i=true)
  (fin:∀ st f' w' (la ha:Nat->Nat),(∀ k,k<m->sp k=true->st k=true)->Same X w w'->Ag S f' f->(∀ i o,l[i]? =some o->R st i (vO f' o) (la i) (ha i) w')->(∀ i j,i<m->j<m->i≠j->ha i<=la j\/ha j<=la i)->WL P l.toArray Q [] n f' w'):WC P (.region id l.toArray true) Q n f w:=by
 simp only[monoK,Bool.and_eq_true,List.all_eq_true,List.mem_range,decide_eq_true_eq]at hB;obtain⟨hlm,hB⟩:=hB;have b1:∀ i o,l[i]? =some o->o.guard=none/\(∀ j∈vV o,j<i)/\(∀ v f',Ag S f' f->Ag S (Zx f' o.dst v) f)/\(∀ f' v,vO (Zx f' o.dst v) o=(match o.dst with|some _=>v|none=>undef))/\∀ f' v j o',l[j]? =some o'->i≠j->vO (Zx f' o.dst v) o'=vO f' o':=fun i o ho=>by
  have hil:i<l.length:=(av.1 ho).1;have h:=hB i hil;simp only[ho,Bool.and_eq_true]at h;obtain⟨⟨h1,h2⟩,h3⟩:=h;refine⟨Option.isNone_iff_eq_none.1 h1,(fun j hj=>by simpa using aD.1 h2 j hj),?_⟩;unfold vO Zx;cases hd:o.dst with
  | none=>exact⟨fun v f' h=>h,fun f' v=>rfl,fun f' v j o' _ _=>rfl⟩
  | some d=>
   simp only[hd,Bool.and_eq_true]at h3;refine⟨fun v f' h=>Rz h3.1 h,fun f' v=>by simp[upd],fun f' v j o' a1 a3=>?_⟩;have h4:=aD.1 h3.2 j (ax.2 (av.1 a1).1);cases hd':o'.dst with
   | none=>rfl
   | some d'=>
    simp only[a1,hd']at h4;have hb:Nat.beq d' d=false:=by
     cases hb:Nat.beq d' d
     ·rfl
     ·rw[Nat.eq_of_beq_eq_true hb]at h4;simp[a3]at h4
    simp only[upd,hb,cond_false]
 let J:Array Bool->Fr->World->Prop:=fun listed f' w'=>Same X w w'/\Ag S f' f/\∃ la ha:Nat->Nat,(∀ i o,l[i]? =some o->listed.getD i false=true->R (stL sp listed) i (vO f' o) (la i) (ha i) w')/\(∀ j,j<l.length->listed.getD j false=true->ha j<=w'.heap.size)/\∀ i j,i<l.length->j<l.length->i≠j->listed.getD i false=true->listed.getD j false=true->ha i<=la j\/ha j<=la i
 refine E7 J hm (fun w' hs=>⟨hs.weak (by simp),J8,fun _=>0,fun _=>0,fun i _ _ h=>absurd h ZZ,fun i _ h=>absurd h ZZ,fun i j _ _ _ h=>absurd h ZZ⟩) ?_
 rintro listed f' w' ⟨hsm,hag,la,ha,hR,hH,hI⟩ hs hD
 by_cases a2:∀ i,i<l.length->listed.getD i false=true
 ·have h:=fin (stL sp listed) f' w' la ha (fun k hk hsk=>by unfold stL;rw[a2 k oG,hsk];rfl) hsm hag (fun i o ho=>hR i o ho (a2 i (av.1 ho).1)) (fun i j hi hj a3=>hI i j oG oG a3 (a2 i oG) (a2 j oG))
  exact .inl (HK a2 h)
 ·obtain⟨a,hb⟩:=aT.1 a2
  obtain⟨hb1,hb⟩:=aP.1 hb;refine .inr ⟨KQ hs (fun i o _ ho=>(b1 i o ho).2.1) (ae _) a hb1 (by simpa using hb),fun i o hil ho hn hd=>?_⟩;obtain⟨hg,hdl,hau,hus,huo⟩:=b1 i o ho;refine⟨fun _=>?_,fun hw=>by simp[Region.wanted,hg]at hw⟩;have hns:∀ s,sp s=true->Ox l m s i=true->stL sp listed s=false:=fun s _ hr=>by
   unfold stL;cases hls:listed.getD s false with
   | false=>rfl
   | true=>rw[W4 hD hr hls]at hn;cases hn
  have nx:∀ v w'',Same X w w''->w'.heap.size<=w''.heap.size->R (stL sp (listed.setIfInBounds i true)) i (match o.dst with|some _=>v|none=>undef) w'.heap.size w''.heap.size w''->(∀ k o',k≠i->l[k]? =some o'->R (stL sp listed) k (vO f' o') (la k) (ha k) w'->R (stL sp (listed.setIfInBounds i true)) k (vO f' o') (la k) (ha k) w'')->J (listed.setIfInBounds i true) (Zx f' o.dst v) w'':=fun v w'' hs1 hsz hr1 hk1=>⟨hs1,hau v f' hag,fun k=>if k=i then w'.heap.size else la k,fun k=>if k=i then w''.heap.size else ha k,fun j o' a1 an=>by
   by_cases a4:i=j
   ·subst a4
    rw[ho]at a1;cases a1;rw[hus];simp only[if_true];exact hr1
   ·rw[gse a4]at an
    rw[huo _ _ j o' a1 a4];simp only[if_neg (Ne.symm a4)];exact hk1 j o' (Ne.symm a4) a1 (hR j o' a1 an),fun j hj an=>by
   by_cases a4:i=j
   ·subst a4;simp
   ·rw[gse a4]at an
    simp only[if_neg (Ne.symm a4)];exact nLT (hH j hj an) hsz,fun j k hj hk a3 b4 b2=>by
   by_cases e1:i=j
   ·subst e1
    rw[gse a3]at b2;simp only[if_true,if_neg (Ne.symm a3)];exact .inr (hH k hk b2)
   ·rw[gse e1]at b4
    by_cases e2:i=k
    ·subst e2
     simp only[if_true,if_neg (Ne.symm e1)];exact .inl (hH j hj b4)
    ·rw[gse e2]at b2
     simp only[if_neg (Ne.symm e1),if_neg (Ne.symm e2)]
     exact hI j k hj hk a3 b4 b2⟩
  have a7:∀ k,k≠i->stL sp (listed.setIfInBounds i true) k=stL sp listed k:=fun k hk=>by
   unfold stL;rw[gse (Ne.symm hk)]
  have ad:stL sp (listed.setIfInBounds i true) i=sp i:=by unfold stL;rw[gss oG];rfl
  cases hsp:sp i with
  | false=>
   have a9:stL sp (listed.setIfInBounds i true)=stL sp listed:=by
    funext k
    by_cases a5:k=i
    ·subst a5;rw[ad,hsp];unfold stL;rw[hsp,Bool.and_false]
    ·exact a7 k a5
   have h1:=step (stL sp listed) i o oG hsp ho hns f' w' la ha hsm hag (fun j o' b5 a1=>hR j o' a1 (hd j b5));unfold OS at h1 ⊢;refine fun K Q' hK=>h1 K Q' (fun v w'' ⟨h1,h2⟩=>hK v w'' (nx v w'' (hsm.trans (h1.weak (by simp))) h1.size ?_ (fun k o' _ _ h=>by rw[a9];exact hst _ _ _ _ _ _ _ h h1)))
   rw[a9];cases hdst:o.dst with
   | none=>have:=b3 i o ho hdst;rw[hsp]at this;cases this
   | some d=>exact h2
  | true=>
   have a8:stL sp (listed.setIfInBounds i true)=stU (stL sp listed) i:=by
    funext k
    unfold stU;by_cases a5:k=i
    ·subst a5;rw[ad,hsp,if_pos rfl]
    ·rw[if_neg a5];exact a7 k a5
   have h1:=a6 (stL sp listed) i o oG hsp (by unfold stL;rw[hn];rfl) ho hns f' w' la ha hsm hag (fun j o' b5 a1=>hR j o' a1 (hd j b5)) (fun j k hj hk a3=>hI j k (by have:=hdl j hj;omega) (by have:=hdl k hk;omega) a3 (hd j hj) (hd k hk));unfold OS at h1 ⊢;refine fun K Q' hK=>h1 K Q' (fun v w'' ⟨h1,h2,h3,h4⟩=>hK v w'' (nx v w'' h1 h2 ?_ (fun k o' hk a1 h=>by rw[a8];exact h4 k o' hk a1 h)))
   rw[a8];unfold rO at h3;cases hdst:o.dst<;>simpa only[hdst]using h3
theorem HQ{id:Nat}{l:List Oper}(m:Nat)(S X:List Nat)(sp:Nat->Bool)(R:(Nat->Bool)->Nat->Value->Nat->Nat->World->Prop)(hm:P.follows .mixedOrders=true)(hB:monoK l m S=true)(hsp:(List.range m).all (fun i=>match l[i]? with|some o=>o.dst.isSome||sp i|none=>true)=true)
  (hst:∀ st i v la ha w1 w2,R st i v la ha w1->Same [] w1 w2->R st i v la ha w2)
  (step:∀ st i o,i<m->l[i]? =some o->(∀ s,sp s=true->Ox l m s i=true->st s=false)->∀ g w' (la ha:Nat->Nat),Same X w w'->(∀ j o',j∈vV o->l[j]? =some o'->R st j (vO g o') (la j) (ha j) w')->bif sp i then st i=false->(∀ j k,j∈vV o->k∈vV o->j≠k->ha j<=la k\/ha k<=la j)->OS P n (ovr S g f) w' o (fun v w''=>Same X w w''/\w'.heap.size<=w''.heap.size/\rO (fun i v w''=>R (stU st i) i v w'.heap.size w''.heap.size w'') i o v w''/\∀ k o',k≠i->l[k]? =some o'->R st k (vO g o') (la k) (ha k) w'->R (stU st i) k (vO g o') (la k) (ha k) w'')else OS P n (ovr S g f) w' o (fun v w''=>Same [] w' w''/\R st i v w'.heap.size w''.heap.size w''))
  (fin:∀ st g w' (la ha:Nat->Nat),(∀ k,k<m->sp k=true->st k=true)->Same X w w'->(∀ i o,l[i]? =some o->R st i (vO g o) (la i) (ha i) w')->(∀ i j,i<m->j<m->i≠j->ha i<=la j\/ha j<=la i)->WL P l.toArray Q [] n (ovr S g f) w'):WC P (.region id l.toArray true) Q n f w:=by
 have hlm:l.length=m:=by
  have h:=hB;simp only[monoK,Bool.and_eq_true,decide_eq_true_eq]at h;exact h.1
 have a3:∀ {f':Fr},Ag S f' f->f'=ovr S f' f:=fun a1=>Qz a1
 refine c_monoU m S X sp R hm hB hst (fun st i o hi hs ho a4 f' w' la ha a2 a1 hd=>?_) (fun st i o hi hs hn ho a4 f' w' la ha a2 a1 hd hI=>?_) (fun i o ho hd=>?_) (fun st f' w' la ha a5 a2 a1 hR hI=>?_)
 ·have h:=step st i o hi ho a4 f' w' la ha a2 hd
  rw[hs]at h;rw[<- a3 a1]at h;exact h
 ·have h:=step st i o hi ho a4 f' w' la ha a2 hd
  rw[hs]at h;rw[<- a3 a1]at h;exact h hn hI
 ·have hil:=(av.1 ho).1
  have h:=aD.1 hsp i (ax.2 oG)
  simpa[ho,hd]using h
 ·have h:=fin st f' w' la ha a5 a2 hR hI
  rw[<- a3 a1]at h;exact h
end seven
end
theorem in90_DGo:(prog.info? 90).map (fun i=>(i.zero,i.size,i.bytes))=some (some (.agg #[.int .i64 0,.int .i64 0]),2,16):=by kernel_rfl
theorem in93_DGo:(prog.info? 93).map (fun i=>(i.zero,i.size,i.bytes))=some (some (.agg #[.int .i64 0,.slice none 0 0]),2,32):=by kernel_rfl
theorem sz26_DGo:(prog.info? 26).map (·.size)=some 1:=by kernel_rfl
theorem D2:(prog.info? 28).map (·.size)=some 1:=by kernel_rfl
theorem qx:(prog.info? 3).map (·.size)=some 1:=by kernel_rfl
theorem yz:(prog.info? 68).map (·.size)=some 1:=by kernel_rfl
theorem sz90_DGo:(prog.info? 90).map (·.size)=some 2:=by kernel_rfl
theorem F6:(prog.info? 91).map (·.size)=some 1:=by kernel_rfl
theorem F5:(prog.info? 93).map (·.size)=some 2:=by kernel_rfl
theorem RQ:(prog.info? 28).map (·.zero)=some (some (.agg #[.slice none 0 0])):=by kernel_rfl
theorem ze90_DGo:(prog.info? 90).map (·.zero)=some (some (.agg #[.int .i64 0,.int .i64 0])):=by kernel_rfl
theorem RZ:(prog.info? 93).map (·.zero)=some (some (.agg #[.int .i64 0,.slice none 0 0])):=by kernel_rfl
set_option maxHeartbeats 2000000 in
theorem Z8(A:Option Addr)(c:Nat)(rs:List (List Int))(w:World)(hR:RowsIn w A rs):Calls prog 22 #[.slice A rs.length c] w fun e w'=>(∃ A' cap,e= .returned (.agg #[.slice A' rs.length cap])/\Fz [] w'.heap.size TS w' (fun w=>NodesIn w A' (rs.map VJ)))/\Bel w w':=by
 have hrl:=hR.1;have hrr:=hR.2.1;refine enT func22 ntmps22 rfl rfl fun hB=>?_;refine zn2 ?_;refine qk (cs:=#[.slice none 0 0]) RQ rfl (fun b2 w1 a3 s1 hr=>?_);have lo2:=nLT (Bel.size hB) hr;refine zn4 ?_;refine qk (cs:=#[.slice none 0 0]) RQ rfl (fun b3 w2 a4 s2 hr=>?_);have:=nLL a3.lt hr;have lo3:=nLT (Bel.size hB.u) hr;refine kQ ?_;refine qj (rg [5,6,7] 10 37) (fun m g w'=>∃(k:Nat) (A3:Option Addr) (b5:Nat) (bj:List Value) (n3:Nat),k<=rs.length/\m=rs.length-k/\g 10= .int .i64 k/\Bel w w'/\Blk w' b2 28 #[.slice none 0 0]/\Blk w' b3 28 #[.slice A3 k b5]/\Own w' (b3+1) 93 2 A3 k b5 bj/\Fz [] n3 TS1 w' (fun w=>NdData w ((rs.take k).map VJ) bj)) (rs.length) ?_ (fun m g3 w3 hI=>?_)
 ·exact⟨0,none,0,[],_,ag _,rfl,rfl,hB.u,a3.u,a4,Own.nil _ _ _ _,Fz.triv [] _ TS1 (fun _=>NdData.nil)⟩
 obtain⟨k,A3,b5,bj,n3,hk,hm,h10,hB,a3,a4,a2,a5⟩:=hI;refine zK 10 _ h10 nu (zn6 ?_);refine zV rfl (fun c11=>?_) (fun c11=>?_)
 ·have a7:k<rs.length:=by omega
  have bo:=hrr _ (ar a7);obtain⟨rb,ro,Ar,cr,rfl,hrc,hri⟩:=hR.at_ hB a7;refine zn7 ?_;refine wl (qW (v:= .slice _ _ _) U68 rfl rfl hrc) (zn4 ?_);obtain⟨pb,po,rfl,bq,bx⟩:=hri.2 (by intro h;rw[h]at bo;simp at bo);have hc0:=hB.cell bq (bx 0 bo.1);obtain⟨z0,hz0⟩:∃ z,z=(rs[k]'a7)[0]'bo.1:=⟨_,rfl⟩
  rw[<- hz0]at hc0;refine zn2 ?_;refine wl (xX (i:=0) U68 qx rfl rfl oG rfl) (wl (qW (v:= .int _ _) U3 rfl rfl hc0) (wl (ZY (v0:= .int _ _) (fun v0=>#[v0,.slice none 0 0]) rfl kR) ?_));refine yj (cs:=#[.int .i64 0,.slice none 0 0]) RZ rfl (fun _=>rfl) (fun _=>rfl) F5 rfl zJ (fun b6 w5 b1 s3 hr=>?_);have:=nLL a3.lt hr;have:=nLL a4.lt hr;have a1:=fun g hg=>nLL (a2.lt g hg).2 hr
  have bi:=nLT a5.le hr;have lo6:=nLT (Bel.size hB) hr;refine zn9 ?_;replace a2:=a2.tr0 s3;replace a5:=a5.tr0 s3;refine qj (rg [7] 18 22) (fun m g w'=>∃(i j:Nat) (A6:Option Addr) (b7:Nat) (b8:List (Int×Int)),1<=i/\j<=i/\i<=(rs[k]'a7).length+1/\m=(rs[k]'a7).length+2-i/\g 7= .int .i64 i/\Yv ((rs[k]'a7).drop 1)=b8++Yv ((rs[k]'a7).drop i)/\Bel w w'/\Blk w' b2 28 #[.slice none 0 0]/\Blk w' b3 28 #[.slice A3 k b5]/\Own w' (b3+1) 93 2 A3 k b5 bj/\Blk w' b6 93 #[.int .i64 z0,.slice A6 j b7]/\Own w' (b6+1) 90 2 A6 j b7 (lnC b8)/\Fz [] n3 TS1 w' (fun w=>NdData w ((rs.take k).map VJ) bj)) ((rs[k]'a7).length+1) ?_ (fun m g7 w6 hI=>?_)
  ·exact⟨1,0,none,0,[],ae _,ag _,by omega,rfl,rfl,rfl,hB.u,a3.u,a4.u,a2,b1,Own.nil _ _ _ _,a5⟩
  obtain⟨i,j,A6,b7,b8,hi1,hji,hil,hm7,h7,hpr,hB,a3,a4,a2,b1,a6,a5⟩:=hI;refine zK 7 _ h7 nu (zn4 ?_);refine wl (QZ (c:=((i+1:Nat):Int)) rfl rfl rfl oG) (zn5 ?_);refine zV rfl (fun c22=>?_) (fun c22=>?_)
  ·have hi0:i<(rs[k]'a7).length:=by omega
   have bz:i+1<(rs[k]'a7).length:=by omega
   have bu:=hB.cell bq (bx i hi0);have bt:=hB.cell bq (bx (i+1) bz);obtain⟨za,hza⟩:∃ z,z=(rs[k]'a7)[i]'hi0:=⟨_,rfl⟩
   obtain⟨zb,hzb⟩:∃ z,z=(rs[k]'a7)[i+1]'bz:=⟨_,rfl⟩
   rw[<- hza]at bu;rw[<- hzb]at bt;have bw:Yv ((rs[k]'a7).drop 1)=(b8++[(za,zb)])++Yv ((rs[k]'a7).drop (i+2)):=by rw[hpr,Gz bz,<- hza,<- hzb,List.append_assoc];rfl
   refine zn4 ?_;have z2:=a3.lt;have z3:=a4.lt;have z6:=b1.lt;have zo3:=fun g hg=>(a2.lt g hg).2
   have zo6:=fun g hg=>(a6.lt g hg).2
   have hsz:=Bel.size hB;replace bu:=fun(w1:World) (h:Bel w6 w1)=>h.cell (nLL bq hsz) bu
   replace bt:=fun(w1:World) (h:Bel w6 w1)=>h.cell (nLL bq hsz) bt
   refine uw 13 (rg [] 25 13) (fun ix=>Nat.beq ix 12) (fun ix v wv=>match ix with|0=>v= .pointer (some ⟨b6,1,none⟩)|1=>v= .slice A6 j b7|2=>v= .slice (some ⟨pb,po,none⟩) (rs[k]'a7).length cr|3=>v= .int .i64 i|4=>v= .pointer (some ⟨pb,po+i*1,none⟩)|5=>v= .int .i64 za|6=>v= .slice (some ⟨pb,po,none⟩) (rs[k]'a7).length cr|7=>v= .int .i64 i|8=>v= .int .i64 ((i+1:Nat):Int)|9=>v= .pointer (some ⟨pb,po+(i+1)*1,none⟩)|10=>v= .int .i64 zb|11=>v= .agg #[.int .i64 za,.int .i64 zb]|12=>∃ b,v= .slice (some ⟨b,0,none⟩) 1 1/\w6.heap.size<=b/\Blk wv b 90 #[.int .i64 za,.int .i64 zb]|_=>True) kR kR ?_ ?_ ?_
   ·intro ix v wv wv2 h s4
    match ix,h with
    | 0,h=>exact h
    | 1,h=>exact h
    | 2,h=>exact h
    | 3,h=>exact h
    | 4,h=>exact h
    | 5,h=>exact h
    | 6,h=>exact h
    | 7,h=>exact h
    | 8,h=>exact h
    | 9,h=>exact h
    | 10,h=>exact h
    | 11,h=>exact h
    | 12,h=>
     obtain⟨c5,c4,bn,b4⟩:=h;exact⟨c5,c4,bn,b4.tr0 s4⟩
    | _+13,h=>exact trivial
   ·intro ix o hix hoq gg wx s5 hd c0
    match ix,hix,hoq with
    | 0,_,hoq=>
     cases sI hoq;exact oVq (uK U93 F6 dE rfl rfl rfl) rfl
    | 1,_,hoq=>
     cases sI hoq;refine aW 25 (hd 0 aX) ?_;exact oVq (qW (v:= .slice _ _ _) U91 rfl rfl (b1.u.cell rfl)) rfl
    | 2,_,hoq=>
     cases sI hoq;exact oVq (xz (v:= .slice _ _ _) rfl) rfl
    | 3,_,hoq=>
     cases sI hoq;exact oVq (xz (v:= .int _ _) rfl) rfl
    | 4,_,hoq=>
     cases sI hoq;refine aW 27 (hd 2 aX) (aW 28 (hd 3 aX) ?_);exact oVq (xX (i:=i) U68 qx rfl rfl oG rfl) rfl
    | 5,_,hoq=>
     cases sI hoq;have be:=s5;refine aW 29 (hd 4 aX) ?_;exact oVq (qW (v:= .int _ _) U3 rfl rfl (bu _ be.bel)) rfl
    | 6,_,hoq=>
     cases sI hoq;exact oVq (xz (v:= .slice _ _ _) rfl) rfl
    | 7,_,hoq=>
     cases sI hoq;exact oVq (xz (v:= .int _ _) rfl) rfl
    | 8,_,hoq=>
     cases sI hoq;refine aW 32 (hd 7 aX) ?_;exact oVq (QZ (c:=((i+1:Nat):Int)) rfl rfl rfl oG) rfl
    | 9,_,hoq=>
     cases sI hoq;refine aW 31 (hd 6 aX) (aW 33 (hd 8 aX) ?_);exact oVq (xX (i:=i+1) U68 qx rfl rfl oG rfl) rfl
    | 10,_,hoq=>
     cases sI hoq;have be:=s5;refine aW 34 (hd 9 aX) ?_;exact oVq (qW (v:= .int _ _) U3 rfl rfl (bt _ be.bel)) rfl
    | 11,_,hoq=>
     cases sI hoq;refine aW 30 (hd 5 aX) (aW 35 (hd 10 aX) ?_);exact oVq (jk (v0:= .int _ _) (v1:= .int _ _) (fun v0 v1=>#[v0,v1]) rfl rfl kR) rfl
    | 12,_,hoq=>
     cases sI hoq;have be:=s5;refine aW 36 (hd 11 aX) ?_;refine jZ (fun ops Q K=>?_);refine qv (cs:=#[_,_]) [(0,.agg _)] rfl U91 sz90_DGo ze90_DGo dE dE kR rfl (fun c5 w7 b4 s6 hr=>?_);exact K _ _ ⟨s6,⟨_,rfl,nLT be.size hr,b4⟩,fRq hr b4.lt⟩
    | _+13,hix,_=>exact absurd hix oG
   intro gg w8 s7 hR c0;have be:=s7;obtain⟨c5,c4,bn,b4⟩:=hR 12 dE;have hsm:_<=w8.heap.size:=be.size;refine x9 26 _ (hR 1 dE) nu (x9 37 _ c4 nu ?_);replace a6:=a6.tr0 s7;refine jv U91 in90_DGo rfl dE a6 b4 rfl rfl rfl zJ dE oG oG (nLT z6 hsm) (fun c3 cap38 w9 bg s8 hg=>?_);have bd:c3≠b2:=neA a6 a3.u.lt hg
   have bc:c3≠b3:=neA a6 a4.u.lt hg
   have an:c3≠b6:=neA a6 b1.u.lt hg
   replace hB:=hB.u.tr s8 (fun g hg=>nLT (aN lo6) (a6.lt g hg).1);replace a3:=a3.tr0 s7;replace a3:=a3.ta s8 a6;replace a4:=a4.tr0 s7;replace a4:=a4.ta s8 a6;replace a2:=a2.tr0 s7;replace a2:=a2.tr s8 (fun g hg hx=>by have:=(a6.lt _ hx).1;have:=(a2.lt _ hg).1;(try have:=or_ho3_b2 _ hg);(try have:=or_ho6_b2 _ hx);(try have:=or_ho3_b3 _ hg);(try have:=or_ho6_b3 _ hx);(try have:=a1 _ hg);(try have:=or_ho6_b6 _ hx);(try have:=or_ho3_b37 _ hg);(try have:=or_ho6_b37 _ hx);omega);replace a5:=a5.tr0 s7;replace a5:=a5.trX s8 (fun g hg=> .inl (by have:=(a6.lt g hg).1;omega));replace b1:=b1.tr0 s7;replace b1:=b1.ta s8 a6;refine zn1 ?_;refine xZ (v:= .slice _ _ _) b1 rfl rfl F6 (by first|decide|simp) rfl rfl (fun w10 hq s9=>?_);replace a2:=a2.tr1 s9 (neL a1);replace a5:=a5.sp1 s9 b1 (.inl dE);replace bg:=bg.tr1 s9 (neS an);replace b1:=hq;refine zn5 ?_;refine wl (QZ (c:=((i+2:Nat):Int)) rfl rfl rfl oG) (zn2 ?_);refine xK ((rs[k]'a7).length+2-(i+2)) oG agA ?_;replace hB:=hB.tr1 s9 lo6;replace a3:=a3.tr1 s9 oG;replace a4:=a4.tr1 s9 oG;exact⟨i+2,j+1,_,_,b8++[(za,zb)],by omega,by omega,by omega,rfl,rfl,bw,hB,a3,a4,a2,b1,by rw[<- lnC_snoc];exact bg,a5⟩
  have hls:Yv ((rs[k]'a7).drop 1)=b8:=by rw[hpr,pairs_end oG,List.append_nil]
  have bv:VJ (rs[k]'a7)=⟨z0,b8⟩:=by
    unfold VJ;rw[hls,hz0];simp[List.getD,bo.1]
  have htk:(rs.take (k+1)).map VJ=(rs.take k).map VJ++[⟨z0,b8⟩]:=by rw[I5 rs a7,List.map_append,List.map_cons,List.map_nil,bv]
  refine zn9 ?_;refine qv (cs:=#[_,_]) [(0,.agg _)] rfl U26 F5 RZ dE dE kR rfl (fun b43 w11 c1 bm hr=>?_);have:=nLL a3.lt hr;have:=nLL a4.lt hr;have a9:=fun g hg=>nLL (a2.lt g hg).2 hr
  have b9:=nLT a5.le hr;have:=nLL b1.lt hr;have a8:=fun g hg=>nLL (a6.lt g hg).2 hr
  have lo43:=nLT (Bel.size hB) hr;replace a2:=a2.tr0 bm;refine jv U26 in93_DGo rfl dE a2 c1 rfl rfl rfl zJ dE oG oG a4.u.lt (fun c2 cap44 w12 bf bk hg=>?_);have bb:c2≠b2:=neA a2 a3.u.lt hg
  have ad:c2≠b3:=neA a2 a4.u.lt hg
  have ba:c2≠b6:=neB b1.u.lt hg (neL a1)
  replace hB:=hB.u.tr bk (fun g hg=>nLT (aN lo3) (a2.lt g hg).1);replace a3:=a3.tr0 bm;replace a3:=a3.ta bk a2;replace a4:=a4.tr0 bm;replace a4:=a4.ta bk a2;replace a5:=a5.tr0 bm;replace a5:=a5.trX bk (fun g hg=>by obtain⟨cs,h⟩:=Y4 a2 g hg;exact .inr (.inr ⟨_,_,h,.inl dE⟩));replace a6:=a6.tr0 bm;replace a6:=a6.tr bk (fun g hg hx=>by have:=(a2.lt _ hx).1;have:=(a6.lt _ hg).1;(try have:=or_ho6_b2 _ hg);(try have:=or_ho3_b2 _ hx);(try have:=or_ho6_b3 _ hg);(try have:=or_ho3_b3 _ hx);(try have:=or_ho6_b6 _ hg);(try have:=a1 _ hx);(try have:=a8 _ hg);(try have:=a9 _ hx);omega);have bh:=gof_more (z:=z0) a6 a5;refine zn1 ?_;refine xZ (v:= .slice _ _ _) a4 rfl rfl sz26_DGo (by first|decide|simp) rfl rfl (fun w13 hq br=>?_);replace bf:=bf.tr1 br (neS ad);replace bh:=bh.sp1 br a4 (.inl dE);replace a4:=hq;refine zn7 ?_;refine xK (rs.length-(k+1)) oG agA ?_;replace hB:=hB.tr1 br lo3;replace a3:=a3.tr1 br oG;exact⟨k+1,_,_,_,_,by omega,rfl,rfl,hB,a3,a4,bf,by rw[htk];exact bh⟩
 have hkl:k=rs.length:=by omega
 subst hkl;rw[List.take_length]at a5;refine zn8 ?_;refine zk a3 rfl rfl D2 rfl zJ (fun w14 hq s13=>?_);replace a2:=a2.tq s13;replace a5:=a5.sp1 s13 a3 (.inl dE);replace a3:=hq;refine zn3 ?_;refine yx (.inl rfl) rfl (zZ U28 rfl rfl a3.range0 D2) ?_;exact⟨⟨_,_,rfl,gof_end a2 a5⟩,hB.u⟩
theorem Hq:zX prog 22=true:=by kernel_rfl
theorem in38:(prog.info? 38).map (fun i=>(i.zero,i.size,i.bytes))=some (some (.agg #[.string ⟨#[]⟩,.slice none 0 0,.int .i64 0,.int .i64 0,.string ⟨#[]⟩,.int .i64 0,.string ⟨#[]⟩,.slice none 0 0,.slice none 0 0]),9,144):=by kernel_rfl
theorem u9:(prog.info? 34).map (·.size)=some 6:=by kernel_rfl
theorem sz38:(prog.info? 38).map (·.size)=some 9:=by kernel_rfl
theorem sz40:(prog.info? 40).map (·.size)=some 1:=by kernel_rfl
theorem ze38:(prog.info? 38).map (·.zero)=some (some (.agg #[.string ⟨#[]⟩,.slice none 0 0,.int .i64 0,.int .i64 0,.string ⟨#[]⟩,.int .i64 0,.string ⟨#[]⟩,.slice none 0 0,.slice none 0 0])):=by kernel_rfl
set_option maxHeartbeats 1000000 in
theorem gK(s:ByteArray)(z:Int)(x:Tv)(SA BA R A:Option Addr)(cs cb:Nat)(rs:List (List Int))(c bG base k cap nT nL:Nat)(c0 c1 c2 c4:Value)(xs:List Value)(lx:List Lx)(w:World)(hs9:s.size<9223372036854775807)(hR:RowsIn w R rs)(hT:Fz [] nT TS w (fun w=>SimsIn w SA x.tm.type.args/\TmsIn w BA x.tm.args))(a3:Blk w bG 42 #[c0,c1,c2,.slice A k cap,c4])(ho:Own w base 38 9 A k cap xs)(hL:Fz [] nL TS w (fun w=>LxData w lx xs))(an:base<=w.heap.size)(hbl:bG<base)(hk:k<=1000):Calls prog 23 #[.string s,.int .i64 z,.agg #[.int .i64 (x).tm.kind,.string (x).tm.name,.int .i64 (x).tm.index,.string (x).tm.type.base,.slice SA (x).tm.type.args.length cs,.slice BA (x).tm.args.length cb],.slice R rs.length c,.pointer (some ⟨bG,0,none⟩)] w (fun e w'=>e= .returned (.tuple #[])/\∃ A' cap' xs',Blk w' bG 42 #[c0,c1,c2,.slice A' (k+1) cap',c4]/\Own w' base 38 9 A' (k+1) cap' xs'/\Fz [] w'.heap.size TS w' (fun w=>LxData w (lx++[⟨s,rs.map VJ,z,x.tm⟩]) xs')/\Same (bG::aL A) w w'/\(aL A'=aL A\/∀ g∈aL A',w.heap.size<=g)):=by
 refine enT func23 ntmps23 rfl rfl fun hB=>?_;refine zn2 ?_;refine qY (v:= .agg #[_,_,_,_,_,_]) (cs:=#[_,_,_,_,_,_]) rfl rfl (fun b7 w1 hb7 s1 hr=>?_);have a5:=fun g hg=>nLL (ho.lt g hg).2 hr
 refine zQ (e_S ?_);replace a3:=a3.tr0 s1;have zG:=a3.lt;replace ho:=ho.tr0 s1;have zo:=fun g hg=>(ho.lt g hg).2
 replace hB:=hB.tr0 s1;have hsz:=Bel.size hB;have hrs:=hR.1;refine uw 9 (rg [] 9 9) (fun ix=>Nat.beq ix 8) (fun ix v wv=>match ix with|0=>v= .pointer (some ⟨bG,3,none⟩)|1=>v= .slice A k cap|2=>v= .string s|3=>v= .int .i64 z|4=>v= .agg #[.int .i64 (x).tm.kind,.string (x).tm.name,.int .i64 (x).tm.index,.string (x).tm.type.base,.slice SA (x).tm.type.args.length cs,.slice BA (x).tm.args.length cb]|5=>v= .slice R rs.length c|6=>∃ G g n,v= .agg #[.slice G rs.length g]/\Fz [] n TS wv (fun w=>NodesIn w G (rs.map VJ))|7=>∃ G g n,v= .agg #[.string s,.slice G rs.length g,.int .i64 z,.int .i64 (x).tm.kind,.string (x).tm.name,.int .i64 (x).tm.index,.string (x).tm.type.base,.slice SA (x).tm.type.args.length cs,.slice BA (x).tm.args.length cb]/\Fz [] n TS wv (fun w=>NodesIn w G (rs.map VJ))|8=>∃ b G g n,v= .slice (some ⟨b,0,none⟩) 1 1/\w1.heap.size<=b/\Blk wv b 38 #[.string s,.slice G rs.length g,.int .i64 z,.int .i64 (x).tm.kind,.string (x).tm.name,.int .i64 (x).tm.index,.string (x).tm.type.base,.slice SA (x).tm.type.args.length cs,.slice BA (x).tm.args.length cb]/\Fz [] n TS wv (fun w=>NodesIn w G (rs.map VJ))|_=>True) kR kR ?_ ?_ ?_
 ·intro ix v wv wv2 h s2
  match ix,h with
  | 0,h=>exact h
  | 1,h=>exact h
  | 2,h=>exact h
  | 3,h=>exact h
  | 4,h=>exact h
  | 5,h=>exact h
  | 6,h=>
   obtain⟨bd,b6,b2,ba,a8⟩:=h;exact⟨bd,b6,b2,ba,a8.tr0 s2⟩
  | 7,h=>
   obtain⟨bc,b5,b1,b9,a7⟩:=h;exact⟨bc,b5,b1,b9,a7.tr0 s2⟩
  | 8,h=>
   obtain⟨bb,G17,g17,n17,b8,ad,a4,a2⟩:=h;exact⟨bb,G17,g17,n17,b8,ad,a4.tr0 s2,a2.tr0 s2⟩
  | _+9,h=>exact trivial
 ·intro ix o hix hoq gg wx s3 hd b4
  match ix,hix,hoq with
  | 0,_,hoq=>
   cases sI hoq;exact oVq (uK U42 sz40 dE rfl rfl rfl) rfl
  | 1,_,hoq=>
   cases sI hoq;refine aW 9 (hd 0 aX) ?_;exact oVq (qW (v:= .slice _ _ _) U40 rfl rfl (a3.u.cell rfl)) rfl
  | 2,_,hoq=>
   cases sI hoq;exact oVq (xz (v:= .string _) rfl) rfl
  | 3,_,hoq=>
   cases sI hoq;exact oVq (xz (v:= .int _ _) rfl) rfl
  | 4,_,hoq=>
   cases sI hoq;exact oVq (qZ U34 rfl rfl hb7.u.range0 u9) rfl
  | 5,_,hoq=>
   cases sI hoq;exact oVq (xz (v:= .slice _ _ _) rfl) rfl
  | 6,_,hoq=>
   cases sI hoq;refine aW 14 (hd 5 aX) ?_;refine vw Hq (Z8 _ _ _ wx (hR.mono hB.u)) rfl (fun e' w2 hr=>?_);obtain⟨⟨G9,g9,rfl,hz9⟩,s4⟩:=hr;exact⟨_,rfl,sB s4,⟨G9,g9,_,rfl,hz9⟩,xQ⟩
  | 7,_,hoq=>
   cases sI hoq;obtain⟨bd,b6,b2,ba,a8⟩:=hd 6 (zj kR);refine aW 11 (hd 2 aX) (aW 12 (hd 3 aX) (aW 13 (hd 4 aX) (zz 15 _ ba nu ?_)));exact oVq (r_bd4 (v0:= .string _) (v1:= .int _ _) (v2:= .agg _) (v3:= .agg _) (fun v0 v1 v2 v3=>#[v0,(qz v3 0),v1,(qz v2 0),(qz v2 1),(qz v2 2),(qz v2 3),(qz v2 4),(qz v2 5)]) rfl rfl rfl rfl kR) ⟨bd,b6,b2,rfl,a8⟩
  | 8,_,hoq=>
   cases sI hoq;have hs0:=s3;obtain⟨bc,b5,b1,b9,a7⟩:=hd 7 (zj kR);refine zz 16 _ b9 nu ?_;refine jZ (fun ops Q K=>?_);refine qv (cs:=#[_,_,_,_,_,_,_,_,_]) [(0,.agg _)] rfl U40 sz38 ze38 dE dE kR rfl (fun bb w2 a4 s5 hr=>?_);exact K _ _ ⟨s5,⟨_,bc,b5,b1,rfl,nLT hs0.size hr,a4,a7.tr0 s5⟩,fRq hr a4.lt⟩
  | _+9,hix,_=>exact absurd hix oG
 intro gg w3 s6 hR b4;obtain⟨bb,G17,g17,n17,b8,ad,a4,a2⟩:=hR 8 dE;have hbs:base<=w3.heap.size:=nLT an (Bel.size hB.u);replace hB:=hB.tr0 s6;have hS0:=(sB hB).weak (Y:=bG::aL A) (by simp);have b3:=Bel.size hB;refine x9 10 _ (hR 1 dE) nu (x9 17 _ b8 nu ?_);replace ho:=ho.tr0 s6;refine jv U40 in38 rfl dE ho a4 rfl rfl rfl zJ dE oG oG hbs (fun g18 cap18 w4 a9 s7 hg=>?_);have a1:g18≠bG:=neA ho a3.u.lt hg
 have a6:g18≠b7:=neB hb7.u.lt hg (neL a5)
 replace a3:=a3.tr0 s6;replace a3:=a3.ta s7 ho;replace hT:=hT.tr0 (s1.t s6);replace hT:=hT.trX s7 (fun g hg=>by obtain⟨cs,h⟩:=Y4 ho g hg;exact .inr (.inr ⟨_,_,h,.inl dE⟩));replace hL:=hL.tr0 (s1.t s6);replace hL:=hL.trX s7 (fun g hg=>by obtain⟨cs,h⟩:=Y4 ho g hg;exact .inr (.inr ⟨_,_,h,.inl dE⟩));replace a2:=a2.trX s7 (fun g hg=>by obtain⟨cs,h⟩:=Y4 ho g hg;exact .inr (.inr ⟨_,_,h,.inl dE⟩));have hS:=hS0.trans (s7.weak (fun x hx=>aq _ hx));refine zn1 ?_;refine xZ (v:= .slice _ _ _) a3 rfl rfl sz40 (by first|decide|simp) rfl rfl (fun w5 hq s8=>?_);replace hT:=hT.sp1 s8 a3 (.inl dE);replace hL:=hL.sp1 s8 a3 (.inl dE);replace a2:=a2.sp1 s8 a3 (.inl dE);replace a9:=a9.tr1 s8 (neS a1);replace hS:=hS.trans (s8.weak (by simp));replace a3:=hq;refine zQ (fin0 (.inr rfl) rfl  ?_);refine⟨rfl,_,_,_,a3,a9,(hL.and (hT.and a2)).imp (fun _ h=>LxData.snoc (x:=⟨s,rs.map VJ,z,x.tm⟩) h.1 hs9 (List.length_map _).symm h.2.2 h.2.1.1 h.2.1.2),hS,?_⟩;rcases hg with hg|hg
 · left;rw[hg];rfl
 · right;intro g hgm;cases aj.1 hgm;exact nLT b3 hg
theorem in113:(prog.info? 113).map (fun i=>(i.zero,i.size,i.bytes))=some (some (.agg #[.string ⟨#[]⟩,.slice none 0 0]),2,40):=by kernel_rfl
theorem Ek:(prog.info? 113).map (·.size)=some 2:=by kernel_rfl
theorem F9:(prog.info? 22).map (·.size)=some 1:=by kernel_rfl
theorem sz23_DHo:(prog.info? 23).map (·.size)=some 1:=by kernel_rfl
theorem JY:(prog.info? 25).map (·.size)=some 2:=by kernel_rfl
theorem T4:(prog.info? 3).map (·.size)=some 1:=by kernel_rfl
theorem F7:(prog.info? 68).map (·.size)=some 1:=by kernel_rfl
theorem sz9_DHo:(prog.info? 9).map (·.size)=some 1:=by kernel_rfl
theorem E8:(prog.info? 113).map (·.zero)=some (some (.agg #[.string ⟨#[]⟩,.slice none 0 0])):=by kernel_rfl
theorem ze25:(prog.info? 25).map (·.zero)=some (some (.agg #[.slice none 0 0,.slice none 0 0])):=by kernel_rfl
theorem qq:(prog.info? 3).map (·.zero)=some (some (.int .i64 0)):=by kernel_rfl
set_option maxHeartbeats 1000000 in
theorem CJ(A B C:Option Addr)(c d mC f:Nat)(ns:List ByteArray)(ps:List Int)(w:World)(hN:StrsD w A ns)(hP:IntsIn w B ps)(hl:ns.length<=1000)(hpl:ps.length=ns.length):Calls prog 20 #[.slice A ns.length c,.slice B ps.length d,.slice C mC f] w fun e w'=>(∃ A' cap,e= .returned (.agg #[.slice A' ns.length cap,.slice C mC f])/\Fz [] w'.heap.size TS w' (fun w=>TypesIn w A' (Jx ns ps ns.length)))/\Bel w w':=by
 refine enT func20 ntmps20 rfl rfl fun hB=>?_;refine zn2 ?_;refine qk (cs:=#[.slice none 0 0,.slice none 0 0]) ze25 rfl (fun b6 w1 a5 s1 hr=>?_);have lo6:=nLT (Bel.size hB) hr;refine zn4 ?_;refine qk (cs:=#[.slice none 0 0,.slice none 0 0]) ze25 rfl (fun b7 w2 a4 s2 hr=>?_);have:=nLL a5.lt hr;have lo7:=nLT (Bel.size hB.u) hr;refine kQ ?_;refine qj (rg [8,9,10] 13 22) (fun m g w'=>∃(k:Nat) (A7:Option Addr) (b8:Nat) (cs:List Value) (n7:Nat),k<=ns.length/\m=ns.length-k/\g 13= .int .i64 k/\Bel w w'/\Blk w' b6 25 #[.slice none 0 0,.slice none 0 0]/\Blk w' b7 25 #[.slice A7 k b8,.slice none 0 0]/\Own w' (b7+1) 113 2 A7 k b8 cs/\Fz [] n7 TS2 w' (fun w=>TyData w (Jx ns ps k) cs)) (ns.length) ?_ (fun m g3 w3 hI=>?_)
 ·exact⟨0,none,0,[],_,ag _,rfl,rfl,hB.u,a5.u,a4,Own.nil _ _ _ _,Fz.triv [] _ TS2 (fun _=>TyData.nil)⟩
 obtain⟨k,A7,b8,cs,n7,hk,hm,h13,hB,a5,a4,a3,a7⟩:=hI;refine zK 13 _ h13 nu (zn6 ?_);refine zV rfl (fun c14=>?_) (fun c14=>?_)
 ·have b9:k<ns.length:=by omega
  have bd:k<ps.length:=by omega
  obtain⟨nb,no,rfl,hnc⟩:=hN.at_ hB b9;obtain⟨pb,po,rfl,hpb,hpc⟩:=hP.at_ bd;refine zn8 ?_;refine wl (qW (v:= .string _) U9 rfl rfl hnc) (zn7 ?_);refine wl (ZY (v0:= .string _) (fun v0=>#[v0,.slice none 0 0]) rfl kR) ?_;refine yj (cs:=#[.string ⟨#[]⟩,.slice none 0 0]) E8 rfl (fun _=>rfl) (fun _=>rfl) Ek rfl zJ (fun b10 w5 ad s3 hr=>?_);have:=nLL a5.lt hr;have:=nLL a4.lt hr;have a1:=fun g hg=>nLL (a3.lt g hg).2 hr
  have lo10:=nLT (Bel.size hB) hr;refine zn9 ?_;replace a3:=a3.tr0 s3;replace a7:=a7.tr0 s3;refine zV rfl (fun c21=>?_) (fun c21=>?_)
  ·refine zn4 ?_;refine wl (qW (v:= .int _ _) U3 rfl rfl (hB.u.cell hpb hpc)) ?_;refine qv (cs:=#[_]) [(0,.int _ _)] rfl U68 T4 qq dE dE kR rfl (fun b26 w6 a9 s4 hr=>?_);have:=nLL a4.u.lt hr;have a6:=fun g hg=>nLL (a3.lt g hg).2 hr
   have:=nLL ad.lt hr;refine zn1 ?_;replace ad:=ad.tr0 s4;refine xZ (v:= .slice _ _ _) ad rfl rfl F7 (by first|decide|simp) rfl rfl (fun w7 hq s5=>?_);replace a3:=a3.tr0 s4;replace a3:=a3.tr1 s5 (neL a1);replace a7:=a7.tr0 s4;replace a7:=a7.sp1 s5 ad (.inl dE);replace ad:=hq;refine zn6 ?_;refine qv (cs:=#[_,_]) [(0,.agg _)] rfl U22 Ek E8 dE dE kR rfl (fun b31 w8 b5 s6 hr=>?_);have:=nLL a5.u.lt hr;have:=nLL a4.u.lt hr;have:=nLL a9.u.lt hr;replace a3:=a3.tr0 s6;refine jv U22 in113 rfl dE a3 b5 rfl rfl rfl zJ dE oG oG a4.u.lt (fun b4 ba w9 b2 s7 hg=>?_);have an:b4≠b6:=neA a3 a5.u.lt hg
   have a2:b4≠b7:=neA a3 a4.u.lt hg
   have a8:b4≠b10:=neB ad.u.lt hg (neL a1)
   have b3:b4≠b26:=neB a9.u.lt hg (neL a6)
   replace hB:=hB.u.tr s7 (fun g hg=>nLT (aN lo7) (a3.lt g hg).1);replace a5:=((a5.tr0 (s3.t s4)).tr1 s5 oG).tr0 s6;replace a5:=a5.ta s7 a3;replace a4:=((a4.tr0 (s3.t s4)).tr1 s5 oG).tr0 s6;replace a4:=a4.ta s7 a3;replace a7:=a7.tr0 s6;replace a7:=a7.trX s7 (fun g hg=>by obtain⟨cs,h⟩:=Y4 a3 g hg;exact .inr (.inr ⟨_,_,h,.inl dE⟩));replace a9:=(a9.tr1 s5 oG).tr0 s6;replace a9:=a9.tb s7 (neL a6);have b1:=(by first|exact hof_pos a7 b9 bd oG a9|exact H2 a7 b9 oG:Fz [] (w9).heap.size TS2 w9 (fun w=>TyData w (Jx ns ps (k+1)) (cs++_)))
   refine zn1 ?_;refine xZ (v:= .slice _ _ _) a4 rfl rfl F9 (by first|decide|simp) rfl rfl (fun w10 hq s8=>?_);replace b2:=b2.tr1 s8 (neS a2);replace b1:=b1.sp1 s8 a4 (.inl dE);replace a4:=hq;refine zn7 ?_;refine xK (ns.length-(k+1)) oG agA ?_;exact⟨k+1,_,_,_,_,by omega,rfl,rfl,hB.u,a5.u,a4,b2,b1⟩
  refine zn6 ?_;refine qv (cs:=#[_,_]) [(0,.agg _)] rfl U22 Ek E8 dE dE kR rfl (fun b31 w11 b5 s9 hr=>?_);have:=nLL a5.u.lt hr;have:=nLL a4.u.lt hr;replace a3:=a3.tr0 s9;refine jv U22 in113 rfl dE a3 b5 rfl rfl rfl zJ dE oG oG a4.u.lt (fun b4 ba w12 b2 bb hg=>?_);have an:b4≠b6:=neA a3 a5.u.lt hg
  have a2:b4≠b7:=neA a3 a4.u.lt hg
  have a8:b4≠b10:=neB ad.u.lt hg (neL a1)
  replace hB:=hB.u.tr bb (fun g hg=>nLT (aN lo7) (a3.lt g hg).1);replace a5:=a5.tr0 (s3.t s9);replace a5:=a5.ta bb a3;replace a4:=a4.tr0 (s3.t s9);replace a4:=a4.ta bb a3;replace a7:=a7.tr0 s9;replace a7:=a7.trX bb (fun g hg=>by obtain⟨cs,h⟩:=Y4 a3 g hg;exact .inr (.inr ⟨_,_,h,.inl dE⟩));have b1:=(by first|exact hof_pos a7 b9 bd oG a9|exact H2 a7 b9 oG:Fz [] (w12).heap.size TS2 w12 (fun w=>TyData w (Jx ns ps (k+1)) (cs++_)))
  refine zn1 ?_;refine xZ (v:= .slice _ _ _) a4 rfl rfl F9 (by first|decide|simp) rfl rfl (fun w13 hq s11=>?_);replace b2:=b2.tr1 s11 (neS a2);replace b1:=b1.sp1 s11 a4 (.inl dE);replace a4:=hq;refine zn7 ?_;refine xK (ns.length-(k+1)) oG agA ?_;exact⟨k+1,_,_,_,_,by omega,rfl,rfl,hB.u,a5.u,a4,b2,b1⟩
 have hkl:k=ns.length:=by omega
 subst hkl;refine zn9 ?_;refine xZ (v:= .slice _ _ _) a4 rfl rfl sz23_DHo (by first|decide|simp) rfl rfl (fun w14 hq bc=>?_);replace a3:=a3.tq bc;replace a7:=a7.sp1 bc a4 (.inl dE);replace a4:=hq;refine zn5 ?_;refine zk a5.u rfl rfl JY rfl zJ (fun w15 hq s13=>?_);replace a3:=a3.tq s13;replace a5:=a5.tr1 bc oG;replace a7:=a7.sp1 s13 a5 (.inl dE);replace a5:=hq;refine zn3 ?_;refine yx (.inl rfl) rfl (zZ U25 rfl rfl a5.range0 JY) ?_;exact⟨⟨_,_,rfl,hof_end a3 a7⟩,hB.u⟩
end Go.Proofs.YtiofaflajkgiaaaGreatDoor
