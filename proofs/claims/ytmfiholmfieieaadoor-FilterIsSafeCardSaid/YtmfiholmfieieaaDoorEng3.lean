/- What these functions compute, at every world: ref4.Name, ref4.Parts; and plain laws. -/
import Derived.Test.YtmfiholmfieieaaDoorFz
import Derived.Test.YtmfiholmfieieaaDoorU
import Derived.Test.YtmfiholmfieieaaDoorZst
import Derived.Test.YtmfiholmfieieaaDoorGro
import Derived.Test.YtmfiholmfieieaaDoorTxt
import Derived.Test.YtmfiholmfieieaaDoorEng2
namespace Go.Proofs.YtmfiholmfieieaaDoor
open Go.RowKit
variable {A:Option Addr}{B b base cap hi i id j k lo n sz x:Nat}{X:List Nat}{cs vs xs:List Value}{e:TypeId}{l:List Oper}{listed:Array Bool}{s:Tm}{w w' w0 w2:World}
def RowsIn(w:World)(A:Option Addr)(rs:List (List Int)):Prop:=
 rs.length<=1000/\(∀ r∈rs,0<r.length/\r.length<=1000)/\(rs≠[]->∃ b o,A=some ⟨b,o,none⟩/\b<w.heap.size/\∀ k (h:k<rs.length),∃ A' c,w.cell? ⟨b,o+k*1,none⟩=some (.slice A' (rs[k]).length c)/\IntsIn w A' rs[k])
theorem RowsIn.at_{rs:List (List Int)}(h:RowsIn w A rs)(hb:Bel w w')(hk:k<rs.length):
  ∃ b o A' c,A=some ⟨b,o,none⟩/\w'.cell? ⟨b,o+k*1,none⟩=some (.slice A' (rs[k]).length c)/\IntsIn w A' rs[k]:=by
 obtain⟨b,o,e,hl,hc⟩:=h.2.2 (by rintro rfl;simp at hk);obtain⟨A',c,h1,h2⟩:=hc k hk;exact⟨b,o,A',c,e,hb.cell hl h1,h2⟩
theorem RowsIn.mono{w w':World}{A:Option Addr}{rs:List (List Int)}(h:RowsIn w A rs)(hb:Bel w w'):RowsIn w' A rs:=
 ⟨h.1,h.2.1,fun hn=>by
  obtain⟨b,o,e,hl,hc⟩:=h.2.2 hn
  refine⟨b,o,e,nLL hl hb.size,fun k hk=>?_⟩
  obtain⟨A',c,h1,h2⟩:=hc k hk
  exact⟨A',c,hb.cell hl h1,h2.mono hb⟩⟩
def XW:List Int->List (Int×Int)
 | a::b::t=>(a,b)::XW t
 | _=>[]
def VK(r:List Int):Nd:=⟨r.getD 0 0,XW (r.drop 1)⟩
theorem pairs_end{r:List Int}(h:r.length<=i+1):XW (r.drop i)= []:=by
 have hl:(r.drop i).length<=1:=by simp;omega
 match e:r.drop i with
 | []=>rfl
 | [a]=>rfl
 | a::b::t=>rw[e]at hl;simp at hl
theorem G8{r:List Int}(h:i+1<r.length):XW (r.drop i)=(r[i],r[i+1])::XW (r.drop (i+2)):=by
 rw[List.drop_eq_getElem_cons (show i<r.length by omega),List.drop_eq_getElem_cons h];rfl
def lnC(ls:List (Int×Int)):List Value:=ls.flatMap (fun x=>[.int .i64 x.1,.int .i64 x.2])
theorem lnC_snoc(ls:List (Int×Int))(a b:Int):lnC ls++[.int .i64 a,.int .i64 b]=lnC (ls++[(a,b)]):=by simp[lnC]
theorem Tj(ls:List (Int×Int)):(lnC ls).length=ls.length*2:=by
 induction ls with
 | nil=>rfl
 | cons a r ih=>rw[show lnC (a::r)= .int .i64 a.1:: .int .i64 a.2::lnC r from rfl];simp only[List.length_cons,ih];omega
theorem lnC_get:∀ {ls:List (Int×Int)} {k:Nat} (hk:k<ls.length),(lnC ls)[k*2]? =some (.int .i64 (ls[k]).1)/\(lnC ls)[k*2+1]? =some (.int .i64 (ls[k]).2)
 | a::r,0,_=>⟨rfl,rfl⟩
 | a::r,k+1,hk=>by
  have:=lnC_get (ls:=r) (k:=k) (by simpa using hk)
  rw[show (k+1)*2=k*2+1+1 by omega];exact this
theorem gof_links{ls:List (Int×Int)}(ho:Own w B 109 2 A k cap (lnC ls)):LinksIn w A ls:=by
 have hlk:ls.length=k:=by have h1:=ho.len;rw[Tj]at h1;omega
 refine⟨by rw[hlk];exact ho.max,fun hn=>?_⟩;obtain⟨g,e,hb,hg,hc⟩:=ho.cell (by intro h0;have:=Tj ls;rw[h0]at this;cases ls with|nil=>exact hn rfl|cons a r=>simp only[List.length_nil,List.length_cons]at this;omega);refine⟨g,0,e,hg,fun j hj=>?_⟩;obtain⟨h1,h2⟩:=lnC_get hj;intro i v hi
 match i,hi with
 | 0,hi=>cases hi;have:=hc _ _ h1;simpa using this
 | 1,hi=>cases hi;have:=hc _ _ h2;simpa using this
 | _+2,hi=>cases hi
theorem Own.fz{e:Nat}{ts:List Nat}(ho:Own w B e sz A k cap xs)(ht:∀ cs,¬Sp ts e cs):Fz [] w.heap.size ts w (fun w=>Own w B e sz A k cap xs):=⟨ae _,fun w2 h2=>by
 refine⟨ho.1,?_⟩
 rcases ho.2 with hn|⟨g,c,cur,hv,hb,hg,r⟩
 ·exact .inl hn
 ·refine .inr ⟨g,c,cur,hv,hb,?_,r⟩
  exact(Fz.blk (X:=[]) (ts:=ts) (show Blk w g e cur from hg) (by simp) (ht _)).all w2 h2⟩
theorem Xk(h:Own w base e sz A k cap xs):∀ g∈aL A,∃ cs,Blk w g e cs:=fun g hg=>by
 rcases h.2 with ⟨hn,_⟩|⟨g',c,cur,hv,hb,hgg,r⟩
 ·cases hn;cases hg
 ·cases hv
  simp only[aL,List.mem_singleton]at hg
  subst hg;exact⟨cur,hgg⟩
theorem E7{ts:List Nat}{t:Nat}(h:t∉ts)(h1:t≠61)(h2:t≠64)(cs:Array Value):¬Sp ts t cs:=by
 rintro (h3|⟨h3,_⟩|⟨h3,_⟩)
 ·exact h h3
 ·exact h1 h3
 ·exact h2 h3
def TS1:List Nat:=107::30::TS
inductive NdData(w:World):List Nd->List Value->Prop
 | nil:NdData w [] []
 | snoc {l:List Nd} {vs:List Value} {x:Nd} {A:Option Addr} {c:Nat} (h:NdData w l vs) (hl:LinksIn w A x.ln):NdData w (l++[x]) (vs++[.int .i64 x.ty,.slice A x.ln.length c])
theorem NdData.len{l:List Nd}(h:NdData w l vs):vs.length=l.length*2:=by
 induction h with
 | nil=>rfl
 | snoc h hl ih=>simp only[List.length_append,List.length_cons,List.length_nil,ih];omega
theorem NdData.get{l:List Nd}(h:NdData w l vs):∀ k (hk:k<l.length),∃ A c,vs[k*2]? =some (.int .i64 (l[k]).ty)/\vs[k*2+1]? =some (.slice A (l[k]).ln.length c)/\LinksIn w A (l[k]).ln:=by
 induction h with
 | nil=>intro k hk;simp at hk
 | @snoc l cs t A c h hp ih=>
  intro k hk;have a1:=h.len;by_cases e:k<l.length
  ·obtain⟨A',c',h1,h2,h3⟩:=ih k e
   refine⟨A',c',?_,?_,?_⟩
   ·rw[List.getElem?_append_left oG,h1,List.getElem_append_left e]
   ·rw[List.getElem?_append_left oG,h2,List.getElem_append_left e]
   ·rw[List.getElem_append_left e];exact h3
  ·simp only[List.length_append,List.length_cons,List.length_nil]at hk
   have ek:k=l.length:=by omega
   subst ek;have eg:(l++[t])[l.length]'(by simp)=t:=by simp
   rw[eg];refine⟨A,c,?_,?_,hp⟩
   ·rw[List.getElem?_append_right oG,a1];simp
   ·rw[List.getElem?_append_right oG,a1];simp
theorem gof_nodes{l:List Nd}(ho:Own w B 107 2 A k cap cs)(ht:NdData w l cs):NodesIn w A l:=by
 have hlk:l.length=k:=by have h1:=ho.len;have h2:=ht.len;omega
 refine⟨by rw[hlk];exact ho.max,fun hn=>?_⟩
 obtain⟨g,e,hb,hg,hc⟩:=ho.cell (by
  intro h0;have:=ht.len;rw[h0]at this;cases l with
  | nil=>exact hn rfl
  | cons a r=>simp only[List.length_nil,List.length_cons]at this;omega)
 refine⟨g,0,e,hg,fun j hj=>?_⟩;obtain⟨A',c,h1,h2,h3⟩:=ht.get j hj;refine⟨A',c,?_,h3⟩;intro i v hi
 match i,hi with
 | 0,hi=>cases hi;have:=hc _ _ h1;simpa using this
 | 1,hi=>cases hi;have:=hc _ _ h2;simpa using this
 | _+2,hi=>cases hi
theorem gof_end{l:List Nd}(ho:Own w B 107 2 A k cap cs)(ht:Fz [] n TS1 w (fun w=>NdData w l cs)):Fz [] w.heap.size TS w (fun w=>NodesIn w A l):=
 ((ho.fz (ts:=TS) (E7 dE dE dE)).and ((ht.up).sub dE)).imp (fun _ h=>gof_nodes h.1 h.2)
theorem gof_more{l:List Nd}{ls:List (Int×Int)}{z:Int}(ho:Own w B 109 2 A j cap (lnC ls))(ht:Fz [] n TS1 w (fun w=>NdData w l vs)):Fz [] w.heap.size TS1 w (fun w=>NdData w (l++[⟨z,ls⟩]) (vs++[.int .i64 z,.slice A j cap])):=by
 have hlk:ls.length=j:=by have h1:=ho.len;rw[Tj]at h1;omega
 subst hlk;exact((ho.fz (ts:=TS1) (E7 dE dE dE)).and ht).imp (fun _ h=> .snoc h.2 (gof_links h.1))
inductive LxData(w:World):List Lx->List Value->Prop
 | nil:LxData w [] []
 | snoc {l:List Lx} {vs:List Value} {x:Lx} {G S B:Option Addr} {gn cg cs cb:Nat} (h:LxData w l vs) (hw:x.word.size<9223372036854775807) (hn:gn=x.gr.length) (hG:NodesIn w G x.gr) (hS:SimsIn w S x.mean.type.args) (hT:TmsIn w B x.mean.args):LxData w (l++[x]) (vs++[.string x.word,.slice G gn cg,.int .i64 x.wt,.int .i64 x.mean.kind,.string x.mean.name,.int .i64 x.mean.index,.string x.mean.type.base,.slice S x.mean.type.args.length cs,.slice B x.mean.args.length cb])
def lxC(x:Lx)(G S B:Option Addr)(cg cs cb:Nat):List Value:=[.string x.word,.slice G x.gr.length cg,.int .i64 x.wt,.int .i64 x.mean.kind,.string x.mean.name,.int .i64 x.mean.index,.string x.mean.type.base,.slice S x.mean.type.args.length cs,.slice B x.mean.args.length cb]
theorem LxData.len{l:List Lx}(h:LxData w l vs):vs.length=l.length*9:=by
 induction h with
 | nil=>rfl
 | snoc h _ _ _ _ _ ih=>simp only[List.length_append,List.length_cons,List.length_nil,ih];omega
theorem LxData.get{l:List Lx}(h:LxData w l vs):∀ k (hk:k<l.length),(l[k]).word.size<9223372036854775807/\∃ G cg S cs B cb,(∀ j v,(lxC (l[k]) G S B cg cs cb)[j]? =some v->vs[k*9+j]? =some v)/\NodesIn w G (l[k]).gr/\SimsIn w S (l[k]).mean.type.args/\TmsIn w B (l[k]).mean.args:=by
 induction h with
 | nil=>intro k hk;simp at hk
 | @snoc l vs x G S B gn cg cs cb h hw hn hG hS hT ih=>
  intro k hk;have a1:=h.len;by_cases e:k<l.length
  ·rw[List.getElem_append_left e]
   obtain⟨h0,G',cg',S',cs',B',cb',h1,h2⟩:=ih k e;refine⟨h0,G',cg',S',cs',B',cb',fun j v hj=>?_,h2⟩;have hj9:j<9:=(aC.1 hj).1;rw[List.getElem?_append_left oG];exact h1 j v hj
  ·simp only[List.length_append,List.length_cons,List.length_nil]at hk
   have ek:k=l.length:=by omega
   subst ek;have eg:(l++[x])[l.length]'(by simp)=x:=by simp
   rw[eg];subst hn;refine⟨hw,G,cg,S,cs,B,cb,fun j v hj=>?_,hG,hS,hT⟩;rw[List.getElem?_append_right oG,a1,Nat.add_sub_cancel_left];exact hj
theorem gof_lexes{l:List Lx}(ho:Own w B 88 9 A k cap cs)(ht:LxData w l cs):LexesIn w A l:=by
 have hlk:l.length=k:=by have h1:=ho.len;have h2:=ht.len;omega
 refine⟨by rw[hlk];exact ho.max,fun hn=>?_⟩
 obtain⟨g,e,hb,hg,hc⟩:=ho.cell (by
  intro h0;have:=ht.len;rw[h0]at this;cases l with
  | nil=>exact hn rfl
  | cons a r=>simp only[List.length_nil,List.length_cons]at this;omega)
 refine⟨g,0,e,hg,fun j hj=>?_⟩;obtain⟨h0,G,cg,S,cs',B',cb,h1,h2⟩:=ht.get j hj;refine⟨h0,G,cg,S,cs',B',cb,fun i v hi=>?_,h2⟩;have:=hc _ _ (h1 i v hi)
 simpa using this
section
structure Hv(lo:Nat)(X:List Nat)(n:Nat)(w:World)(P:World->Prop):Prop where
 le:n<=w.heap.size
 all:∀ w2,w.heap.size<=w2.heap.size->(∀ k,lo<=k->k<n->k∉X->w2.heap[k]? =w.heap[k]?)->P w2
section hv
variable {lo lo2 n m:Nat} {X Y Z:List Nat} {w w1 w2:World} {P Q:World->Prop}
theorem Hv.now(h:Hv lo X n w P):P w:=h.all w (ae _) (fun _ _ _ _=>rfl)
theorem Hv.tr(h:Hv lo X n w P)(hs:Same Z w w1)(hz:∀ g∈Z,g<lo\/g∈X\/n<=g):Hv lo X n w1 P:=
 ⟨nLT h.le hs.size,fun w2 h2 hk=>h.all w2 (nLT hs.size h2) (fun k h3 h4 h5=>(hk k h3 h4 h5).trans (hs.blk k (nLL h4 h.le) (fun hm=>by
  rcases hz k hm with e|e|e
  ·omega
  ·exact h5 e
  ·omega)))⟩
theorem Hv.tr0(h:Hv lo X n w P)(hs:Same [] w w1):Hv lo X n w1 P:=h.tr hs (by simp)
theorem Hv.bel(h:Hv lo X n w P)(hb:Bel w w1):Hv lo X n w1 P:=h.tr0 (sB hb)
theorem Hv.in1(h:Hv lo X n w P)(hs:Same [b] w w1)(hb:b∈X):Hv lo X n w1 P:=h.tr hs (fun g hg=> .inr (.inl (by rw[List.mem_singleton.1 hg];exact hb)))
theorem Hv.lo1(h:Hv lo X n w P)(hs:Same [b] w w1)(hb:b<lo):Hv lo X n w1 P:=h.tr hs (fun g hg=> .inl (by rw[List.mem_singleton.1 hg];exact hb))
theorem Hv.mono(h:Hv lo X n w P)(hl:lo2<=lo)(hn:n<=m)(hm:m<=w.heap.size):Hv lo2 X m w P:=⟨hm,fun w2 h2 hk=>h.all w2 h2 (fun k h3 h4 h5=>hk k oG oG h5)⟩
theorem Hv.up(h:Hv lo X n w P):Hv lo X w.heap.size w P:=h.mono (ae _) h.le (ae _)
theorem Hv.hole(h:Hv lo X n w P)(hy:∀ y∈Y,y∈X\/y<lo\/n<=y):Hv lo Y n w P:=⟨h.le,fun w2 h2 hk=>h.all w2 h2 (fun k h3 h4 h5=>hk k h3 h4 (fun hm=>by
 rcases hy k hm with e|e|e
 ·exact h5 e
 ·omega
 ·omega))⟩
theorem Hv.nil(h:Hv lo X n w P):Hv lo [] n w P:=h.hole (by simp)
theorem Hv.imp(h:Hv lo X n w P)(hi:∀ w,P w->Q w):Hv lo X n w Q:=⟨h.le,fun w2 h2 hk=>hi w2 (h.all w2 h2 hk)⟩
theorem Hv.and(h:Hv lo X n w P)(g:Hv lo X m w Q):Hv lo X w.heap.size w (fun w=>P w/\Q w):=⟨ae _,fun w2 h2 hk=>⟨h.up.all w2 h2 hk,g.up.all w2 h2 hk⟩⟩
theorem Hv.triv(lo:Nat)(X:List Nat)(w:World)(h:∀ w,P w):Hv lo X w.heap.size w P:=⟨ae _,fun w2 _ _=>h w2⟩
theorem Hv.blk{t:Nat}{cs:Array Value}(h:Blk w b t cs)(hl:lo<=b)(hx:b∉X):Hv lo X w.heap.size w (fun w=>Blk w b t cs):=⟨ae _,fun _ _ hk=>(hk b hl h.lt hx).trans h⟩
theorem Hv.fr(h:∀ w2,FrSame lo w w2->P w2):Hv lo [] w.heap.size w P:=⟨ae _,fun w2 h2 hk=>h w2 ⟨h2,fun k h3 h4=>hk k h3 h4 (by simp)⟩⟩
theorem Hv.toFr(h:Hv lo [] n w P):∀ w2,FrSame lo w w2->P w2:=fun w2 h2=>h.all w2 h2.size (fun k h3 h4 _=>h2.blk k h3 (nLL h4 h.le))
end hv
inductive RowD{α:Type}(C:World->α->List Value->Prop)(sz:Nat)(w:World):List α->List Value->Prop
 | nil:RowD C sz w [] []
 | snoc {l:List α} {vs v:List Value} {x:α} (h:RowD C sz w l vs) (hv:v.length=sz) (hx:C w x v):RowD C sz w (l++[x]) (vs++v)
theorem RowD.len{α:Type}{C:World->α->List Value->Prop}{l:List α}(h:RowD C sz w l vs):vs.length=l.length*sz:=by
 induction h with
 | nil=>simp
 | snoc h hv _ ih=>simp only[List.length_append,List.length_cons,List.length_nil,ih,hv,Nat.add_mul,Nat.zero_add,Nat.one_mul]
theorem RowD.get{α:Type}{C:World->α->List Value->Prop}{l:List α}(h:RowD C sz w l vs):∀ k (hk:k<l.length),∃ v,v.length=sz/\C w l[k] v/\∀ j u,v[j]? =some u->vs[k*sz+j]? =some u:=by
 induction h with
 | nil=>intro k hk;simp at hk
 | @snoc l vs v x h hv hx ih=>
  intro k hk;have hlen:=h.len
  grind
theorem OK(ho:Own w base e sz A k cap vs)(hne:vs≠[]):∃(g:Nat) (cs:Array Value),A=some ⟨g,0,none⟩/\base<=g/\Blk w g e cs/\∀(j:Nat) (u:Value),vs[j]? =some u->cs[j]? =some u:=by
 rcases ho.2 with ⟨_,hn⟩|⟨g,c,cur,hv,hb,hg,hk,hm,hs,ht⟩
 ·have h1:=ho.1
  rw[hn,Nat.zero_mul]at h1
  grind
 ·cases hv
  refine⟨g,cur,rfl,hb,hg,fun j u hj=>?_⟩;rw[<- ht]at hj;have hjl:j<k*sz:=by
   have:=(aC.1 hj).1;rw[List.length_take]at this;omega
  rw[List.getElem?_take_of_lt hjl]at hj
  simpa using hj
theorem own_rowY{α:Type}{C:World->α->List Value->Prop}{R:World->Option Addr->List α->Prop}{l:List α}{Y:List Nat}
  (hR:∀(w:World) (A:Option Addr),R w A [])
  (hC:∀(w:World) (g:Nat) (cs:Array Value),Blk w g e cs->l.length<=vJ->(∀ k (hk:k<l.length),∃ v,C w l[k] v/\w.rangeAt g (0+k*sz) v)->R w (some ⟨g,0,none⟩) l)
  (hz:0<sz) (ho:Own w base e sz A k cap vs) (hb:lo<=base) (hd:Hv lo X n w (fun w=>RowD C sz w l vs)) (hY:∀ y∈Y,y∈X) (hA:∀ y∈Y,y∉aL A):Hv lo Y w.heap.size w (fun w=>R w A l):=by
 have hlen:=hd.now.len;cases hl:l with
 | nil=>exact Hv.triv _ _ _ (fun w=>hR w A)
 | cons a r=>
  rw[<- hl];have hne:vs≠[]:=fun h0=>by
   grind[hl,List.length_nil,List.length_cons,Nat.add_mul]
  obtain⟨g,cs,rfl,hg,a1,hcs⟩:=OK ho hne;have hmx:=ho.max;have hk:l.length=k:=by
   have h1:=ho.len
   grind[h1,Nat.eq_of_mul_eq_mul_right]
  refine((Hv.blk a1 (nLT hb hg) (fun h=>hA g h (aj.2 rfl))).and (hd.hole (fun y hy=> .inl (hY y hy))).up).imp (fun w2 h=>?_);refine hC w2 g cs h.1 (by rw[hk];exact hmx) (fun i hi=>?_);obtain⟨v,hv,h1,h2⟩:=h.2.get i hi;refine⟨v,h1,h.1.range (fun j u hj=>?_)⟩
  grind
theorem own_row{α:Type}{C:World->α->List Value->Prop}{R:World->Option Addr->List α->Prop}{l:List α}
  (hR:∀(w:World) (A:Option Addr),R w A [])
  (hC:∀(w:World) (g:Nat) (cs:Array Value),Blk w g e cs->l.length<=vJ->(∀ k (hk:k<l.length),∃ v,C w l[k] v/\w.rangeAt g (0+k*sz) v)->R w (some ⟨g,0,none⟩) l)
  (hz:0<sz) (ho:Own w base e sz A k cap vs) (hb:lo<=base) (hd:Hv lo X n w (fun w=>RowD C sz w l vs)):Hv lo [] w.heap.size w (fun w=>R w A l):=
 own_rowY hR hC hz ho hb hd (by simp) (by simp)
inductive SmK:Sm->Prop
 | mk {b:ByteArray} {l:List Sm} (hl:l.length<=1000) (hk:∀ x∈l,SmK x):SmK (.mk b l)
inductive TmK:Tm->Prop
 | mk {k i:Int} {nm:ByteArray} {s:Sm} {l:List Tm} (hs:SmK s) (hl:l.length<=1000) (hk:∀ x∈l,TmK x):TmK (.mk k nm i s l)
theorem SmK.le{s:Sm}(h:SmK s):s.args.length<=1000:=by
 cases h with
 | mk hl _=>exact hl
theorem SmK.kid{s x:Sm}(h:SmK s)(hx:x∈s.args):SmK x:=by
 cases h with
 | mk _ hk=>exact hk x hx
theorem TmK.le(h:TmK s):s.args.length<=1000:=by
 cases h with
 | mk _ hl _=>exact hl
theorem TmK.ty(h:TmK s):SmK s.type:=by
 cases h with
 | mk hs _ _=>exact hs
theorem TmK.kid{x:Tm}(h:TmK s)(hx:x∈s.args):TmK x:=by
 cases h with
 | mk _ _ hk=>exact hk x hx
theorem RowD.app{α:Type}{C:World->α->List Value->Prop}{l2 m:Nat}{Y:List Nat}{l:List α}{v:List Value}{x:α}(hj:j<l.length)(hx:l[j]=x)(h:Hv lo X n w (fun w=>RowD C sz w (l.take j) vs))(hv:v.length=sz)(hC:Hv l2 [] m w (fun w=>C w x v))(hl:lo<=l2)(hY:∀ y∈Y,y∈X\/n<=y)(hY2:∀ y∈Y,y<l2\/m<=y):Hv lo Y w.heap.size w (fun w=>RowD C sz w (l.take (j+1)) (vs++v)):=
 ((h.hole (fun y hy=>(hY y hy).imp id .inr)).and ((hC.hole (fun y hy=> .inr (hY2 y hy))).mono hl (ae _) hC.le)).imp (fun w2 h2=>by
  rw[List.take_succ_eq_append_getElem hj,hx]
  exact .snoc h2.1 hv h2.2)
theorem RowD.take{α:Type}{C:World->α->List Value->Prop}{sz:Nat}{w:World}{l:List α}(f:α->List Value)(hf:∀ x,(f x).length=sz)(hC:∀ x∈l,C w x (f x)):∀ k,k<=l.length->RowD C sz w (l.take k) ((l.take k).flatMap f)
 | 0,_=> .nil
 | k+1,h=>by
  rw[List.take_succ_eq_append_getElem oG,List.flatMap_append]
  have:=(RowD.take f hf hC k oG).snoc (hf (l[k])) (hC _ (ap oG))
  simpa using this
theorem RowD.all{α:Type}{C:World->α->List Value->Prop}{l:List α}(f:α->List Value)(hf:∀ x,(f x).length=sz)(hC:∀ x∈l,C w x (f x)):RowD C sz w l (l.flatMap f):=by
 have:=RowD.take f hf hC l.length (ae _)
 grind
def inC(_:World)(x:Int)(v:List Value):Prop:=v= [.int .i64 x]
theorem ints_flat(xs:List Int):xs.map (Value.int .i64)=xs.flatMap (fun x=>[Value.int .i64 x]):=by
 induction xs with
 | nil=>rfl
 | cons x r ih=>rw[List.map_cons,List.flatMap_cons,ih];rfl
theorem own_intsH{xs:List Int}(ho:Own w base e 1 A k cap (xs.map (Value.int .i64)))(hb:lo<=base):Hv lo [] w.heap.size w (fun w=>IntsIn w A xs):=
 own_row (X:=[]) (C:=inC) (fun _ _=>⟨ad _,fun h=>absurd rfl h⟩) (fun w g cs a1 hl hk=>⟨hl,fun _=>⟨g,0,rfl,a1.lt,fun k hkl=>by
  obtain⟨v,rfl,hr⟩:=hk k hkl
  have:=hr 0 _ rfl
  rw[Nat.mul_one]at this
  simpa using this⟩⟩) dE ho hb (Hv.triv _ _ _ (fun w=>by rw[ints_flat];exact RowD.all _ (fun _=>rfl) (fun _ _=>rfl)))
theorem cell_keep{o:Nat}(h:w2.heap[b]? =w.heap[b]?):w2.cell? ⟨b,o,none⟩=w.cell? ⟨b,o,none⟩:=by simp[World.cell?,h]
theorem PW{o:Nat}(h:w2.heap[b]? =w.heap[b]?)(hr:w.rangeAt b o xs):w2.rangeAt b o xs:=fun j v hj=>(cell_keep h).trans (hr j v hj)
def Kw(w w2:World):Prop:=w.heap.size<=w2.heap.size/\∀ k,k<w.heap.size->w2.heap[k]? =w.heap[k]?
theorem Kw.of(h:Bel w w2):Kw w w2:=⟨h.size,h.block⟩
theorem SimsIn.keep{l:List Sm}(hw:Kw w w2)(h:SimsIn w A l):SimsIn w2 A l:=
 SimsIn.rec (motive_1:=fun b o s _=>SimAt w2 b o s) (motive_2:=fun A l _=>SimsIn w2 A l)
  (fun hb h _ ih=> .mk (nLL hb hw.1) (PW (hw.2 _ hb) h) ih) .nil (fun hl hb _ ih=> .more hl (nLL hb hw.1) ih) h
theorem TmsIn.keep{w w2:World}{A:Option Addr}{l:List Tm}(hw:Kw w w2)(h:TmsIn w A l):TmsIn w2 A l:=
 TmsIn.rec (motive_1:=fun b o s _=>TmAt w2 b o s) (motive_2:=fun A l _=>TmsIn w2 A l)
  (fun hb h hs _ ih=> .mk (nLL hb hw.1) (PW (hw.2 _ hb) h) (hs.keep hw) ih) .nil (fun hl hb _ ih=> .more hl (nLL hb hw.1) ih) h
theorem Hv.old{w1:World}{P:World->Prop}(hP:∀ w2,Kw w w2->P w2)(hB:Bel w w1)(hX:∀ y∈X,w.heap.size<=y):Hv 0 X w.heap.size w1 P:=
 ⟨hB.size,fun w2 h2 hk=>hP w2 ⟨nLT hB.size h2,fun k hkw=>(hk k (ad _) hkw (fun hm=>by have:=hX k hm;omega)).trans (hB.block k hkw)⟩⟩
end
theorem slc_eq(A:Option Addr)(c:Nat){a:Nat}(h:a=b):Value.slice A a c= .slice A b c:=by rw[h]
def trD(w:World)(x:Dt)(v:List Value):Prop:=∃ A c,v= [.int .i64 x.rule,.int .i64 x.lex,.slice A x.kids.length c]/\TresIn w A x.kids
theorem trD_one{l:List Dt}(h:RowD trD 3 w l vs):vs.all (·.oneCell')=true:=by
 induction h with
 | nil=>rfl
 | snoc _ _ hx ih=>
  obtain⟨A,c,rfl,_⟩:=hx;rw[List.all_append,ih];rfl
theorem RowD.cat{α:Type}{C:World->α->List Value->Prop}{l m:List α}{us:List Value}(h:RowD C sz w l vs)(k:RowD C sz w m us):RowD C sz w (l++m) (vs++us):=by
 induction k with
 | nil=>simpa using h
 | snoc _ hv hx ih=>rw[<- List.append_assoc,<- List.append_assoc];exact .snoc ih hv hx
theorem own_news(ho:Own w base e sz A k cap vs)(hn:0<vs.length):∃ b o,A=some ⟨b,o,none⟩/\∀ j u,vs[j]? =some u->w.cell? ⟨b,o+j,none⟩=some u:=by
 obtain⟨g,e,_,_,hc⟩:=ho.cell (by rintro rfl;simp at hn);exact⟨g,0,e,fun j u h=>by rw[Nat.zero_add];exact hc j u h⟩
theorem own_tres{l:List Dt}(ho:Own w base 35 3 A l.length cap vs)(hd:RowD trD 3 w0 l vs)(hB:Bel w0 w):TresIn w A l:=by
 by_cases hn:l= []
 ·subst hn;exact .nil
 ·have hp:0<l.length:=List.length_pos_iff.2 hn
  have a1:=hd.len;obtain⟨g,e,_,hg,hc⟩:=ho.cell (by rintro rfl;rw[List.length_nil]at a1;omega);subst e;refine .more ho.max hg (fun k hk=>?_);obtain⟨v,_,⟨A',c',rfl,hT⟩,hv⟩:=hd.get k hk;rw[Dt.eta l[k]];refine .mk (A:=A') (c:=c') hg (fun j u hj=>?_) (hT.mono hB);have:=hc _ _ (hv j u hj);rw[Nat.zero_add];exact this
theorem D2(ks:List Dt)(h:j<ks.length):kW (ks.take (j+1))=kW (ks.take j)++vv ks[j]:=by
 induction ks generalizing j with
 | nil=>simp at h
 | cons a r ih=>
  cases j with
  | zero=>simp[kW]
  | succ j=>
   have:=ih (j:=j) (by simpa using h);simp only[List.take_succ_cons,kW,List.append_assoc,List.getElem_cons_succ]at this ⊢;rw[this]
theorem parts_le(ks:List Dt)(h:j<ks.length):Yq (ks.take j)+ndT ks[j]<=Yq ks:=by
 induction ks generalizing j with
 | nil=>simp at h
 | cons a r ih=>
  cases j with
  | zero=>simp[Yq]
  | succ j=>
   have:=ih (j:=j) (by simpa using h);simp only[List.take_succ_cons,Yq,List.getElem_cons_succ]at this ⊢;omega
theorem in35:(Tryd.prog.info? 35).map (fun i=>(i.zero,i.size,i.bytes))=some (some (.agg #[.int .i64 0,.int .i64 0,.slice none 0 0]),3,40):=by kernel_rfl
theorem IX:(Tryd.prog.info? 35).map (·.size)=some 3:=by kernel_rfl
theorem Rx:(Tryd.prog.info? 35).map (·.zero)=some (some (.agg #[.int .i64 0,.int .i64 0,.slice none 0 0])):=by kernel_rfl
theorem E9(t:Dt)(A:Option Addr)(c:Nat)(w:World)(h1:-1<=t.lex/\t.lex<=1000000):Calls Tryd.prog 10 #[.agg #[.int .i64 (t).rule,.int .i64 (t).lex,.slice A (t).kids.length c]] w fun e w'=>e= .returned (.int .i64 (I5 t))/\Bel w w':=by
 refine enT Tryd.func10 Tryd.ntmps10 rfl rfl fun hB=>?_;refine zn2 ?_;refine qZ (cs:=#[_,_,_]) rfl (fun b1 w1 hb1 s1 hr=>?_);refine gX ?_;refine zK rfl (fun c5=>?_) (fun c5=>?_)
 ·refine gX ?_;replace hB:=hB.tr0 s1;exact⟨by unfold I5;rw[if_pos c5];rfl,hB⟩
 refine gX ?_;replace hB:=hB.tr0 s1;exact⟨by unfold I5;rw[if_neg c5];rfl,hB⟩
set_option maxHeartbeats 2000000 in
theorem G6{t:Dt}{c:Nat}(IH:∀ x∈t.kids,∀(A2:Option Addr) (c2:Nat) (wy:World),Bel w0 wy->TresIn w0 A2 x.kids->ndT x<=1000000->Calls Tryd.prog 9 #[.agg #[.int .i64 (x).rule,.int .i64 (x).lex,.slice A2 (x).kids.length c2]] wy fun e w'=>(∃ A' c' vs,e= .returned (.slice A' (ndT x) c')/\Own w' wy.heap.size 35 3 A' (ndT x) c' vs/\RowD trD 3 w0 (vv x) vs)/\Bel wy w')(hw:Bel w0 w)(hT:TresIn w0 A t.kids)(hn:ndT t<=1000000):Calls Tryd.prog 9 #[.agg #[.int .i64 (t).rule,.int .i64 (t).lex,.slice A (t).kids.length c]] w fun e w'=>(∃ A' c' vs,e= .returned (.slice A' (ndT t) c')/\Own w' w.heap.size 35 3 A' (ndT t) c' vs/\RowD trD 3 w0 (vv t) vs)/\Bel w w':=by
 have hmx:=hT.le;unfold vJ at hmx;rw[T8]at hn;refine enT Tryd.func9 Tryd.ntmps9 rfl rfl fun hB=>?_;refine zn2 ?_;refine qZ (cs:=#[_,_,_]) rfl (fun b1 w1 a1 s1 hr=>?_);have lo1:=hB.ob hr;refine zn6 ?_;refine qj (cs:=#[_,_,_]) [(0,.agg _)] rfl U33 IX Rx dE dE kR rfl (fun b7 w2 hb7 s2 hr=>?_);refine Zv ?_;refine qk (rgq [3,5] 11 9) (fun m g w'=>∃(j:Nat) (A3:Option Addr) (c3:Nat) (vs:List Value),j<=t.kids.length/\m=t.kids.length-j/\g 11= .int .i64 j/\g 3= .slice A3 (1+Yq (t.kids.take j)) c3/\Bel w w'/\Blk w' b1 35 #[.int .i64 t.rule,.int .i64 t.lex,.slice A t.kids.length c]/\Own w' (b1+1) 35 3 A3 (1+Yq (t.kids.take j)) c3 vs/\RowD trD 3 w0 (t::kW (t.kids.take j)) vs) (t.kids.length) ?_ (fun m g3 w3 hI=>?_)
 ·exact⟨0,_,_,_,ad _,rfl,rfl,rfl,hB.u,a1.u,MX (m:=1) hb7 (Nat.lt_of_lt_of_le a1.lt hr) rfl dE,RowD.nil.snoc (x:=t) rfl ⟨A,c,rfl,hT⟩⟩
 obtain⟨j,A3,c3,vs,hj,hm,h11,h3,hB,a1,ho,hd⟩:=hI;refine zZ 11 _ h11 nu (zZ 3 _ h3 nu (zn6 ?_));refine zK rfl (fun c12=>?_) (fun c12=>?_)
 ·have a2:j<t.kids.length:=by omega
  obtain⟨sb,so,A',c',rfl,hsb,hsr,hs2⟩:=hT.at_ a2;have a3:=ap a2;have hle:=parts_le t.kids a2;have hnl:1+Yq (t.kids.take j)+ndT t.kids[j]=1+Yq (t.kids.take (j+1)):=by rw[<- V4,<- V4,D2 _ a2,List.length_append,KQ];omega
  refine zn6 ?_;refine wl (xW (i:=j) U33 IX rfl rfl a2 rfl) (wl (qK U35 rfl rfl ((hw.tr0 (sB hB)).range hsb hsr) IX) ?_);refine yx (cs:=#[.int .i64 0,.int .i64 0,.slice none 0 0]) Rx rfl (fun _=>rfl) (fun _=>rfl) IX rfl y5 (fun b5 w5 hb5 s3 hr=>?_);refine zn5 ?_;refine zX kR (IH _ a3 A' c' _ (hw.tr0 (sB hB.u)) hs2 oG) rfl (fun e' w6 hr=>?_);obtain⟨⟨A9,c9,us,rfl,ho9,a4⟩,s4⟩:=hr;replace s4:=sB s4;refine⟨_,rfl,?_⟩;have hl9:=a4.len;rw[KQ]at hl9;replace ho:=ho.tr0 (s3.t s4);refine wl_appL (e:=35) (news:=us) U33 in35 rfl dE ho rfl rfl (fun hm=>own_news ho9 oG) hl9 (trD_one a4) oG oG a1.u.lt (fun AN capN wN hoN hsN hgN=>?_);replace hB:=hB.tr0 (s3.t s4);replace hB:=hB.tr hsN (fun g hg=>nLT (aD lo1) (ho.lt g hg).1);replace a1:=a1.tr0 (s3.t s4);replace a1:=a1.tr hsN (fun hx=>by have:=(ho.lt _ hx).1;omega);have hdN:RowD trD 3 w0 (t::kW (t.kids.take (j+1))) (vs++us):=by
   have:=hd.cat a4
   rwa[List.cons_append,<- D2 _ a2]at this
  refine zn8 ?_;refine xY (t.kids.length-(j+1)) oG agA ?_;exact⟨j+1,_,_,_,by omega,rfl,rfl,slc_eq _ _ hnl,hB,a1,(by rw[<- hnl];exact hoN),hdN⟩
 have hje:j=t.kids.length:=by omega
 rw[hje,List.take_length]at hd ho;refine Zv ?_;rw[T8 t,Nat.add_comm (Yq t.kids) 1,BJ t];exact⟨⟨_,_,vs,congrArg Ending.returned (slc_eq _ _ (by rw[hje,List.take_length])),ho.low (aD lo1),hd⟩,hB⟩
theorem G7:∀(k:Nat) (t:Dt),SizeOf.sizeOf t<k->∀(A:Option Addr) (c:Nat) (w:World),Bel w0 w->TresIn w0 A t.kids->ndT t<=1000000->Calls Tryd.prog 9 #[.agg #[.int .i64 (t).rule,.int .i64 (t).lex,.slice A (t).kids.length c]] w fun e w'=>(∃ A' c' vs,e= .returned (.slice A' (ndT t) c')/\Own w' w.heap.size 35 3 A' (ndT t) c' vs/\RowD trD 3 w0 (vv t) vs)/\Bel w w':=by
 intro k
 induction k with
 | zero=>intro t h;omega
 | succ k ih=>
  intro t h A c w h1 h2 h3;refine G6 (fun x hx A2 c2 w2 k1 k2 k3=>ih x ?_ A2 c2 w2 k1 k2 k3) h1 h2 h3;have:=aN hx;cases t with
  | mk r x ks=>simp only[Dt.mk.sizeOf_spec,Dt.kids]at h this;omega
theorem parts_any(t:Dt)(A:Option Addr)(c:Nat)(w:World)(h1:Bel w0 w)(h2:TresIn w0 A t.kids)(h3:ndT t<=1000000):Calls Tryd.prog 9 #[.agg #[.int .i64 (t).rule,.int .i64 (t).lex,.slice A (t).kids.length c]] w fun e w'=>(∃ A' c' vs,e= .returned (.slice A' (ndT t) c')/\Own w' w.heap.size 35 3 A' (ndT t) c' vs/\RowD trD 3 w0 (vv t) vs)/\Bel w w':=G7 (SizeOf.sizeOf t+1) t (ax _) A c w h1 h2 h3
section
section monok
variable {P:Program} {Q:Exit->Act->World->Prop} {n:Nw} {f:Fr} {w:World}
def monoKG(l:List Oper)(m:Nat)(S:List Nat):Bool:=Xw l m S (fun _=>true)&&decide (l.length=m)
def monoK(l:List Oper)(m:Nat)(S:List Nat):Bool:=Xw l m S (·.guard.isNone)&&decide (l.length=m)
theorem JW{Post:Value->World->Prop}{op:Op}{ty:TypeId}{pos:String}{af:Array Edge}(h:∀(ops:Array Oper) (Q:Exit->Act->World->Prop),(∀ w',Post undef w'->WL P ops Q [] n f w')->WL P ops Q [⟨none,op,ty,pos,af,none⟩] n f w):OS P n f w ⟨none,op,ty,pos,af,none⟩ Post:=by
 unfold OS;intro K Q hK
 have h1:=h #[] (BW K Q) (fun w' hp=>by
  unfold WL;refine wpList_nil ?_;have:=hK undef w' hp
  exact this)
 unfold WL wpList at h1;rw[if_pos (by simp[Region.wanted])]at h1;have ho:¬LetsOut (BW K Q):=fun⟨_,_,h⟩=>h
 rcases h1 with h1|⟨_,h1⟩
 ·exact I4 (Q:=BW K Q) (fun a w h=>h) (fun c a w h=>h) ho h1
 ·exact absurd h1 ho
theorem EQ(m:Nat)(S X:List Nat)(R:Nat->Value->World->Prop)(J:World->Prop)(hm:P.follows .mixedOrders=true)(hB:monoKG l m S=true)
  (hst:∀ i v w1 w2,R i v w1->Same [] w1 w2->R i v w2) (hJ:∀ w1 w2,J w1->Same [] w1 w2->J w2) (hJ0:J w)
  (step:∀ i o,i<m->l[i]? =some o->∀ g w',Same X w w'->J w'->(∀ j o',j∈jQ o->l[j]? =some o'->R j (vO g o') w')->(Region.wanted o (yielded l.toArray (AF n (ovr S g f)).tmps)=true->match o.dst with
   | some _=>OS P n (ovr S g f) w' o (fun v w''=>Same [] w' w''/\R i v w''/\R6 false w' w'' v)
   | none=>OS P n (ovr S g f) w' o (fun _ w''=>Same X w' w''/\J w''/\R i undef w''/\∀ k v,k≠i->R k v w'->R k v w''))/\(Region.wanted o (yielded l.toArray (AF n (ovr S g f)).tmps)=false->R i undef w'))
  (fin:∀ g w',Same X w w'->J w'->(∀ i o,l[i]? =some o->R i (vO g o) w')->WL P l.toArray Q [] n (ovr S g f) w'):WC P (.region id l.toArray true) Q n f w:=by
 obtain⟨hB,hlm⟩:=aJ.1 hB;have hlm:l.length=m:=aS hlm
 refine Hz m S [] (fun d val w'=>Same X w w'/\J w'/\∀ i,i<m->d i=true->R i (val i) w') hm hB (fun _ i o hi hil=>absurd hil oG) (fun val w' hs=>⟨hs.weak (by simp),hJ _ _ hJ0 hs,fun _ _ h=>(aK h).elim⟩) (fun i o d g w' hi ho _ hn hd _ hI=>?_) (fun listed g w' hz hD ht a1 hI=>any_done (fun i hi=>a1 i oG rfl) (fin g w' hI.1 hI.2.1 (fun i o ho=>by
  have hi:=(aC.1 ho).1;have:=hI.2.2 i oG (a1 i oG rfl)
  rwa[P9 ho]at this)))
 obtain⟨hs,hj,hR⟩:=hI;have h:=step i o hi ho g w' hs hj (fun j o' hjd ho'=>by have:=hR j (hd j hjd).1 (hd j hjd).2;rwa[P9 ho']at this);refine⟨fun hw=>?_,fun hw val hv=>⟨hs,hj,Q4 (p:=fun i v=>R i v w') (q:=fun i v=>R i v w') hv hR (fun _ _ _ h=>h) (by rw[rv_undef];exact h.2 hw)⟩⟩;replace h:=h.1 hw;cases hdst:o.dst with
 | some d'=>
  simp only[hdst]at h;exact V5 h (fun v w'' ⟨h1,h2,_⟩ val hv=>⟨hs.t (h1.weak (by simp)),hJ _ _ hj h1,Q4 (p:=fun i v=>R i v w') (q:=fun i v=>R i v w'') hv hR (fun j x _ hr=>hst _ _ _ _ hr h1) (by unfold rv;rw[hdst];exact h2)⟩)
 | none=>
  simp only[hdst]at h;exact V5 h (fun v w'' ⟨h1,h2,h3,h4⟩ val hv=>⟨hs.t h1,h2,Q4 (p:=fun i v=>R i v w') (q:=fun i v=>R i v w'') hv hR h4 (by unfold rv;rw[hdst];exact h3)⟩)
theorem DK(m:Nat)(S X:List Nat)(R:Nat->Value->World->Prop)(J:World->Prop)(hm:P.follows .mixedOrders=true)(hB:monoK l m S=true)
  (hst:∀ i v w1 w2,R i v w1->Same [] w1 w2->R i v w2) (hJ:∀ w1 w2,J w1->Same [] w1 w2->J w2) (hJ0:J w)
  (step:∀ i o,i<m->l[i]? =some o->∀ g w',Same X w w'->J w'->(∀ j o',j∈jQ o->l[j]? =some o'->R j (vO g o') w')->match o.dst with
   | some _=>OS P n (ovr S g f) w' o (fun v w''=>Same [] w' w''/\R i v w''/\R6 false w' w'' v)
   | none=>OS P n (ovr S g f) w' o (fun _ w''=>Same X w' w''/\J w''/\R i undef w''/\∀ k v,k≠i->R k v w'->R k v w''))
  (fin:∀ g w',Same X w w'->J w'->(∀ i o,l[i]? =some o->R i (vO g o) w')->WL P l.toArray Q [] n (ovr S g f) w'):WC P (.region id l.toArray true) Q n f w:=by
 obtain⟨hB,hlm⟩:=aJ.1 hB;exact EQ m S X R J hm (aJ.2 ⟨W8 hB (fun _ _=>rfl),hlm⟩) hst hJ hJ0 (fun i o hi ho g w' hs hj hd=>⟨fun _=>step i o hi ho g w' hs hj hd,fun hw=>V6 ((MK hB).2 i o hi ho).1 hw⟩) fin
end monok
end
section
section monoi
variable {P:Program} {Q:Exit->Act->World->Prop} {n:Nw} {f:Fr} {w:World}
def ivB(l:List Oper)(m:Nat)(ow:Nat->Nat):Bool:=(List.range m).all (fun i=>decide (ow i<m)&&Nat.beq (ow (ow i)) (ow i)&&(Nat.beq (ow i) i||(match l[i]? with|some o=>(jQ o).any (fun j=>Nat.beq (ow j) (ow i))|none=>false)))
def monoF(l:List Oper)(m:Nat)(S fl:List Nat):Bool:=Xw l m S (·.dst.isSome)&&(List.range l.length).all (fun i=>decide (i<m)||(match l[i]? with
 | some o=>(List.range m).all (fun j=>fl.contains j||(jQ o).contains j)
 | none=>false))
def subs:List Nat->List (List Nat)
 | []=>[[]]
 | a::r=>subs r++(subs r).map (a :: ·)
theorem O8(p:Nat->Bool):∀ F:List Nat,F.filter p∈subs F
 | []=>by simp[subs]
 | a::r=>by
  have ih:=O8 p r
  cases h:p a with
  | true=>rw[List.filter_cons_of_pos h];exact List.mem_append_right _ (List.mem_map_of_mem ih)
  | false=>rw[List.filter_cons_of_neg (by simp[h])];exact aR _ ih
def FinAll(p:List Nat->Prop):List (List Nat)->Prop
 | []=>True
 | x::r=>p x/\FinAll p r
theorem FinAll.get{p:List Nat->Prop}:∀ {xs:List (List Nat)},FinAll p xs->∀ x∈xs,p x
 | _::_,h,x,hx=>by
  rcases aq.1 hx with rfl|hx
  ·exact h.1
  ·exact FinAll.get h.2 x hx
def lstP(k m:Nat)(U:List Nat):Array Bool:=Array.ofFn (n:=k) (fun i=>decide (i.val<m) && !U.contains i.val)
theorem TX{k':Nat}(h:k=k')(K:WA P l Q (x+k') listed n f w):WA P l Q (x+k) listed n f w:=by rw[h];exact K
theorem u9(t:Nat)(v:Value)(h:ev n f (.tmp t)=v)(hv:v≠undef)(K:WA P l Q x listed n (upd f t v) w):WA P l Q x listed n f w:=by
 rw[u5 (Vj h hv)]at K;exact K
theorem e_lst{listed':Array Bool}(h:listed=listed')(K:WA P l Q x listed' n f w):WA P l Q x listed n f w:=by rw[h];exact K
theorem Ky{α:Type}{val:Nat->α}{v:α}(h:k≠i):j8 val i v k=val k:=if_neg h
theorem T5{α:Type}{val:Nat->α}{v:α}:j8 val i v i=v:=if_pos rfl
theorem H8(m:Nat)(S fl:List Nat)(ow:Nat->Nat)(R:Nat->Value->Nat->Nat->World->Prop)(hm:P.follows .mixedOrders=true)(hB:monoF l m S fl=true)(hI:ivB l m ow=true)(hF:(List.range m).filter (fun i=>fl.contains i)=fl)
  (hst:∀ i v a b w1 w2,R i v a b w1->b<=w1.heap.size->Same [] w1 w2->R i v a b w2)
  (step:∀ i o,i<m->l[i]? =some o->∀ g w' (lo hi:Nat->Nat),Same [] w w'->(∀ j∈jQ o,R j (vl l g j) (lo (ow j)) (hi (ow j)) w'/\hi (ow j)<=w'.heap.size)->(∀ j k,j∈jQ o->k∈jQ o->ow j≠ow k->hi (ow j)<=lo (ow k)\/hi (ow k)<=lo (ow j))->(Region.wanted o (yielded l.toArray (AF n (ovr S g f)).tmps)=true->OS P n (ovr S g f) w' o (fun v w''=>Same [] w' w''/\R i v (bif Nat.beq (ow i) i then w'.heap.size else lo (ow i)) (bif Nat.beq (ow i) i then w''.heap.size else hi (ow i)) w''))/\(Region.wanted o (yielded l.toArray (AF n (ovr S g f)).tmps)=false->R i undef (bif Nat.beq (ow i) i then w'.heap.size else lo (ow i)) (bif Nat.beq (ow i) i then w'.heap.size else hi (ow i)) w'))
  (fin:FinAll (fun U=>∀ x g w' (lo hi:Nat->Nat),Same [] w w'->(∀ i,i<m->U.contains i=false->R i (vl l g i) (lo (ow i)) (hi (ow i)) w'/\hi (ow i)<=w'.heap.size)->(∀ i j,i<m->j<m->U.contains i=false->U.contains j=false->ow i≠ow j->hi (ow i)<=lo (ow j)\/hi (ow j)<=lo (ow i))->WA P l Q (x+(U.length+(l.length-m))) (lstP l.length m U) n (ovr S g f) w') (subs fl)):WC P (.region id l.toArray true) Q n f w:=by
 obtain⟨hB,hl⟩:=aJ.1 hB;have a5:=(MK hB).1;have a2:∀ i,i<m->ow i<m/\ow (ow i)=ow i/\(ow i=i\/∀ o,l[i]? =some o->∃ j∈jQ o,ow j=ow i):=by
  intro i hi;have h:=aB.1 hI i (av.2 hi);simp only[Bool.and_eq_true,Bool.or_eq_true,decide_eq_true_eq]at h;obtain⟨⟨h1,h2⟩,h3⟩:=h;refine⟨h1,aV h2,?_⟩;rcases h3 with h3|h3
  ·exact .inl (aV h3)
  ·refine .inr (fun o ho=>?_)
   rw[ho]at h3;obtain⟨j,hj,hb⟩:=List.any_eq_true.1 h3;exact⟨j,hj,aV hb⟩
 let I:(Nat->Bool)->(Nat->Value)->World->Prop:=fun d val w'=>Same [] w w'/\∃ lo hi:Nat->Nat,(∀ i,i<m->d i=true->d (ow i)=true/\R i (val i) (lo (ow i)) (hi (ow i)) w'/\hi (ow i)<=w'.heap.size)/\∀ i j,i<m->j<m->i≠j->d i=true->d j=true->ow i=i->ow j=j->hi i<=lo j\/hi j<=lo i
 refine Hz m S fl I hm hB (fun listed i o hi hil ho _ hd a ha hf=>?_) (fun val w' hs=>⟨hs,fun _=>0,fun _=>0,fun _ _ h=>(aK h).elim,fun _ _ _ _ _ h=>(aK h).elim⟩) (fun i o d g w' hi' ho hds hn hd _ ab=>?_) (fun listed g w' hs _ ht hbd ab a4 hc=>?_)
 ·have h1:=aB.1 hl i (av.2 hil)
  simp only[decide_eq_false hi,Bool.false_or,ho]at h1;have h2:=aB.1 h1 a (av.2 ha);rw[hf,Bool.false_or]at h2;exact hd a (by simpa using h2)
 ·obtain⟨a6,lo,hi,hR,a3⟩:=ab
  have h:=step i o hi' ho g w' lo hi a6 (fun j hj=>(hR j (hd j hj).1 (hd j hj).2).2) (fun j k hj hk a7=>a3 (ow j) (ow k) (a2 j (hd j hj).1).1 (a2 k (hd k hk).1).1 a7 (hR j (hd j hj).1 (hd j hj).2).1 (hR k (hd k hk).1 (hd k hk).2).1 (a2 j (hd j hj).1).2.1 (a2 k (hd k hk).1).2.1);have nx:∀ v w'',Same [] w' w''/\R i v (bif Nat.beq (ow i) i then w'.heap.size else lo (ow i)) (bif Nat.beq (ow i) i then w''.heap.size else hi (ow i)) w''->∀ val,(∀ k,k<m->val k=j8 (vl l g) i (rv o v) k)->I (j8 d i true) val w'':=fun v w'' ⟨h1,h2⟩ val hv=>by
   rw[Mj hds]at hv;refine⟨a6.trans h1,j8 lo i w'.heap.size,j8 hi i w''.heap.size,Q4 (p:=fun j x=>d (ow j)=true/\R j x (lo (ow j)) (hi (ow j)) w'/\hi (ow j)<=w'.heap.size) (q:=fun j x=>j8 d i true (ow j)=true/\R j x (j8 lo i w'.heap.size (ow j)) (j8 hi i w''.heap.size (ow j)) w''/\j8 hi i w''.heap.size (ow j)<=w''.heap.size) hv hR (fun j x _ ⟨k1,k2,k3⟩=>?_) ?_,PJ (val:=fun k=>(lo k,hi k)) (val':=fun k=>(j8 lo i w'.heap.size k,j8 hi i w''.heap.size k)) (v:=(w'.heap.size,w''.heap.size)) (D:=fun a x b y=>ow a=a->ow b=b->x.2<=y.1\/y.2<=x.1) (fun k _=>by simp only[j8];split<;>rfl) a3 (fun j hj hdj=>?_)⟩
   ·have e:ow j≠i:=fun e=>by rw[e,hn]at k1;cases k1
    rw[Ky e,Ky e,Ky e];exact⟨k1,hst _ _ _ _ _ _ k2 k3 h1,nLT k3 h1.size⟩
   ·by_cases e:ow i=i
    ·simp only[e,Nat.beq_refl,cond_true]at h2
     rw[e,T5,T5,T5];exact⟨rfl,h2,ae _⟩
    ·have hb:Nat.beq (ow i) i=false:=by
      cases hb:Nat.beq (ow i) i
      ·rfl
      ·exact absurd (aV hb) e
     simp only[hb,cond_false]at h2;rw[Ky e,Ky e,Ky e];obtain⟨k,hk,hke⟩:=(a2 i hi').2.2.resolve_left e o ho;obtain⟨k1,_,k3⟩:=hR k (hd k hk).1 (hd k hk).2;rw[hke]at k1 k3;exact⟨k1,h2,nLT k3 h1.size⟩
   ·have k3:=(hR j hj hdj).2.2
    exact⟨fun _ e=>by rw[e]at k3;exact .inr k3,fun e _=>by rw[e]at k3;exact .inl k3⟩
  exact⟨fun hw=>V5 (h.1 hw) nx,fun hw=>nx undef w' ⟨Same.refl _ _,h.2 hw⟩⟩
 ·obtain⟨a6,lo,hi,hR,a3⟩:=ab
  unfold unl at hc;rw[H6 a5 (fun t h=>by rw[ht t h];rfl)]at hc;have hU:=fin.get _ (O8 (fun i=>!listed.getD i false) fl)
  generalize hUe:fl.filter (fun i=>!listed.getD i false)=U at hU
  have a1:∀ i,i<m->(U.contains i=false↔listed.getD i false=true):=fun i hi=>by
   cases hl':listed.getD i false with
   | true=>
    simp only[iff_true];cases hq:U.contains i with
    | false=>rfl
    | true=>
     have h1:i∈U:=by simpa using hq
     rw[<- hUe,List.mem_filter,hl']at h1;exact absurd h1.2 (by simp)
   | false=>
    simp only[Bool.false_eq_true,iff_false,Bool.not_eq_false];have h1:fl.contains i=true:=by
     cases hq:fl.contains i with
     | true=>rfl
     | false=>rw[hbd i hi hq]at hl';cases hl'
    have h2:i∈U:=by
     rw[<- hUe,List.mem_filter,hl'];exact⟨by simpa using h1,rfl⟩
    simpa using h2
  have a8:listed=lstP l.length m U:=by
   apply Array.ext
   ·simp[lstP,hs]
   ·intro i h1 h2
    have h3:listed[i]=listed.getD i false:=by simp[h1]
    simp only[lstP,Array.getElem_ofFn];rw[h3];by_cases a9:i<m
    ·have h4:=a1 i a9
     cases hl':listed.getD i false with
     | true=>rw[h4.2 hl'];simp[a9]
     | false=>
      have h5:U.contains i=true:=by
       cases hq:U.contains i with
       | true=>rfl
       | false=>rw[h4.1 hq]at hl';cases hl'
      rw[h5];simp
    ·rw[ht i oG];simp[a9]
  have a5:U.length<=(List.range m).countP (fun i=>!listed.getD i false):=by
   rw[<- hUe,<- hF,List.filter_filter,<- List.countP_eq_length_filter]
   exact List.countP_mono_left (fun x _ hx=>by
    simp only[Bool.and_eq_true]at hx
    exact hx.1)
  have hW:=hU (a4-(U.length+(l.length-m))) g w' lo hi a6 (fun i hi h=>(hR i hi ((a1 i hi).1 h)).2) (fun i j hi hj h1 h2 a7=>a3 (ow i) (ow j) (a2 i hi).1 (a2 j hj).1 a7 (hR i hi ((a1 i hi).1 h1)).1 (hR j hj ((a1 j hj).1 h2)).1 (a2 i hi).2.1 (a2 j hj).2.1);rw[show a4-(U.length+(l.length-m))+(U.length+(l.length-m))=a4 by omega,<- a8]at hW;unfold WA at hW;exact hW
end monoi
def Kept(lo hi:Nat)(w:World)(p:World->Prop):Prop:=hi<=w.heap.size/\∀ w2:World,hi<=w2.heap.size->(∀ b,lo<=b->b<hi->w2.heap[b]? =w.heap[b]?)->p w2
theorem Kept.now{p:World->Prop}(h:Kept lo hi w p):p w:=h.2 w h.1 (fun _ _ _=>rfl)
theorem Kept.tr{p:World->Prop}(h:Kept lo hi w p)(hs:Same X w w')(hx:∀ g∈X,g<lo\/hi<=g):Kept lo hi w' p:=
 ⟨nLT h.1 hs.size,fun w2 h2 hb=>h.2 w2 h2 (fun b h3 h4=>(hb b h3 h4).trans (hs.blk b (nLL h4 h.1) (fun hX=>by rcases hx b hX with h5|h5<;>omega)))⟩
theorem Kept.tr0{p:World->Prop}(h:Kept lo hi w p)(hs:Same [] w w'):Kept lo hi w' p:=h.tr hs (by simp)
theorem Kept.tr1{p:World->Prop}(h:Kept lo hi w p)(hs:Same [b] w w')(hx:b<lo\/hi<=b):Kept lo hi w' p:=h.tr hs (fun g hg=>by rw[List.mem_singleton.1 hg];exact hx)
theorem Kept.imp{p q:World->Prop}(h:Kept lo hi w p)(k:∀ w2,p w2->q w2):Kept lo hi w q:=⟨h.1,fun w2 h2 hb=>k w2 (h.2 w2 h2 hb)⟩
end
end Go.Proofs.YtmfiholmfieieaaDoor
