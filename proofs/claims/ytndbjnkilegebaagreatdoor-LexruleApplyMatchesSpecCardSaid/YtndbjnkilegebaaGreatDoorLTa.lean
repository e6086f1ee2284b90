/- What these functions compute, at every world: simple.Clone, term.Clone, term.Size, term.fits, term.Apply; and plain laws. -/
import Derived.Test.YtndbjnkilegebaaGreatDoorGSearch
import Derived.Test.YtndbjnkilegebaaGreatDoorU
import Derived.Test.YtndbjnkilegebaaGreatDoorZst
import Derived.Test.YtndbjnkilegebaaGreatDoorNTo
import Derived.Test.YtndbjnkilegebaaGreatDoorGro
import Derived.Test.YtndbjnkilegebaaGreatDoorTyp
import Derived.Test.YtndbjnkilegebaaGreatDoorEng
import Derived.Test.YtndbjnkilegebaaGreatDoorWRc
import Derived.Test.YtndbjnkilegebaaGreatDoorLRd
import Derived.Test.YtndbjnkilegebaaGreatDoorGCan
import Derived.Test.YtndbjnkilegebaaGreatDoorNTw
namespace Go.Proofs.YtndbjnkilegebaaGreatDoor
open Go.RowKit Go.Proofs.Tryz
variable {A A1 A2 B S:Option Addr}{X:List Nat}{b base c1 c2 cap cb k lo n o sz t:Nat}{cs:Array Value}{e:TypeId}{l:List Nd}{s:Sm}{vs xs:List Value}{w w2:World}{x:Tm}
section
def zSm:Array Value:=#[.string ⟨#[]⟩,.slice none 0 0]
def zTm:Array Value:=cG
def Sp(ts:List Nat)(t:Nat)(cs:Array Value):Prop:=t∈ts\/(t=31/\cs=zSm)\/(t=34/\cs=zTm)
def Kp(X:List Nat)(n:Nat)(ts:List Nat)(w w2:World):Prop:=w.heap.size<=w2.heap.size/\∀ k,k<n->w2.heap[k]? =w.heap[k]?\/k∈X\/∃ t cs,Blk w k t cs/\Sp ts t cs
section kp
variable {X Y:List Nat} {n m:Nat} {ts us:List Nat} {w w1 w2:World} {P Q:World->Prop}
theorem Kp.refl(X:List Nat)(n:Nat)(ts:List Nat)(w:World):Kp X n ts w w:=⟨ai _,fun _ _=> .inl rfl⟩
theorem Kp.trans(h:Kp X n ts w w1)(g:Kp X n ts w1 w2):Kp X n ts w w2:=⟨nLT h.1 g.1,fun k hk=>by
 rcases h.2 k hk with e|e
 ·rcases g.2 k hk with e2|e2|⟨t,cs,e2,hs⟩
  ·exact .inl (e2.trans e)
  ·exact .inr (.inl e2)
  ·exact .inr (.inr ⟨t,cs,e.symm.trans e2,hs⟩)
 ·exact .inr e⟩
theorem Kp.of{Z:List Nat}(hs:Same Z w w1)(hn:n<=w.heap.size)(hx:∀ g∈Z,n<=g\/g∈X\/∃ t cs,Blk w g t cs/\Sp ts t cs):Kp X n ts w w1:=⟨hs.size,fun k hk=>by
 by_cases e:k∈Z
 ·rcases hx k e with h|h
  ·omega
  ·exact .inr h
 ·exact .inl (hs.blk k oG e)⟩
structure Fz(X:List Nat)(n:Nat)(ts:List Nat)(w:World)(P:World->Prop):Prop where
 le:n<=w.heap.size
 all:∀ w2,Kp X n ts w w2->P w2
theorem Fz.step(h:Fz X n ts w P)(hk:Kp X n ts w w1):Fz X n ts w1 P:=⟨nLT h.le hk.1,fun w2 h2=>h.all w2 (hk.trans h2)⟩
theorem Fz.now(h:Fz X n ts w P):P w:=h.all w (Kp.refl _ _ _ _)
theorem Fz.trX{Z:List Nat}(h:Fz X n ts w P)(hs:Same Z w w1)(hx:∀ g∈Z,n<=g\/g∈X\/∃ t cs,Blk w g t cs/\Sp ts t cs):Fz X n ts w1 P:=h.step (Kp.of hs h.le hx)
theorem Fz.tr0(h:Fz X n ts w P)(hs:Same [] w w1):Fz X n ts w1 P:=h.trX hs (by simp)
theorem Fz.bel(h:Fz X n ts w P)(hb:Bel w w1):Fz X n ts w1 P:=h.tr0 (sB hb)
theorem Fz.in1(h:Fz X n ts w P)(hs:Same [b] w w1)(hb:b∈X):Fz X n ts w1 P:=h.trX hs (fun g hg=> .inr (.inl (by rw[List.mem_singleton.1 hg];exact hb)))
theorem Fz.sp1(h:Fz X n ts w P)(hs:Same [b] w w1)(hb:Blk w b t cs)(ht:Sp ts t cs):Fz X n ts w1 P:=h.trX hs (fun g hg=> .inr (.inr ⟨t,cs,by rw[List.mem_singleton.1 hg];exact hb,ht⟩))
theorem sp_tm{ts:List Nat}:Sp ts 34 cG:= .inr (.inr ⟨rfl,rfl⟩)
theorem Fz.free(h:Fz X n ts w P)(hs:Same [b] w w1)(hb:Blk w b t cs)(ht:Sp ts t cs):Fz (b::X) n ts w1 P:=⟨nLT h.le hs.size,fun w2 h2=>h.all w2 ⟨nLT hs.size h2.1,fun k hk=>by
 by_cases e:k=b
 ·grind
 have e1:=hs.blk k (nLL hk h.le) (by simpa using e)
 rcases h2.2 k hk with e2|e2|⟨t',cs',e2,hs2⟩
 ·grind
 ·grind
 ·exact .inr (.inr ⟨t',cs',e1.symm.trans e2,hs2⟩)⟩⟩
theorem Fz.mono(h:Fz X n ts w P)(hm:n<=m)(hw:m<=w.heap.size):Fz X m ts w P:=⟨hw,fun w2 h2=>h.all w2 ⟨h2.1,fun k hk=>h2.2 k oG⟩⟩
theorem Fz.up(h:Fz X n ts w P):Fz X w.heap.size ts w P:=h.mono h.le (ai _)
theorem Fz.less(h:Fz Y n ts w P)(hs:∀ x∈X,x∈Y):Fz X n ts w P:=⟨h.le,fun w2 h2=>h.all w2 ⟨h2.1,fun k hk=>by
 rcases h2.2 k hk with e|e|e
 ·exact .inl e
 ·exact .inr (.inl (hs k e))
 ·exact .inr (.inr e)⟩⟩
theorem Fz.addX(h:Fz X n ts w P)(hy:∀ y∈Y,y∈X\/n<=y):Fz Y n ts w P:=⟨h.le,fun w2 h2=>h.all w2 ⟨h2.1,fun k hk=>by
 rcases h2.2 k hk with e|e|e
 ·exact .inl e
 ·rcases hy k e with h3|h3
  ·exact .inr (.inl h3)
  ·omega
 ·exact .inr (.inr e)⟩⟩
theorem Fz.nil(h:Fz X n ts w P):Fz [] n ts w P:=h.less (by simp)
theorem Fz.sub(h:Fz X n us w P)(hs:∀ t∈ts,t∈us):Fz X n ts w P:=⟨h.le,fun w2 h2=>h.all w2 ⟨h2.1,fun k hk=>by
 rcases h2.2 k hk with e|e|⟨t,cs,r,q⟩
 ·exact .inl e
 ·grind
 ·refine .inr (.inr ⟨t,cs,r,?_⟩)
  rcases q with q|q
  ·exact .inl (hs t q)
  ·exact .inr q⟩⟩
theorem Fz.imp(h:Fz X n ts w P)(hi:∀ w,P w->Q w):Fz X n ts w Q:=⟨h.le,fun w2 h2=>hi w2 (h.all w2 h2)⟩
theorem Fz.and(h:Fz X n ts w P)(g:Fz X m ts w Q):Fz X w.heap.size ts w (fun w=>P w/\Q w):=⟨ai _,fun w2 h2=>⟨h.up.all w2 h2,g.up.all w2 h2⟩⟩
theorem Fz.triv(X:List Nat)(w:World)(ts:List Nat)(h:∀ w,P w):Fz X w.heap.size ts w P:=⟨ai _,fun w2 _=>h w2⟩
theorem Fz.blk(h:Blk w b t cs)(hx:b∉X)(ht:¬Sp ts t cs):Fz X w.heap.size ts w (fun w=>Blk w b t cs):=⟨ai _,fun w2 h2=>by
 rcases h2.2 b h.lt with e|e|⟨t',cs',e,hs⟩
 ·exact e.trans h
 ·exact absurd e hx
 ·have he:(some (Obj.cells cs t (0,0)))=some (.cells cs' t' (0,0)):=h.symm.trans e
  injection he with he
  injection he with e1 e2
  subst e1;subst e2
  exact absurd hs ht⟩
end kp
def TS:List Nat:=[68,38,42]
def SmD(X:List Nat)(τ:Ts)(w:World)(v:Value):Prop:=∃ A c n,v= .agg #[.string τ.sm.base,.slice A τ.sm.args.length c]/\Fz X n TS w (fun w=>SimsIn w A τ.sm.args)
def TmD(X:List Nat)(x:Tv)(w:World)(v:Value):Prop:=∃ S cs B cb n,v= .agg #[.int .i64 x.tm.kind,.string x.tm.name,.int .i64 x.tm.index,.string x.tm.type.base,.slice S x.tm.type.args.length cs,.slice B x.tm.args.length cb]/\Fz X n TS w (fun w=>SimsIn w S x.tm.type.args/\TmsIn w B x.tm.args)
theorem SmD.tr0{X:List Nat}{τ:Ts}{w w1:World}{v:Value}(h:SmD X τ w v)(hs:Same [] w w1):SmD X τ w1 v:=by
 obtain⟨A,c,n,e,hz⟩:=h;exact⟨A,c,n,e,hz.tr0 hs⟩
theorem TmD.tr0{X:List Nat}{x:Tv}{w w1:World}{v:Value}(h:TmD X x w v)(hs:Same [] w w1):TmD X x w1 v:=by
 obtain⟨A,c,B,m,n,e,hz⟩:=h;exact⟨A,c,B,m,n,e,hz.tr0 hs⟩
theorem sims_two{s1 s2:Sm}(h:Blk w b t #[.string s1.base,.slice A1 s1.args.length c1,.string s2.base,.slice A2 s2.args.length c2])(h1:SimsIn w A1 s1.args)(h2:SimsIn w A2 s2.args):SimsIn w (some ⟨b,0,none⟩) [s1,s2]:=by
 cases s1 with
 | mk b1 a1=>
  cases s2 with
  | mk b2 a2=>
   refine .more (by show 2<=vX;decide) h.lt (fun k hk=>?_)
   match k,hk with
   | 0,_=>exact SimAt.mk (A:=A1) (c:=c1) h.lt (h.range (fun j v hj=>by match j,hj with|0,hj=>cases hj;rfl|1,hj=>cases hj;rfl|_+2,hj=>cases hj)) h1
   | 1,_=>exact SimAt.mk (A:=A2) (c:=c2) h.lt (h.range (fun j v hj=>by match j,hj with|0,hj=>cases hj;rfl|1,hj=>cases hj;rfl|_+2,hj=>cases hj)) h2
def tmC(t:Tm)(S B:Option Addr)(cs cb:Nat):List Value:=[.int .i64 t.kind,.string t.name,.int .i64 t.index,.string t.type.base,.slice S t.type.args.length cs,.slice B t.args.length cb]
theorem tm_at{t:Tm}{cs:Nat}(hb:b<w.heap.size)(h:w.rangeAt b o (tmC t S B cs cb))(h1:SimsIn w S t.type.args)(h2:TmsIn w B t.args):TmAt w b o t:=by
 cases t with
 | mk k nm i s a=>exact .mk hb h h1 h2
theorem IX{l:List Value}(h:Blk w b t cs)(ho:∀ j v,l[j]? =some v->cs[o+j]? =some v):w.rangeAt b o l:=h.range (fun j v hj=>ho j v hj)
theorem tms_one{cs:Nat}(h:Blk w b t (tmC x S B cs cb).toArray)(h1:SimsIn w S x.type.args)(h2:TmsIn w B x.args):TmsIn w (some ⟨b,0,none⟩) [x]:=
 .more (by show 1<=vX;decide) h.lt (fun k hk=>by
  match k,hk with
  | 0,_=>exact tm_at h.lt (IX h (fun j v hj=>by simpa using hj)) h1 h2)
theorem DV{y:Tm}{S' B':Option Addr}{cs cs' cb':Nat}(h:Blk w b t (tmC x S B cs cb++tmC y S' B' cs' cb').toArray)(h1:SimsIn w S x.type.args)(h2:TmsIn w B x.args)(h3:SimsIn w S' y.type.args)(h4:TmsIn w B' y.args):TmsIn w (some ⟨b,0,none⟩) [x,y]:=
 .more (by show 2<=vX;decide) h.lt (fun k hk=>by
  match k,hk with
  | 0,_=>exact tm_at h.lt (IX h (fun j v hj=>by
   have hl:j<6:=(aC.1 hj).1
   rw[List.getElem?_toArray,List.getElem?_append_left (by show 0+j<6;omega),Nat.zero_add];exact hj)) h1 h2
  | 1,_=>exact tm_at h.lt (IX h (fun j v hj=>by
   rw[List.getElem?_toArray,List.getElem?_append_right (by show 6<=0+1*6+j;omega),show 0+1*6+j-(tmC x S B cs cb).length=j by show 0+1*6+j-6=j;omega];exact hj)) h3 h4)
theorem tv_kind(x:Tv):x.tm.kind≠0:=by cases x<;>simp[Tv.tm,Tm.kind]
theorem nsp_sm{s1 s2:Sm}{m1 m2:Nat}:¬Sp TS 31 #[.string s1.base,.slice A1 m1 c1,.string s2.base,.slice A2 m2 c2]:=by
 rintro (h|⟨_,h⟩|⟨h,_⟩)
 ·revert h;decide
 ·exact absurd (show (4:Nat)=2 from congrArg Array.size h) dE
 ·revert h;decide
theorem nsp_tm{x:Tv}{l:List Value}:¬Sp TS 34 (Value.int .i64 x.tm.kind::l).toArray:=by
 rintro (h|⟨h,_⟩|⟨_,h⟩)
 ·revert h;decide
 ·revert h;decide
 ·grind[zTm,tv_kind]
section mk
variable {X:List Nat} {w:World}
theorem SmD.two{a b:Ts}{g:Nat}{n1 n2:Nat}(h:Blk w g 31 #[.string a.sm.base,.slice A1 a.sm.args.length c1,.string b.sm.base,.slice A2 b.sm.args.length c2])(hg:g∉X)(h1:Fz X n1 TS w (fun w=>SimsIn w A1 a.sm.args))(h2:Fz X n2 TS w (fun w=>SimsIn w A2 b.sm.args)):SmD X (.f a b) w (.agg #[.string ⟨#[]⟩,.slice (some ⟨g,0,none⟩) 2 2]):=
 ⟨_,2,_,rfl,((Fz.blk h hg nsp_sm).and (h1.and h2)).imp (fun _ h=>sims_two h.1 h.2.1 h.2.2)⟩
theorem TmD.con(nm:ByteArray){τ:Ts}{A:Option Addr}{c n:Nat}(h:Fz X n TS w (fun w=>SimsIn w A τ.sm.args)):TmD X (.con nm τ) w (.agg #[.int .i64 1,.string nm,.int .i64 0,.string τ.sm.base,.slice A τ.sm.args.length c,.slice none 0 0]):=
 ⟨A,c,none,0,n,rfl,h.imp (fun _ h=>⟨h,.nil⟩)⟩
theorem TmD.var(i:Nat):TmD X (.var i) w (.agg #[.int .i64 2,.string ⟨#[]⟩,.int .i64 i,.string ⟨#[]⟩,.slice none 0 0,.slice none 0 0]):=
 ⟨none,0,none,0,w.heap.size,rfl,Fz.triv X w TS (fun _=>⟨.nil,.nil⟩)⟩
theorem TmD.abs{τ:Ts}{x:Tv}{g:Nat}{A S B:Option Addr}{c n cs cb m:Nat}(h:Fz X n TS w (fun w=>SimsIn w A τ.sm.args))(hg:Blk w g 34 #[.int .i64 x.tm.kind,.string x.tm.name,.int .i64 x.tm.index,.string x.tm.type.base,.slice S x.tm.type.args.length cs,.slice B x.tm.args.length cb])(hgx:g∉X)(hx:Fz X m TS w (fun w=>SimsIn w S x.tm.type.args/\TmsIn w B x.tm.args)):TmD X (.abs τ x) w (.agg #[.int .i64 3,.string ⟨#[]⟩,.int .i64 0,.string τ.sm.base,.slice A τ.sm.args.length c,.slice (some ⟨g,0,none⟩) 1 1]):=
 ⟨A,c,_,1,_,rfl,((Fz.blk hg hgx nsp_tm).and (h.and hx)).imp (fun _ h=>⟨h.2.1,tms_one h.1 h.2.2.1 h.2.2.2⟩)⟩
theorem TmD.app{x y:Tv}{g:Nat}{S B S' B':Option Addr}{cs cb m cs' cb' m':Nat}(hg:Blk w g 34 #[.int .i64 x.tm.kind,.string x.tm.name,.int .i64 x.tm.index,.string x.tm.type.base,.slice S x.tm.type.args.length cs,.slice B x.tm.args.length cb,.int .i64 y.tm.kind,.string y.tm.name,.int .i64 y.tm.index,.string y.tm.type.base,.slice S' y.tm.type.args.length cs',.slice B' y.tm.args.length cb'])(hgx:g∉X)(hx:Fz X m TS w (fun w=>SimsIn w S x.tm.type.args/\TmsIn w B x.tm.args))(hy:Fz X m' TS w (fun w=>SimsIn w S' y.tm.type.args/\TmsIn w B' y.tm.args)):TmD X (.app x y) w (.agg #[.int .i64 4,.string ⟨#[]⟩,.int .i64 0,.string ⟨#[]⟩,.slice none 0 0,.slice (some ⟨g,0,none⟩) 2 2]):=
 ⟨none,0,_,2,_,rfl,((Fz.blk hg hgx nsp_tm).and (hx.and hy)).imp (fun _ h=>⟨.nil,DV h.1 h.2.1.1 h.2.1.2 h.2.2.1 h.2.2.2⟩)⟩
end mk
inductive TmCs(n:Nat)(w:World):List Tv->List Value->Prop
 | nil:TmCs n w [] []
 | cons {x:Tv} {S B:Option Addr} {cs cb:Nat} {l:List Tv} {vs:List Value} (h:Fz [] n TS w (fun w=>SimsIn w S x.tm.type.args/\TmsIn w B x.tm.args)) (t:TmCs n w l vs):TmCs n w (x::l) (.int .i64 x.tm.kind:: .string x.tm.name:: .int .i64 x.tm.index:: .string x.tm.type.base:: .slice S x.tm.type.args.length cs:: .slice B x.tm.args.length cb::vs)
theorem TmCs.tr0{n:Nat}{w w1:World}{l:List Tv}{vs:List Value}(h:TmCs n w l vs)(hs:Same [] w w1):TmCs n w1 l vs:=by
 induction h with
 | nil=>exact .nil
 | cons h _ ih=>exact .cons (h.tr0 hs) ih
theorem TmCs.get{l:List Tv}(h:TmCs n w l vs):∀ k (hk:k<l.length),∃ S B cs cb,(∀ j v,(tmC (l[k]).tm S B cs cb)[j]? =some v->vs[k*6+j]? =some v)/\Fz [] n TS w (fun w=>SimsIn w S (l[k]).tm.type.args/\TmsIn w B (l[k]).tm.args):=by
 induction h with
 | nil=>intro k hk;simp at hk
 | @cons x S B cs cb l vs h t ih=>
  intro k hk
  match k,hk with
  | 0,_=>
   refine⟨S,B,cs,cb,fun j v hj=>?_,h⟩
   match j,hj with
   | 0,hj=>exact hj
   | 1,hj=>exact hj
   | 2,hj=>exact hj
   | 3,hj=>exact hj
   | 4,hj=>exact hj
   | 5,hj=>exact hj
   | _+6,hj=>cases hj
  | k+1,hk=>
   obtain⟨S',B',cs',cb',h1,h2⟩:=ih k (by simpa using hk);refine⟨S',B',cs',cb',fun j v hj=>?_,h2⟩
   grind
theorem TmCs.at_{l:List Tv}(h:TmCs n w l vs)(hb:Blk w b t vs.toArray)(hk:k<l.length):∃ S B cs cb,w.rangeAt b (0+k*6) [.int .i64 (l[k]).tm.kind,.string (l[k]).tm.name,.int .i64 (l[k]).tm.index,.string (l[k]).tm.type.base,.slice S (l[k]).tm.type.args.length cs,.slice B (l[k]).tm.args.length cb]/\Fz [] n TS w (fun w=>SimsIn w S (l[k]).tm.type.args/\TmsIn w B (l[k]).tm.args):=by
 obtain⟨S,B,cs,cb,h1,h2⟩:=h.get k hk;exact⟨S,B,cs,cb,IX hb (fun j v hj=>by rw[List.getElem?_toArray,Nat.zero_add];exact h1 j v hj),h2⟩
end
def RowsIn(w:World)(A:Option Addr)(rs:List (List Int)):Prop:=
 rs.length<=1000/\(∀ r∈rs,0<r.length/\r.length<=1000)/\(rs≠[]->∃ b o,A=some ⟨b,o,none⟩/\b<w.heap.size/\∀ k (h:k<rs.length),∃ A' c,w.cell? ⟨b,o+k*1,none⟩=some (.slice A' (rs[k]).length c)/\IntsIn w A' rs[k])
theorem RowsIn.at_{w':World}{rs:List (List Int)}(h:RowsIn w A rs)(hb:Bel w w')(hk:k<rs.length):
  ∃ b o A' c,A=some ⟨b,o,none⟩/\w'.cell? ⟨b,o+k*1,none⟩=some (.slice A' (rs[k]).length c)/\IntsIn w A' rs[k]:=by
 obtain⟨b,o,e,hl,hc⟩:=h.2.2 (by rintro rfl;simp at hk);obtain⟨A',c,h1,h2⟩:=hc k hk;exact⟨b,o,A',c,e,hb.cell hl h1,h2⟩
theorem RowsIn.mono{w w':World}{A:Option Addr}{rs:List (List Int)}(h:RowsIn w A rs)(hb:Bel w w'):RowsIn w' A rs:=
 ⟨h.1,h.2.1,fun hn=>by
  obtain⟨b,o,e,hl,hc⟩:=h.2.2 hn
  refine⟨b,o,e,nLL hl hb.size,fun k hk=>?_⟩
  obtain⟨A',c,h1,h2⟩:=hc k hk
  exact⟨A',c,hb.cell hl h1,h2.mono hb⟩⟩
def Vj:List Int->List (Int×Int)
 | a::b::t=>(a,b)::Vj t
 | _=>[]
def JY(r:List Int):Nd:=⟨r.getD 0 0,Vj (r.drop 1)⟩
theorem pairs_end{r:List Int}{i:Nat}(h:r.length<=i+1):Vj (r.drop i)= []:=by
 have hl:(r.drop i).length<=1:=by simp;omega
 match e:r.drop i with
 | []=>rfl
 | [a]=>rfl
 | a::b::t=>rw[e]at hl;simp at hl
theorem pairs_step{r:List Int}{i:Nat}(h:i+1<r.length):Vj (r.drop i)=(r[i],r[i+1])::Vj (r.drop (i+2)):=by
 rw[List.drop_eq_getElem_cons (show i<r.length by omega),List.drop_eq_getElem_cons h];rfl
def lnC(ls:List (Int×Int)):List Value:=ls.flatMap (fun x=>[.int .i64 x.1,.int .i64 x.2])
theorem lnC_snoc(ls:List (Int×Int))(a b:Int):lnC ls++[.int .i64 a,.int .i64 b]=lnC (ls++[(a,b)]):=by simp[lnC]
theorem Hy(ls:List (Int×Int)):(lnC ls).length=ls.length*2:=by
 induction ls with
 | nil=>rfl
 | cons a r ih=>rw[show lnC (a::r)= .int .i64 a.1:: .int .i64 a.2::lnC r from rfl];simp only[List.length_cons,ih];omega
theorem lnC_get:∀ {ls:List (Int×Int)} {k:Nat} (hk:k<ls.length),(lnC ls)[k*2]? =some (.int .i64 (ls[k]).1)/\(lnC ls)[k*2+1]? =some (.int .i64 (ls[k]).2)
 | a::r,0,_=>⟨rfl,rfl⟩
 | a::r,k+1,hk=>by
  have:=lnC_get (ls:=r) (k:=k) (by simpa using hk)
  rw[show (k+1)*2=k*2+1+1 by omega];exact this
theorem gof_links{B:Nat}{ls:List (Int×Int)}(ho:Own w B 84 2 A k cap (lnC ls)):LinksIn w A ls:=by
 have hlk:ls.length=k:=by have h1:=ho.len;rw[Hy]at h1;omega
 refine⟨by rw[hlk];exact ho.max,fun hn=>?_⟩;obtain⟨g,e,hb,hg,hc⟩:=ho.cell (by intro h0;have:=Hy ls;rw[h0]at this;cases ls with|nil=>exact hn rfl|cons a r=>simp only[List.length_nil,List.length_cons]at this;omega);refine⟨g,0,e,hg,fun j hj=>?_⟩;obtain⟨h1,h2⟩:=lnC_get hj;intro i v hi
 match i,hi with
 | 0,hi=>cases hi;have:=hc _ _ h1;simpa using this
 | 1,hi=>cases hi;have:=hc _ _ h2;simpa using this
 | _+2,hi=>cases hi
theorem Own.fz{B e:Nat}{ts:List Nat}(ho:Own w B e sz A k cap xs)(ht:∀ cs,¬Sp ts e cs):Fz [] w.heap.size ts w (fun w=>Own w B e sz A k cap xs):=⟨ai _,fun w2 h2=>by
 refine⟨ho.1,?_⟩
 rcases ho.2 with hn|⟨g,c,cur,hv,hb,hg,r⟩
 ·exact .inl hn
 ·refine .inr ⟨g,c,cur,hv,hb,?_,r⟩
  exact(Fz.blk (X:=[]) (ts:=ts) (show Blk w g e cur from hg) (by simp) (ht _)).all w2 h2⟩
theorem V5(h:Own w base e sz A k cap xs):∀ g∈aL A,∃ cs,Blk w g e cs:=fun g hg=>by
 rcases h.2 with ⟨hn,_⟩|⟨g',c,cur,hv,hb,hgg,r⟩
 ·cases hn;cases hg
 ·cases hv
  simp only[aL,List.mem_singleton]at hg
  subst hg;exact⟨cur,hgg⟩
theorem Px{ts:List Nat}(h:t∉ts)(h1:t≠31)(h2:t≠34)(cs:Array Value):¬Sp ts t cs:=by
 rintro (h3|⟨h3,_⟩|⟨h3,_⟩)
 ·exact h h3
 ·exact h1 h3
 ·exact h2 h3
def TS1:List Nat:=87::28::TS
inductive NdData(w:World):List Nd->List Value->Prop
 | nil:NdData w [] []
 | snoc {l:List Nd} {vs:List Value} {x:Nd} {A:Option Addr} {c:Nat} (h:NdData w l vs) (hl:LinksIn w A x.ln):NdData w (l++[x]) (vs++[.int .i64 x.ty,.slice A x.ln.length c])
theorem NdData.len(h:NdData w l vs):vs.length=l.length*2:=by
 induction h with
 | nil=>rfl
 | snoc h hl ih=>simp only[List.length_append,List.length_cons,List.length_nil,ih];omega
theorem NdData.get(h:NdData w l vs):∀ k (hk:k<l.length),∃ A c,vs[k*2]? =some (.int .i64 (l[k]).ty)/\vs[k*2+1]? =some (.slice A (l[k]).ln.length c)/\LinksIn w A (l[k]).ln:=by
 induction h with
 | nil=>intro k hk;simp at hk
 | @snoc l cs t A c h hp ih=>
  intro k hk;have hlen:=h.len;by_cases e:k<l.length
  ·grind
  ·simp only[List.length_append,List.length_cons,List.length_nil]at hk
   have ek:k=l.length:=by omega
   subst ek;have eg:(l++[t])[l.length]'(by simp)=t:=by simp
   rw[eg];refine⟨A,c,?_,?_,hp⟩
   ·grind
   ·grind
theorem gof_nodes{B:Nat}{cs:List Value}(ho:Own w B 87 2 A k cap cs)(ht:NdData w l cs):NodesIn w A l:=by
 have hlk:l.length=k:=by have h1:=ho.len;have h2:=ht.len;omega
 refine⟨by rw[hlk];exact ho.max,fun hn=>?_⟩
 obtain⟨g,e,hb,hg,hc⟩:=ho.cell (by
  intro h0;have:=ht.len;rw[h0]at this;cases l with
  | nil=>exact hn rfl
  | cons a r=>simp only[List.length_nil,List.length_cons]at this;omega)
 refine⟨g,0,e,hg,fun j hj=>?_⟩;obtain⟨A',c,h1,h2,h3⟩:=ht.get j hj;refine⟨A',c,?_,h3⟩;intro i v hi
 match i,hi with
 | 0,hi=>cases hi;have:=hc _ _ h1;simpa using this
 | 1,hi=>cases hi;have:=hc _ _ h2;simpa using this
 | _+2,hi=>cases hi
theorem gof_end{B:Nat}{cs:List Value}(ho:Own w B 87 2 A k cap cs)(ht:Fz [] n TS1 w (fun w=>NdData w l cs)):Fz [] w.heap.size TS w (fun w=>NodesIn w A l):=
 ((ho.fz (ts:=TS) (Px dE dE dE)).and ((ht.up).sub dE)).imp (fun _ h=>gof_nodes h.1 h.2)
theorem gof_more{B:Nat}{j:Nat}{ls:List (Int×Int)}{z:Int}(ho:Own w B 84 2 A j cap (lnC ls))(ht:Fz [] n TS1 w (fun w=>NdData w l vs)):Fz [] w.heap.size TS1 w (fun w=>NdData w (l++[⟨z,ls⟩]) (vs++[.int .i64 z,.slice A j cap])):=by
 have hlk:ls.length=j:=by have h1:=ho.len;rw[Hy]at h1;omega
 subst hlk;exact((ho.fz (ts:=TS1) (Px dE dE dE)).and ht).imp (fun _ h=> .snoc h.2 (gof_links h.1))
abbrev cE:Array Value:=#[.string ⟨#[]⟩,.slice none 0 0,.int .i64 0,.int .i64 0,.string ⟨#[]⟩,.int .i64 0,.string ⟨#[]⟩,.slice none 0 0,.slice none 0 0]
inductive LxData(w:World):List Lx->List Value->Prop
 | nil:LxData w [] []
 | snoc {l:List Lx} {vs:List Value} {x:Lx} {G S B:Option Addr} {gn cg cs cb:Nat} (h:LxData w l vs) (hw:x.word.size<9223372036854775807) (hn:gn=x.gr.length) (hG:NodesIn w G x.gr) (hS:SimsIn w S x.mean.type.args) (hT:TmsIn w B x.mean.args):LxData w (l++[x]) (vs++[.string x.word,.slice G gn cg,.int .i64 x.wt,.int .i64 x.mean.kind,.string x.mean.name,.int .i64 x.mean.index,.string x.mean.type.base,.slice S x.mean.type.args.length cs,.slice B x.mean.args.length cb])
def lxC(x:Lx)(G S B:Option Addr)(cg cs cb:Nat):List Value:=[.string x.word,.slice G x.gr.length cg,.int .i64 x.wt,.int .i64 x.mean.kind,.string x.mean.name,.int .i64 x.mean.index,.string x.mean.type.base,.slice S x.mean.type.args.length cs,.slice B x.mean.args.length cb]
theorem LxData.len{l:List Lx}(h:LxData w l vs):vs.length=l.length*9:=by
 induction h with
 | nil=>rfl
 | snoc h _ _ _ _ _ ih=>simp only[List.length_append,List.length_cons,List.length_nil,ih];omega
theorem LxData.get{l:List Lx}(h:LxData w l vs):∀ k (hk:k<l.length),(l[k]).word.size<9223372036854775807/\∃ G cg S cs B cb,(∀ j v,(lxC (l[k]) G S B cg cs cb)[j]? =some v->vs[k*9+j]? =some v)/\NodesIn w G (l[k]).gr/\SimsIn w S (l[k]).mean.type.args/\TmsIn w B (l[k]).mean.args:=by
 induction h with
 | nil=>intro k hk;simp at hk
 | @snoc l vs x G S B gn cg cs cb h hw hn hG hS hT ih=>
  intro k hk;have a1:=h.len;by_cases e:k<l.length
  ·rw[List.getElem_append_left e]
   obtain⟨h0,G',cg',S',cs',B',cb',h1,h2⟩:=ih k e;refine⟨h0,G',cg',S',cs',B',cb',fun j v hj=>?_,h2⟩;have hj9:j<9:=(aC.1 hj).1;rw[List.getElem?_append_left oG];exact h1 j v hj
  ·simp only[List.length_append,List.length_cons,List.length_nil]at hk
   have ek:k=l.length:=by omega
   subst ek;have eg:(l++[x])[l.length]'(by simp)=x:=by simp
   rw[eg];subst hn;refine⟨hw,G,cg,S,cs,B,cb,fun j v hj=>?_,hG,hS,hT⟩;rw[List.getElem?_append_right oG,a1,Nat.add_sub_cancel_left];exact hj
theorem gof_lexes{B:Nat}{cs:List Value}{l:List Lx}(ho:Own w B 38 9 A k cap cs)(ht:LxData w l cs):LexesIn w A l:=by
 have hlk:l.length=k:=by have h1:=ho.len;have h2:=ht.len;omega
 refine⟨by rw[hlk];exact ho.max,fun hn=>?_⟩
 obtain⟨g,e,hb,hg,hc⟩:=ho.cell (by
  intro h0;have:=ht.len;rw[h0]at this;cases l with
  | nil=>exact hn rfl
  | cons a r=>simp only[List.length_nil,List.length_cons]at this;omega)
 refine⟨g,0,e,hg,fun j hj=>?_⟩;obtain⟨h0,G,cg,S,cs',B',cb,h1,h2⟩:=ht.get j hj;refine⟨h0,G,cg,S,cs',B',cb,fun i v hi=>?_,h2⟩;have:=hc _ _ (h1 i v hi)
 simpa using this
section
structure Hv(lo:Nat)(X:List Nat)(n:Nat)(w:World)(P:World->Prop):Prop where
 le:n<=w.heap.size
 all:∀ w2,w.heap.size<=w2.heap.size->(∀ k,lo<=k->k<n->k∉X->w2.heap[k]? =w.heap[k]?)->P w2
section hv
variable {lo lo2 n m:Nat} {X Y Z:List Nat} {w w1 w2:World} {P Q:World->Prop}
theorem Hv.now(h:Hv lo X n w P):P w:=h.all w (ai _) (fun _ _ _ _=>rfl)
theorem Hv.tr(h:Hv lo X n w P)(hs:Same Z w w1)(hz:∀ g∈Z,g<lo\/g∈X\/n<=g):Hv lo X n w1 P:=
 ⟨nLT h.le hs.size,fun w2 h2 hk=>h.all w2 (nLT hs.size h2) (fun k h3 h4 h5=>(hk k h3 h4 h5).trans (hs.blk k (nLL h4 h.le) (fun hm=>by
  rcases hz k hm with e|e|e
  ·omega
  ·exact h5 e
  ·omega)))⟩
theorem Hv.tr0(h:Hv lo X n w P)(hs:Same [] w w1):Hv lo X n w1 P:=h.tr hs (by simp)
theorem Hv.bel(h:Hv lo X n w P)(hb:Bel w w1):Hv lo X n w1 P:=h.tr0 (sB hb)
theorem Hv.in1(h:Hv lo X n w P)(hs:Same [b] w w1)(hb:b∈X):Hv lo X n w1 P:=h.tr hs (fun g hg=> .inr (.inl (by rw[List.mem_singleton.1 hg];exact hb)))
theorem Hv.lo1(h:Hv lo X n w P)(hs:Same [b] w w1)(hb:b<lo):Hv lo X n w1 P:=h.tr hs (fun g hg=> .inl (by rw[List.mem_singleton.1 hg];exact hb))
theorem Hv.mono(h:Hv lo X n w P)(hl:lo2<=lo)(hn:n<=m)(hm:m<=w.heap.size):Hv lo2 X m w P:=⟨hm,fun w2 h2 hk=>h.all w2 h2 (fun k h3 h4 h5=>hk k oG oG h5)⟩
theorem Hv.up(h:Hv lo X n w P):Hv lo X w.heap.size w P:=h.mono (ai _) h.le (ai _)
theorem Hv.hole(h:Hv lo X n w P)(hy:∀ y∈Y,y∈X\/y<lo\/n<=y):Hv lo Y n w P:=⟨h.le,fun w2 h2 hk=>h.all w2 h2 (fun k h3 h4 h5=>hk k h3 h4 (fun hm=>by
 rcases hy k hm with e|e|e
 ·exact h5 e
 ·omega
 ·omega))⟩
theorem Hv.nil(h:Hv lo X n w P):Hv lo [] n w P:=h.hole (by simp)
theorem Hv.imp(h:Hv lo X n w P)(hi:∀ w,P w->Q w):Hv lo X n w Q:=⟨h.le,fun w2 h2 hk=>hi w2 (h.all w2 h2 hk)⟩
theorem Hv.and(h:Hv lo X n w P)(g:Hv lo X m w Q):Hv lo X w.heap.size w (fun w=>P w/\Q w):=⟨ai _,fun w2 h2 hk=>⟨h.up.all w2 h2 hk,g.up.all w2 h2 hk⟩⟩
theorem Hv.triv(lo:Nat)(X:List Nat)(w:World)(h:∀ w,P w):Hv lo X w.heap.size w P:=⟨ai _,fun w2 _ _=>h w2⟩
theorem Hv.blk(h:Blk w b t cs)(hl:lo<=b)(hx:b∉X):Hv lo X w.heap.size w (fun w=>Blk w b t cs):=⟨ai _,fun _ _ hk=>(hk b hl h.lt hx).trans h⟩
theorem Hv.fr(h:∀ w2,FrSame lo w w2->P w2):Hv lo [] w.heap.size w P:=⟨ai _,fun w2 h2 hk=>h w2 ⟨h2,fun k h3 h4=>hk k h3 h4 (by simp)⟩⟩
theorem Hv.toFr(h:Hv lo [] n w P):∀ w2,FrSame lo w w2->P w2:=fun w2 h2=>h.all w2 h2.size (fun k h3 h4 _=>h2.blk k h3 (nLL h4 h.le))
end hv
inductive RowD{α:Type}(C:World->α->List Value->Prop)(sz:Nat)(w:World):List α->List Value->Prop
 | nil:RowD C sz w [] []
 | snoc {l:List α} {vs v:List Value} {x:α} (h:RowD C sz w l vs) (hv:v.length=sz) (hx:C w x v):RowD C sz w (l++[x]) (vs++v)
theorem RowD.len{α:Type}{C:World->α->List Value->Prop}{l:List α}(h:RowD C sz w l vs):vs.length=l.length*sz:=by
 induction h with
 | nil=>simp
 | snoc h hv _ ih=>simp only[List.length_append,List.length_cons,List.length_nil,ih,hv,Nat.add_mul,Nat.zero_add,Nat.one_mul]
theorem RowD.get{α:Type}{C:World->α->List Value->Prop}{l:List α}(h:RowD C sz w l vs):∀ k (hk:k<l.length),∃ v,v.length=sz/\C w l[k] v/\∀ j u,v[j]? =some u->vs[k*sz+j]? =some u:=by
 induction h with
 | nil=>intro k hk;simp at hk
 | @snoc l vs v x h hv hx ih=>
  intro k hk;have hlen:=h.len
  grind
theorem own_at2(ho:Own w base e sz A k cap vs)(hne:vs≠[]):∃(g:Nat) (cs:Array Value),A=some ⟨g,0,none⟩/\base<=g/\Blk w g e cs/\∀(j:Nat) (u:Value),vs[j]? =some u->cs[j]? =some u:=by
 rcases ho.2 with ⟨_,hn⟩|⟨g,c,cur,hv,hb,hg,hk,hm,hs,ht⟩
 ·have h1:=ho.1
  rw[hn,Nat.zero_mul]at h1
  grind
 ·cases hv
  refine⟨g,cur,rfl,hb,hg,fun j u hj=>?_⟩;rw[<- ht]at hj;have hjl:j<k*sz:=by
   have:=(aC.1 hj).1;rw[List.length_take]at this;omega
  rw[List.getElem?_take_of_lt hjl]at hj
  simpa using hj
theorem own_rowY{α:Type}{C:World->α->List Value->Prop}{R:World->Option Addr->List α->Prop}{l:List α}{Y:List Nat}
  (hR:∀(w:World) (A:Option Addr),R w A [])
  (hC:∀(w:World) (g:Nat) (cs:Array Value),Blk w g e cs->l.length<=vX->(∀ k (hk:k<l.length),∃ v,C w l[k] v/\w.rangeAt g (0+k*sz) v)->R w (some ⟨g,0,none⟩) l)
  (hz:0<sz) (ho:Own w base e sz A k cap vs) (hb:lo<=base) (hd:Hv lo X n w (fun w=>RowD C sz w l vs)) (hY:∀ y∈Y,y∈X) (hA:∀ y∈Y,y∉aL A):Hv lo Y w.heap.size w (fun w=>R w A l):=by
 have hlen:=hd.now.len;cases hl:l with
 | nil=>exact Hv.triv _ _ _ (fun w=>hR w A)
 | cons a r=>
  rw[<- hl];have hne:vs≠[]:=fun h0=>by
   grind[hl,List.length_nil,List.length_cons,Nat.add_mul]
  obtain⟨g,cs,rfl,hg,a1,hcs⟩:=own_at2 ho hne;have hmx:=ho.max;have hk:l.length=k:=by
   have h1:=ho.len
   grind[h1,Nat.eq_of_mul_eq_mul_right]
  refine((Hv.blk a1 (nLT hb hg) (fun h=>hA g h (ar.2 rfl))).and (hd.hole (fun y hy=> .inl (hY y hy))).up).imp (fun w2 h=>?_);refine hC w2 g cs h.1 (by rw[hk];exact hmx) (fun i hi=>?_);obtain⟨v,hv,h1,h2⟩:=h.2.get i hi;refine⟨v,h1,h.1.range (fun j u hj=>?_)⟩
  grind
theorem own_row{α:Type}{C:World->α->List Value->Prop}{R:World->Option Addr->List α->Prop}{l:List α}
  (hR:∀(w:World) (A:Option Addr),R w A [])
  (hC:∀(w:World) (g:Nat) (cs:Array Value),Blk w g e cs->l.length<=vX->(∀ k (hk:k<l.length),∃ v,C w l[k] v/\w.rangeAt g (0+k*sz) v)->R w (some ⟨g,0,none⟩) l)
  (hz:0<sz) (ho:Own w base e sz A k cap vs) (hb:lo<=base) (hd:Hv lo X n w (fun w=>RowD C sz w l vs)):Hv lo [] w.heap.size w (fun w=>R w A l):=
 own_rowY hR hC hz ho hb hd (by simp) (by simp)
def smC(w:World)(s:Sm)(v:List Value):Prop:=∃ A c,v= [.string s.base,.slice A s.args.length c]/\SimsIn w A s.args
def tmD(w:World)(t:Tm)(v:List Value):Prop:=∃ S B cs cb,v=tmC t S B cs cb/\SimsIn w S t.type.args/\TmsIn w B t.args
theorem sim_at{c:Nat}(hb:b<w.heap.size)(h:w.rangeAt b o [.string s.base,.slice A s.args.length c])(h1:SimsIn w A s.args):SimAt w b o s:=by
 cases s with
 | mk nm a=>exact .mk hb h h1
theorem own_sims{l:List Sm}(ho:Own w base 31 2 A k cap vs)(hb:lo<=base)(hd:Hv lo X n w (fun w=>RowD smC 2 w l vs)):Hv lo [] w.heap.size w (fun w=>SimsIn w A l):=
 own_row (fun _ _=> .nil) (fun w g cs a1 hl hk=> .more hl a1.lt (fun k hkl=>by
  obtain⟨v,⟨A,c,rfl,hs⟩,hr⟩:=hk k hkl
  exact sim_at a1.lt hr hs)) dE ho hb hd
theorem own_tms{l:List Tm}(ho:Own w base 34 6 A k cap vs)(hb:lo<=base)(hd:Hv lo X n w (fun w=>RowD tmD 6 w l vs)):Hv lo [] w.heap.size w (fun w=>TmsIn w A l):=
 own_row (fun _ _=> .nil) (fun w g cs a1 hl hk=> .more hl a1.lt (fun k hkl=>by
  obtain⟨v,⟨S,B,cs',cb,rfl,hs,ht⟩,hr⟩:=hk k hkl
  exact tm_at a1.lt hr hs ht)) dE ho hb hd
inductive SmK:Sm->Prop
 | mk {b:ByteArray} {l:List Sm} (hl:l.length<=1000) (hk:∀ x∈l,SmK x):SmK (.mk b l)
inductive TmK:Tm->Prop
 | mk {k i:Int} {nm:ByteArray} {s:Sm} {l:List Tm} (hs:SmK s) (hl:l.length<=1000) (hk:∀ x∈l,TmK x):TmK (.mk k nm i s l)
theorem Ts.smK:∀ τ:Ts,SmK τ.sm
 | .b _=> .mk (ah _) (fun x h=>by cases h)
 | .f x y=> .mk (by show 2<=1000;decide) (fun z h=>by
  rcases av.1 h with h|h
  ·rw[h];exact x.smK
  ·rw[List.mem_singleton.1 h];exact y.smK)
theorem smZ_K:SmK smZ:= .mk (ah _) (fun x h=>by cases h)
theorem Tv.tmK:∀ v:Tv,TmK v.tm
 | .con _ τ=> .mk τ.smK (ah _) (fun x h=>by cases h)
 | .var _=> .mk smZ_K (ah _) (fun x h=>by cases h)
 | .abs τ x=> .mk τ.smK (by show 1<=1000;decide) (fun z h=>by rw[List.mem_singleton.1 h];exact x.tmK)
 | .app x y=> .mk smZ_K (by show 2<=1000;decide) (fun z h=>by
  rcases av.1 h with h|h
  ·rw[h];exact x.tmK
  ·rw[List.mem_singleton.1 h];exact y.tmK)
theorem SmK.le(h:SmK s):s.args.length<=1000:=by
 cases h with
 | mk hl _=>exact hl
theorem TmK.le{s:Tm}(h:TmK s):s.args.length<=1000:=by
 cases h with
 | mk _ hl _=>exact hl
theorem TmK.ty{s:Tm}(h:TmK s):SmK s.type:=by
 cases h with
 | mk hs _ _=>exact hs
theorem RowD.app{α:Type}{C:World->α->List Value->Prop}{sz lo l2 n m:Nat}{X Y:List Nat}{w:World}{l:List α}{vs v:List Value}{j:Nat}{x:α}(hj:j<l.length)(hx:l[j]=x)(h:Hv lo X n w (fun w=>RowD C sz w (l.take j) vs))(hv:v.length=sz)(hC:Hv l2 [] m w (fun w=>C w x v))(hl:lo<=l2)(hY:∀ y∈Y,y∈X\/n<=y)(hY2:∀ y∈Y,y<l2\/m<=y):Hv lo Y w.heap.size w (fun w=>RowD C sz w (l.take (j+1)) (vs++v)):=
 ((h.hole (fun y hy=>(hY y hy).imp id .inr)).and ((hC.hole (fun y hy=> .inr (hY2 y hy))).mono hl (ai _) hC.le)).imp (fun w2 h2=>by
  rw[List.take_succ_eq_append_getElem hj,hx]
  exact .snoc h2.1 hv h2.2)
theorem RowD.take{α:Type}{C:World->α->List Value->Prop}{sz:Nat}{w:World}{l:List α}(f:α->List Value)(hf:∀ x,(f x).length=sz)(hC:∀ x∈l,C w x (f x)):∀ k,k<=l.length->RowD C sz w (l.take k) ((l.take k).flatMap f)
 | 0,_=> .nil
 | k+1,h=>by
  rw[List.take_succ_eq_append_getElem oG,List.flatMap_append]
  have:=(RowD.take f hf hC k oG).snoc (hf (l[k])) (hC _ (aq oG))
  simpa using this
theorem RowD.all{α:Type}{C:World->α->List Value->Prop}{l:List α}(f:α->List Value)(hf:∀ x,(f x).length=sz)(hC:∀ x∈l,C w x (f x)):RowD C sz w l (l.flatMap f):=by
 have:=RowD.take f hf hC l.length (ai _)
 grind
theorem cell_keep(h:w2.heap[b]? =w.heap[b]?):w2.cell? ⟨b,o,none⟩=w.cell? ⟨b,o,none⟩:=by simp[World.cell?,h]
theorem BJ(h:w2.heap[b]? =w.heap[b]?)(hr:w.rangeAt b o xs):w2.rangeAt b o xs:=fun j v hj=>(cell_keep h).trans (hr j v hj)
def Kw(w w2:World):Prop:=w.heap.size<=w2.heap.size/\∀ k,k<w.heap.size->w2.heap[k]? =w.heap[k]?
theorem Kw.of(h:Bel w w2):Kw w w2:=⟨h.size,h.block⟩
theorem SimsIn.keep{l:List Sm}(hw:Kw w w2)(h:SimsIn w A l):SimsIn w2 A l:=
 SimsIn.rec (motive_1:=fun b o s _=>SimAt w2 b o s) (motive_2:=fun A l _=>SimsIn w2 A l)
  (fun hb h _ ih=> .mk (nLL hb hw.1) (BJ (hw.2 _ hb) h) ih) .nil (fun hl hb _ ih=> .more hl (nLL hb hw.1) ih) h
theorem TmsIn.keep{w w2:World}{A:Option Addr}{l:List Tm}(hw:Kw w w2)(h:TmsIn w A l):TmsIn w2 A l:=
 TmsIn.rec (motive_1:=fun b o s _=>TmAt w2 b o s) (motive_2:=fun A l _=>TmsIn w2 A l)
  (fun hb h hs _ ih=> .mk (nLL hb hw.1) (BJ (hw.2 _ hb) h) (hs.keep hw) ih) .nil (fun hl hb _ ih=> .more hl (nLL hb hw.1) ih) h
theorem Hv.old{w1:World}{P:World->Prop}(hP:∀ w2,Kw w w2->P w2)(hB:Bel w w1)(hX:∀ y∈X,w.heap.size<=y):Hv 0 X w.heap.size w1 P:=
 ⟨hB.size,fun w2 h2 hk=>hP w2 ⟨nLT hB.size h2,fun k hkw=>(hk k (ah _) hkw (fun hm=>by have:=hX k hm;omega)).trans (hB.block k hkw)⟩⟩
end
theorem in31_ECl:(prog.info? 31).map (fun i=>(i.zero,i.size,i.bytes))=some (some (.agg #[.string ⟨#[]⟩,.slice none 0 0]),2,40):=by kernel_rfl
theorem Gq:(prog.info? 29).map (·.size)=some 1:=by kernel_rfl
theorem VJ:(prog.info? 31).map (·.size)=some 2:=by kernel_rfl
theorem Nv:(prog.info? 31).map (·.zero)=some (some (.agg #[.string ⟨#[]⟩,.slice none 0 0])):=by kernel_rfl
set_option maxRecDepth 100000 in
set_option maxHeartbeats 2000000 in
theorem sclone_step{c:Nat}(hK:s.args.length<=1000)(hS:SimsIn w A s.args)(IH:∀ x∈s.args,∀(A:Option Addr) (c:Nat) (w:World),SimsIn w A x.args->Calls prog 109 #[.agg (cK (x) A c)] w fun e w'=>(∃ A' c',e= .returned (.agg (cK (x) A' c'))/\Hv w.heap.size [] w'.heap.size w' (fun w=>SimsIn w A' (x).args))/\Bel w w'):Calls prog 109 #[.agg (cK (s) A c)] w fun e w'=>(∃ A' c',e= .returned (.agg (cK (s) A' c'))/\Hv w.heap.size [] w'.heap.size w' (fun w=>SimsIn w A' (s).args))/\Bel w w':=by
 refine enT func109 ntmps109 rfl rfl fun hB=>?_;refine zn2 ?_;refine qv (cs:=#[_,_]) rfl (fun b1 w1 an s1 hr=>?_);refine qQ (cs:=#[.string ⟨#[]⟩,.slice none 0 0]) Nv rfl (fun b2 w2 a5 s2 hr=>?_);have lo2:=hB.u.ob hr;refine zn6 ?_;refine wl (Z1 (v0:= .string _) (fun v0=>#[v0,.slice none 0 0]) rfl kR) ?_;refine y8 (cs:=#[.string ⟨#[]⟩,.slice none 0 0]) Nv rfl (fun _=>rfl) (fun _=>rfl) VJ rfl xW (fun b3 w4 a3 s3 hr=>?_);have:=an.u.ob hr;have:=a5.ob hr;have lo3:=hB.u.ob hr;refine yZ ?_;refine qz (rg [5] 12 12) (fun m g w'=>∃(j:Nat) (A3:Option Addr) (c3 n3:Nat) (vs:List Value),j<=s.args.length/\m=s.args.length-j/\g 12= .int .i64 j/\Bel w w'/\Blk w' b1 31 #[.string s.base,.slice A s.args.length c]/\Blk w' b2 31 #[.string ⟨#[]⟩,.slice none 0 0]/\Blk w' b3 31 #[.string s.base,.slice A3 j c3]/\Own w' (b3+1) 31 2 A3 j c3 vs/\Hv w.heap.size (b2::b3::aL A3) n3 w' (fun w=>RowD smC 2 w (s.args.take j) vs)) (s.args.length) ?_ (fun m g3 w5 hI=>?_)
 ·exact⟨0,none,0,_,[],ah _,rfl,rfl,hB.u,an.u,a5.u,a3,Own.nil _ _ _ _,Hv.triv _ _ _ (fun w=> .nil)⟩
 obtain⟨j,A3,c3,n3,vs,hj,hmj,h12,hB,an,a5,a3,a2,hH⟩:=hI;refine zQ 12 _ h12 nu (zn6 ?_);refine zZ rfl (fun c13=>?_) (fun c13=>?_)
 ·have bi:j<s.args.length:=by omega
  obtain⟨sb,so,Ax,cx,rfl,hsb,hrx,hsx⟩:=hS.at_ bi;have hnH:=hH.le;refine zn8 ?_;refine qQ (cs:=#[.string ⟨#[]⟩,.slice none 0 0]) Nv rfl (fun b5 w6 bf s4 hr=>?_);have:=an.ob hr;have:=a5.ob hr;have:=a3.ob hr;have a1:=a2.ob hr;have ab:=(nLT hH.le hr)
  have lo5:=hB.ob hr;refine zV bf (fun w7 hq s5=>?_);replace a2:=a2.tr0 s4;replace a2:=a2.tr1 s5 (fun g hg=>by have:=a1 g hg;omega);replace hH:=hH.tr0 s4;replace hH:=hH.tr s5 (fun g hg=> .inr (.inr (by rw[List.mem_singleton.1 hg];exact ab)));replace bf:=hq;refine qY (e_S ?_);have zo:=fun g hg=>(a2.lt g hg).2
  replace a3:=(a3.tr0 s4).tr1 s5 oG;have z3:=a3.lt;replace a5:=(a5.tr0 s4).tr1 s5 oG;have z2:=a5.lt;replace hB:=(hB.tr0 s4).tr1 s5 lo5;have hsz:=Bel.size hB;refine uX 5 [16,17,18,19,20] (fun ix=>Nat.beq ix 4) (fun ix v wv=>match ix with|0=>v= .pointer (some ⟨b3,1,none⟩)|1=>v= .slice A3 j c3|2=>v= .agg (cK (s.args[j]) Ax cx)|3=>∃ ad ao b8,v= .agg (cK (s.args[j]) ad ao)/\Hv w7.heap.size [] b8 wv (fun w=>SimsIn w ad (s.args[j]).args)|4=>∃ b ad ao b8,v= .slice (some ⟨b,0,none⟩) 1 1/\w7.heap.size<=b/\Blk wv b 31 (cK (s.args[j]) ad ao)/\Hv w7.heap.size [] b8 wv (fun w=>SimsIn w ad (s.args[j]).args)|_=>True) kR kR ?_ ?_ ?_
  ·intro ix v wv wv2 h s6
   match ix,h with
   | 0,h=>exact h
   | 1,h=>exact h
   | 2,h=>exact h
   | 3,h=>
    obtain⟨ad,ao,b8,bm,ac⟩:=h;exact⟨ad,ao,b8,bm,ac.tr0 s6⟩
   | 4,h=>
    obtain⟨bo,bq,bn,n20,bk,bd,a9,a4⟩:=h;exact⟨bo,bq,bn,n20,bk,bd,a9.tr0 s6,a4.tr0 s6⟩
   | _+5,h=>exact trivial
  ·intro ix o hix hoq gg wx s7 hd bj
   match ix,hix,hoq with
   | 0,_,hoq=>
    cases sI hoq;exact oVq (jX U31 Gq dE rfl rfl rfl) rfl
   | 1,_,hoq=>
    cases sI hoq;refine aZ 16 (hd 0 a6) ?_;exact oVq (qj (v:= .slice _ _ _) U29 rfl rfl (a3.u.cell rfl)) rfl
   | 2,_,hoq=>
    cases sI hoq;exact oVq (qw U31 rfl rfl bf.u.range0 VJ) rfl
   | 3,_,hoq=>
    cases sI hoq;have bh:=s7;refine aZ 18 (hd 2 a6) ?_;refine vw kR (IH _ (aq bi) Ax cx wx (hsx.mono hB.u)) rfl (fun e' w2 hr=>?_);obtain⟨⟨ad,ao,rfl,ac⟩,s8⟩:=hr;exact⟨_,rfl,sB s8,⟨ad,ao,_,rfl,ac.mono bh.size (ai _) (ai _)⟩,y6⟩
   | 4,_,hoq=>
    cases sI hoq;have bh:=s7;obtain⟨ad,ao,b8,bm,ac⟩:=hd 3 (zj kR);refine zq 19 _ bm nu ?_;refine jq (fun ops Q K=>?_);refine qZ (cs:=#[_,_]) [(0,.agg _)] rfl U29 VJ Nv dE dE kR rfl (fun bo w8 a9 s9 hr=>?_);exact K _ _ ⟨s9,⟨_,ad,ao,b8,rfl,nLT bh.size hr,a9,ac.tr0 s9⟩,fRq hr a9.lt⟩
   | _+5,hix,_=>exact absurd hix oG
  intro gg w9 bc hR bj;obtain⟨bo,bq,bn,n20,bk,bd,a9,a4⟩:=hR 4 dE;replace hH:=hH.tr0 bc;have hnH:=hH.le;have hnz:=a4.le;refine x8 17 _ (hR 1 dE) nu (x8 20 _ bk nu ?_);replace a2:=a2.tr0 bc;refine vV U29 in31_ECl rfl dE a2 a9 rfl rfl rfl xW dE oG oG a3.u.lt (fun bb cap21 w10 b9 ba hg=>?_);have b7:bb≠b1:=neA a2 an.u.lt hg
  have b6:bb≠b2:=neA a2 a5.u.lt hg
  have a8:bb≠b3:=neA a2 a3.u.lt hg
  have b4:bb≠b5:=neB bf.u.lt hg (fun g hg=>by have:=a1 g hg;omega)
  replace hB:=hB.u.tr ba (fun g hg=>nLT (aI lo3) (a2.lt g hg).1);replace an:=((an.tr0 s4).tr1 s5 oG).tr0 bc;replace an:=an.ta ba a2;replace a5:=a5.tr0 bc;replace a5:=a5.ta ba a2;replace a3:=a3.tr0 bc;replace a3:=a3.ta ba a2;replace hH:=hH.tr ba (fun g hg=> .inr (.inl (by simp[hg])));replace a4:=a4.tr ba (fun g hg=> .inl (zo g hg));refine zn1 ?_;refine xx (v:= .slice _ _ _) a3 rfl rfl Gq (by first|decide|simp) rfl rfl (fun w11 hq bg=>?_);replace hH:=hH.in1 bg (by simp);replace a4:=a4.lo1 bg z3;replace b9:=b9.tr1 bg (neS a8);replace a3:=hq
  have hH2:=RowD.app (Y:=b2::b3::aL (some (⟨bb,0,none⟩:Addr))) bi rfl hH rfl (a4.imp (fun _ h=>(⟨bq,bn,rfl,h⟩:smC _ _ _))) hsz (fun y hy=>by
    rcases av.1 hy with h|hy
    ·exact .inl (by simp[h])
    rcases av.1 hy with h|hy
    ·exact .inl (by simp[h])
    ·cases ar.1 hy
     rcases hg with hg|hg
     ·exact .inl (by simp[hg])
     ·exact .inr (nLT hnH hg)) (fun y hy=>by
    rcases av.1 hy with h|hy
    ·exact .inl (by rw[h];exact z2)
    rcases av.1 hy with h|hy
    ·exact .inl (by rw[h];exact z3)
    ·cases ar.1 hy
     rcases hg with hg|hg
     ·exact .inl (zo bb (by rw[hg];exact ar.2 rfl))
     ·exact .inr (nLT hnz hg))
  refine zn7 ?_;refine x9 (s.args.length-(j+1)) oG agA ?_;exact⟨j+1,_,_,_,_,by omega,rfl,rfl,hB.u,an.u,a5.u,a3,b9,hH2⟩
 have hje:j=s.args.length:=by omega
 refine zn8 ?_;refine zV a5 (fun w12 hq be=>?_);replace a2:=a2.tq be;replace hH:=hH.in1 be (by simp);replace a5:=hq;refine zn3 ?_;refine xK (.inl rfl) rfl (zX U31 rfl rfl a5.range0 VJ) ?_;replace a3:=a3.tr1 be oG;rw[hje]at a2 hH a3;rw[List.take_length]at hH;replace hB:=hB.tr1 be lo2;exact⟨⟨A3,c3,by rw[hje],own_sims a2 oG hH⟩,hB⟩
theorem sclone_any(h:SmK s):∀(A:Option Addr) (c:Nat) (w:World),SimsIn w A s.args->Calls prog 109 #[.agg (cK (s) A c)] w fun e w'=>(∃ A' c',e= .returned (.agg (cK (s) A' c'))/\Hv w.heap.size [] w'.heap.size w' (fun w=>SimsIn w A' (s).args))/\Bel w w':=by
 induction h with
 | mk hl _ ih=>exact fun A c w hS=>sclone_step hl hS (fun x hx A c w h=>ih x hx A c w h)
theorem in34:(prog.info? 34).map (fun i=>(i.zero,i.size,i.bytes))=some (some (.agg cG),6,96):=by kernel_rfl
theorem CW:(prog.info? 32).map (·.size)=some 1:=by kernel_rfl
theorem uw:(prog.info? 34).map (·.size)=some 6:=by kernel_rfl
theorem oK:(prog.info? 34).map (·.zero)=some (some (.agg cG)):=by kernel_rfl
set_option maxRecDepth 100000 in
set_option maxHeartbeats 4000000 in
theorem LY{t:Tm}{SA BA:Option Addr}{cs:Nat}(hK:t.args.length<=1000)(hKs:SmK t.type)(hS:SimsIn w SA t.type.args)(hT:TmsIn w BA t.args)(IH:∀ x∈t.args,∀(SA BA:Option Addr) (cs cb:Nat) (w:World),SimsIn w SA x.type.args->TmsIn w BA x.args->Calls prog 84 #[.agg (cD (x) SA cs BA cb)] w fun e w'=>(∃ S' cs' B' cb',e= .returned (.agg (cD (x) S' cs' B' cb'))/\Hv w.heap.size [] w'.heap.size w' (fun w=>SimsIn w S' (x).type.args/\TmsIn w B' (x).args))/\Bel w w'):Calls prog 84 #[.agg (cD (t) SA cs BA cb)] w fun e w'=>(∃ S' cs' B' cb',e= .returned (.agg (cD (t) S' cs' B' cb'))/\Hv w.heap.size [] w'.heap.size w' (fun w=>SimsIn w S' (t).type.args/\TmsIn w B' (t).args))/\Bel w w':=by
 refine enT func84 ntmps84 rfl rfl fun hB=>?_;refine zn2 ?_;refine qv (cs:=#[_,_,_,_,_,_]) rfl (fun b1 w1 an t1 hr=>?_);refine qQ (cs:=cG) oK rfl (fun b2 w2 a4 t2 hr=>?_);have lo2:=hB.u.ob hr;refine zn5 ?_;refine y8 (cs:=cG) oK rfl (fun _=>rfl) (fun _=>rfl) uw rfl xW (fun b3 w4 a1 t3 hr=>?_);have:=an.u.ob hr;have:=a4.ob hr;have lo3:=hB.u.ob hr;refine zn5 ?_;refine wl (qw U31 rfl rfl (an.u.sub (n:=2) (xs:=[_,_]) rfl) VJ) ?_;have z3:=a1.lt;replace a4:=a4.tr0 t3;have z2:=a4.lt;replace hB:=hB.tr0 (t1.t (t2.t t3));have bo:=Bel.size hB;refine zW kR (sclone_any hKs SA cs _ (hS.mono hB)) rfl (fun e' w5 hr=>?_);obtain⟨⟨S9,c9,rfl,hZ⟩,t4⟩:=hr;replace t4:=sB t4;replace hZ:=(hZ.hole (Y:=[b2,b3]) (fun y hy=> .inr (.inl (by simp only[List.mem_cons,List.not_mem_nil,or_false]at hy;omega)))).mono bo (ai _) hZ.le;obtain⟨n9,bi⟩:∃ z,z=w5.heap.size:=⟨_,rfl⟩
 rw[<- bi]at hZ;replace a1:=a1.tr0 t4;have l9:b3+1<=n9:=by rw[bi];exact a1.lt
 clear bi;refine⟨_,rfl,?_⟩;refine zn1 ?_;refine Jj a1 rfl rfl VJ (by first|decide|simp) xW rfl (fun w6 hq t5=>?_);replace hZ:=hZ.in1 t5 (by simp);replace a1:=hq;replace a1:Blk w6 b3 34 (cD t S9 c9 BA cb):=a1;refine zn5 ?_;refine xx (v:= .slice _ _ _) a1 rfl rfl CW (by first|decide|simp) rfl rfl (fun w7 hq t6=>?_);replace hZ:=hZ.in1 t6 (by simp);replace a1:=hq;replace a1:Blk w7 b3 34 #[.int .i64 t.kind,.string t.name,.int .i64 t.index,.string t.type.base,.slice S9 t.type.args.length c9,.slice none 0 0]:=a1;refine yZ ?_;refine qz (rg [5] 15 12) (fun m g w'=>∃(j:Nat) (A3:Option Addr) (c3 n3:Nat) (vs:List Value),j<=t.args.length/\m=t.args.length-j/\g 15= .int .i64 j/\Bel w w'/\Blk w' b1 34 (cD (t) SA cs BA cb)/\Blk w' b2 34 cG/\Blk w' b3 34 #[.int .i64 t.kind,.string t.name,.int .i64 t.index,.string t.type.base,.slice S9 t.type.args.length c9,.slice A3 j c3]/\n9<=w'.heap.size/\Own w' n9 34 6 A3 j c3 vs/\Hv w.heap.size [b2,b3] n9 w' (fun w=>SimsIn w S9 t.type.args)/\Hv w.heap.size (b2::b3::aL A3) n3 w' (fun w=>RowD tmD 6 w (t.args.take j) vs)) (t.args.length) ?_ (fun m g5 w8 hI=>?_)
 ·exact⟨0,none,0,_,[],ah _,rfl,rfl,hB.u,an.u,a4.u,a1,hZ.le,Own.nil _ _ _ _,hZ,Hv.triv _ _ _ (fun w=> .nil)⟩
 obtain⟨j,A3,c3,n3,vs,hj,hmj,h15,hB,an,a4,a1,hz9,a2,hZ,hH⟩:=hI;refine zQ 15 _ h15 nu (zn6 ?_);refine zZ rfl (fun c16=>?_) (fun c16=>?_)
 ·have br:j<t.args.length:=by omega
  obtain⟨sb,so,Sx,csx,Bx,cbx,rfl,hsb,hrx,hsx,htx⟩:=hT.at_ br;refine zn8 ?_;refine qQ (cs:=cG) oK rfl (fun b5 w9 bk t7 hr=>?_);have:=an.ob hr;have:=a4.ob hr;have:=a1.ob hr;have a3:=a2.ob hr;have ab:=(nLT hZ.le hr)
  have ac:=(nLT hH.le hr)
  have lo5:=hB.ob hr;refine zV bk (fun bm hq t8=>?_);replace a2:=a2.tr0 t7;replace a2:=a2.tr1 t8 (fun g hg=>by have:=a3 g hg;omega);replace hZ:=hZ.tr0 t7;replace hZ:=hZ.tr t8 (fun g hg=> .inr (.inr (by rw[List.mem_singleton.1 hg];exact ab)));replace hH:=hH.tr0 t7;replace hH:=hH.tr t8 (fun g hg=> .inr (.inr (by rw[List.mem_singleton.1 hg];exact ac)));replace bk:=hq;refine qY (e_S ?_);have zo:=fun g hg=>(a2.lt g hg).2
  replace a1:=(a1.tr0 t7).tr1 t8 oG;have z3:=a1.lt;replace a4:=(a4.tr0 t7).tr1 t8 oG;have z2:=a4.lt;replace hB:=(hB.tr0 t7).tr1 t8 lo5;have hsz:=Bel.size hB;refine uX 5 [19,20,21,22,23] (fun ix=>Nat.beq ix 4) (fun ix v wv=>match ix with|0=>v= .pointer (some ⟨b3,5,none⟩)|1=>v= .slice A3 j c3|2=>v= .agg (cD ((t.args[j])) Sx csx Bx cbx)|3=>∃ ao b6 b4 b7 bc,v= .agg (cD ((t.args[j])) ao b6 b4 b7)/\Hv bm.heap.size [] bc wv (fun w=>SimsIn w ao (t.args[j]).type.args/\TmsIn w b4 (t.args[j]).args)|4=>∃ b ao b6 b4 b7 bc,v= .slice (some ⟨b,0,none⟩) 1 1/\bm.heap.size<=b/\Blk wv b 34 (cD ((t.args[j])) ao b6 b4 b7)/\Hv bm.heap.size [] bc wv (fun w=>SimsIn w ao (t.args[j]).type.args/\TmsIn w b4 (t.args[j]).args)|_=>True) kR kR ?_ ?_ ?_
  ·intro ix v wv wv2 h t9
   match ix,h with
   | 0,h=>exact h
   | 1,h=>exact h
   | 2,h=>exact h
   | 3,h=>
    obtain⟨ao,b6,b4,b7,bc,bv,ad⟩:=h;exact⟨ao,b6,b4,b7,bc,bv,ad.tr0 t9⟩
   | 4,h=>
    obtain⟨bx,bz,bn,c0,bw,n23,bu,bh,a9,a5⟩:=h;exact⟨bx,bz,bn,c0,bw,n23,bu,bh,a9.tr0 t9,a5.tr0 t9⟩
   | _+5,h=>exact trivial
  ·intro ix o hix hoq gg wx t10 hd bt
   match ix,hix,hoq with
   | 0,_,hoq=>
    cases sI hoq;exact oVq (jX U34 CW dE rfl rfl rfl) rfl
   | 1,_,hoq=>
    cases sI hoq;refine aZ 19 (hd 0 a6) ?_;exact oVq (qj (v:= .slice _ _ _) U32 rfl rfl (a1.u.cell rfl)) rfl
   | 2,_,hoq=>
    cases sI hoq;exact oVq (qw U34 rfl rfl bk.u.range0 uw) rfl
   | 3,_,hoq=>
    cases sI hoq;have bq:=t10;refine aZ 21 (hd 2 a6) ?_;refine vw kR (IH _ (aq br) Sx Bx csx cbx wx (hsx.mono hB.u) (htx.mono hB.u)) rfl (fun e' w2 hr=>?_);obtain⟨⟨ao,b6,b4,b7,rfl,ad⟩,t11⟩:=hr;exact⟨_,rfl,sB t11,⟨ao,b6,b4,b7,_,rfl,ad.mono bq.size (ai _) (ai _)⟩,y6⟩
   | 4,_,hoq=>
    cases sI hoq;have bq:=t10;obtain⟨ao,b6,b4,b7,bc,bv,ad⟩:=hd 3 (zj kR);refine zq 22 _ bv nu ?_;refine jq (fun ops Q K=>?_);refine qZ (cs:=#[_,_,_,_,_,_]) [(0,.agg _)] rfl U32 uw oK dE dE kR rfl (fun bx w11 a9 t12 hr=>?_);exact K _ _ ⟨t12,⟨_,ao,b6,b4,b7,bc,rfl,nLT bq.size hr,a9,ad.tr0 t12⟩,fRq hr a9.lt⟩
   | _+5,hix,_=>exact absurd hix oG
  intro gg w12 be hR bt;obtain⟨bx,bz,bn,c0,bw,n23,bu,bh,a9,a5⟩:=hR 4 dE;replace hH:=hH.tr0 be;have hnH:=hH.le;have hnz:=a5.le;replace hZ:=hZ.tr0 be;have bi:=hZ.le;refine x8 20 _ (hR 1 dE) nu (x8 23 _ bu nu ?_);replace a2:=a2.tr0 be;refine vV U32 in34 rfl dE a2 a9 rfl rfl rfl xW dE oG oG bi (fun bf cap24 w13 bd b8 hg=>?_);have bb:bf≠b1:=neA a2 an.u.lt hg
  have ba:bf≠b2:=neA a2 a4.u.lt hg
  have a8:bf≠b3:=neA a2 a1.u.lt hg
  have b9:bf≠b5:=neB bk.u.lt hg (fun g hg=>by have:=a3 g hg;omega)
  replace hB:=hB.u.tr b8 (fun g hg=>nLT oG (a2.lt g hg).1);replace an:=((an.tr0 t7).tr1 t8 oG).tr0 be;replace an:=an.ta b8 a2;replace a4:=a4.tr0 be;replace a4:=a4.ta b8 a2;replace a1:=a1.tr0 be;replace a1:=a1.ta b8 a2;replace hZ:=hZ.tr b8 (fun g hg=> .inr (.inr (a2.lt g hg).1));replace hH:=hH.tr b8 (fun g hg=> .inr (.inl (by simp[hg])));replace a5:=a5.tr b8 (fun g hg=> .inl (zo g hg));refine zn1 ?_;refine xx (v:= .slice _ _ _) a1 rfl rfl CW (by first|decide|simp) rfl rfl (fun w14 hq bj=>?_);replace hZ:=hZ.in1 bj (by simp);replace hH:=hH.in1 bj (by simp);replace a5:=a5.lo1 bj z3;replace bd:=bd.tr1 bj (neS a8);replace a1:=hq
  have hH2:=RowD.app (Y:=b2::b3::aL (some (⟨bf,0,none⟩:Addr))) br rfl hH rfl (a5.imp (fun _ h=>(⟨bz,c0,bn,bw,rfl,h.1,h.2⟩:tmD _ _ _))) hsz (fun y hy=>by
    rcases av.1 hy with h|hy
    ·exact .inl (by simp[h])
    rcases av.1 hy with h|hy
    ·exact .inl (by simp[h])
    ·cases ar.1 hy
     rcases hg with hg|hg
     ·exact .inl (by simp[hg])
     ·exact .inr (nLT hnH hg)) (fun y hy=>by
    rcases av.1 hy with h|hy
    ·exact .inl (by rw[h];exact z2)
    rcases av.1 hy with h|hy
    ·exact .inl (by rw[h];exact z3)
    ·cases ar.1 hy
     rcases hg with hg|hg
     ·exact .inl (zo bf (by rw[hg];exact ar.2 rfl))
     ·exact .inr (nLT hnz hg))
  refine zn7 ?_;refine x9 (t.args.length-(j+1)) oG agA ?_;exact⟨j+1,_,_,_,_,by omega,rfl,rfl,hB.u,an.u,a4.u,a1,hZ.le,bd,hZ,hH2⟩
 have hje:j=t.args.length:=by omega
 refine zn8 ?_;refine zV a4 (fun w15 hq bg=>?_);replace a2:=a2.tq bg;replace hZ:=hZ.in1 bg (by simp);replace hH:=hH.in1 bg (by simp);replace a4:=hq;refine zn3 ?_;refine xK (.inl rfl) rfl (zX U34 rfl rfl a4.range0 uw) ?_;replace a1:=a1.tr1 bg oG;rw[hje]at a2 hH a1;rw[List.take_length]at hH;replace hB:=hB.tr1 bg lo2;exact⟨⟨S9,c9,A3,c3,by rw[hje],hZ.nil.and (own_tms a2 oG hH)⟩,hB⟩
theorem tclone_any{t:Tm}(h:TmK t):∀(SA BA:Option Addr) (cs cb:Nat) (w:World),SimsIn w SA t.type.args->TmsIn w BA t.args->Calls prog 84 #[.agg (cD (t) SA cs BA cb)] w fun e w'=>(∃ S' cs' B' cb',e= .returned (.agg (cD (t) S' cs' B' cb'))/\Hv w.heap.size [] w'.heap.size w' (fun w=>SimsIn w S' (t).type.args/\TmsIn w B' (t).args))/\Bel w w':=by
 induction h with
 | mk hs hl _ ih=>exact fun SA BA cs cb w hS hT=>LY hl hs hS hT (fun x hx SA BA cs cb w h1 h2=>ih x hx SA BA cs cb w h1 h2)
section
section rules
variable {P:Program} {n:Nw} {f:Fr} {w:World} {ty t t':TypeId} {pos:String} {af:Array Edge} {x y:Operand} {dst:Option Tmp} {gd:Option (Nat×Bool)}
theorem r_maxN{ats:Array TypeId}{a:Nat}(hx:ev n f x= .int .i64 (a:Int))(hy:ev n f y= .int .i64 (b:Int)):
  RV P n f w ⟨dst,.call { callee:= .builtin .max,args:=#[x,y],argTypes:=ats },ty,pos,af,gd⟩ (.int .i64 ((max a b:Nat):Int)) w:=by
 have e:(if a<b then (b:Int)else (a:Int))=((max a b:Nat):Int):=by
  by_cases h:a<b
  ·rw[if_pos h];omega
  ·rw[if_neg h];omega
 simp[RV,execOp,resolve,invoke,builtin,hx,hy,Builtin.max_,Builtin.max2,e]
end rules
end
set_option maxRecDepth 100000 in
set_option maxHeartbeats 2000000 in
theorem size_step{t:Tm}{SA BA:Option Addr}{cs:Nat}(hz:szT t<=1000000)(_hS:SimsIn w SA t.type.args)(hT:TmsIn w BA t.args)(IH:∀ x∈t.args,∀(SA BA:Option Addr) (cs cb:Nat) (w:World),szT x<=1000000->SimsIn w SA x.type.args->TmsIn w BA x.args->Calls Tryz.prog 108 #[.agg (cD (x) SA cs BA cb)] w fun e w'=>e= .returned (.tuple #[.int .i64 ((szT x:Nat):Int),.int .i64 ((dpT x:Nat):Int)])/\Bel w w'):Calls Tryz.prog 108 #[.agg (cD (t) SA cs BA cb)] w fun e w'=>e= .returned (.tuple #[.int .i64 ((szT t:Nat):Int),.int .i64 ((dpT t:Nat):Int)])/\Bel w w':=by
 have hsz:=W6 t;have hdz:=dpT_eq t;have hdl:=dp_le t;have hln:=G6 t.args;refine enT Tryz.func108 Tryz.ntmps108 rfl rfl fun hB=>?_;refine zn2 ?_;refine qv (cs:=#[_,_,_,_,_,_]) rfl (fun b1 w1 hb1 s1 hr=>?_);refine zn20 ?_;refine qz (rg [4,5,7,8,9] 13 16) (fun m g w'=>∃ j:Nat,j<=t.args.length/\m=t.args.length-j/\g 13= .int .i64 ((j:Nat):Int)/\g 4= .int .i64 ((X1 (t.args.take j)+1:Nat):Int)/\g 5= .int .i64 ((J8 (t.args.take j):Nat):Int)/\Bel w w') (t.args.length) ?_ (fun m g3 w2 hI=>?_)
 ·exact⟨0,ah _,rfl,rfl,rfl,rfl,hB.u⟩
 obtain⟨j,hj,hmj,h13,h4,h5,hB⟩:=hI;refine zQ 13 _ h13 nu (zQ 4 _ h4 nu (zQ 5 _ h5 nu (zn6 ?_)));refine zZ rfl (fun c14=>?_) (fun c14=>?_)
 ·have a1:j<t.args.length:=by omega
  obtain⟨sb,so,Sx,csx,Bx,cbx,rfl,hsb,hrx,hsx,htx⟩:=hT.at_ a1;have htk:=R9 t.args j a1;have hle:=W5 t.args (j+1);have hle0:=W5 t.args j;refine zn8 ?_;refine y8 (cs:=cG) oK rfl (fun _=>rfl) (fun _=>rfl) X7 rfl xW (fun b7 w4 hb7 s2 hr=>?_);refine zn5 ?_;refine a7 kR (IH _ (aq a1) Sx Bx csx cbx _ oG (hsx.mono hB.u) (htx.mono hB.u)) rfl (fun w5 s3=>?_);refine wmT rfl (wl (yW (v:= .int _ _) rfl rfl) (wl (yW (v:= .int _ _) rfl rfl) (zn7 ?_)));refine wl (uW (c:=((X1 (t.args.take (j+1))+1:Nat):Int)) rfl rfl oG oG) (zn2 ?_);refine wl (r_maxN (a:=(J8 (t.args.take j))) (b:=(dpT (t.args[j]))) rfl rfl) (zn9 ?_);refine x9 (t.args.length-(j+1)) oG agA ?_;exact⟨j+1,by omega,rfl,rfl,rfl,congrArg (fun n:Nat=>Value.int .i64 (n:Int)) htk.2.symm,hB.u⟩
 have hje:j=t.args.length:=by omega
 refine zn7 ?_;refine wl (x6 (v:= .int .i64 ((szT t:Nat):Int)) (congrArg (fun n:Nat=>Value.int .i64 (n:Int)) (by rw[hje,List.take_length,hsz]))) (wl (x6 (v:= .int .i64 ((J8 t.args:Nat):Int)) (congrArg (fun n:Nat=>Value.int .i64 (n:Int)) (by rw[hje,List.take_length]))) (wl (uW (c:=((dpT t:Nat):Int)) rfl rfl oG oG) (zn5 ?_)));refine uK (.inl rfl) rfl rfl rfl ?_;exact⟨rfl,hB⟩
theorem size_any{t:Tm}(h:TmK t):∀(SA BA:Option Addr) (cs cb:Nat) (w:World),szT t<=1000000->SimsIn w SA t.type.args->TmsIn w BA t.args->Calls Tryz.prog 108 #[.agg (cD (t) SA cs BA cb)] w fun e w'=>e= .returned (.tuple #[.int .i64 ((szT t:Nat):Int),.int .i64 ((dpT t:Nat):Int)])/\Bel w w':=by
 induction h with
 | mk hs hl _ ih=>exact fun SA BA cs cb w hz hS hT=>size_step hz hS hT (fun x hx SA BA cs cb w h0 h1 h2=>ih x hx SA BA cs cb w h0 h1 h2)
theorem tmF_K{t:Tm}(h:(tmF t).1=0):TmK t:=by
 have h0:(twk t 1 0 0).2.1=0:=aK (fun hc=>by rw[NV hc]at h;exact hc h);obtain⟨v,rfl,_⟩:=OV t 1 0 0 h0;exact v.tmK
structure GpS(l:List Ty)(fs:List Ft)(rs:List Rl)(xs:List Lx)(st:List Nd):Prop where
 hier:(qW l fs).1=0
 rn:rs.length<=40
 xn:xs.length<=100
 rok:∀ i (h:i<rs.length),(gj l fs (rs[i]).gr).1=0/\TmK (rs[i]).mean
 xok:∀ i (h:i<xs.length),(gj l fs (xs[i]).gr).1=0/\TmK (xs[i]).mean
 sok:(gj l fs st).1=0
theorem tmF_tv{t:Tm}(h:(tmF t).1=0):∃ v:Tv,t=v.tm/\v.ok 0/\v.size<=200:=by
 have h0:(twk t 1 0 0).2.1=0:=aK (fun hc=>by rw[NV hc]at h;exact hc h);obtain⟨v,rfl,hok,_,hsz⟩:=OV t 1 0 0 h0;exact⟨v,rfl,hok,by omega⟩
theorem app_K{f:Tm}(h1:TmK f)(h2:TmK x):TmK (u4 f x):= .mk smZ_K (by show 2<=1000;decide) (fun z h=>by
 rcases av.1 h with rfl|h
 ·exact h1
 ·rw[List.mem_singleton.1 h];exact h2)
theorem szT_app(f x:Tm):szT (u4 f x)=szT f+szT x+1:=by
 rw[W6];show szT f+(szT x+0)+1=_;omega
theorem fits_any{t:Tm}(hK:TmK t)(SA BA:Option Addr)(cs cb:Nat)(w:World)(hz:szT t<=1000000)(hS:SimsIn w SA t.type.args)(hT:TmsIn w BA t.args):Calls Tryz.prog 83 #[.agg (cD (t) SA cs BA cb)] w fun e w'=>e= .returned (.bool (decide (szT t<=200/\dpT t<=40)))/\Bel w w':=by
 refine enT Tryz.func83 Tryz.ntmps83 rfl rfl fun hB=>?_;refine zn2 ?_;refine qv (cs:=#[_,_,_,_,_,_]) rfl (fun b1 w1 hb1 s1 hr=>?_);refine zn6 ?_;refine a7 kR (size_any hK SA BA cs cb _ hz (hS.mono hB.u) (hT.mono hB.u)) rfl (fun w2 s2=>?_);refine wmT rfl (wl (yW (v:= .int _ _) rfl rfl) (wl (yW (v:= .int _ _) rfl rfl) (zn5 ?_)));refine xj [2,10,11,12,13,14,15] 2 (.bool (decide (szT t<=200/\dpT t<=40))) nu ?_ (fun gq=>?_)
 ·refine zn4 ?_;refine zk 12 rfl (fun g12=>?_) (fun g12=>?_)
  ·refine zn6 ?_;exact xq
  refine zn4 ?_;exact xq
 refine zn3 ?_;exact⟨rfl,hB.u⟩
end Go.Proofs.YtndbjnkilegebaaGreatDoor
