/- What stays true of data while only blocks of some types, or newer blocks, are changed; simple types and terms as values of a call. No program in sight. Rows of ints as graphs: what graphOf lays. No program in sight. What lies behind the cells of a row of words, and of rules. No program in sight. What hierarchyOf lays. No program in sight. The grammars that the program makes as data: how a world holds them. No program in sight. What these functions of the program compute, at every world: . What these functions of the program compute, at every world: unicode/utf8.RuneCountInString, unicode/utf8.word[string]. Stacks of types and terms that a world holds. No program in sight. -/
import Derived.Test.YtdgnllfbooklcaaDoorTurn
import Derived.Test.YtdgnllfbooklcaaDoorU
import Derived.Test.YtdgnllfbooklcaaDoorSim
import Derived.Test.YtdgnllfbooklcaaDoorGro
import Derived.Test.YtdgnllfbooklcaaDoorMeet
import Derived.Test.YtdgnllfbooklcaaDoorRng
namespace Go.Proofs.YtdgnllfbooklcaaDoor
open Go.RowKit
def zSm:Array Value:=#[.string ⟨#[]⟩,.slice none 0 0]
def zTm:Array Value:=#[.int .i64 0,.string ⟨#[]⟩,.int .i64 0,.string ⟨#[]⟩,.slice none 0 0,.slice none 0 0]
def Sp (ts:List Nat) (t:Nat) (cs:Array Value):Prop:=t ∈ ts∨(t=41∧cs=zSm)∨(t=44∧cs=zTm)
def Kp (X:List Nat) (n:Nat) (ts:List Nat) (w w2:World):Prop:=w.heap.size≤w2.heap.size∧∀ k,k < n→w2.heap[k]? =w.heap[k]?∨k ∈ X∨∃ t cs,Blk w k t cs∧Sp ts t cs
section kp
variable {X Y:List Nat} {n m:Nat} {ts us:List Nat} {w w1 w2:World} {P Q:World→Prop}
theorem Kp.refl (X:List Nat) (n:Nat) (ts:List Nat) (w:World):Kp X n ts w w:=⟨Nat.le_refl _,fun _ _=> .inl rfl⟩
theorem Kp.trans (h:Kp X n ts w w1) (g:Kp X n ts w1 w2):Kp X n ts w w2:=⟨nLT h.1 g.1,fun k hk=>by
  rcases h.2 k hk with e | e
  · rcases g.2 k hk with e2 | e2 | ⟨t,cs,e2,hs⟩
    · exact .inl (e2.trans e)
    · exact .inr (.inl e2)
    · exact .inr (.inr ⟨t,cs,e.symm.trans e2,hs⟩)
  · exact .inr e⟩
theorem Kp.of {Z:List Nat} (hs:Same Z w w1) (hn:n≤w.heap.size) (hx:∀ g ∈ Z,n≤g∨g ∈ X∨∃ t cs,Blk w g t cs∧Sp ts t cs):Kp X n ts w w1:=⟨hs.size,fun k hk=>by
  by_cases e:k ∈ Z
  · rcases hx k e with h | h
    · omega
    · exact .inr h
  · exact .inl (hs.blk k om e)⟩
structure Fz (X:List Nat) (n:Nat) (ts:List Nat) (w:World) (P:World→Prop):Prop where
  le:n≤w.heap.size
  all:∀ w2,Kp X n ts w w2→P w2
theorem Fz.step (h:Fz X n ts w P) (hk:Kp X n ts w w1):Fz X n ts w1 P:=⟨nLT h.le hk.1,fun w2 h2=>h.all w2 (hk.trans h2)⟩
theorem Fz.now (h:Fz X n ts w P):P w:=h.all w (Kp.refl _ _ _ _)
theorem Fz.trX {Z:List Nat} (h:Fz X n ts w P) (hs:Same Z w w1) (hx:∀ g ∈ Z,n≤g∨g ∈ X∨∃ t cs,Blk w g t cs∧Sp ts t cs):Fz X n ts w1 P:=h.step (Kp.of hs h.le hx)
theorem Fz.tr0 (h:Fz X n ts w P) (hs:Same [] w w1):Fz X n ts w1 P:=h.trX hs (by simp)
theorem Fz.bel (h:Fz X n ts w P) (hb:Bel w w1):Fz X n ts w1 P:=h.tr0 (sB hb)
theorem Fz.in1 {b:Nat} (h:Fz X n ts w P) (hs:Same [b] w w1) (hb:b ∈ X):Fz X n ts w1 P:=h.trX hs (fun g hg=> .inr (.inl (by rw [List.mem_singleton.1 hg];exact hb)))
theorem Fz.sp1 {b t:Nat} {cs:Array Value} (h:Fz X n ts w P) (hs:Same [b] w w1) (hb:Blk w b t cs) (ht:Sp ts t cs):Fz X n ts w1 P:=h.trX hs (fun g hg=> .inr (.inr ⟨t,cs,by rw [List.mem_singleton.1 hg];exact hb,ht⟩))
theorem sp_tm {ts:List Nat}:Sp ts 44 #[.int .i64 0,.string ⟨#[]⟩,.int .i64 0,.string ⟨#[]⟩,.slice none 0 0,.slice none 0 0]:= .inr (.inr ⟨rfl,rfl⟩)
theorem Fz.free {b t:Nat} {cs:Array Value} (h:Fz X n ts w P) (hs:Same [b] w w1) (hb:Blk w b t cs) (ht:Sp ts t cs):Fz (b :: X) n ts w1 P:=⟨nLT h.le hs.size,fun w2 h2=>h.all w2 ⟨nLT hs.size h2.1,fun k hk=>by
  by_cases e:k=b
  · exact .inr (.inr ⟨t,cs,by rw [e];exact hb,ht⟩)
  have e1:=hs.blk k (nLL hk h.le) (by simpa using e)
  rcases h2.2 k hk with e2 | e2 | ⟨t',cs',e2,hs2⟩
  · exact .inl (e2.trans e1)
  · rcases List.mem_cons.1 e2 with e3 | e3
    · exact absurd e3 e
    · exact .inr (.inl e3)
  · exact .inr (.inr ⟨t',cs',e1.symm.trans e2,hs2⟩)⟩⟩
theorem Fz.mono (h:Fz X n ts w P) (hm:n≤m) (hw:m≤w.heap.size):Fz X m ts w P:=⟨hw,fun w2 h2=>h.all w2 ⟨h2.1,fun k hk=>h2.2 k om⟩⟩
theorem Fz.up (h:Fz X n ts w P):Fz X w.heap.size ts w P:=h.mono h.le (Nat.le_refl _)
theorem Fz.less (h:Fz Y n ts w P) (hs:∀ x ∈ X,x ∈ Y):Fz X n ts w P:=⟨h.le,fun w2 h2=>h.all w2 ⟨h2.1,fun k hk=>by
  rcases h2.2 k hk with e | e | e
  · exact .inl e
  · exact .inr (.inl (hs k e))
  · exact .inr (.inr e)⟩⟩
theorem Fz.addX (h:Fz X n ts w P) (hy:∀ y ∈ Y,y ∈ X∨n≤y):Fz Y n ts w P:=⟨h.le,fun w2 h2=>h.all w2 ⟨h2.1,fun k hk=>by
  rcases h2.2 k hk with e | e | e
  · exact .inl e
  · rcases hy k e with h3 | h3
    · exact .inr (.inl h3)
    · omega
  · exact .inr (.inr e)⟩⟩
theorem Fz.nil (h:Fz X n ts w P):Fz [] n ts w P:=h.less (by simp)
theorem Fz.sub (h:Fz X n us w P) (hs:∀ t ∈ ts,t ∈ us):Fz X n ts w P:=⟨h.le,fun w2 h2=>h.all w2 ⟨h2.1,fun k hk=>by
  rcases h2.2 k hk with e | e | ⟨t,cs,r,q⟩
  · exact .inl e
  · exact .inr (.inl e)
  · refine .inr (.inr ⟨t,cs,r,?_⟩)
    rcases q with q | q
    · exact .inl (hs t q)
    · exact .inr q⟩⟩
theorem Fz.imp (h:Fz X n ts w P) (hi:∀ w,P w→Q w):Fz X n ts w Q:=⟨h.le,fun w2 h2=>hi w2 (h.all w2 h2)⟩
theorem Fz.and (h:Fz X n ts w P) (g:Fz X m ts w Q):Fz X w.heap.size ts w (fun w=>P w∧Q w):=⟨Nat.le_refl _,fun w2 h2=>⟨h.up.all w2 h2,g.up.all w2 h2⟩⟩
theorem Fz.triv (X:List Nat) (w:World) (ts:List Nat) (h:∀ w,P w):Fz X w.heap.size ts w P:=⟨Nat.le_refl _,fun w2 _=>h w2⟩
theorem Fz.blk {b t:Nat} {cs:Array Value} (h:Blk w b t cs) (hx:b ∉ X) (ht:¬Sp ts t cs):Fz X w.heap.size ts w (fun w=>Blk w b t cs):=⟨Nat.le_refl _,fun w2 h2=>by
  rcases h2.2 b h.lt with e | e | ⟨t',cs',e,hs⟩
  · exact e.trans h
  · exact absurd e hx
  · have he:(some (Obj.cells cs t (0,0)))=some (.cells cs' t' (0,0)):=h.symm.trans e
    injection he with he
    injection he with e1 e2
    subst e1;subst e2
    exact absurd hs ht⟩
end kp
def TS:List Nat:=[49,46,32]
def SmD (X:List Nat) (τ:Ts) (w:World) (v:Value):Prop:=∃ A c n,v= .agg #[.string τ.sm.base,.slice A τ.sm.args.length c]∧Fz X n TS w (fun w=>SimsIn w A τ.sm.args)
def TmD (X:List Nat) (x:Tv) (w:World) (v:Value):Prop:=∃ S cs B cb n,v= .agg #[.int .i64 x.tm.kind,.string x.tm.name,.int .i64 x.tm.index,.string x.tm.type.base,.slice S x.tm.type.args.length cs,.slice B x.tm.args.length cb]∧Fz X n TS w (fun w=>SimsIn w S x.tm.type.args∧TmsIn w B x.tm.args)
theorem SmD.tr0 {X:List Nat} {τ:Ts} {w w1:World} {v:Value} (h:SmD X τ w v) (hs:Same [] w w1):SmD X τ w1 v:=by
  obtain⟨A,c,n,e,hz⟩:=h;exact⟨A,c,n,e,hz.tr0 hs⟩
theorem TmD.tr0 {X:List Nat} {x:Tv} {w w1:World} {v:Value} (h:TmD X x w v) (hs:Same [] w w1):TmD X x w1 v:=by
  obtain⟨A,c,B,m,n,e,hz⟩:=h;exact⟨A,c,B,m,n,e,hz.tr0 hs⟩
theorem sims_two {w:World} {b t:Nat} {s1 s2:Sm} {A1 A2:Option Addr} {c1 c2:Nat} (h:Blk w b t #[.string s1.base,.slice A1 s1.args.length c1,.string s2.base,.slice A2 s2.args.length c2]) (h1:SimsIn w A1 s1.args) (h2:SimsIn w A2 s2.args):SimsIn w (some ⟨b,0,none⟩) [s1,s2]:=by
  cases s1 with
  | mk b1 a1=>
    cases s2 with
    | mk b2 a2=>
      refine .more (by show 2≤vz;decide) h.lt (fun k hk=>?_)
      match k,hk with
      | 0,_=>exact SimAt.mk (A:=A1) (c:=c1) h.lt (h.range (fun j v hj=>by match j,hj with | 0,hj=>cases hj;rfl | 1,hj=>cases hj;rfl | _ + 2,hj=>cases hj)) h1
      | 1,_=>exact SimAt.mk (A:=A2) (c:=c2) h.lt (h.range (fun j v hj=>by match j,hj with | 0,hj=>cases hj;rfl | 1,hj=>cases hj;rfl | _ + 2,hj=>cases hj)) h2
def tmC (t:Tm) (S B:Option Addr) (cs cb:Nat):List Value:=[.int .i64 t.kind,.string t.name,.int .i64 t.index,.string t.type.base,.slice S t.type.args.length cs,.slice B t.args.length cb]
theorem tm_at {w:World} {b o:Nat} {t:Tm} {S B:Option Addr} {cs cb:Nat} (hb:b < w.heap.size) (h:w.rangeAt b o (tmC t S B cs cb)) (h1:SimsIn w S t.type.args) (h2:TmsIn w B t.args):TmAt w b o t:=by
  cases t with
  | mk k nm i s a=>exact .mk hb h h1 h2
theorem VZ {w:World} {b t o:Nat} {cs:Array Value} {l:List Value} (h:Blk w b t cs) (ho:∀ j v,l[j]? =some v→cs[o + j]? =some v):w.rangeAt b o l:=h.range (fun j v hj=>ho j v hj)
theorem tms_one {w:World} {b t:Nat} {x:Tm} {S B:Option Addr} {cs cb:Nat} (h:Blk w b t (tmC x S B cs cb).toArray) (h1:SimsIn w S x.type.args) (h2:TmsIn w B x.args):TmsIn w (some ⟨b,0,none⟩) [x]:=
  .more (by show 1≤vz;decide) h.lt (fun k hk=>by
    match k,hk with
    | 0,_=>exact tm_at h.lt (VZ h (fun j v hj=>by simpa using hj)) h1 h2)
theorem tms_two {w:World} {b t:Nat} {x y:Tm} {S B S' B':Option Addr} {cs cb cs' cb':Nat} (h:Blk w b t (tmC x S B cs cb ++ tmC y S' B' cs' cb').toArray) (h1:SimsIn w S x.type.args) (h2:TmsIn w B x.args) (h3:SimsIn w S' y.type.args) (h4:TmsIn w B' y.args):TmsIn w (some ⟨b,0,none⟩) [x,y]:=
  .more (by show 2≤vz;decide) h.lt (fun k hk=>by
    match k,hk with
    | 0,_=>exact tm_at h.lt (VZ h (fun j v hj=>by
        have hl:j < 6:=(List.getElem?_eq_some_iff.1 hj).1
        rw [List.getElem?_toArray,List.getElem?_append_left (by show 0 + j < 6;omega),Nat.zero_add];exact hj)) h1 h2
    | 1,_=>exact tm_at h.lt (VZ h (fun j v hj=>by
        rw [List.getElem?_toArray,List.getElem?_append_right (by show 6≤0 + 1 * 6 + j;omega),show 0 + 1 * 6 + j - (tmC x S B cs cb).length=j by show 0 + 1 * 6 + j - 6=j;omega];exact hj)) h3 h4)
theorem tv_kind (x:Tv):x.tm.kind≠0:=by cases x <;> simp [Tv.tm,Tm.kind]
theorem nsp_sm {s1 s2:Sm} {A1 A2:Option Addr} {m1 m2 c1 c2:Nat}:¬Sp TS 41 #[.string s1.base,.slice A1 m1 c1,.string s2.base,.slice A2 m2 c2]:=by
  rintro (h | ⟨_,h⟩ | ⟨h,_⟩)
  · revert h;decide
  · exact absurd (show (4:Nat)=2 from congrArg Array.size h) dE
  · revert h;decide
theorem nsp_tm {x:Tv} {l:List Value}:¬Sp TS 44 (Value.int .i64 x.tm.kind :: l).toArray:=by
  rintro (h | ⟨h,_⟩ | ⟨_,h⟩)
  · revert h;decide
  · revert h;decide
  · have h2:=congrArg (fun a:Array Value=>a[0]?) h
    simp [zTm] at h2;exact tv_kind x h2
section mk
variable {X:List Nat} {w:World}
theorem SmD.two {a b:Ts} {g:Nat} {A1 A2:Option Addr} {c1 c2 n1 n2:Nat} (h:Blk w g 41 #[.string a.sm.base,.slice A1 a.sm.args.length c1,.string b.sm.base,.slice A2 b.sm.args.length c2]) (hg:g ∉ X) (h1:Fz X n1 TS w (fun w=>SimsIn w A1 a.sm.args)) (h2:Fz X n2 TS w (fun w=>SimsIn w A2 b.sm.args)):SmD X (.f a b) w (.agg #[.string ⟨#[]⟩,.slice (some ⟨g,0,none⟩) 2 2]):=
  ⟨_,2,_,rfl,((Fz.blk h hg nsp_sm).and (h1.and h2)).imp (fun _ h=>sims_two h.1 h.2.1 h.2.2)⟩
theorem TmD.con (nm:ByteArray) {τ:Ts} {A:Option Addr} {c n:Nat} (h:Fz X n TS w (fun w=>SimsIn w A τ.sm.args)):TmD X (.con nm τ) w (.agg #[.int .i64 1,.string nm,.int .i64 0,.string τ.sm.base,.slice A τ.sm.args.length c,.slice none 0 0]):=
  ⟨A,c,none,0,n,rfl,h.imp (fun _ h=>⟨h,.nil⟩)⟩
theorem TmD.var (i:Nat):TmD X (.var i) w (.agg #[.int .i64 2,.string ⟨#[]⟩,.int .i64 i,.string ⟨#[]⟩,.slice none 0 0,.slice none 0 0]):=
  ⟨none,0,none,0,w.heap.size,rfl,Fz.triv X w TS (fun _=>⟨.nil,.nil⟩)⟩
theorem TmD.abs {τ:Ts} {x:Tv} {g:Nat} {A S B:Option Addr} {c n cs cb m:Nat} (h:Fz X n TS w (fun w=>SimsIn w A τ.sm.args)) (hg:Blk w g 44 #[.int .i64 x.tm.kind,.string x.tm.name,.int .i64 x.tm.index,.string x.tm.type.base,.slice S x.tm.type.args.length cs,.slice B x.tm.args.length cb]) (hgx:g ∉ X) (hx:Fz X m TS w (fun w=>SimsIn w S x.tm.type.args∧TmsIn w B x.tm.args)):TmD X (.abs τ x) w (.agg #[.int .i64 3,.string ⟨#[]⟩,.int .i64 0,.string τ.sm.base,.slice A τ.sm.args.length c,.slice (some ⟨g,0,none⟩) 1 1]):=
  ⟨A,c,_,1,_,rfl,((Fz.blk hg hgx nsp_tm).and (h.and hx)).imp (fun _ h=>⟨h.2.1,tms_one h.1 h.2.2.1 h.2.2.2⟩)⟩
theorem TmD.app {x y:Tv} {g:Nat} {S B S' B':Option Addr} {cs cb m cs' cb' m':Nat} (hg:Blk w g 44 #[.int .i64 x.tm.kind,.string x.tm.name,.int .i64 x.tm.index,.string x.tm.type.base,.slice S x.tm.type.args.length cs,.slice B x.tm.args.length cb,.int .i64 y.tm.kind,.string y.tm.name,.int .i64 y.tm.index,.string y.tm.type.base,.slice S' y.tm.type.args.length cs',.slice B' y.tm.args.length cb']) (hgx:g ∉ X) (hx:Fz X m TS w (fun w=>SimsIn w S x.tm.type.args∧TmsIn w B x.tm.args)) (hy:Fz X m' TS w (fun w=>SimsIn w S' y.tm.type.args∧TmsIn w B' y.tm.args)):TmD X (.app x y) w (.agg #[.int .i64 4,.string ⟨#[]⟩,.int .i64 0,.string ⟨#[]⟩,.slice none 0 0,.slice (some ⟨g,0,none⟩) 2 2]):=
  ⟨none,0,_,2,_,rfl,((Fz.blk hg hgx nsp_tm).and (hx.and hy)).imp (fun _ h=>⟨.nil,tms_two h.1 h.2.1.1 h.2.1.2 h.2.2.1 h.2.2.2⟩)⟩
end mk
inductive TmCs (n:Nat) (w:World):List Tv→List Value→Prop
  | nil:TmCs n w [] []
  | cons {x:Tv} {S B:Option Addr} {cs cb:Nat} {l:List Tv} {vs:List Value} (h:Fz [] n TS w (fun w=>SimsIn w S x.tm.type.args∧TmsIn w B x.tm.args)) (t:TmCs n w l vs):TmCs n w (x :: l) (.int .i64 x.tm.kind :: .string x.tm.name :: .int .i64 x.tm.index :: .string x.tm.type.base :: .slice S x.tm.type.args.length cs :: .slice B x.tm.args.length cb :: vs)
theorem TmCs.tr0 {n:Nat} {w w1:World} {l:List Tv} {vs:List Value} (h:TmCs n w l vs) (hs:Same [] w w1):TmCs n w1 l vs:=by
  induction h with
  | nil=>exact .nil
  | cons h _ ih=>exact .cons (h.tr0 hs) ih
theorem TmCs.get {n:Nat} {w:World} {l:List Tv} {vs:List Value} (h:TmCs n w l vs):∀ k (hk:k < l.length),∃ S B cs cb,(∀ j v,(tmC (l[k]).tm S B cs cb)[j]? =some v→vs[k * 6 + j]? =some v)∧Fz [] n TS w (fun w=>SimsIn w S (l[k]).tm.type.args∧TmsIn w B (l[k]).tm.args):=by
  induction h with
  | nil=>intro k hk;simp at hk
  | @cons x S B cs cb l vs h t ih=>
    intro k hk
    match k,hk with
    | 0,_=>
      refine⟨S,B,cs,cb,fun j v hj=>?_,h⟩
      match j,hj with
      | 0,hj=>exact hj
      | 1,hj=>exact hj
      | 2,hj=>exact hj
      | 3,hj=>exact hj
      | 4,hj=>exact hj
      | 5,hj=>exact hj
      | _ + 6,hj=>cases hj
    | k + 1,hk=>
      obtain⟨S',B',cs',cb',h1,h2⟩:=ih k (by simpa using hk);refine⟨S',B',cs',cb',fun j v hj=>?_,h2⟩;rw [show (k + 1) * 6 + j=k * 6 + j + 6 by omega];exact h1 j v hj
theorem TmCs.at_ {n b t:Nat} {w:World} {l:List Tv} {vs:List Value} (h:TmCs n w l vs) (hb:Blk w b t vs.toArray) {k:Nat} (hk:k < l.length):∃ S B cs cb,w.rangeAt b (0 + k * 6) [.int .i64 (l[k]).tm.kind,.string (l[k]).tm.name,.int .i64 (l[k]).tm.index,.string (l[k]).tm.type.base,.slice S (l[k]).tm.type.args.length cs,.slice B (l[k]).tm.args.length cb]∧Fz [] n TS w (fun w=>SimsIn w S (l[k]).tm.type.args∧TmsIn w B (l[k]).tm.args):=by
  obtain⟨S,B,cs,cb,h1,h2⟩:=h.get k hk;exact⟨S,B,cs,cb,VZ hb (fun j v hj=>by rw [List.getElem?_toArray,Nat.zero_add];exact h1 j v hj),h2⟩
end Go.Proofs.YtdgnllfbooklcaaDoor
namespace Go.Proofs.YtdgnllfbooklcaaDoor
open Go.RowKit
def RowsIn (w:World) (A:Option Addr) (rs:List (List Int)):Prop:=
  rs.length≤1000∧(∀ r ∈ rs,0 < r.length∧r.length≤1000)∧(rs≠[]→∃ b o,A=some ⟨b,o,none⟩∧b < w.heap.size∧∀ k (h:k < rs.length),∃ A' c,w.cell? ⟨b,o + k * 1,none⟩=some (.slice A' (rs[k]).length c)∧IntsIn w A' rs[k])
theorem RowsIn.at_ {w w':World} {A:Option Addr} {rs:List (List Int)} (h:RowsIn w A rs) (hb:Bel w w') {k:Nat} (hk:k < rs.length):
    ∃ b o A' c,A=some ⟨b,o,none⟩∧w'.cell? ⟨b,o + k * 1,none⟩=some (.slice A' (rs[k]).length c)∧IntsIn w A' rs[k]:=by
  obtain⟨b,o,e,hl,hc⟩:=h.2.2 (by rintro rfl;simp at hk);obtain⟨A',c,h1,h2⟩:=hc k hk;exact⟨b,o,A',c,e,hb.cell hl h1,h2⟩
theorem RowsIn.mono {w w':World} {A:Option Addr} {rs:List (List Int)} (h:RowsIn w A rs) (hb:Bel w w'):RowsIn w' A rs:=
  ⟨h.1,h.2.1,fun hn=>by
    obtain⟨b,o,e,hl,hc⟩:=h.2.2 hn
    refine⟨b,o,e,nLL hl hb.size,fun k hk=>?_⟩
    obtain⟨A',c,h1,h2⟩:=hc k hk
    exact⟨A',c,hb.cell hl h1,h2.mono hb⟩⟩
def QW:List Int→List (Int×Int)
  | a :: b :: t=>(a,b) :: QW t
  | _=>[]
def Yk (r:List Int):Nd:=⟨r.getD 0 0,QW (r.drop 1)⟩
theorem pairs_end {r:List Int} {i:Nat} (h:r.length≤i + 1):QW (r.drop i)= []:=by
  have hl:(r.drop i).length≤1:=by simp;omega
  match e:r.drop i with
  | []=>rfl
  | [a]=>rfl
  | a :: b :: t=>rw [e] at hl;simp at hl
theorem FQ {r:List Int} {i:Nat} (h:i + 1 < r.length):QW (r.drop i)=(r[i],r[i + 1]) :: QW (r.drop (i + 2)):=by
  rw [List.drop_eq_getElem_cons (show i < r.length by omega),List.drop_eq_getElem_cons h];rfl
def lnC (ls:List (Int×Int)):List Value:=ls.flatMap (fun x=>[.int .i64 x.1,.int .i64 x.2])
theorem lnC_snoc (ls:List (Int×Int)) (a b:Int):lnC ls ++ [.int .i64 a,.int .i64 b]=lnC (ls ++ [(a,b)]):=by simp [lnC]
theorem CK (ls:List (Int×Int)):(lnC ls).length=ls.length * 2:=by
  induction ls with
  | nil=>rfl
  | cons a r ih=>rw [show lnC (a :: r)= .int .i64 a.1 :: .int .i64 a.2 :: lnC r from rfl];simp only [List.length_cons,ih];omega
theorem L7:∀ {ls:List (Int×Int)} {k:Nat} (hk:k < ls.length),(lnC ls)[k * 2]? =some (.int .i64 (ls[k]).1)∧(lnC ls)[k * 2 + 1]? =some (.int .i64 (ls[k]).2)
  | a :: r,0,_=>⟨rfl,rfl⟩
  | a :: r,k + 1,hk=>by
    have:=L7 (ls:=r) (k:=k) (by simpa using hk)
    rw [show (k + 1) * 2=k * 2 + 1 + 1 by omega];exact this
theorem gof_links {w:World} {B:Nat} {A:Option Addr} {k cap:Nat} {ls:List (Int×Int)} (ho:Own w B 95 2 A k cap (lnC ls)):LinksIn w A ls:=by
  have hlk:ls.length=k:=by have h1:=ho.len;rw [CK] at h1;omega
  refine⟨by rw [hlk];exact ho.max,fun hn=>?_⟩;obtain⟨g,e,hb,hg,hc⟩:=ho.cell (by intro h0;have:=CK ls;rw [h0] at this;cases ls with | nil=>exact hn rfl | cons a r=>simp only [List.length_nil,List.length_cons] at this;omega);refine⟨g,0,e,hg,fun j hj=>?_⟩;obtain⟨h1,h2⟩:=L7 hj;intro i v hi
  match i,hi with
  | 0,hi=>cases hi;have:=hc _ _ h1;simpa using this
  | 1,hi=>cases hi;have:=hc _ _ h2;simpa using this
  | _ + 2,hi=>cases hi
theorem Own.fz {w:World} {B e sz:Nat} {ts:List Nat} {A:Option Addr} {k cap:Nat} {xs:List Value} (ho:Own w B e sz A k cap xs) (ht:∀ cs,¬Sp ts e cs):Fz [] w.heap.size ts w (fun w=>Own w B e sz A k cap xs):=⟨Nat.le_refl _,fun w2 h2=>by
  refine⟨ho.1,?_⟩
  rcases ho.2 with hn | ⟨g,c,cur,hv,hb,hg,r⟩
  · exact .inl hn
  · refine .inr ⟨g,c,cur,hv,hb,?_,r⟩
    exact(Fz.blk (X:=[]) (ts:=ts) (show Blk w g e cur from hg) (by simp) (ht _)).all w2 h2⟩
theorem Qk {w:World} {base:Nat} {e:TypeId} {sz:Nat} {A:Option Addr} {k cap:Nat} {xs:List Value} (h:Own w base e sz A k cap xs):∀ g ∈ aL A,∃ cs,Blk w g e cs:=fun g hg=>by
  rcases h.2 with ⟨hn,_⟩ | ⟨g',c,cur,hv,hb,hgg,r⟩
  · cases hn;cases hg
  · cases hv
    simp only [aL,List.mem_singleton] at hg
    subst hg;exact⟨cur,hgg⟩
theorem M8 {ts:List Nat} {t:Nat} (h:t ∉ ts) (h1:t≠41) (h2:t≠44) (cs:Array Value):¬Sp ts t cs:=by
  rintro (h3 | ⟨h3,_⟩ | ⟨h3,_⟩)
  · exact h h3
  · exact h1 h3
  · exact h2 h3
def TS1:List Nat:=93 :: 30 :: TS
inductive NdData (w:World):List Nd→List Value→Prop
  | nil:NdData w [] []
  | snoc {l:List Nd} {vs:List Value} {x:Nd} {A:Option Addr} {c:Nat} (h:NdData w l vs) (hl:LinksIn w A x.ln):NdData w (l ++ [x]) (vs ++ [.int .i64 x.ty,.slice A x.ln.length c])
theorem NdData.len {w:World} {l:List Nd} {vs:List Value} (h:NdData w l vs):vs.length=l.length * 2:=by
  induction h with
  | nil=>rfl
  | snoc h hl ih=>simp only [List.length_append,List.length_cons,List.length_nil,ih];omega
theorem NdData.get {w:World} {l:List Nd} {vs:List Value} (h:NdData w l vs):∀ k (hk:k < l.length),∃ A c,vs[k * 2]? =some (.int .i64 (l[k]).ty)∧vs[k * 2 + 1]? =some (.slice A (l[k]).ln.length c)∧LinksIn w A (l[k]).ln:=by
  induction h with
  | nil=>intro k hk;simp at hk
  | @snoc l cs t A c h hp ih=>
    intro k hk;have hlen:=h.len;by_cases e:k < l.length
    · obtain⟨A',c',h1,h2,h3⟩:=ih k e
      refine⟨A',c',?_,?_,?_⟩
      · rw [List.getElem?_append_left om,h1,List.getElem_append_left e]
      · rw [List.getElem?_append_left om,h2,List.getElem_append_left e]
      · rw [List.getElem_append_left e];exact h3
    · simp only [List.length_append,List.length_cons,List.length_nil] at hk
      have ek:k=l.length:=by omega
      subst ek;have eg:(l ++ [t])[l.length]'(by simp)=t:=by simp
      rw [eg];refine⟨A,c,?_,?_,hp⟩
      · rw [List.getElem?_append_right om,hlen];simp
      · rw [List.getElem?_append_right om,hlen];simp
theorem gof_nodes {w:World} {B:Nat} {A:Option Addr} {k cap:Nat} {cs:List Value} {l:List Nd} (ho:Own w B 93 2 A k cap cs) (ht:NdData w l cs):NodesIn w A l:=by
  have hlk:l.length=k:=by have h1:=ho.len;have h2:=ht.len;omega
  refine⟨by rw [hlk];exact ho.max,fun hn=>?_⟩
  obtain⟨g,e,hb,hg,hc⟩:=ho.cell (by
    intro h0;have:=ht.len;rw [h0] at this;cases l with
    | nil=>exact hn rfl
    | cons a r=>simp only [List.length_nil,List.length_cons] at this;omega)
  refine⟨g,0,e,hg,fun j hj=>?_⟩;obtain⟨A',c,h1,h2,h3⟩:=ht.get j hj;refine⟨A',c,?_,h3⟩;intro i v hi
  match i,hi with
  | 0,hi=>cases hi;have:=hc _ _ h1;simpa using this
  | 1,hi=>cases hi;have:=hc _ _ h2;simpa using this
  | _ + 2,hi=>cases hi
theorem gof_end {w:World} {B n:Nat} {A:Option Addr} {k cap:Nat} {cs:List Value} {l:List Nd} (ho:Own w B 93 2 A k cap cs) (ht:Fz [] n TS1 w (fun w=>NdData w l cs)):Fz [] w.heap.size TS w (fun w=>NodesIn w A l):=
  ((ho.fz (ts:=TS) (M8 dE dE dE)).and ((ht.up).sub dE)).imp (fun _ h=>gof_nodes h.1 h.2)
theorem gof_more {w:World} {B n:Nat} {A:Option Addr} {j cap:Nat} {vs:List Value} {l:List Nd} {ls:List (Int×Int)} {z:Int} (ho:Own w B 95 2 A j cap (lnC ls)) (ht:Fz [] n TS1 w (fun w=>NdData w l vs)):Fz [] w.heap.size TS1 w (fun w=>NdData w (l ++ [⟨z,ls⟩]) (vs ++ [.int .i64 z,.slice A j cap])):=by
  have hlk:ls.length=j:=by have h1:=ho.len;rw [CK] at h1;omega
  subst hlk;exact((ho.fz (ts:=TS1) (M8 dE dE dE)).and ht).imp (fun _ h=> .snoc h.2 (gof_links h.1))
end Go.Proofs.YtdgnllfbooklcaaDoor
namespace Go.Proofs.YtdgnllfbooklcaaDoor
open Go.RowKit
inductive LxData (w:World):List Lx→List Value→Prop
  | nil:LxData w [] []
  | snoc {l:List Lx} {vs:List Value} {x:Lx} {G S B:Option Addr} {gn cg cs cb:Nat} (h:LxData w l vs) (hw:x.word.size < 9223372036854775807) (hn:gn=x.gr.length) (hG:NodesIn w G x.gr) (hS:SimsIn w S x.mean.type.args) (hT:TmsIn w B x.mean.args):LxData w (l ++ [x]) (vs ++ [.string x.word,.slice G gn cg,.int .i64 x.wt,.int .i64 x.mean.kind,.string x.mean.name,.int .i64 x.mean.index,.string x.mean.type.base,.slice S x.mean.type.args.length cs,.slice B x.mean.args.length cb])
def lxC (x:Lx) (G S B:Option Addr) (cg cs cb:Nat):List Value:=[.string x.word,.slice G x.gr.length cg,.int .i64 x.wt,.int .i64 x.mean.kind,.string x.mean.name,.int .i64 x.mean.index,.string x.mean.type.base,.slice S x.mean.type.args.length cs,.slice B x.mean.args.length cb]
theorem LxData.len {w:World} {l:List Lx} {vs:List Value} (h:LxData w l vs):vs.length=l.length * 9:=by
  induction h with
  | nil=>rfl
  | snoc h _ _ _ _ _ ih=>simp only [List.length_append,List.length_cons,List.length_nil,ih];omega
theorem LxData.get {w:World} {l:List Lx} {vs:List Value} (h:LxData w l vs):∀ k (hk:k < l.length),(l[k]).word.size < 9223372036854775807∧∃ G cg S cs B cb,(∀ j v,(lxC (l[k]) G S B cg cs cb)[j]? =some v→vs[k * 9 + j]? =some v)∧NodesIn w G (l[k]).gr∧SimsIn w S (l[k]).mean.type.args∧TmsIn w B (l[k]).mean.args:=by
  induction h with
  | nil=>intro k hk;simp at hk
  | @snoc l vs x G S B gn cg cs cb h hw hn hG hS hT ih=>
    intro k hk;have hlen:=h.len;by_cases e:k < l.length
    · rw [List.getElem_append_left e]
      obtain⟨h0,G',cg',S',cs',B',cb',h1,h2⟩:=ih k e;refine⟨h0,G',cg',S',cs',B',cb',fun j v hj=>?_,h2⟩;have hj9:j < 9:=(List.getElem?_eq_some_iff.1 hj).1;rw [List.getElem?_append_left om];exact h1 j v hj
    · simp only [List.length_append,List.length_cons,List.length_nil] at hk
      have ek:k=l.length:=by omega
      subst ek;have eg:(l ++ [x])[l.length]'(by simp)=x:=by simp
      rw [eg];subst hn;refine⟨hw,G,cg,S,cs,B,cb,fun j v hj=>?_,hG,hS,hT⟩;rw [List.getElem?_append_right om,hlen,Nat.add_sub_cancel_left];exact hj
theorem gof_lexes {w:World} {B:Nat} {A:Option Addr} {k cap:Nat} {cs:List Value} {l:List Lx} (ho:Own w B 46 9 A k cap cs) (ht:LxData w l cs):LexesIn w A l:=by
  have hlk:l.length=k:=by have h1:=ho.len;have h2:=ht.len;omega
  refine⟨by rw [hlk];exact ho.max,fun hn=>?_⟩
  obtain⟨g,e,hb,hg,hc⟩:=ho.cell (by
    intro h0;have:=ht.len;rw [h0] at this;cases l with
    | nil=>exact hn rfl
    | cons a r=>simp only [List.length_nil,List.length_cons] at this;omega)
  refine⟨g,0,e,hg,fun j hj=>?_⟩;obtain⟨h0,G,cg,S,cs',B',cb,h1,h2⟩:=ht.get j hj;refine⟨h0,G,cg,S,cs',B',cb,fun i v hi=>?_,h2⟩;have:=hc _ _ (h1 i v hi)
  simpa using this
end Go.Proofs.YtdgnllfbooklcaaDoor
namespace Go.Proofs.YtdgnllfbooklcaaDoor
open Go.RowKit
def StrsD (w:World) (A:Option Addr) (ss:List ByteArray):Prop:=
  ss≠[]→∃ b o,A=some ⟨b,o,none⟩∧b < w.heap.size∧∀ k (h:k < ss.length),w.cell? ⟨b,o + k * 1,none⟩=some (.string ss[k])
theorem StrsD.at_ {w w':World} {A:Option Addr} {ss:List ByteArray} (h:StrsD w A ss) (hb:Bel w w') {k:Nat} (hk:k < ss.length):
    ∃ b o,A=some ⟨b,o,none⟩∧w'.cell? ⟨b,o + k * 1,none⟩=some (.string ss[k]):=by
  obtain⟨b,o,e,hl,hc⟩:=h (by rintro rfl;simp at hk);exact⟨b,o,e,hb.cell hl (hc k hk)⟩
def Mj (ns:List ByteArray) (ps:List Int) (i:Nat):Ty:=⟨ns.getD i ⟨#[]⟩,if 0 < i then [ps.getD i 0] else []⟩
def Yz (ns:List ByteArray) (ps:List Int) (k:Nat):List Ty:=(List.range k).map (Mj ns ps)
theorem O6 (ns:List ByteArray) (ps:List Int) (k:Nat):Yz ns ps (k + 1)=Yz ns ps k ++ [Mj ns ps k]:=by
  unfold Yz;rw [List.range_succ,List.map_append];rfl
theorem TJ {ns:List ByteArray} {ps:List Int} {k:Nat} (hk:k < ns.length) (h:¬0 < k):Mj ns ps k=⟨ns[k],[]⟩:=by
  simp [Mj,h,List.getD,List.getElem?_eq_getElem hk]
theorem W6 {ns:List ByteArray} {ps:List Int} {k:Nat} (hk:k < ns.length) (hk2:k < ps.length) (h:0 < k):Mj ns ps k=⟨ns[k],[ps[k]]⟩:=by
  simp [Mj,h,List.getD,List.getElem?_eq_getElem hk,List.getElem?_eq_getElem hk2]
def TS2:List Nat:=110 :: 25 :: TS
inductive TyData (w:World):List Ty→List Value→Prop
  | nil:TyData w [] []
  | snoc {l:List Ty} {vs:List Value} {x:Ty} {A:Option Addr} {c:Nat} (h:TyData w l vs) (hp:IntsIn w A x.par):TyData w (l ++ [x]) (vs ++ [.string x.name,.slice A x.par.length c])
theorem TyData.len {w:World} {l:List Ty} {vs:List Value} (h:TyData w l vs):vs.length=l.length * 2:=by
  induction h with
  | nil=>rfl
  | snoc h hl ih=>simp only [List.length_append,List.length_cons,List.length_nil,ih];omega
theorem TyData.get {w:World} {l:List Ty} {vs:List Value} (h:TyData w l vs):∀ k (hk:k < l.length),∃ A c,vs[k * 2]? =some (.string (l[k]).name)∧vs[k * 2 + 1]? =some (.slice A (l[k]).par.length c)∧IntsIn w A (l[k]).par:=by
  induction h with
  | nil=>intro k hk;simp at hk
  | @snoc l cs t A c h hp ih=>
    intro k hk;have hlen:=h.len;by_cases e:k < l.length
    · obtain⟨A',c',h1,h2,h3⟩:=ih k e
      refine⟨A',c',?_,?_,?_⟩
      · rw [List.getElem?_append_left om,h1,List.getElem_append_left e]
      · rw [List.getElem?_append_left om,h2,List.getElem_append_left e]
      · rw [List.getElem_append_left e];exact h3
    · simp only [List.length_append,List.length_cons,List.length_nil] at hk
      have ek:k=l.length:=by omega
      subst ek;have eg:(l ++ [t])[l.length]'(by simp)=t:=by simp
      rw [eg];refine⟨A,c,?_,?_,hp⟩
      · rw [List.getElem?_append_right om,hlen];simp
      · rw [List.getElem?_append_right om,hlen];simp
theorem gof_types {w:World} {B:Nat} {A:Option Addr} {k cap:Nat} {cs:List Value} {l:List Ty} (ho:Own w B 110 2 A k cap cs) (ht:TyData w l cs):TypesIn w A l:=by
  have hlk:l.length=k:=by have h1:=ho.len;have h2:=ht.len;omega
  refine⟨by rw [hlk];exact ho.max,fun hn=>?_⟩
  obtain⟨g,e,hb,hg,hc⟩:=ho.cell (by
    intro h0;have:=ht.len;rw [h0] at this;cases l with
    | nil=>exact hn rfl
    | cons a r=>simp only [List.length_nil,List.length_cons] at this;omega)
  refine⟨g,0,e,hg,fun j hj=>?_⟩;obtain⟨A',c,h1,h2,h3⟩:=ht.get j hj;refine⟨A',c,?_,h3⟩;intro i v hi
  match i,hi with
  | 0,hi=>cases hi;have:=hc _ _ h1;simpa using this
  | 1,hi=>cases hi;have:=hc _ _ h2;simpa using this
  | _ + 2,hi=>cases hi
theorem hof_end {w:World} {B n:Nat} {A:Option Addr} {k cap:Nat} {cs:List Value} {l:List Ty} (ho:Own w B 110 2 A k cap cs) (ht:Fz [] n TS2 w (fun w=>TyData w l cs)):Fz [] w.heap.size TS w (fun w=>TypesIn w A l):=
  ((ho.fz (ts:=TS) (M8 dE dE dE)).and ((ht.up).sub dE)).imp (fun _ h=>gof_types h.1 h.2)
theorem TX {w:World} {n k:Nat} {ns:List ByteArray} {ps:List Int} {cs:List Value} (h:Fz [] n TS2 w (fun w=>TyData w (Yz ns ps k) cs)) (hk:k < ns.length) (h0:¬0 < k):Fz [] w.heap.size TS2 w (fun w=>TyData w (Yz ns ps (k + 1)) (cs ++ [.string ns[k],.slice none 0 0])):=by
  rw [O6,TJ hk h0];exact h.up.imp (fun _ h=> .snoc (x:=⟨ns[k],[]⟩) h ⟨Nat.zero_le _,fun h=>absurd rfl h⟩)
theorem Lj {w:World} {n k b:Nat} {ns:List ByteArray} {ps:List Int} {cs:List Value} (h:Fz [] n TS2 w (fun w=>TyData w (Yz ns ps k) cs)) (hk:k < ns.length) (hk2:k < ps.length) (h0:0 < k) (hb:Blk w b 3 #[.int .i64 ps[k]]):Fz [] w.heap.size TS2 w (fun w=>TyData w (Yz ns ps (k + 1)) (cs ++ [.string ns[k],.slice (some ⟨b,0,none⟩) 1 1])):=by
  rw [O6,W6 hk hk2 h0]
  exact(h.and (Fz.blk (X:=[]) hb (by simp) (M8 dE dE dE _))).imp (fun _ h=> .snoc (x:=⟨ns[k],[ps[k]]⟩) h.1 ⟨by show 1≤vz;decide,fun _=>⟨b,0,rfl,h.2.lt,fun j hj=>by
    have:j=0:=by simp at hj;omega
    subst this
    exact h.2.cell rfl⟩⟩)
end Go.Proofs.YtdgnllfbooklcaaDoor
namespace Go.Proofs.YtdgnllfbooklcaaDoor
open Go.RowKit
inductive RlCs (w:World):List Rl→List Value→Prop
  | nil:RlCs w [] []
  | cons {r:Rl} {G S B:Option Addr} {gn cg cs cb:Nat} {l:List Rl} {vs:List Value} (hn:gn=r.gr.length) (hG:NodesIn w G r.gr) (hS:SimsIn w S r.mean.type.args) (hT:TmsIn w B r.mean.args) (t:RlCs w l vs):RlCs w (r :: l) (.string r.name :: .slice G gn cg :: .int .i64 r.kids :: .int .i64 r.wt :: .int .i64 r.mean.kind :: .string r.mean.name :: .int .i64 r.mean.index :: .string r.mean.type.base :: .slice S r.mean.type.args.length cs :: .slice B r.mean.args.length cb :: vs)
def rlC (r:Rl) (G S B:Option Addr) (cg cs cb:Nat):List Value:=[.string r.name,.slice G r.gr.length cg,.int .i64 r.kids,.int .i64 r.wt,.int .i64 r.mean.kind,.string r.mean.name,.int .i64 r.mean.index,.string r.mean.type.base,.slice S r.mean.type.args.length cs,.slice B r.mean.args.length cb]
theorem RlCs.len {w:World} {l:List Rl} {vs:List Value} (h:RlCs w l vs):vs.length=l.length * 10:=by
  induction h with
  | nil=>rfl
  | cons _ _ _ _ _ ih=>simp only [List.length_cons,ih];omega
theorem RlCs.get {w:World} {l:List Rl} {vs:List Value} (h:RlCs w l vs):∀ k (hk:k < l.length),∃ G cg S cs B cb,(∀ j v,(rlC (l[k]) G S B cg cs cb)[j]? =some v→vs[k * 10 + j]? =some v)∧NodesIn w G (l[k]).gr∧SimsIn w S (l[k]).mean.type.args∧TmsIn w B (l[k]).mean.args:=by
  induction h with
  | nil=>intro k hk;simp at hk
  | @cons r G S B gn cg cs cb l vs hn hG hS hT t ih=>
    intro k hk
    match k,hk with
    | 0,_=>
      subst hn;refine⟨G,cg,S,cs,B,cb,fun j v hj=>?_,hG,hS,hT⟩
      match j,hj with
      | 0,hj=>exact hj
      | 1,hj=>exact hj
      | 2,hj=>exact hj
      | 3,hj=>exact hj
      | 4,hj=>exact hj
      | 5,hj=>exact hj
      | 6,hj=>exact hj
      | 7,hj=>exact hj
      | 8,hj=>exact hj
      | 9,hj=>exact hj
      | _ + 10,hj=>cases hj
    | k + 1,hk=>
      obtain⟨G',cg',S',cs',B',cb',h1,h2⟩:=ih k (by simpa using hk);refine⟨G',cg',S',cs',B',cb',fun j v hj=>?_,h2⟩;rw [show (k + 1) * 10 + j=k * 10 + j + 10 by omega];exact h1 j v hj
theorem RlCs.rules {w:World} {b t:Nat} {l:List Rl} {vs:List Value} (h:RlCs w l vs) (hb:Blk w b t vs.toArray) (hl:l.length≤vz):RulesIn w (some ⟨b,0,none⟩) l:=
  ⟨hl,fun _=>⟨b,0,rfl,hb.lt,fun k hk=>by
    obtain⟨G,cg,S,cs,B,cb,h1,h2⟩:=h.get k hk
    exact⟨G,cg,S,cs,B,cb,VZ hb (fun j v hj=>by rw [List.getElem?_toArray,Nat.zero_add];exact h1 j v hj),h2⟩⟩⟩
theorem Sw {w:World} {b t:Nat} (xs:List ByteArray) (h:Blk w b t (xs.map Value.string).toArray):StrsD w (some ⟨b,0,none⟩) xs:=
  fun _=>⟨b,0,rfl,h.lt,fun k hk=>h.cell (by simp [hk])⟩
def RowV (w:World) (r:List Int) (v:Value):Prop:=∃ A c,v= .slice A r.length c∧IntsIn w A r∧0 < r.length∧r.length≤1000
inductive RowVs (w:World):List (List Int)→List Value→Prop
  | nil:RowVs w [] []
  | cons {r:List Int} {rs:List (List Int)} {v:Value} {vs:List Value} (h:RowV w r v) (t:RowVs w rs vs):RowVs w (r :: rs) (v :: vs)
theorem RowVs.pos {w:World} {rs:List (List Int)} {vs:List Value} (h:RowVs w rs vs):∀ r ∈ rs,0 < r.length∧r.length≤1000:=by
  induction h with
  | nil=>intro r hr;cases hr
  | cons h _ ih=>
    intro r hr;rcases List.mem_cons.1 hr with rfl | hr
    · obtain⟨_,_,_,_,h3,h4⟩:=h;exact⟨h3,h4⟩
    · exact ih r hr
theorem RowVs.get {w:World} {rs:List (List Int)} {vs:List Value} (h:RowVs w rs vs):∀ k (hk:k < rs.length),∃ A c,vs[k]? =some (.slice A (rs[k]).length c)∧IntsIn w A rs[k]:=by
  induction h with
  | nil=>intro k hk;simp at hk
  | cons h _ ih=>
    intro k hk
    match k,hk with
    | 0,_=>obtain⟨A,c,h1,h2,_⟩:=h;exact⟨A,c,by rw [h1];rfl,h2⟩
    | k + 1,hk=>exact ih k (by simpa using hk)
theorem qV {w:World} {b t:Nat} {rs:List (List Int)} {vs:List Value} (h:Blk w b t vs.toArray) (hr:RowVs w rs vs) (hl:rs.length≤1000):RowsIn w (some ⟨b,0,none⟩) rs:=
  ⟨hl,hr.pos,fun _=>⟨b,0,rfl,h.lt,fun k hk=>by
    obtain⟨A,c,h1,h2⟩:=hr.get k hk
    exact⟨A,c,h.cell (by simpa using h1),h2⟩⟩⟩
def kidsAt:Nat→Int→List Rl→List Rl
  | _,_,[]=>[]
  | 0,z,r :: l=>⟨r.name,r.gr,z,r.wt,r.mean⟩ :: l
  | k + 1,z,r :: l=>r :: kidsAt k z l
theorem RlCs.kids {w:World} {l:List Rl} {vs:List Value} (h:RlCs w l vs) (z:Int):∀ k,k < l.length→RlCs w (kidsAt k z l) (vs.set (k * 10 + 2) (.int .i64 z)):=by
  induction h with
  | nil=>intro k hk;simp at hk
  | @cons r G S B gn cg cs cb l vs hn hG hS hT t ih=>
    intro k hk
    match k,hk with
    | 0,_=>exact .cons (r:=⟨r.name,r.gr,z,r.wt,r.mean⟩) hn hG hS hT t
    | k + 1,hk=>
      rw [show (k + 1) * 10 + 2=k * 10 + 2 + 10 by omega];exact .cons hn hG hS hT (ih k (by simpa using hk))
def GmD (T:List Ty) (F:List Ft) (R:List Rl) (L:List Lx) (S:List Nd) (w0 w:World) (v:Value):Prop:=
  ∃ At ct Bf cf br cells A cap AS cst n,v= .agg #[.slice At T.length ct,.slice Bf F.length cf,.slice (some ⟨br,0,none⟩) R.length R.length,.slice A L.length cap,.slice AS S.length cst]∧w0.heap.size≤br∧Blk w br 49 cells∧Fz [] n [49] w (fun w=>TypesIn w At T∧FeatsIn w Bf F∧RlCs w R cells.toList∧LexesIn w A L∧NodesIn w AS S)
def IsP (xs:List Int) (w:World) (v:Value):Prop:=∃ b,v= .slice (some ⟨b,0,none⟩) xs.length xs.length∧IntsIn w (some ⟨b,0,none⟩) xs
def RsP (rs:List (List Int)) (w:World) (v:Value):Prop:=∃ b,v= .slice (some ⟨b,0,none⟩) rs.length rs.length∧RowsIn w (some ⟨b,0,none⟩) rs
def GrP (rs:List (List Int)) (w:World) (v:Value):Prop:=∃ G c n,v= .agg #[.slice G rs.length c]∧Fz [] n TS w (fun w=>NodesIn w G (rs.map Yk))
theorem IsP.tr0 {xs:List Int} {w w1:World} {v:Value} (h:IsP xs w v) (hs:Same [] w w1):IsP xs w1 v:=by
  obtain⟨b,e,h⟩:=h;exact⟨b,e,h.mono hs.bel⟩
theorem vv {P:Program} {n:Nat} {f:Fr} {w:World} (xs:List Int) {len d:Nat} {t e ty:TypeId} {pos:String} {af:Array Edge} {parts:Array (Nat×Operand)} (hv:parts.toList.map (fun p=>(p.1,ev n f p.2))=xs.zipIdx.map (fun x=>(x.2,Value.int .i64 x.1)))
    (hu:P.underlying t=some (.slice e)) (hs:(P.info? e).map (·.size)=some 1) (hz:(P.info? e).map (·.zero)=some (some (.int .i64 0))) (hn:len=xs.length:=by rfl) (hl:¬len * 1 > 2 ^ 24:=by decide) (hl0:len * 1≠0:=by decide)
    (hfill:Instr.fill (fun i=>some (i * 1,1)) ((Array.range (len * 1)).map ((Value.int .i64 0).cells[· % (Value.int .i64 0).cells.size]!)) (xs.zipIdx.map (fun x=>(x.2,Value.int .i64 x.1)))=some (flat (xs.zipIdx.map (fun x=>(x.2,Value.int .i64 x.1)))):=by kernel_rfl)
    (hcs:flat (xs.zipIdx.map (fun x=>(x.2,Value.int .i64 x.1)))=(xs.map (Value.int .i64)).toArray:=by kernel_rfl) (hm:xs.length≤vz:=by decide):OS P n f w ⟨some d,.buildSlice t len parts,ty,pos,af,none⟩ (fun v w''=>Same [] w w''∧IsP xs w'' v∧PZ false w w'' v):=
  vK (fun _ _ K=>qZ _ hv hu hs hz hl hl0 hfill hcs (fun b w1 hb hs hr=>K _ _ ⟨hs,⟨b,by rw [hn],qk xs hb hm⟩,xk⟩))
theorem RsP.tr0 {xs:List (List Int)} {w w1:World} {v:Value} (h:RsP xs w v) (hs:Same [] w w1):RsP xs w1 v:=by
  obtain⟨b,e,h⟩:=h;exact⟨b,e,h.mono hs.bel⟩
theorem GrP.tr0 {xs:List (List Int)} {w w1:World} {v:Value} (h:GrP xs w v) (hs:Same [] w w1):GrP xs w1 v:=by
  obtain⟨G,c,n,e,h⟩:=h;exact⟨G,c,n,e,h.tr0 hs⟩
section fz
variable {X:List Nat} {n:Nat} {w w':World} {P:World→Prop}
theorem Fz.add {bG base k cap:Nat} {A:Option Addr} {cs:Array Value} {xs:List Value} (h:Fz X n TS w P) (hS:Same (bG :: aL A) w w') (hb:Blk w bG 32 cs) (ho:Own w base 46 9 A k cap xs):Fz X n TS w' P:=
  h.trX hS (fun g hg=>by
    rcases List.mem_cons.1 hg with e | hg
    · exact .inr (.inr ⟨_,_,by rw [e];exact hb,.inl dE⟩)
    · obtain⟨cs,h⟩:=Qk ho g hg
      exact .inr (.inr ⟨_,_,h,.inl dE⟩))
end fz
def zGr:Array Value:=#[.slice none 0 0,.slice none 0 0,.slice none 0 0,.slice none 0 0,.slice none 0 0]
def tyET:Ts:= .f (.b false) (.b true)
def tyEET:Ts:= .f (.b false) tyET
section st
structure SmC (T:List Ty) (F:List Ft) (R:List Rl) (b0 b1 b2 b3 b4 b5 b23 b93 base capt c12 c15:Nat) (At A12 A15:Option Addr) (cr:Array Value) (w wc:World):Prop where
  bel:Bel w wc
  bs:base≤wc.heap.size
  k0:Blk wc b0 32 zGr
  k1:Blk wc b1 41 #[.string ⟨#[101]⟩,.slice none 0 0]
  k2:Blk wc b2 41 #[.string ⟨#[116]⟩,.slice none 0 0]
  k3:Blk wc b3 41 #[.string tyET.sm.base,.slice A12 tyET.sm.args.length c12]
  k4:Blk wc b4 41 #[.string tyEET.sm.base,.slice A15 tyEET.sm.args.length c15]
  k93:Blk wc b93 49 cr
  dt:Fz [] base TS wc (fun w=>TypesIn w At T∧FeatsIn w (some ⟨b23,0,none⟩) F∧RlCs w R cr.toList)
  p12:Fz [] base TS wc (fun w=>SimsIn w A12 tyET.sm.args)
  p15:Fz [] base TS wc (fun w=>SimsIn w A15 tyEET.sm.args)
  lo5:w.heap.size≤b5
  lo93:w.heap.size≤b93
  o:b0 < b5∧b1 < b5∧b2 < b5∧b3 < b5∧b4 < b5∧b5 < b93
  l:b5 < base∧b93 < base
variable {T F R b0 b1 b2 b3 b4 b5 b23 b93 base capt c12 c15 At A12 A15 cr}
theorem SmC.tr {w wc w1:World} {Z:List Nat} (h:SmC T F R b0 b1 b2 b3 b4 b5 b23 b93 base capt c12 c15 At A12 A15 cr w wc) (hs:Same Z wc w1) (hz:∀ x ∈ Z,(x=b5∨base≤x)∧∃ t cs,Blk wc x t cs∧Sp TS t cs):SmC T F R b0 b1 b2 b3 b4 b5 b23 b93 base capt c12 c15 At A12 A15 cr w w1:=by
  obtain⟨o0,o1,o2,o3,o4,o9⟩:=h.o;obtain⟨l5,l9⟩:=h.l;have hf:∀ g ∈ Z,base≤g∨g ∈ []∨∃ t cs,Blk wc g t cs∧Sp TS t cs:=fun g hg=> .inr (.inr (hz g hg).2)
  have lo5:=h.lo5;have lo93:=h.lo93
  exact { h with
    bel:=h.bel.tr hs (fun x hx=>by rcases(hz x hx).1 with e | e <;> omega)
    bs:=nLT h.bs hs.size
    k0:=h.k0.tr hs (fun hx=>by rcases(hz _ hx).1 with e | e <;> omega)
    k1:=h.k1.tr hs (fun hx=>by rcases(hz _ hx).1 with e | e <;> omega)
    k2:=h.k2.tr hs (fun hx=>by rcases(hz _ hx).1 with e | e <;> omega)
    k3:=h.k3.tr hs (fun hx=>by rcases(hz _ hx).1 with e | e <;> omega)
    k4:=h.k4.tr hs (fun hx=>by rcases(hz _ hx).1 with e | e <;> omega)
    k93:=h.k93.tr hs (fun hx=>by rcases(hz _ hx).1 with e | e <;> omega)
    dt:=h.dt.trX hs hf
    p12:=h.p12.trX hs hf
    p15:=h.p15.trX hs hf }
theorem SmC.tr0 {w wc w1:World} (h:SmC T F R b0 b1 b2 b3 b4 b5 b23 b93 base capt c12 c15 At A12 A15 cr w wc) (hs:Same [] wc w1):SmC T F R b0 b1 b2 b3 b4 b5 b23 b93 base capt c12 c15 At A12 A15 cr w w1:=h.tr hs (by simp)
theorem SmC.add {w wc w1:World} {k cap:Nat} {A:Option Addr} {cs:Array Value} {xs:List Value} (h:SmC T F R b0 b1 b2 b3 b4 b5 b23 b93 base capt c12 c15 At A12 A15 cr w wc) (hS:Same (b5 :: aL A) wc w1) (hb:Blk wc b5 32 cs) (ho:Own wc base 46 9 A k cap xs):SmC T F R b0 b1 b2 b3 b4 b5 b23 b93 base capt c12 c15 At A12 A15 cr w w1:=
  h.tr hS (fun g hg=>by
    rcases List.mem_cons.1 hg with e | hg
    · exact⟨.inl e,_,_,by rw [e];exact hb,.inl dE⟩
    · obtain⟨cs,h⟩:=Qk ho g hg
      exact⟨.inr (ho.lt g hg).1,_,_,h,.inl dE⟩)
variable (T F R b0 b1 b2 b3 b4 b5 b23 b93 base capt c12 c15 At A12 A15 cr)
def SmSt (k:Nat) (lx:List Lx) (w wc:World):Prop:=SmC T F R b0 b1 b2 b3 b4 b5 b23 b93 base capt c12 c15 At A12 A15 cr w wc∧∃ A cap xs nL,Blk wc b5 32 #[.slice At 15 capt,.slice (some ⟨b23,0,none⟩) 5 5,.slice (some ⟨b93,0,none⟩) 6 6,.slice A k cap,.slice none 0 0]∧Own wc base 46 9 A k cap xs∧Fz [] nL TS wc (fun w=>LxData w lx xs)
variable {T F R b0 b1 b2 b3 b4 b5 b23 b93 base capt c12 c15 At A12 A15 cr}
theorem SmSt.tr0 {k:Nat} {lx:List Lx} {w wc w1:World} (h:SmSt T F R b0 b1 b2 b3 b4 b5 b23 b93 base capt c12 c15 At A12 A15 cr k lx w wc) (hs:Same [] wc w1):SmSt T F R b0 b1 b2 b3 b4 b5 b23 b93 base capt c12 c15 At A12 A15 cr k lx w w1:=by
  obtain⟨hC,A,cap,xs,nL,hb5,ho,hL⟩:=h;exact⟨hC.tr0 hs,A,cap,xs,nL,hb5.tr0 hs,ho.tr0 hs,hL.tr0 hs⟩
end st
def starB (g:List Nd):Bool:=(List.range g.length).all (fun i=>decide (i=0) || (List.range i).any (fun j=>(I0 g (j:Int)).ln.any (fun x=>decide (x.2=(i:Int)))))
theorem unr_star {g:List Nd} (h:starB g=true):Jz g= -1:=by
  refine(IQ (.inl ⟨rfl,?_⟩)).symm;intro i
  induction i using Nat.strongRecOn with
  | ind i ih=>
    intro hi;have h1:=List.all_eq_true.1 h i (List.mem_range.2 hi);by_cases e:i=0
    · subst e;exact .zero
    · simp only [e,decide_false,Bool.false_or] at h1
      obtain⟨j,hj,h2⟩:=List.any_eq_true.1 h1;obtain⟨x,hx,h3⟩:=List.any_eq_true.1 h2;have hji:=List.mem_range.1 hj;have hjl:j < g.length:=by omega
      have hx2:x ∈ (g[j]).ln:=by
        have e2:I0 g (j:Int)=g[j]:=by simp [I0,List.getD,hjl]
        rw [e2] at hx;exact hx
      have hr:=Rch.step (ih j hji hjl) hjl hx2;have e3:x.2=(i:Int):=by simpa using h3
      rw [e3] at hr;simpa using hr
def grB (T:List Ty) (F:List Ft) (g:List Nd):Bool:=decide ((vw T.length F.length g).1=0) && decide (tyF T F g=(0,0)) && starB g
theorem W8 {T:List Ty} {F:List Ft} {g:List Nd} (h:grB T F g=true):xj T F g=(0,0):=by
  simp only [grB,Bool.and_eq_true,decide_eq_true_eq] at h;exact JY h.1.1 h.1.2 (by rw [unr_star h.2];decide)
def tvB (x:Tv):Bool:=decide ((twk x.tm 1 0 0).2.1=0) && (tyv [] x).isSome
theorem tvB_ok {x:Tv} (h:tvB x=true):tmF x.tm=(0,0):=by
  simp only [tvB,Bool.and_eq_true,decide_eq_true_eq] at h;obtain⟨τ,hτ⟩:=Option.isSome_iff_exists.1 h.2;unfold tmF;rw [if_pos h.1,if_pos ⟨x,τ,rfl,hτ⟩]
structure RlS where
  name:ByteArray
  rows:List (List Int)
  kids:Int
  wt:Int
  mean:Tv
def RlS.rl (r:RlS):Rl:=⟨r.name,r.rows.map Yk,r.kids,r.wt,r.mean.tm⟩
structure LxS where
  word:ByteArray
  rows:List (List Int)
  wt:Int
  mean:Tv
def LxS.lx (r:LxS):Lx:=⟨r.word,r.rows.map Yk,r.wt,r.mean.tm⟩
def RlP (r:RlS) (w:World) (v:Value):Prop:=∃ G c n S cs B cb m,v= .agg #[.string r.name,.slice G r.rows.length c,.int .i64 r.kids,.int .i64 r.wt,.int .i64 r.mean.tm.kind,.string r.mean.tm.name,.int .i64 r.mean.tm.index,.string r.mean.tm.type.base,.slice S r.mean.tm.type.args.length cs,.slice B r.mean.tm.args.length cb]∧Fz [] n TS w (fun w=>NodesIn w G (r.rows.map Yk))∧Fz [] m TS w (fun w=>SimsIn w S r.mean.tm.type.args∧TmsIn w B r.mean.tm.args)
theorem RlP.tr0 {r:RlS} {w w1:World} {v:Value} (h:RlP r w v) (hs:Same [] w w1):RlP r w1 v:=by
  obtain⟨G,c,n,S,cs,B,cb,m,e,h1,h2⟩:=h;exact⟨G,c,n,S,cs,B,cb,m,e,h1.tr0 hs,h2.tr0 hs⟩
theorem Fz.rcons {r:RlS} {G S B:Option Addr} {c cs cb n m k:Nat} {l:List Rl} {vs:List Value} {w:World} (hG:Fz [] n TS w (fun w=>NodesIn w G (r.rows.map Yk))) (hM:Fz [] m TS w (fun w=>SimsIn w S r.mean.tm.type.args∧TmsIn w B r.mean.tm.args)) (hR:Fz [] k TS w (fun w=>RlCs w l vs)):
    Fz [] w.heap.size TS w (fun w=>RlCs w (r.rl :: l) (.string r.name :: .slice G r.rows.length c :: .int .i64 r.kids :: .int .i64 r.wt :: .int .i64 r.mean.tm.kind :: .string r.mean.tm.name :: .int .i64 r.mean.tm.index :: .string r.mean.tm.type.base :: .slice S r.mean.tm.type.args.length cs :: .slice B r.mean.tm.args.length cb :: vs)):=
  (hG.and (hM.and hR)).imp (fun _ h=>RlCs.cons (r:=r.rl) (by simp [RlS.rl]) h.1 h.2.1.1 h.2.1.2 h.2.2)
def rlB (T:List Ty) (F:List Ft) (r:RlS):Bool:=y8 r.name && !decide (Q4 r.rl) && grB T F r.rl.gr && uZ r.rl.gr r.kids && tvB r.mean
def lxB (T:List Ty) (F:List Ft) (r:LxS):Bool:=u9 r.word && !decide (J9 r.lx) && grB T F r.lx.gr && tvB r.mean
def rlsB (T:List Ty) (F:List Ft) (R:List RlS):Bool:=(List.range R.length).all (fun i=>match R[i]? with
  | none=>false
  | some r=>rlB T F r && !uy ((R.take i).map (·.name)) r.name)
def gramB (T:List Ty) (F:List Ft) (R:List RlS) (X:List LxS) (S:List Nd):Bool:=decide ((qj T F).1=0) && decide (3 < F.length) && decide (R.length≤40) && decide (X.length≤100) && rlsB T F R && X.all (lxB T F) && grB T F S
theorem rlB_ok {T:List Ty} {F:List Ft} {r:RlS} (h:rlB T F r=true):y8 r.rl.name=true∧V9 T F r.rl=0:=by
  simp only [rlB,Bool.and_eq_true,Bool.not_eq_true',decide_eq_false_iff_not] at h;refine⟨h.1.1.1.1,?_⟩;rw [rl_ok h.1.1.1.2 (by rw [W8 h.1.1.2]) h.1.2];exact congrArg (·.1) (tvB_ok h.2)
theorem lxB_ok {T:List Ty} {F:List Ft} {r:LxS} (h:lxB T F r=true):O1 T F r.lx=0:=by
  simp only [lxB,Bool.and_eq_true,Bool.not_eq_true',decide_eq_false_iff_not] at h;rw [lx_ok h.1.1.1 h.1.1.2 (by rw [W8 h.1.2])];exact congrArg (·.1) (tvB_ok h.2)
theorem rlsB_ok {T:List Ty} {F:List Ft} {R:List RlS} (h:rlsB T F R=true) {i:Nat} (hi:i < R.length):jq T F (R.map RlS.rl) i=0:=by
  have h1:=List.all_eq_true.1 h i (List.mem_range.2 hi);simp only [List.getElem?_eq_getElem hi,Bool.and_eq_true,Bool.not_eq_true'] at h1;have hi2:i < (R.map RlS.rl).length:=by simpa using hi
  have e:(R.map RlS.rl)[i]'hi2=(R[i]).rl:=by simp
  have e2:(((R.map RlS.rl).take i).map (·.name))=(R.take i).map (·.name):=by rw [← List.map_take,List.map_map];rfl
  obtain⟨a,b⟩:=rlB_ok h1.1;rw [rnF hi2 (by rw [e];exact a) (by rw [e,e2];exact h1.2),e];exact b
theorem I7 {f:Nat→Int}:∀ (m i:Nat),(∀ k,i≤k→k < i + m→f k=0)→qv f i m=(0,0)
  | 0,_,_=>rfl
  | m + 1,i,h=>by
    rw [qv,if_neg (fun e=>e (h i (Nat.le_refl _) om))]
    exact I7 m (i + 1) (fun k h1 h2=>h k om om)
theorem N5 {f:Nat→Int} {n:Nat} (h:∀ i,i < n→f i=0):qv f 0 n=(0,0):=I7 n 0 (fun k _ h2=>h k om)
theorem gram_ok {T:List Ty} {F:List Ft} {R:List RlS} {X:List LxS} {S:List Nd} (h:gramB T F R X S=true):qy T F (R.map RlS.rl) (X.map LxS.lx) S=(0,0):=by
  simp only [gramB,Bool.and_eq_true,decide_eq_true_eq] at h;obtain⟨⟨⟨⟨⟨⟨h1,h2⟩,h3⟩,h4⟩,h5⟩,h6⟩,h7⟩:=h;refine gr_ok h1 om (by simp only [List.length_map];omega) (N5 (fun i hi=>rlsB_ok h5 (by simpa using hi))) (N5 (fun i hi=>?_)) (by rw [W8 h7]);have hi2:i < X.length:=by simpa using hi
  rw [lnF hi,show (X.map LxS.lx)[i]'hi=(X[i]).lx by simp];exact lxB_ok (List.all_eq_true.1 h6 _ (List.getElem_mem hi2))
end Go.Proofs.YtdgnllfbooklcaaDoor
namespace Go.Proofs.YtdgnllfbooklcaaDoor
open Go.RowKit
theorem oW {f:Nat→Int}:∀ (m i:Nat),(qv f i m).1=0→∀ k,i≤k→k < i + m→f k=0
  | 0,i,_,k,h1,h2=>by omega
  | m + 1,i,h,k,h1,h2=>by
    by_cases e:f i=0
    · rw [qv,if_neg (fun h=>h e)] at h
      by_cases ek:k=i
      · rw [ek];exact e
      · exact oW m (i + 1) h k om om
    · rw [qv,if_pos e] at h
      exact absurd h e
theorem My {f:Nat→Int}:∀ (m i:Nat),(qv f i m).1=0→qv f i m=(0,0)
  | 0,i,_=>by rw [qv]
  | m + 1,i,h=>by
    by_cases e:f i=0
    · rw [qv,if_neg (fun h=>h e)] at h ⊢;exact My m (i + 1) h
    · rw [qv,if_pos e] at h;exact absurd h e
theorem Ly {l:List Ty} {fs:List Ft} {rs:List Rl} {xs:List Lx} {st:List Nd} (h:(qy l fs rs xs st).1=0):rs.length≤40∧xs.length≤100∧(∀ r ∈ rs,0≤r.wt∧r.wt≤1000000)∧(∀ x ∈ xs,0≤x.wt∧x.wt≤1000000)∧∀ r ∈ rs,1≤r.kids:=by
  have h1:(qj l fs).1=0:=by
    refine Classical.byContradiction (fun e=>?_);rw [J2 e] at h;exact e h
  have h2:¬fs.length≤3:=fun e=>by rw [O7 h1 e] at h;cases h
  have h3:¬(40 < rs.length∨100 < xs.length):=fun e=>by rw [I5 h1 h2 e] at h;cases h
  have h4:(qv (jq l fs rs) 0 rs.length).1=0:=by
    refine Classical.byContradiction (fun e=>?_);rw [Y5 (c:=(qv (jq l fs rs) 0 rs.length).1) (i:=(qv (jq l fs rs) 0 rs.length).2) h1 h2 h3 rfl e] at h;exact e h
  have h40:qv (jq l fs rs) 0 rs.length=(0,0):=My _ _ h4;have h5:(qv (J4 l fs xs) 0 xs.length).1=0:=by
    refine Classical.byContradiction (fun e=>?_);rw [W7 (c:=(qv (J4 l fs xs) 0 xs.length).1) (i:=(qv (J4 l fs xs) 0 xs.length).2) h1 h2 h3 h40 rfl e] at h;exact e h
  have key:∀ r ∈ rs,¬Q4 r:=by
    intro r hr;obtain⟨i,hi,rfl⟩:=List.getElem_of_mem hr;have q5:=oW _ _ h4 i (Nat.zero_le _) om;have q6:y8 (rs[i]).name=true:=by
      cases e:y8 (rs[i]).name with
      | true=>rfl
      | false=>rw [rn10 hi e] at q5;cases q5
    have q7:uy ((rs.take i).map (·.name)) (rs[i]).name=false:=by
      cases e:uy ((rs.take i).map (·.name)) (rs[i]).name with
      | false=>rfl
      | true=>rw [rn7 hi q6 e] at q5;cases q5
    rw [rnF hi q6 q7] at q5;intro e;rw [Cv e] at q5;cases q5
  refine⟨by omega,by omega,fun r hr=>?_,fun x hx=>?_,fun r hr=>?_⟩
  · have:=key r hr;unfold Q4 at this;omega
  · obtain⟨i,hi,rfl⟩:=List.getElem_of_mem hx
    have q5:=oW _ _ h5 i (Nat.zero_le _) om;rw [lnF hi] at q5;have q6:u9 (xs[i]).word=true:=by
      cases e:u9 (xs[i]).word with
      | true=>rfl
      | false=>rw [CJ e] at q5;cases q5
    have:¬J9 xs[i]:=fun e=>by rw [FY q6 e] at q5;cases q5
    unfold J9 at this;omega
  · have:=key r hr;unfold Q4 at this;omega
end Go.Proofs.YtdgnllfbooklcaaDoor
namespace Go.Proofs.YtdgnllfbooklcaaDoor
open Go.RowKit
set_option maxHeartbeats 1000000 in
theorem rc_any (s:ByteArray) (w:World) (hsz:s.size < 9223372036854775807):Calls Tryd.prog 82 #[.string s] w fun e w'=>e= .returned (.int .i64 (((ch s 0).length:Nat):Int))∧Bel w w':=by
 refine enter Tryd.func82 Tryd.ntmps82 rfl (Nat.le_of_ble_eq_true rfl) ?_;have hB:Bel w w:=Below.refl _ _;refine zn9 ?_;refine wl_rg U9 rfl (fun b4 w1 hb4 s1 hr=>?_);have lo4:=nLT (Bel.size hB) hr;refine zn3 ?_;replace hB:=hB.tr0 s1;refine qJ [2,5,6,7,8] (fun m g w'=>∃ p n:Nat,p≤s.size∧m=s.size - p∧n≤p∧g 2= .int .i64 n∧n + (ch s p).length=(ch s 0).length∧Bel w w'∧ItIn w' b4 s p) (s.size) ?_ (fun m g2 w2 hI=>?_)
 ·exact⟨0,0,Nat.zero_le _,rfl,Nat.le_refl _,rfl,Nat.zero_add _,hB,hb4⟩
 obtain⟨p,n,hp,hm,hnp,h2,hc,hB,hb4⟩:=hI;refine zQ 2 _ h2 nu (zn2 ?_);rcases Nat.lt_or_ge (p) (s).size with hnlt | hnge
 ·refine wl_nx hb4 rfl hnlt (fun w3 hq s2=>?_);replace hb4:=hq;have hwp:=VV hnlt;have hwl:=wdt_le hnlt;rw [NW hnlt,List.length_cons] at hc;refine wl (yk (v:= .bool true) rfl rfl) (Zk ?_);refine yq (s.size - (p + wdt s p)) om agA ?_;replace hB:=hB.tr1 s2 lo4;exact⟨p + wdt s p,n + 1,hwl,rfl,by omega,rfl,by omega,hB,hb4⟩
 refine wl (r_ne hb4 rfl (Nat.not_lt.2 hnge)) ?_;rw [Ww (Nat.not_lt.2 hnge),List.length_nil,Nat.add_zero] at hc;refine wl (yk (v:= .bool false) rfl rfl) (Bx ?_);exact⟨by rw [← hc];rfl,hB⟩
set_option maxHeartbeats 2000000 in
theorem Q0 (s:ByteArray) (w:World) (h8:8≤s.size):Calls Tryd.prog 89 #[.string s] w fun e w'=>e= .returned (.int .u64 ((wo 7 s:Nat):Int))∧Bel w w':=by
 have q0:=gX s 0;have q1:=gX s 1;have q2:=gX s 2;have q3:=gX s 3;have q4:=gX s 4;have q5:=gX s 5;have q6:=gX s 6;have q7:=gX s 7;have r0:=jK s (k:=0) dE;have r1:=jK s (k:=1) dE;have r2:=jK s (k:=2) dE;have r3:=jK s (k:=3) dE;have r4:=jK s (k:=4) dE;have r5:=jK s (k:=5) dE;have r6:=jK s (k:=6) dE;have r7:=jK s (k:=7) dE;refine enter Tryd.func89 Tryd.ntmps89 rfl (Nat.le_of_ble_eq_true rfl) ?_;have hB:Bel w w:=Below.refl _ _;refine jy ?_;refine gK kR kR (fun w1 s1=>?_);refine zn1 ?_;refine ws (jV (i:=0) U9 rfl rfl om) (ws (KK U5 Yw rfl (MZ om)) (zn1 ?_));refine ws (jV (i:=1) U9 rfl rfl om) (ws (KK U5 Yw rfl (MZ om)) (ws (Jw (b:=8) rfl rfl dE om rfl) (ws (X8 rfl rfl r0 om) (zn1 ?_))));refine ws (jV (i:=2) U9 rfl rfl om) (ws (KK U5 Yw rfl (MZ om)) (ws (Jw (b:=16) rfl rfl dE om rfl) (ws (X8 rfl rfl r1 om) (zn1 ?_))));refine ws (jV (i:=3) U9 rfl rfl om) (ws (KK U5 Yw rfl (MZ om)) (ws (Jw (b:=24) rfl rfl dE om rfl) (ws (X8 rfl rfl r2 om) (zn1 ?_))));refine ws (jV (i:=4) U9 rfl rfl om) (ws (KK U5 Yw rfl (MZ om)) (ws (Jw (b:=32) rfl rfl dE om rfl) (ws (X8 rfl rfl r3 om) (zn1 ?_))));refine ws (jV (i:=5) U9 rfl rfl om) (ws (KK U5 Yw rfl (MZ om)) (ws (Jw (b:=40) rfl rfl dE om rfl) (ws (X8 rfl rfl r4 om) (zn1 ?_))));refine ws (jV (i:=6) U9 rfl rfl om) (ws (KK U5 Yw rfl (MZ om)) (ws (Jw (b:=48) rfl rfl dE om rfl) (ws (X8 rfl rfl r5 om) (zn1 ?_))));refine ws (jV (i:=7) U9 rfl rfl om) (ws (KK U5 Yw rfl (MZ om)) (ws (Jw (b:=56) rfl rfl dE om rfl) (ws (X8 rfl rfl r6 om) (zn1 ?_))));refine u4 (zn3 ?_);replace hB:=hB.tr0 s1;exact⟨rfl,hB⟩
end Go.Proofs.YtdgnllfbooklcaaDoor
namespace Go.Proofs.YtdgnllfbooklcaaDoor
open Go.RowKit
theorem Blk.sub {w:World} {b t o n:Nat} {cs:Array Value} {xs:List Value} (h:Blk w b t cs) (hx:(cs.toList.drop o).take n=xs):w.rangeAt b o xs:=h.range (fun j v hj=>by
  subst hx
  rw [List.getElem?_take] at hj
  split at hj
  · rw [List.getElem?_drop] at hj
    simpa using hj
  · cases hj)
inductive StkS (w:World):List (Sm×Nat)→List Value→Prop
  | nil:StkS w [] []
  | snoc {l:List (Sm×Nat)} {vs:List Value} {s:Sm} {d:Nat} {A:Option Addr} {c:Nat} (h:StkS w l vs) (hs:SimsIn w A s.args):StkS w (l ++ [(s,d)]) (vs ++ [.string s.base,.slice A s.args.length c,.int .i64 d])
theorem StkS.len {w:World} {l:List (Sm×Nat)} {vs:List Value} (h:StkS w l vs):vs.length=l.length * 3:=by
  induction h with
  | nil=>rfl
  | snoc h hs ih=>simp only [List.length_append,ih,List.length_cons,List.length_nil];omega
theorem StkS.pop {w:World} {l:List (Sm×Nat)} {vs:List Value} (h:StkS w l vs) (hl:0 < l.length):∃ l' vs' s d A c,l=l' ++ [(s,d)]∧vs=vs' ++ [.string s.base,.slice A s.args.length c,.int .i64 (d:Nat)]∧StkS w l' vs'∧SimsIn w A s.args:=by
  cases h with
  | nil=>simp at hl
  | snoc h hs=>exact⟨_,_,_,_,_,_,rfl,rfl,h,hs⟩
inductive StkT (w:World):List (Tm×Nat×Nat)→List Value→Prop
  | nil:StkT w [] []
  | snoc {l:List (Tm×Nat×Nat)} {vs:List Value} {t:Tm} {d b:Nat} {A B:Option Addr} {c m:Nat} (h:StkT w l vs) (hs:SimsIn w A t.type.args) (ht:TmsIn w B t.args):StkT w (l ++ [(t,d,b)]) (vs ++ [.int .i64 t.kind,.string t.name,.int .i64 t.index,.string t.type.base,.slice A t.type.args.length c,.slice B t.args.length m,.int .i64 d,.int .i64 b])
theorem StkT.len {w:World} {l:List (Tm×Nat×Nat)} {vs:List Value} (h:StkT w l vs):vs.length=l.length * 8:=by
  induction h with
  | nil=>rfl
  | snoc h hs ht ih=>simp only [List.length_append,ih,List.length_cons,List.length_nil];omega
theorem StkT.pop {w:World} {l:List (Tm×Nat×Nat)} {vs:List Value} (h:StkT w l vs) (hl:0 < l.length):∃ l' vs' t d b A B c m,l=l' ++ [(t,d,b)]∧vs=vs' ++ [.int .i64 t.kind,.string t.name,.int .i64 t.index,.string t.type.base,.slice A t.type.args.length c,.slice B t.args.length m,.int .i64 (d:Nat),.int .i64 (b:Nat)]∧StkT w l' vs'∧SimsIn w A t.type.args∧TmsIn w B t.args:=by
  cases h with
  | nil=>simp at hl
  | snoc h hs ht=>exact⟨_,_,_,_,_,_,_,_,_,rfl,rfl,h,hs,ht⟩
theorem Ts.kids_len (τ:Ts):τ.sm.args.length≤2:=by cases τ <;> simp [Ts.sm,Sm.args]
def Ts.kids:Ts→List Ts
  | .b _=>[]
  | .f x y=>[x,y]
theorem Ts.kids_sm (τ:Ts):τ.sm.args=τ.kids.map Ts.sm:=by cases τ <;> rfl
theorem Ts.kids_lt {τ x:Ts} (h:x ∈ τ.kids):x.size < τ.size:=by
  cases τ with
  | b t=>cases h
  | f a b=>
    simp only [Ts.kids,List.mem_cons,List.not_mem_nil,or_false] at h;rcases h with rfl | rfl <;> simp only [Ts.size] <;> omega
theorem Ts.ext {a b:Ts} (hb:a.sm.base=b.sm.base) (hk:a.kids=b.kids):a=b:=by
  cases a with
  | b s=>cases b with
    | b t=>cases s <;> cases t <;> first | rfl | (exfalso;revert hb;simp [Ts.sm,Sm.base,smE,smT])
    | f x y=>cases hk
  | f x y=>cases b with
    | b t=>cases hk
    | f u v=>simp only [Ts.kids,List.cons.injEq,and_true] at hk;rw [hk.1,hk.2]
theorem SZ {w:World} {A:Option Addr} {τ:Ts} (h:SimsIn w A τ.sm.args) {k:Nat} (hk:k < τ.kids.length):∃ b o A' c,A=some ⟨b,o,none⟩∧b < w.heap.size∧w.rangeAt b (o + k * 2) [Value.string (τ.kids[k]).sm.base,.slice A' (τ.kids[k]).sm.args.length c]∧SimsIn w A' (τ.kids[k]).sm.args:=by
  obtain⟨b,o,A',c,h1,h2,h3,h4⟩:=h.at_ (k:=k) (by rw [Ts.kids_sm,List.length_map];exact hk);have e:τ.sm.args[k]'(by rw [Ts.kids_sm,List.length_map];exact hk)=(τ.kids[k]).sm:=by simp only [Ts.kids_sm,List.getElem_map]
  rw [e] at h3 h4;exact⟨b,o,A',c,h1,h2,h3,h4⟩
theorem take_kid {a b:List Ts} {j:Nat} (h:a.take j=b.take j) (ha:j < a.length) (hb:j < b.length) (e:a[j]=b[j]):a.take (j + 1)=b.take (j + 1):=by
  rw [List.take_succ_eq_append_getElem ha,List.take_succ_eq_append_getElem hb,h,e]
end Go.Proofs.YtdgnllfbooklcaaDoor
