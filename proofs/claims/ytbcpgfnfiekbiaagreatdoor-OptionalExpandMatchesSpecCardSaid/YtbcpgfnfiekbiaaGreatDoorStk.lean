/- What stays true of data while only blocks of some types, or newer blocks, are changed; simple types and terms as values of a call. No program in sight. Rows of ints as graphs: what graphOf lays. No program in sight. What lies behind the cells of a row of words, and of rules. No program in sight. Data in newer blocks, but for holes; rows of data; copies. No program in sight. What a grammar without faults holds; entries for unknown words. No program in sight. Optional rules: rules with daughters that may be left out, as a world holds them, and what is wrong with one. No program in sight. Stacks of types and terms that a world holds. No program in sight. -/
import Derived.Test.YtbcpgfnfiekbiaaGreatDoorGrm
import Derived.Test.YtbcpgfnfiekbiaaGreatDoorTrm
namespace Go.Proofs.YtbcpgfnfiekbiaaGreatDoor
open Go.RowKit
def zSm:Array Value:=#[.string ⟨#[]⟩,.slice none 0 0]
def zTm:Array Value:=#[.int .i64 0,.string ⟨#[]⟩,.int .i64 0,.string ⟨#[]⟩,.slice none 0 0,.slice none 0 0]
def Sp (ts:List Nat) (t:Nat) (cs:Array Value):Prop:=t ∈ ts∨(t=41∧cs=zSm)∨(t=44∧cs=zTm)
def Kp (X:List Nat) (n:Nat) (ts:List Nat) (w w2:World):Prop:=w.heap.size≤w2.heap.size∧∀ k,k < n→w2.heap[k]? =w.heap[k]?∨k ∈ X∨∃ t cs,Blk w k t cs∧Sp ts t cs
section kp
variable {X Y:List Nat} {n m:Nat} {ts us:List Nat} {w w1 w2:World} {P Q:World→Prop}
theorem Kp.refl (X:List Nat) (n:Nat) (ts:List Nat) (w:World):Kp X n ts w w:=⟨Nat.le_refl _,fun _ _=> .inl rfl⟩
theorem Kp.trans (h:Kp X n ts w w1) (g:Kp X n ts w1 w2):Kp X n ts w w2:=⟨nLT h.1 g.1,fun k hk=>by
  rcases h.2 k hk with e | e
  · rcases g.2 k hk with e2 | e2 | ⟨t,cs,e2,hs⟩
    · exact .inl (e2.trans e)
    · exact .inr (.inl e2)
    · exact .inr (.inr ⟨t,cs,e.symm.trans e2,hs⟩)
  · exact .inr e⟩
theorem Kp.of {Z:List Nat} (hs:Same Z w w1) (hn:n≤w.heap.size) (hx:∀ g ∈ Z,n≤g∨g ∈ X∨∃ t cs,Blk w g t cs∧Sp ts t cs):Kp X n ts w w1:=⟨hs.size,fun k hk=>by
  by_cases e:k ∈ Z
  · rcases hx k e with h | h
    · omega
    · exact .inr h
  · exact .inl (hs.blk k oM e)⟩
structure Fz (X:List Nat) (n:Nat) (ts:List Nat) (w:World) (P:World→Prop):Prop where
  le:n≤w.heap.size
  all:∀ w2,Kp X n ts w w2→P w2
theorem Fz.step (h:Fz X n ts w P) (hk:Kp X n ts w w1):Fz X n ts w1 P:=⟨nLT h.le hk.1,fun w2 h2=>h.all w2 (hk.trans h2)⟩
theorem Fz.now (h:Fz X n ts w P):P w:=h.all w (Kp.refl _ _ _ _)
theorem Fz.trX {Z:List Nat} (h:Fz X n ts w P) (hs:Same Z w w1) (hx:∀ g ∈ Z,n≤g∨g ∈ X∨∃ t cs,Blk w g t cs∧Sp ts t cs):Fz X n ts w1 P:=h.step (Kp.of hs h.le hx)
theorem Fz.tr0 (h:Fz X n ts w P) (hs:Same [] w w1):Fz X n ts w1 P:=h.trX hs (by simp)
theorem Fz.bel (h:Fz X n ts w P) (hb:Bel w w1):Fz X n ts w1 P:=h.tr0 (sB hb)
theorem Fz.in1 {b:Nat} (h:Fz X n ts w P) (hs:Same [b] w w1) (hb:b ∈ X):Fz X n ts w1 P:=h.trX hs (fun g hg=> .inr (.inl (by rw [List.mem_singleton.1 hg];exact hb)))
theorem Fz.sp1 {b t:Nat} {cs:Array Value} (h:Fz X n ts w P) (hs:Same [b] w w1) (hb:Blk w b t cs) (ht:Sp ts t cs):Fz X n ts w1 P:=h.trX hs (fun g hg=> .inr (.inr ⟨t,cs,by rw [List.mem_singleton.1 hg];exact hb,ht⟩))
theorem sp_tm {ts:List Nat}:Sp ts 44 #[.int .i64 0,.string ⟨#[]⟩,.int .i64 0,.string ⟨#[]⟩,.slice none 0 0,.slice none 0 0]:= .inr (.inr ⟨rfl,rfl⟩)
theorem Fz.free {b t:Nat} {cs:Array Value} (h:Fz X n ts w P) (hs:Same [b] w w1) (hb:Blk w b t cs) (ht:Sp ts t cs):Fz (b :: X) n ts w1 P:=⟨nLT h.le hs.size,fun w2 h2=>h.all w2 ⟨nLT hs.size h2.1,fun k hk=>by
  by_cases e:k=b
  · exact .inr (.inr ⟨t,cs,by rw [e];exact hb,ht⟩)
  have e1:=hs.blk k (nLL hk h.le) (by simpa using e)
  rcases h2.2 k hk with e2 | e2 | ⟨t',cs',e2,hs2⟩
  · exact .inl (e2.trans e1)
  · rcases List.mem_cons.1 e2 with e3 | e3
    · exact absurd e3 e
    · exact .inr (.inl e3)
  · exact .inr (.inr ⟨t',cs',e1.symm.trans e2,hs2⟩)⟩⟩
theorem Fz.mono (h:Fz X n ts w P) (hm:n≤m) (hw:m≤w.heap.size):Fz X m ts w P:=⟨hw,fun w2 h2=>h.all w2 ⟨h2.1,fun k hk=>h2.2 k oM⟩⟩
theorem Fz.up (h:Fz X n ts w P):Fz X w.heap.size ts w P:=h.mono h.le (Nat.le_refl _)
theorem Fz.less (h:Fz Y n ts w P) (hs:∀ x ∈ X,x ∈ Y):Fz X n ts w P:=⟨h.le,fun w2 h2=>h.all w2 ⟨h2.1,fun k hk=>by
  rcases h2.2 k hk with e | e | e
  · exact .inl e
  · exact .inr (.inl (hs k e))
  · exact .inr (.inr e)⟩⟩
theorem Fz.addX (h:Fz X n ts w P) (hy:∀ y ∈ Y,y ∈ X∨n≤y):Fz Y n ts w P:=⟨h.le,fun w2 h2=>h.all w2 ⟨h2.1,fun k hk=>by
  rcases h2.2 k hk with e | e | e
  · exact .inl e
  · rcases hy k e with h3 | h3
    · exact .inr (.inl h3)
    · omega
  · exact .inr (.inr e)⟩⟩
theorem Fz.nil (h:Fz X n ts w P):Fz [] n ts w P:=h.less (by simp)
theorem Fz.sub (h:Fz X n us w P) (hs:∀ t ∈ ts,t ∈ us):Fz X n ts w P:=⟨h.le,fun w2 h2=>h.all w2 ⟨h2.1,fun k hk=>by
  rcases h2.2 k hk with e | e | ⟨t,cs,r,q⟩
  · exact .inl e
  · exact .inr (.inl e)
  · refine .inr (.inr ⟨t,cs,r,?_⟩)
    rcases q with q | q
    · exact .inl (hs t q)
    · exact .inr q⟩⟩
theorem Fz.imp (h:Fz X n ts w P) (hi:∀ w,P w→Q w):Fz X n ts w Q:=⟨h.le,fun w2 h2=>hi w2 (h.all w2 h2)⟩
theorem Fz.and (h:Fz X n ts w P) (g:Fz X m ts w Q):Fz X w.heap.size ts w (fun w=>P w∧Q w):=⟨Nat.le_refl _,fun w2 h2=>⟨h.up.all w2 h2,g.up.all w2 h2⟩⟩
theorem Fz.triv (X:List Nat) (w:World) (ts:List Nat) (h:∀ w,P w):Fz X w.heap.size ts w P:=⟨Nat.le_refl _,fun w2 _=>h w2⟩
theorem Fz.blk {b t:Nat} {cs:Array Value} (h:Blk w b t cs) (hx:b ∉ X) (ht:¬Sp ts t cs):Fz X w.heap.size ts w (fun w=>Blk w b t cs):=⟨Nat.le_refl _,fun w2 h2=>by
  rcases h2.2 b h.lt with e | e | ⟨t',cs',e,hs⟩
  · exact e.trans h
  · exact absurd e hx
  · have he:(some (Obj.cells cs t (0,0)))=some (.cells cs' t' (0,0)):=h.symm.trans e
    injection he with he
    injection he with e1 e2
    subst e1;subst e2
    exact absurd hs ht⟩
end kp
def TS:List Nat:=[54,46,32,57]
def SmD (X:List Nat) (τ:Ts) (w:World) (v:Value):Prop:=∃ A c n,v= .agg #[.string τ.sm.base,.slice A τ.sm.args.length c]∧Fz X n TS w (fun w=>SimsIn w A τ.sm.args)
def TmD (X:List Nat) (x:Tv) (w:World) (v:Value):Prop:=∃ S cs B cb n,v= .agg #[.int .i64 x.tm.kind,.string x.tm.name,.int .i64 x.tm.index,.string x.tm.type.base,.slice S x.tm.type.args.length cs,.slice B x.tm.args.length cb]∧Fz X n TS w (fun w=>SimsIn w S x.tm.type.args∧TmsIn w B x.tm.args)
theorem SmD.tr0 {X:List Nat} {τ:Ts} {w w1:World} {v:Value} (h:SmD X τ w v) (hs:Same [] w w1):SmD X τ w1 v:=by
  obtain⟨A,c,n,e,hz⟩:=h;exact⟨A,c,n,e,hz.tr0 hs⟩
theorem TmD.tr0 {X:List Nat} {x:Tv} {w w1:World} {v:Value} (h:TmD X x w v) (hs:Same [] w w1):TmD X x w1 v:=by
  obtain⟨A,c,B,m,n,e,hz⟩:=h;exact⟨A,c,B,m,n,e,hz.tr0 hs⟩
theorem Ek {w:World} {b t:Nat} {s1 s2:Sm} {A1 A2:Option Addr} {c1 c2:Nat} (h:Blk w b t #[.string s1.base,.slice A1 s1.args.length c1,.string s2.base,.slice A2 s2.args.length c2]) (h1:SimsIn w A1 s1.args) (h2:SimsIn w A2 s2.args):SimsIn w (some ⟨b,0,none⟩) [s1,s2]:=by
  cases s1 with
  | mk b1 a1=>
    cases s2 with
    | mk b2 a2=>
      refine .more (by show 2≤yJ;decide) h.lt (fun k hk=>?_)
      match k,hk with
      | 0,_=>exact SimAt.mk (A:=A1) (c:=c1) h.lt (h.range (fun j v hj=>by match j,hj with | 0,hj=>cases hj;rfl | 1,hj=>cases hj;rfl | _ + 2,hj=>cases hj)) h1
      | 1,_=>exact SimAt.mk (A:=A2) (c:=c2) h.lt (h.range (fun j v hj=>by match j,hj with | 0,hj=>cases hj;rfl | 1,hj=>cases hj;rfl | _ + 2,hj=>cases hj)) h2
def tmC (t:Tm) (S B:Option Addr) (cs cb:Nat):List Value:=[.int .i64 t.kind,.string t.name,.int .i64 t.index,.string t.type.base,.slice S t.type.args.length cs,.slice B t.args.length cb]
theorem tm_at {w:World} {b o:Nat} {t:Tm} {S B:Option Addr} {cs cb:Nat} (hb:b < w.heap.size) (h:w.rangeAt b o (tmC t S B cs cb)) (h1:SimsIn w S t.type.args) (h2:TmsIn w B t.args):TmAt w b o t:=by
  cases t with
  | mk k nm i s a=>exact .mk hb h h1 h2
theorem V1 {w:World} {b t o:Nat} {cs:Array Value} {l:List Value} (h:Blk w b t cs) (ho:∀ j v,l[j]? =some v→cs[o + j]? =some v):w.rangeAt b o l:=h.range (fun j v hj=>ho j v hj)
theorem Ck {w:World} {b t:Nat} {x:Tm} {S B:Option Addr} {cs cb:Nat} (h:Blk w b t (tmC x S B cs cb).toArray) (h1:SimsIn w S x.type.args) (h2:TmsIn w B x.args):TmsIn w (some ⟨b,0,none⟩) [x]:=
  .more (by show 1≤yJ;decide) h.lt (fun k hk=>by
    match k,hk with
    | 0,_=>exact tm_at h.lt (V1 h (fun j v hj=>by simpa using hj)) h1 h2)
theorem tms_two {w:World} {b t:Nat} {x y:Tm} {S B S' B':Option Addr} {cs cb cs' cb':Nat} (h:Blk w b t (tmC x S B cs cb ++ tmC y S' B' cs' cb').toArray) (h1:SimsIn w S x.type.args) (h2:TmsIn w B x.args) (h3:SimsIn w S' y.type.args) (h4:TmsIn w B' y.args):TmsIn w (some ⟨b,0,none⟩) [x,y]:=
  .more (by show 2≤yJ;decide) h.lt (fun k hk=>by
    match k,hk with
    | 0,_=>exact tm_at h.lt (V1 h (fun j v hj=>by
        have hl:j < 6:=(List.getElem?_eq_some_iff.1 hj).1
        rw [List.getElem?_toArray,List.getElem?_append_left (by show 0 + j < 6;omega),Nat.zero_add];exact hj)) h1 h2
    | 1,_=>exact tm_at h.lt (V1 h (fun j v hj=>by
        rw [List.getElem?_toArray,List.getElem?_append_right (by show 6≤0 + 1 * 6 + j;omega),show 0 + 1 * 6 + j - (tmC x S B cs cb).length=j by show 0 + 1 * 6 + j - 6=j;omega];exact hj)) h3 h4)
theorem tv_kind (x:Tv):x.tm.kind≠0:=by cases x <;> simp [Tv.tm,Tm.kind]
theorem nsp_sm {s1 s2:Sm} {A1 A2:Option Addr} {m1 m2 c1 c2:Nat}:¬Sp TS 41 #[.string s1.base,.slice A1 m1 c1,.string s2.base,.slice A2 m2 c2]:=by
  rintro (h | ⟨_,h⟩ | ⟨h,_⟩)
  · revert h;decide
  · exact absurd (show (4:Nat)=2 from congrArg Array.size h) dE
  · revert h;decide
theorem nsp_tm {x:Tv} {l:List Value}:¬Sp TS 44 (Value.int .i64 x.tm.kind :: l).toArray:=by
  rintro (h | ⟨h,_⟩ | ⟨_,h⟩)
  · revert h;decide
  · revert h;decide
  · have h2:=congrArg (fun a:Array Value=>a[0]?) h
    simp [zTm] at h2;exact tv_kind x h2
section mk
variable {X:List Nat} {w:World}
theorem SmD.two {a b:Ts} {g:Nat} {A1 A2:Option Addr} {c1 c2 n1 n2:Nat} (h:Blk w g 41 #[.string a.sm.base,.slice A1 a.sm.args.length c1,.string b.sm.base,.slice A2 b.sm.args.length c2]) (hg:g ∉ X) (h1:Fz X n1 TS w (fun w=>SimsIn w A1 a.sm.args)) (h2:Fz X n2 TS w (fun w=>SimsIn w A2 b.sm.args)):SmD X (.f a b) w (.agg #[.string ⟨#[]⟩,.slice (some ⟨g,0,none⟩) 2 2]):=
  ⟨_,2,_,rfl,((Fz.blk h hg nsp_sm).and (h1.and h2)).imp (fun _ h=>Ek h.1 h.2.1 h.2.2)⟩
theorem TmD.con (nm:ByteArray) {τ:Ts} {A:Option Addr} {c n:Nat} (h:Fz X n TS w (fun w=>SimsIn w A τ.sm.args)):TmD X (.con nm τ) w (.agg #[.int .i64 1,.string nm,.int .i64 0,.string τ.sm.base,.slice A τ.sm.args.length c,.slice none 0 0]):=
  ⟨A,c,none,0,n,rfl,h.imp (fun _ h=>⟨h,.nil⟩)⟩
theorem TmD.var (i:Nat):TmD X (.var i) w (.agg #[.int .i64 2,.string ⟨#[]⟩,.int .i64 i,.string ⟨#[]⟩,.slice none 0 0,.slice none 0 0]):=
  ⟨none,0,none,0,w.heap.size,rfl,Fz.triv X w TS (fun _=>⟨.nil,.nil⟩)⟩
theorem TmD.abs {τ:Ts} {x:Tv} {g:Nat} {A S B:Option Addr} {c n cs cb m:Nat} (h:Fz X n TS w (fun w=>SimsIn w A τ.sm.args)) (hg:Blk w g 44 #[.int .i64 x.tm.kind,.string x.tm.name,.int .i64 x.tm.index,.string x.tm.type.base,.slice S x.tm.type.args.length cs,.slice B x.tm.args.length cb]) (hgx:g ∉ X) (hx:Fz X m TS w (fun w=>SimsIn w S x.tm.type.args∧TmsIn w B x.tm.args)):TmD X (.abs τ x) w (.agg #[.int .i64 3,.string ⟨#[]⟩,.int .i64 0,.string τ.sm.base,.slice A τ.sm.args.length c,.slice (some ⟨g,0,none⟩) 1 1]):=
  ⟨A,c,_,1,_,rfl,((Fz.blk hg hgx nsp_tm).and (h.and hx)).imp (fun _ h=>⟨h.2.1,Ck h.1 h.2.2.1 h.2.2.2⟩)⟩
theorem TmD.app {x y:Tv} {g:Nat} {S B S' B':Option Addr} {cs cb m cs' cb' m':Nat} (hg:Blk w g 44 #[.int .i64 x.tm.kind,.string x.tm.name,.int .i64 x.tm.index,.string x.tm.type.base,.slice S x.tm.type.args.length cs,.slice B x.tm.args.length cb,.int .i64 y.tm.kind,.string y.tm.name,.int .i64 y.tm.index,.string y.tm.type.base,.slice S' y.tm.type.args.length cs',.slice B' y.tm.args.length cb']) (hgx:g ∉ X) (hx:Fz X m TS w (fun w=>SimsIn w S x.tm.type.args∧TmsIn w B x.tm.args)) (hy:Fz X m' TS w (fun w=>SimsIn w S' y.tm.type.args∧TmsIn w B' y.tm.args)):TmD X (.app x y) w (.agg #[.int .i64 4,.string ⟨#[]⟩,.int .i64 0,.string ⟨#[]⟩,.slice none 0 0,.slice (some ⟨g,0,none⟩) 2 2]):=
  ⟨none,0,_,2,_,rfl,((Fz.blk hg hgx nsp_tm).and (hx.and hy)).imp (fun _ h=>⟨.nil,tms_two h.1 h.2.1.1 h.2.1.2 h.2.2.1 h.2.2.2⟩)⟩
end mk
inductive TmCs (n:Nat) (w:World):List Tv→List Value→Prop
  | nil:TmCs n w [] []
  | cons {x:Tv} {S B:Option Addr} {cs cb:Nat} {l:List Tv} {vs:List Value} (h:Fz [] n TS w (fun w=>SimsIn w S x.tm.type.args∧TmsIn w B x.tm.args)) (t:TmCs n w l vs):TmCs n w (x :: l) (.int .i64 x.tm.kind :: .string x.tm.name :: .int .i64 x.tm.index :: .string x.tm.type.base :: .slice S x.tm.type.args.length cs :: .slice B x.tm.args.length cb :: vs)
theorem TmCs.tr0 {n:Nat} {w w1:World} {l:List Tv} {vs:List Value} (h:TmCs n w l vs) (hs:Same [] w w1):TmCs n w1 l vs:=by
  induction h with
  | nil=>exact .nil
  | cons h _ ih=>exact .cons (h.tr0 hs) ih
theorem TmCs.get {n:Nat} {w:World} {l:List Tv} {vs:List Value} (h:TmCs n w l vs):∀ k (hk:k < l.length),∃ S B cs cb,(∀ j v,(tmC (l[k]).tm S B cs cb)[j]? =some v→vs[k * 6 + j]? =some v)∧Fz [] n TS w (fun w=>SimsIn w S (l[k]).tm.type.args∧TmsIn w B (l[k]).tm.args):=by
  induction h with
  | nil=>intro k hk;simp at hk
  | @cons x S B cs cb l vs h t ih=>
    intro k hk
    match k,hk with
    | 0,_=>
      refine⟨S,B,cs,cb,fun j v hj=>?_,h⟩
      match j,hj with
      | 0,hj=>exact hj
      | 1,hj=>exact hj
      | 2,hj=>exact hj
      | 3,hj=>exact hj
      | 4,hj=>exact hj
      | 5,hj=>exact hj
      | _ + 6,hj=>cases hj
    | k + 1,hk=>
      obtain⟨S',B',cs',cb',h1,h2⟩:=ih k (by simpa using hk);refine⟨S',B',cs',cb',fun j v hj=>?_,h2⟩;rw [show (k + 1) * 6 + j=k * 6 + j + 6 by omega];exact h1 j v hj
theorem TmCs.at_ {n b t:Nat} {w:World} {l:List Tv} {vs:List Value} (h:TmCs n w l vs) (hb:Blk w b t vs.toArray) {k:Nat} (hk:k < l.length):∃ S B cs cb,w.rangeAt b (0 + k * 6) [.int .i64 (l[k]).tm.kind,.string (l[k]).tm.name,.int .i64 (l[k]).tm.index,.string (l[k]).tm.type.base,.slice S (l[k]).tm.type.args.length cs,.slice B (l[k]).tm.args.length cb]∧Fz [] n TS w (fun w=>SimsIn w S (l[k]).tm.type.args∧TmsIn w B (l[k]).tm.args):=by
  obtain⟨S,B,cs,cb,h1,h2⟩:=h.get k hk;exact⟨S,B,cs,cb,V1 hb (fun j v hj=>by rw [List.getElem?_toArray,Nat.zero_add];exact h1 j v hj),h2⟩
end Go.Proofs.YtbcpgfnfiekbiaaGreatDoor
namespace Go.Proofs.YtbcpgfnfiekbiaaGreatDoor
open Go.RowKit
def RowsIn (w:World) (A:Option Addr) (rs:List (List Int)):Prop:=
  rs.length≤1000∧(∀ r ∈ rs,0 < r.length∧r.length≤1000)∧(rs≠[]→∃ b o,A=some ⟨b,o,none⟩∧b < w.heap.size∧∀ k (h:k < rs.length),∃ A' c,w.cell? ⟨b,o + k * 1,none⟩=some (.slice A' (rs[k]).length c)∧IntsIn w A' rs[k])
theorem RowsIn.at_ {w w':World} {A:Option Addr} {rs:List (List Int)} (h:RowsIn w A rs) (hb:Bel w w') {k:Nat} (hk:k < rs.length):
    ∃ b o A' c,A=some ⟨b,o,none⟩∧w'.cell? ⟨b,o + k * 1,none⟩=some (.slice A' (rs[k]).length c)∧IntsIn w A' rs[k]:=by
  obtain⟨b,o,e,hl,hc⟩:=h.2.2 (by rintro rfl;simp at hk);obtain⟨A',c,h1,h2⟩:=hc k hk;exact⟨b,o,A',c,e,hb.cell hl h1,h2⟩
theorem RowsIn.mono {w w':World} {A:Option Addr} {rs:List (List Int)} (h:RowsIn w A rs) (hb:Bel w w'):RowsIn w' A rs:=
  ⟨h.1,h.2.1,fun hn=>by
    obtain⟨b,o,e,hl,hc⟩:=h.2.2 hn
    refine⟨b,o,e,nLL hl hb.size,fun k hk=>?_⟩
    obtain⟨A',c,h1,h2⟩:=hc k hk
    exact⟨A',c,hb.cell hl h1,h2.mono hb⟩⟩
def Qy:List Int→List (Int×Int)
  | a :: b :: t=>(a,b) :: Qy t
  | _=>[]
def XY (r:List Int):Nd:=⟨r.getD 0 0,Qy (r.drop 1)⟩
theorem pairs_end {r:List Int} {i:Nat} (h:r.length≤i + 1):Qy (r.drop i)= []:=by
  have hl:(r.drop i).length≤1:=by simp;omega
  match e:r.drop i with
  | []=>rfl
  | [a]=>rfl
  | a :: b :: t=>rw [e] at hl;simp at hl
theorem L6 {r:List Int} {i:Nat} (h:i + 1 < r.length):Qy (r.drop i)=(r[i],r[i + 1]) :: Qy (r.drop (i + 2)):=by
  rw [List.drop_eq_getElem_cons (show i < r.length by omega),List.drop_eq_getElem_cons h];rfl
def lnC (ls:List (Int×Int)):List Value:=ls.flatMap (fun x=>[.int .i64 x.1,.int .i64 x.2])
theorem lnC_snoc (ls:List (Int×Int)) (a b:Int):lnC ls ++ [.int .i64 a,.int .i64 b]=lnC (ls ++ [(a,b)]):=by simp [lnC]
theorem Sz (ls:List (Int×Int)):(lnC ls).length=ls.length * 2:=by
  induction ls with
  | nil=>rfl
  | cons a r ih=>rw [show lnC (a :: r)= .int .i64 a.1 :: .int .i64 a.2 :: lnC r from rfl];simp only [List.length_cons,ih];omega
theorem lnC_get:∀ {ls:List (Int×Int)} {k:Nat} (hk:k < ls.length),(lnC ls)[k * 2]? =some (.int .i64 (ls[k]).1)∧(lnC ls)[k * 2 + 1]? =some (.int .i64 (ls[k]).2)
  | a :: r,0,_=>⟨rfl,rfl⟩
  | a :: r,k + 1,hk=>by
    have:=lnC_get (ls:=r) (k:=k) (by simpa using hk)
    rw [show (k + 1) * 2=k * 2 + 1 + 1 by omega];exact this
theorem gof_links {w:World} {B:Nat} {A:Option Addr} {k cap:Nat} {ls:List (Int×Int)} (ho:Own w B 115 2 A k cap (lnC ls)):LinksIn w A ls:=by
  have hlk:ls.length=k:=by have h1:=ho.len;rw [Sz] at h1;omega
  refine⟨by rw [hlk];exact ho.max,fun hn=>?_⟩;obtain⟨g,e,hb,hg,hc⟩:=ho.cell (by intro h0;have:=Sz ls;rw [h0] at this;cases ls with | nil=>exact hn rfl | cons a r=>simp only [List.length_nil,List.length_cons] at this;omega);refine⟨g,0,e,hg,fun j hj=>?_⟩;obtain⟨h1,h2⟩:=lnC_get hj;intro i v hi
  match i,hi with
  | 0,hi=>cases hi;have:=hc _ _ h1;simpa using this
  | 1,hi=>cases hi;have:=hc _ _ h2;simpa using this
  | _ + 2,hi=>cases hi
theorem Own.fz {w:World} {B e sz:Nat} {ts:List Nat} {A:Option Addr} {k cap:Nat} {xs:List Value} (ho:Own w B e sz A k cap xs) (ht:∀ cs,¬Sp ts e cs):Fz [] w.heap.size ts w (fun w=>Own w B e sz A k cap xs):=⟨Nat.le_refl _,fun w2 h2=>by
  refine⟨ho.1,?_⟩
  rcases ho.2 with hn | ⟨g,c,cur,hv,hb,hg,r⟩
  · exact .inl hn
  · refine .inr ⟨g,c,cur,hv,hb,?_,r⟩
    exact(Fz.blk (X:=[]) (ts:=ts) (show Blk w g e cur from hg) (by simp) (ht _)).all w2 h2⟩
theorem Qq {w:World} {base:Nat} {e:TypeId} {sz:Nat} {A:Option Addr} {k cap:Nat} {xs:List Value} (h:Own w base e sz A k cap xs):∀ g ∈ aL A,∃ cs,Blk w g e cs:=fun g hg=>by
  rcases h.2 with ⟨hn,_⟩ | ⟨g',c,cur,hv,hb,hgg,r⟩
  · cases hn;cases hg
  · cases hv
    simp only [aL,List.mem_singleton] at hg
    subst hg;exact⟨cur,hgg⟩
theorem M1 {ts:List Nat} {t:Nat} (h:t ∉ ts) (h1:t≠41) (h2:t≠44) (cs:Array Value):¬Sp ts t cs:=by
  rintro (h3 | ⟨h3,_⟩ | ⟨h3,_⟩)
  · exact h h3
  · exact h1 h3
  · exact h2 h3
def TS1:List Nat:=113 :: 30 :: TS
inductive NdData (w:World):List Nd→List Value→Prop
  | nil:NdData w [] []
  | snoc {l:List Nd} {vs:List Value} {x:Nd} {A:Option Addr} {c:Nat} (h:NdData w l vs) (hl:LinksIn w A x.ln):NdData w (l ++ [x]) (vs ++ [.int .i64 x.ty,.slice A x.ln.length c])
theorem NdData.len {w:World} {l:List Nd} {vs:List Value} (h:NdData w l vs):vs.length=l.length * 2:=by
  induction h with
  | nil=>rfl
  | snoc h hl ih=>simp only [List.length_append,List.length_cons,List.length_nil,ih];omega
theorem NdData.get {w:World} {l:List Nd} {vs:List Value} (h:NdData w l vs):∀ k (hk:k < l.length),∃ A c,vs[k * 2]? =some (.int .i64 (l[k]).ty)∧vs[k * 2 + 1]? =some (.slice A (l[k]).ln.length c)∧LinksIn w A (l[k]).ln:=by
  induction h with
  | nil=>intro k hk;simp at hk
  | @snoc l cs t A c h hp ih=>
    intro k hk;have hlen:=h.len;by_cases e:k < l.length
    · obtain⟨A',c',h1,h2,h3⟩:=ih k e
      refine⟨A',c',?_,?_,?_⟩
      · rw [List.getElem?_append_left oM,h1,List.getElem_append_left e]
      · rw [List.getElem?_append_left oM,h2,List.getElem_append_left e]
      · rw [List.getElem_append_left e];exact h3
    · simp only [List.length_append,List.length_cons,List.length_nil] at hk
      have ek:k=l.length:=by omega
      subst ek;have eg:(l ++ [t])[l.length]'(by simp)=t:=by simp
      rw [eg];refine⟨A,c,?_,?_,hp⟩
      · rw [List.getElem?_append_right oM,hlen];simp
      · rw [List.getElem?_append_right oM,hlen];simp
theorem gof_nodes {w:World} {B:Nat} {A:Option Addr} {k cap:Nat} {cs:List Value} {l:List Nd} (ho:Own w B 113 2 A k cap cs) (ht:NdData w l cs):NodesIn w A l:=by
  have hlk:l.length=k:=by have h1:=ho.len;have h2:=ht.len;omega
  refine⟨by rw [hlk];exact ho.max,fun hn=>?_⟩
  obtain⟨g,e,hb,hg,hc⟩:=ho.cell (by
    intro h0;have:=ht.len;rw [h0] at this;cases l with
    | nil=>exact hn rfl
    | cons a r=>simp only [List.length_nil,List.length_cons] at this;omega)
  refine⟨g,0,e,hg,fun j hj=>?_⟩;obtain⟨A',c,h1,h2,h3⟩:=ht.get j hj;refine⟨A',c,?_,h3⟩;intro i v hi
  match i,hi with
  | 0,hi=>cases hi;have:=hc _ _ h1;simpa using this
  | 1,hi=>cases hi;have:=hc _ _ h2;simpa using this
  | _ + 2,hi=>cases hi
theorem gof_end {w:World} {B n:Nat} {A:Option Addr} {k cap:Nat} {cs:List Value} {l:List Nd} (ho:Own w B 113 2 A k cap cs) (ht:Fz [] n TS1 w (fun w=>NdData w l cs)):Fz [] w.heap.size TS w (fun w=>NodesIn w A l):=
  ((ho.fz (ts:=TS) (M1 dE dE dE)).and ((ht.up).sub dE)).imp (fun _ h=>gof_nodes h.1 h.2)
theorem gof_more {w:World} {B n:Nat} {A:Option Addr} {j cap:Nat} {vs:List Value} {l:List Nd} {ls:List (Int×Int)} {z:Int} (ho:Own w B 115 2 A j cap (lnC ls)) (ht:Fz [] n TS1 w (fun w=>NdData w l vs)):Fz [] w.heap.size TS1 w (fun w=>NdData w (l ++ [⟨z,ls⟩]) (vs ++ [.int .i64 z,.slice A j cap])):=by
  have hlk:ls.length=j:=by have h1:=ho.len;rw [Sz] at h1;omega
  subst hlk;exact((ho.fz (ts:=TS1) (M1 dE dE dE)).and ht).imp (fun _ h=> .snoc h.2 (gof_links h.1))
end Go.Proofs.YtbcpgfnfiekbiaaGreatDoor
namespace Go.Proofs.YtbcpgfnfiekbiaaGreatDoor
open Go.RowKit
inductive LxData (w:World):List Lx→List Value→Prop
  | nil:LxData w [] []
  | snoc {l:List Lx} {vs:List Value} {x:Lx} {G S B:Option Addr} {gn cg cs cb:Nat} (h:LxData w l vs) (hw:x.word.size < 9223372036854775807) (hn:gn=x.gr.length) (hG:NodesIn w G x.gr) (hS:SimsIn w S x.mean.type.args) (hT:TmsIn w B x.mean.args):LxData w (l ++ [x]) (vs ++ [.string x.word,.slice G gn cg,.int .i64 x.wt,.int .i64 x.mean.kind,.string x.mean.name,.int .i64 x.mean.index,.string x.mean.type.base,.slice S x.mean.type.args.length cs,.slice B x.mean.args.length cb])
def lxC (x:Lx) (G S B:Option Addr) (cg cs cb:Nat):List Value:=[.string x.word,.slice G x.gr.length cg,.int .i64 x.wt,.int .i64 x.mean.kind,.string x.mean.name,.int .i64 x.mean.index,.string x.mean.type.base,.slice S x.mean.type.args.length cs,.slice B x.mean.args.length cb]
theorem LxData.len {w:World} {l:List Lx} {vs:List Value} (h:LxData w l vs):vs.length=l.length * 9:=by
  induction h with
  | nil=>rfl
  | snoc h _ _ _ _ _ ih=>simp only [List.length_append,List.length_cons,List.length_nil,ih];omega
theorem LxData.get {w:World} {l:List Lx} {vs:List Value} (h:LxData w l vs):∀ k (hk:k < l.length),(l[k]).word.size < 9223372036854775807∧∃ G cg S cs B cb,(∀ j v,(lxC (l[k]) G S B cg cs cb)[j]? =some v→vs[k * 9 + j]? =some v)∧NodesIn w G (l[k]).gr∧SimsIn w S (l[k]).mean.type.args∧TmsIn w B (l[k]).mean.args:=by
  induction h with
  | nil=>intro k hk;simp at hk
  | @snoc l vs x G S B gn cg cs cb h hw hn hG hS hT ih=>
    intro k hk;have hlen:=h.len;by_cases e:k < l.length
    · rw [List.getElem_append_left e]
      obtain⟨h0,G',cg',S',cs',B',cb',h1,h2⟩:=ih k e;refine⟨h0,G',cg',S',cs',B',cb',fun j v hj=>?_,h2⟩;have hj9:j < 9:=(List.getElem?_eq_some_iff.1 hj).1;rw [List.getElem?_append_left oM];exact h1 j v hj
    · simp only [List.length_append,List.length_cons,List.length_nil] at hk
      have ek:k=l.length:=by omega
      subst ek;have eg:(l ++ [x])[l.length]'(by simp)=x:=by simp
      rw [eg];subst hn;refine⟨hw,G,cg,S,cs,B,cb,fun j v hj=>?_,hG,hS,hT⟩;rw [List.getElem?_append_right oM,hlen,Nat.add_sub_cancel_left];exact hj
theorem gof_lexes {w:World} {B:Nat} {A:Option Addr} {k cap:Nat} {cs:List Value} {l:List Lx} (ho:Own w B 46 9 A k cap cs) (ht:LxData w l cs):LexesIn w A l:=by
  have hlk:l.length=k:=by have h1:=ho.len;have h2:=ht.len;omega
  refine⟨by rw [hlk];exact ho.max,fun hn=>?_⟩
  obtain⟨g,e,hb,hg,hc⟩:=ho.cell (by
    intro h0;have:=ht.len;rw [h0] at this;cases l with
    | nil=>exact hn rfl
    | cons a r=>simp only [List.length_nil,List.length_cons] at this;omega)
  refine⟨g,0,e,hg,fun j hj=>?_⟩;obtain⟨h0,G,cg,S,cs',B',cb,h1,h2⟩:=ht.get j hj;refine⟨h0,G,cg,S,cs',B',cb,fun i v hi=>?_,h2⟩;have:=hc _ _ (h1 i v hi)
  simpa using this
end Go.Proofs.YtbcpgfnfiekbiaaGreatDoor
namespace Go.Proofs.YtbcpgfnfiekbiaaGreatDoor
open Go.RowKit
structure Hv (lo:Nat) (X:List Nat) (n:Nat) (w:World) (P:World→Prop):Prop where
  le:n≤w.heap.size
  all:∀ w2,w.heap.size≤w2.heap.size→(∀ k,lo≤k→k < n→k ∉ X→w2.heap[k]? =w.heap[k]?)→P w2
section hv
variable {lo lo2 n m:Nat} {X Y Z:List Nat} {w w1 w2:World} {P Q:World→Prop}
theorem Hv.now (h:Hv lo X n w P):P w:=h.all w (Nat.le_refl _) (fun _ _ _ _=>rfl)
theorem Hv.tr (h:Hv lo X n w P) (hs:Same Z w w1) (hz:∀ g ∈ Z,g < lo∨g ∈ X∨n≤g):Hv lo X n w1 P:=
  ⟨nLT h.le hs.size,fun w2 h2 hk=>h.all w2 (nLT hs.size h2) (fun k h3 h4 h5=>(hk k h3 h4 h5).trans (hs.blk k (nLL h4 h.le) (fun hm=>by
    rcases hz k hm with e | e | e
    · omega
    · exact h5 e
    · omega)))⟩
theorem Hv.tr0 (h:Hv lo X n w P) (hs:Same [] w w1):Hv lo X n w1 P:=h.tr hs (by simp)
theorem Hv.bel (h:Hv lo X n w P) (hb:Bel w w1):Hv lo X n w1 P:=h.tr0 (sB hb)
theorem Hv.in1 {b:Nat} (h:Hv lo X n w P) (hs:Same [b] w w1) (hb:b ∈ X):Hv lo X n w1 P:=h.tr hs (fun g hg=> .inr (.inl (by rw [List.mem_singleton.1 hg];exact hb)))
theorem Hv.lo1 {b:Nat} (h:Hv lo X n w P) (hs:Same [b] w w1) (hb:b < lo):Hv lo X n w1 P:=h.tr hs (fun g hg=> .inl (by rw [List.mem_singleton.1 hg];exact hb))
theorem Hv.mono (h:Hv lo X n w P) (hl:lo2≤lo) (hn:n≤m) (hm:m≤w.heap.size):Hv lo2 X m w P:=⟨hm,fun w2 h2 hk=>h.all w2 h2 (fun k h3 h4 h5=>hk k oM oM h5)⟩
theorem Hv.up (h:Hv lo X n w P):Hv lo X w.heap.size w P:=h.mono (Nat.le_refl _) h.le (Nat.le_refl _)
theorem Hv.hole (h:Hv lo X n w P) (hy:∀ y ∈ Y,y ∈ X∨y < lo∨n≤y):Hv lo Y n w P:=⟨h.le,fun w2 h2 hk=>h.all w2 h2 (fun k h3 h4 h5=>hk k h3 h4 (fun hm=>by
  rcases hy k hm with e | e | e
  · exact h5 e
  · omega
  · omega))⟩
theorem Hv.nil (h:Hv lo X n w P):Hv lo [] n w P:=h.hole (by simp)
theorem Hv.imp (h:Hv lo X n w P) (hi:∀ w,P w→Q w):Hv lo X n w Q:=⟨h.le,fun w2 h2 hk=>hi w2 (h.all w2 h2 hk)⟩
theorem Hv.and (h:Hv lo X n w P) (g:Hv lo X m w Q):Hv lo X w.heap.size w (fun w=>P w∧Q w):=⟨Nat.le_refl _,fun w2 h2 hk=>⟨h.up.all w2 h2 hk,g.up.all w2 h2 hk⟩⟩
theorem Hv.triv (lo:Nat) (X:List Nat) (w:World) (h:∀ w,P w):Hv lo X w.heap.size w P:=⟨Nat.le_refl _,fun w2 _ _=>h w2⟩
theorem Hv.blk {b t:Nat} {cs:Array Value} (h:Blk w b t cs) (hl:lo≤b) (hx:b ∉ X):Hv lo X w.heap.size w (fun w=>Blk w b t cs):=⟨Nat.le_refl _,fun _ _ hk=>(hk b hl h.lt hx).trans h⟩
theorem Hv.fr (h:∀ w2,FrSame lo w w2→P w2):Hv lo [] w.heap.size w P:=⟨Nat.le_refl _,fun w2 h2 hk=>h w2 ⟨h2,fun k h3 h4=>hk k h3 h4 (by simp)⟩⟩
end hv
inductive RowD {α:Type} (C:World→α→List Value→Prop) (sz:Nat) (w:World):List α→List Value→Prop
  | nil:RowD C sz w [] []
  | snoc {l:List α} {vs v:List Value} {x:α} (h:RowD C sz w l vs) (hv:v.length=sz) (hx:C w x v):RowD C sz w (l ++ [x]) (vs ++ v)
theorem RowD.len {α:Type} {C:World→α→List Value→Prop} {sz:Nat} {w:World} {l:List α} {vs:List Value} (h:RowD C sz w l vs):vs.length=l.length * sz:=by
  induction h with
  | nil=>simp
  | snoc h hv _ ih=>simp only [List.length_append,List.length_cons,List.length_nil,ih,hv,Nat.add_mul,Nat.zero_add,Nat.one_mul]
theorem RowD.get {α:Type} {C:World→α→List Value→Prop} {sz:Nat} {w:World} {l:List α} {vs:List Value} (h:RowD C sz w l vs):∀ k (hk:k < l.length),∃ v,v.length=sz∧C w l[k] v∧∀ j u,v[j]? =some u→vs[k * sz + j]? =some u:=by
  induction h with
  | nil=>intro k hk;simp at hk
  | @snoc l vs v x h hv hx ih=>
    intro k hk;have hlen:=h.len;by_cases e:k < l.length
    · rw [List.getElem_append_left e]
      obtain⟨v1,h0,h1,h2⟩:=ih k e;refine⟨v1,h0,h1,fun j u hj=>?_⟩;have hj9:j < sz:=by rw [← h0];exact(List.getElem?_eq_some_iff.1 hj).1
      have hm:(k + 1) * sz≤l.length * sz:=Nat.mul_le_mul_right _ e;rw [Nat.add_mul,Nat.one_mul] at hm;rw [List.getElem?_append_left oM];exact h2 j u hj
    · simp only [List.length_append,List.length_cons,List.length_nil] at hk
      have ek:k=l.length:=by omega
      subst ek;refine⟨v,hv,by simpa using hx,fun j u hj=>?_⟩;rw [List.getElem?_append_right oM,hlen,Nat.add_sub_cancel_left];exact hj
theorem own_at2 {w:World} {base k cap sz:Nat} {e:TypeId} {A:Option Addr} {vs:List Value} (ho:Own w base e sz A k cap vs) (hne:vs≠[]):∃ (g:Nat) (cs:Array Value),A=some ⟨g,0,none⟩∧base≤g∧Blk w g e cs∧∀ (j:Nat) (u:Value),vs[j]? =some u→cs[j]? =some u:=by
  rcases ho.2 with ⟨_,hn⟩ | ⟨g,c,cur,hv,hb,hg,hk,hm,hs,ht⟩
  · have h1:=ho.1
    rw [hn,Nat.zero_mul] at h1;exact absurd (List.length_eq_zero_iff.1 h1) hne
  · cases hv
    refine⟨g,cur,rfl,hb,hg,fun j u hj=>?_⟩;rw [← ht] at hj;have hjl:j < k * sz:=by
      have:=(List.getElem?_eq_some_iff.1 hj).1;rw [List.length_take] at this;omega
    rw [List.getElem?_take_of_lt hjl] at hj
    simpa using hj
theorem F7 {α:Type} {C:World→α→List Value→Prop} {R:World→Option Addr→List α→Prop} {sz:Nat} {w:World} {base lo k cap n:Nat} {e:TypeId} {A:Option Addr} {l:List α} {vs:List Value} {X Y:List Nat}
    (hR:∀ (w:World) (A:Option Addr),R w A [])
    (hC:∀ (w:World) (g:Nat) (cs:Array Value),Blk w g e cs→l.length≤yJ→(∀ k (hk:k < l.length),∃ v,C w l[k] v∧w.rangeAt g (0 + k * sz) v)→R w (some ⟨g,0,none⟩) l)
    (hz:0 < sz) (ho:Own w base e sz A k cap vs) (hb:lo≤base) (hd:Hv lo X n w (fun w=>RowD C sz w l vs)) (hY:∀ y ∈ Y,y ∈ X) (hA:∀ y ∈ Y,y ∉ aL A):Hv lo Y w.heap.size w (fun w=>R w A l):=by
  have hlen:=hd.now.len;cases hl:l with
  | nil=>exact Hv.triv _ _ _ (fun w=>hR w A)
  | cons a r=>
    rw [← hl];have hne:vs≠[]:=fun h0=>by
      rw [h0,hl] at hlen;simp only [List.length_nil,List.length_cons,Nat.add_mul] at hlen;omega
    obtain⟨g,cs,rfl,hg,hblk,hcs⟩:=own_at2 ho hne;have hmx:=ho.max;have hk:l.length=k:=by
      have h1:=ho.len;rw [hlen] at h1;exact Nat.eq_of_mul_eq_mul_right hz h1
    refine((Hv.blk hblk (nLT hb hg) (fun h=>hA g h (List.mem_singleton.2 rfl))).and (hd.hole (fun y hy=> .inl (hY y hy))).up).imp (fun w2 h=>?_);refine hC w2 g cs h.1 (by rw [hk];exact hmx) (fun i hi=>?_);obtain⟨v,hv,h1,h2⟩:=h.2.get i hi;refine⟨v,h1,h.1.range (fun j u hj=>?_)⟩;rw [Nat.zero_add];exact hcs _ _ (h2 j u hj)
theorem Bv {α:Type} {C:World→α→List Value→Prop} {R:World→Option Addr→List α→Prop} {sz:Nat} {w:World} {base lo k cap n:Nat} {e:TypeId} {A:Option Addr} {l:List α} {vs:List Value} {X:List Nat}
    (hR:∀ (w:World) (A:Option Addr),R w A [])
    (hC:∀ (w:World) (g:Nat) (cs:Array Value),Blk w g e cs→l.length≤yJ→(∀ k (hk:k < l.length),∃ v,C w l[k] v∧w.rangeAt g (0 + k * sz) v)→R w (some ⟨g,0,none⟩) l)
    (hz:0 < sz) (ho:Own w base e sz A k cap vs) (hb:lo≤base) (hd:Hv lo X n w (fun w=>RowD C sz w l vs)):Hv lo [] w.heap.size w (fun w=>R w A l):=
  F7 hR hC hz ho hb hd (by simp) (by simp)
def smC (w:World) (s:Sm) (v:List Value):Prop:=∃ A c,v= [.string s.base,.slice A s.args.length c]∧SimsIn w A s.args
def tmD (w:World) (t:Tm) (v:List Value):Prop:=∃ S B cs cb,v=tmC t S B cs cb∧SimsIn w S t.type.args∧TmsIn w B t.args
theorem sim_at {w:World} {b o:Nat} {s:Sm} {A:Option Addr} {c:Nat} (hb:b < w.heap.size) (h:w.rangeAt b o [.string s.base,.slice A s.args.length c]) (h1:SimsIn w A s.args):SimAt w b o s:=by
  cases s with
  | mk nm a=>exact .mk hb h h1
theorem F6 {w:World} {base lo k cap n:Nat} {A:Option Addr} {l:List Sm} {vs:List Value} {X:List Nat} (ho:Own w base 41 2 A k cap vs) (hb:lo≤base) (hd:Hv lo X n w (fun w=>RowD smC 2 w l vs)):Hv lo [] w.heap.size w (fun w=>SimsIn w A l):=
  Bv (fun _ _=> .nil) (fun w g cs hblk hl hk=> .more hl hblk.lt (fun k hkl=>by
    obtain⟨v,⟨A,c,rfl,hs⟩,hr⟩:=hk k hkl
    exact sim_at hblk.lt hr hs)) dE ho hb hd
theorem own_tms {w:World} {base lo k cap n:Nat} {A:Option Addr} {l:List Tm} {vs:List Value} {X:List Nat} (ho:Own w base 44 6 A k cap vs) (hb:lo≤base) (hd:Hv lo X n w (fun w=>RowD tmD 6 w l vs)):Hv lo [] w.heap.size w (fun w=>TmsIn w A l):=
  Bv (fun _ _=> .nil) (fun w g cs hblk hl hk=> .more hl hblk.lt (fun k hkl=>by
    obtain⟨v,⟨S,B,cs',cb,rfl,hs,ht⟩,hr⟩:=hk k hkl
    exact tm_at hblk.lt hr hs ht)) dE ho hb hd
def rlCc (r:Rl) (G S B:Option Addr) (cg cs cb:Nat):List Value:=[.string r.name,.slice G r.gr.length cg,.int .i64 r.kids,.int .i64 r.wt] ++ tmC r.mean S B cs cb
def rlD (w:World) (r:Rl) (v:List Value):Prop:=∃ G S B cg cs cb,v=rlCc r G S B cg cs cb∧NodesIn w G r.gr∧SimsIn w S r.mean.type.args∧TmsIn w B r.mean.args
theorem own_rules {w:World} {base lo k cap n:Nat} {A:Option Addr} {l:List Rl} {vs:List Value} {X:List Nat} (ho:Own w base 54 10 A k cap vs) (hb:lo≤base) (hd:Hv lo X n w (fun w=>RowD rlD 10 w l vs)):Hv lo [] w.heap.size w (fun w=>RulesIn w A l):=
  Bv (fun _ _=>⟨Nat.zero_le _,fun h=>absurd rfl h⟩) (fun w g cs hblk hl hk=>⟨hl,fun _=>⟨g,0,rfl,hblk.lt,fun k hkl=>by
    obtain⟨v,⟨G,S,B,cg,cs',cb,rfl,hg,hs,ht⟩,hr⟩:=hk k hkl
    exact⟨G,cg,S,cs',B,cb,hr,hg,hs,ht⟩⟩⟩) dE ho hb hd
inductive SmK:Sm→Prop
  | mk {b:ByteArray} {l:List Sm} (hl:l.length≤1000) (hk:∀ x ∈ l,SmK x):SmK (.mk b l)
inductive TmK:Tm→Prop
  | mk {k i:Int} {nm:ByteArray} {s:Sm} {l:List Tm} (hs:SmK s) (hl:l.length≤1000) (hk:∀ x ∈ l,TmK x):TmK (.mk k nm i s l)
theorem Ts.smK:∀ τ:Ts,SmK τ.sm
  | .b _=> .mk (Nat.zero_le _) (fun x h=>by cases h)
  | .f x y=> .mk (by show 2≤1000;decide) (fun z h=>by
    rcases List.mem_cons.1 h with h | h
    · rw [h];exact x.smK
    · rw [List.mem_singleton.1 h];exact y.smK)
theorem smZ_K:SmK smZ:= .mk (Nat.zero_le _) (fun x h=>by cases h)
theorem Tv.tmK:∀ v:Tv,TmK v.tm
  | .con _ τ=> .mk τ.smK (Nat.zero_le _) (fun x h=>by cases h)
  | .var _=> .mk smZ_K (Nat.zero_le _) (fun x h=>by cases h)
  | .abs τ x=> .mk τ.smK (by show 1≤1000;decide) (fun z h=>by rw [List.mem_singleton.1 h];exact x.tmK)
  | .app x y=> .mk smZ_K (by show 2≤1000;decide) (fun z h=>by
    rcases List.mem_cons.1 h with h | h
    · rw [h];exact x.tmK
    · rw [List.mem_singleton.1 h];exact y.tmK)
theorem SmK.le {s:Sm} (h:SmK s):s.args.length≤1000:=by
  cases h with
  | mk hl _=>exact hl
theorem SmK.kid {s x:Sm} (h:SmK s) (hx:x ∈ s.args):SmK x:=by
  cases h with
  | mk _ hk=>exact hk x hx
theorem TmK.le {s:Tm} (h:TmK s):s.args.length≤1000:=by
  cases h with
  | mk _ hl _=>exact hl
theorem TmK.ty {s:Tm} (h:TmK s):SmK s.type:=by
  cases h with
  | mk hs _ _=>exact hs
theorem TmK.kid {s x:Tm} (h:TmK s) (hx:x ∈ s.args):TmK x:=by
  cases h with
  | mk _ _ hk=>exact hk x hx
theorem RowD.app {α:Type} {C:World→α→List Value→Prop} {sz lo l2 n m:Nat} {X Y:List Nat} {w:World} {l:List α} {vs v:List Value} {j:Nat} {x:α} (hj:j < l.length) (hx:l[j]=x) (h:Hv lo X n w (fun w=>RowD C sz w (l.take j) vs)) (hv:v.length=sz) (hC:Hv l2 [] m w (fun w=>C w x v)) (hl:lo≤l2) (hY:∀ y ∈ Y,y ∈ X∨n≤y) (hY2:∀ y ∈ Y,y < l2∨m≤y):Hv lo Y w.heap.size w (fun w=>RowD C sz w (l.take (j + 1)) (vs ++ v)):=
  ((h.hole (fun y hy=>(hY y hy).imp id .inr)).and ((hC.hole (fun y hy=> .inr (hY2 y hy))).mono hl (Nat.le_refl _) hC.le)).imp (fun w2 h2=>by
    rw [List.take_succ_eq_append_getElem hj,hx]
    exact .snoc h2.1 hv h2.2)
theorem RowD.take {α:Type} {C:World→α→List Value→Prop} {sz:Nat} {w:World} {l:List α} (f:α→List Value) (hf:∀ x,(f x).length=sz) (hC:∀ x ∈ l,C w x (f x)):∀ k,k≤l.length→RowD C sz w (l.take k) ((l.take k).flatMap f)
  | 0,_=> .nil
  | k + 1,h=>by
    rw [List.take_succ_eq_append_getElem oM,List.flatMap_append]
    have:=(RowD.take f hf hC k oM).snoc (hf (l[k])) (hC _ (List.getElem_mem oM))
    simpa using this
theorem RowD.all {α:Type} {C:World→α→List Value→Prop} {sz:Nat} {w:World} {l:List α} (f:α→List Value) (hf:∀ x,(f x).length=sz) (hC:∀ x ∈ l,C w x (f x)):RowD C sz w l (l.flatMap f):=by
  have:=RowD.take f hf hC l.length (Nat.le_refl _)
  rwa [List.take_length] at this
theorem cell_keep {w w2:World} {b o:Nat} (h:w2.heap[b]? =w.heap[b]?):w2.cell? ⟨b,o,none⟩=w.cell? ⟨b,o,none⟩:=by simp [World.cell?,h]
theorem EJ {w w2:World} {b o:Nat} {xs:List Value} (h:w2.heap[b]? =w.heap[b]?) (hr:w.rangeAt b o xs):w2.rangeAt b o xs:=fun j v hj=>(cell_keep h).trans (hr j v hj)
def Kw (w w2:World):Prop:=w.heap.size≤w2.heap.size∧∀ k,k < w.heap.size→w2.heap[k]? =w.heap[k]?
theorem SimsIn.keep {w w2:World} {A:Option Addr} {l:List Sm} (hw:Kw w w2) (h:SimsIn w A l):SimsIn w2 A l:=
  SimsIn.rec (motive_1:=fun b o s _=>SimAt w2 b o s) (motive_2:=fun A l _=>SimsIn w2 A l)
    (fun hb h _ ih=> .mk (nLL hb hw.1) (EJ (hw.2 _ hb) h) ih) .nil (fun hl hb _ ih=> .more hl (nLL hb hw.1) ih) h
theorem TmsIn.keep {w w2:World} {A:Option Addr} {l:List Tm} (hw:Kw w w2) (h:TmsIn w A l):TmsIn w2 A l:=
  TmsIn.rec (motive_1:=fun b o s _=>TmAt w2 b o s) (motive_2:=fun A l _=>TmsIn w2 A l)
    (fun hb h hs _ ih=> .mk (nLL hb hw.1) (EJ (hw.2 _ hb) h) (hs.keep hw) ih) .nil (fun hl hb _ ih=> .more hl (nLL hb hw.1) ih) h
theorem Hv.old {w w1:World} {X:List Nat} {P:World→Prop} (hP:∀ w2,Kw w w2→P w2) (hB:Bel w w1) (hX:∀ y ∈ X,w.heap.size≤y):Hv 0 X w.heap.size w1 P:=
  ⟨hB.size,fun w2 h2 hk=>hP w2 ⟨nLT hB.size h2,fun k hkw=>(hk k (Nat.zero_le _) hkw (fun hm=>by have:=hX k hm;omega)).trans (hB.block k hkw)⟩⟩
end Go.Proofs.YtbcpgfnfiekbiaaGreatDoor
namespace Go.Proofs.YtbcpgfnfiekbiaaGreatDoor
open Go.RowKit
theorem tmF_K {t:Tm} (h:(tmF t).1=0):TmK t:=by
  have h0:(twk t 1 0 0).2.1=0:=Classical.byContradiction (fun hc=>by rw [N2 hc] at h;exact hc h);obtain⟨v,rfl,_⟩:=Ij t 1 0 0 h0;exact v.tmK
theorem ZW {l:List Ty} {fs:List Ft} {r:Rl} (hh:(qZ l fs).1=0) (h:vy l fs r=0):(uq l fs r.gr).1=0∧TmK r.mean:=by
  by_cases h1:Q9 r
  · rw [IJ h1] at h;cases h
  by_cases h2:(yV l fs r.gr).1=0
  · by_cases h3:u3 r.gr r.kids=true
    · rw [Rj h1 h2 h3] at h
      exact⟨by rw [gf_in hh];exact h2,tmF_K h⟩
    · rw [Rx h1 h2 (by simpa using h3)] at h;cases h
  · rw [Rv h1 h2] at h;exact absurd h h2
structure GpS (l:List Ty) (fs:List Ft) (rs:List Rl) (xs:List Lx) (st:List Nd):Prop where
  hier:(qZ l fs).1=0
  rn:rs.length≤40
  xn:xs.length≤100
  rok:∀ i (h:i < rs.length),(uq l fs (rs[i]).gr).1=0∧TmK (rs[i]).mean
  xok:∀ i (h:i < xs.length),(uq l fs (xs[i]).gr).1=0∧TmK (xs[i]).mean
  sok:(uq l fs st).1=0
end Go.Proofs.YtbcpgfnfiekbiaaGreatDoor
namespace Go.Proofs.YtbcpgfnfiekbiaaGreatDoor
open Go.RowKit
structure Om where
  kid:Int
  wt:Int
  mean:Tm
structure Orl where
  rule:Rl
  om:List Om
def OmIn (w:World) (b o:Nat) (x:Om):Prop:=∃ S cs B m,w.rangeAt b o [.int .i64 x.kid,.int .i64 x.wt,.int .i64 x.mean.kind,.string x.mean.name,.int .i64 x.mean.index,.string x.mean.type.base,.slice S x.mean.type.args.length cs,.slice B x.mean.args.length m]∧SimsIn w S x.mean.type.args∧TmsIn w B x.mean.args
def OmsIn (w:World) (A:Option Addr) (l:List Om):Prop:=
  l.length≤yJ∧(l≠[]→∃ b o,A=some ⟨b,o,none⟩∧b < w.heap.size∧∀ k (h:k < l.length),OmIn w b (o + k * 8) l[k])
theorem OmIn.mono {w w':World} {b o:Nat} {x:Om} (h:OmIn w b o x) (hb:Bel w w') (hl:b < w.heap.size):OmIn w' b o x:=by
  obtain⟨S,cs,B,m,h1,h3,h4⟩:=h;exact⟨S,cs,B,m,hb.range hl h1,h3.mono hb,h4.mono hb⟩
theorem OmsIn.mono {w w':World} {A:Option Addr} {l:List Om} (h:OmsIn w A l) (hb:Bel w w'):OmsIn w' A l:=
  ⟨h.1,fun hn=>by
    obtain⟨b,o,e,hl,hc⟩:=h.2 hn
    exact⟨b,o,e,nLL hl hb.size,fun k hk=>(hc k hk).mono hb hl⟩⟩
theorem OmsIn.at_ {w:World} {A:Option Addr} {l:List Om} (h:OmsIn w A l) {k:Nat} (hk:k < l.length):
    ∃ b o S cs B m,A=some ⟨b,o,none⟩∧b < w.heap.size∧w.rangeAt b (o + k * 8) [Value.int .i64 (l[k]).kid,.int .i64 (l[k]).wt,.int .i64 (l[k]).mean.kind,.string (l[k]).mean.name,.int .i64 (l[k]).mean.index,.string (l[k]).mean.type.base,.slice S (l[k]).mean.type.args.length cs,.slice B (l[k]).mean.args.length m]∧SimsIn w S (l[k]).mean.type.args∧TmsIn w B (l[k]).mean.args:=by
  obtain⟨b,o,e,hl,hc⟩:=h.2 (by rintro rfl;simp at hk);obtain⟨S,cs,B,m,h1,h3,h4⟩:=hc k hk;exact⟨b,o,S,cs,B,m,e,hl,h1,h3,h4⟩
def orC (r:Orl) (G S B O:Option Addr) (cg cs m co:Nat):List Value:=[.string r.rule.name,.slice G r.rule.gr.length cg,.int .i64 r.rule.kids,.int .i64 r.rule.wt,.int .i64 r.rule.mean.kind,.string r.rule.mean.name,.int .i64 r.rule.mean.index,.string r.rule.mean.type.base,.slice S r.rule.mean.type.args.length cs,.slice B r.rule.mean.args.length m,.slice O r.om.length co]
structure OrP (w:World) (r:Orl) (G S B O:Option Addr):Prop where
  g:NodesIn w G r.rule.gr
  s:SimsIn w S r.rule.mean.type.args
  t:TmsIn w B r.rule.mean.args
  o:OmsIn w O r.om
theorem OrP.mono {w w':World} {r:Orl} {G S B O:Option Addr} (h:OrP w r G S B O) (hb:Bel w w'):OrP w' r G S B O:=⟨h.g.mono hb,h.s.mono hb,h.t.mono hb,h.o.mono hb⟩
def OrsIn (w:World) (A:Option Addr) (l:List Orl):Prop:=
  l.length≤yJ∧(l≠[]→∃ b o,A=some ⟨b,o,none⟩∧b < w.heap.size∧∀ k (h:k < l.length),∃ G S B O cg cs m co,w.rangeAt b (o + k * 11) (orC l[k] G S B O cg cs m co)∧OrP w l[k] G S B O)
theorem OrsIn.mono {w w':World} {A:Option Addr} {l:List Orl} (h:OrsIn w A l) (hb:Bel w w'):OrsIn w' A l:=
  ⟨h.1,fun hn=>by
    obtain⟨b,o,e,hl,hc⟩:=h.2 hn
    refine⟨b,o,e,nLL hl hb.size,fun k hk=>?_⟩
    obtain⟨G,S,B,O,cg,cs,m,co,h1,h2⟩:=hc k hk
    exact⟨G,S,B,O,cg,cs,m,co,hb.range hl h1,h2.mono hb⟩⟩
theorem OrsIn.at_ {w:World} {A:Option Addr} {l:List Orl} (h:OrsIn w A l) {k:Nat} (hk:k < l.length):
    ∃ b o G S B O cg cs m co,A=some ⟨b,o,none⟩∧b < w.heap.size∧w.rangeAt b (o + k * 11) (orC l[k] G S B O cg cs m co)∧OrP w l[k] G S B O:=by
  obtain⟨b,o,e,hl,hc⟩:=h.2 (by rintro rfl;simp at hk);obtain⟨G,S,B,O,cg,cs,m,co,h1,h2⟩:=hc k hk;exact⟨b,o,G,S,B,O,cg,cs,m,co,e,hl,h1,h2⟩
def TyIs (t:Tm) (v:Tv) (τ:Ts):Prop:=t=v.tm∧v.ok 0∧v.size≤200∧tyv [] v=some τ
theorem Jw {t:Tm} (h:(tmF t).1=0):∃ v τ,TyIs t v τ:=by
  have h0:(twk t 1 0 0).2.1=0:=Classical.byContradiction (fun hc=>by rw [N2 hc] at h;exact hc h);obtain⟨v,rfl,hok,_,hsz⟩:=Ij t 1 0 0 h0;rw [H5 h0] at h;cases e:tyv [] v with
  | none=>rw [e] at h;cases h
  | some τ=>exact⟨v,τ,rfl,hok,by omega,e⟩
theorem TyIs.det {t:Tm} {v v':Tv} {τ τ':Ts} (h:TyIs t v τ) (g:TyIs t v' τ'):v=v'∧τ=τ':=by
  have e:=Tv.tm_inj (h.1.symm.trans g.1);subst e;exact⟨rfl,Option.some.inj (h.2.2.2.symm.trans g.2.2.2)⟩
def Q7:Nat→Ts→Option (List Ts)
  | 0,_=>some []
  | k + 1,.f a r=>(Q7 k r).map (a :: ·)
  | _ + 1,.b _=>none
def qJ:Ts→List Ts
  | .b _=>[]
  | .f a r=>a :: qJ r
theorem oW:∀ (k:Nat) (τ:Ts),Q7 k τ=if k≤(qJ τ).length then some ((qJ τ).take k) else none
  | 0,_=>rfl
  | k + 1,.b _=>rfl
  | k + 1,.f a r=>by
    have hl:(qJ (.f a r)).length=(qJ r).length + 1:=rfl
    have ht:(qJ (.f a r)).take (k + 1)=a :: (qJ r).take k:=rfl
    rw [Q7,oW k r,hl,ht]
    by_cases h:k≤(qJ r).length
    · rw [if_pos h,if_pos (Nat.succ_le_succ h)];rfl
    · rw [if_neg h,if_neg (fun e=>h (Nat.le_of_succ_le_succ e))];rfl
def KJ (r:Orl) (x:Om):Prop:=∃ v τ u σ L,TyIs r.rule.mean v τ∧TyIs x.mean u σ∧Q7 r.rule.kids.toNat τ=some L∧L[(x.kid - 1).toNat]? =some σ
def YJ (r:Orl) (x:Om):Prop:=x.kid < 1∨r.rule.kids < x.kid∨x.wt < 0∨1000000 < x.wt
instance (r:Orl) (x:Om):Decidable (YJ r x):=by unfold YJ;infer_instance
def Q2 (r:Orl) (i:Nat):Int:=match i with
  | 0=>0
  | i + 1=>match r.om[i]? with
    | none=>0
    | some x=>x.kid
open Classical in
noncomputable def omN (r:Orl) (i:Nat):Int:=match r.om[i]? with
  | none=>0
  | some x=>if YJ r x then 3 else if x.kid≤Q2 r i then 13 else if (tmF x.mean).1≠0 then (tmF x.mean).1 else if KJ r x then 0 else 12
noncomputable def Q0 (l:List Ty) (fs:List Ft) (r:Orl):Fl:=
  if xj r.rule.name=false then (10,-2) else if vy l fs r.rule≠0 then (vy l fs r.rule,-2) else if r.rule.kids≤(r.om.length:Int) then (2,-2) else x8 (omN r) 0 r.om.length
section
variable {l:List Ty} {fs:List Ft} {r:Orl} {i:Nat} {c:Int}
theorem om3 (hi:i < r.om.length) (h:YJ r r.om[i]):omN r i=3:=by simp only [omN,List.getElem?_eq_getElem hi,if_pos h]
theorem om13 (hi:i < r.om.length) (h:¬YJ r r.om[i]) (h2:(r.om[i]).kid≤Q2 r i):omN r i=13:=by simp only [omN,List.getElem?_eq_getElem hi,if_neg h,if_pos h2]
theorem omT (hi:i < r.om.length) (h:¬YJ r r.om[i]) (h2:¬(r.om[i]).kid≤Q2 r i) (h3:¬(tmF (r.om[i]).mean).1=0):omN r i=(tmF (r.om[i]).mean).1:=by simp only [omN,List.getElem?_eq_getElem hi,if_neg h,if_neg h2,ne_eq,h3,not_false_eq_true,if_true]
theorem L8 (hi:i < r.om.length) (h:¬YJ r r.om[i]) (h2:¬(r.om[i]).kid≤Q2 r i) (h3:(tmF (r.om[i]).mean).1=0) (h4:¬KJ r r.om[i]):omN r i=12:=by simp only [omN,List.getElem?_eq_getElem hi,if_neg h,if_neg h2,h3,ne_eq,not_true_eq_false,if_false,if_neg h4]
theorem om0 (hi:i < r.om.length) (h:¬YJ r r.om[i]) (h2:¬(r.om[i]).kid≤Q2 r i) (h3:(tmF (r.om[i]).mean).1=0) (h4:KJ r r.om[i]):omN r i=0:=by simp only [omN,List.getElem?_eq_getElem hi,if_neg h,if_neg h2,h3,ne_eq,not_true_eq_false,if_false,if_pos h4]
theorem last_at (hi:i < r.om.length):Q2 r (i + 1)=(r.om[i]).kid:=by simp only [Q2,List.getElem?_eq_getElem hi]
theorem BX (h:xj r.rule.name=false):Q0 l fs r=(10,-2):=if_pos h
theorem BQ (h:xj r.rule.name=true) (h2:¬vy l fs r.rule=0):Q0 l fs r=(vy l fs r.rule,-2):=by unfold Q0;rw [h,if_neg dE,if_pos h2]
theorem BJ (h:xj r.rule.name=true) (h2:vy l fs r.rule=0) (h3:r.rule.kids≤(r.om.length:Int)):Q0 l fs r=(2,-2):=by unfold Q0;rw [h,if_neg dE,h2,if_neg dE,if_pos h3]
theorem Z4 {F:Fl} (h:xj r.rule.name=true) (h2:vy l fs r.rule=0) (h3:¬r.rule.kids≤(r.om.length:Int)) (h4:x8 (omN r) 0 r.om.length=F):Q0 l fs r=F:=by unfold Q0;rw [h,if_neg dE,h2,if_neg dE,if_neg h3,h4]
end
noncomputable def yX (l:List Ty) (fs:List Ft):Fl:=if (qZ l fs).1≠0 then qZ l fs else if fs.length≤3 then (9,-1) else (0,0)
theorem N5 {l:List Ty} {fs:List Ft} (h:¬(qZ l fs).1=0):yX l fs=qZ l fs:=if_pos h
theorem HV {l:List Ty} {fs:List Ft} (h:(qZ l fs).1=0) (h2:fs.length≤3):yX l fs=(9,-1):=by unfold yX;rw [if_neg (fun e=>e h),if_pos h2]
theorem rd_ok {l:List Ty} {fs:List Ft} (h:(qZ l fs).1=0) (h2:¬fs.length≤3):yX l fs=(0,0):=by unfold yX;rw [if_neg (fun e=>e h),if_neg h2]
end Go.Proofs.YtbcpgfnfiekbiaaGreatDoor
namespace Go.Proofs.YtbcpgfnfiekbiaaGreatDoor
open Go.RowKit
theorem own_top {w:World} {base sz cap n g:Nat} {e:TypeId} {xs ys:List Value} {m:Nat} (h:Own w base e sz (some ⟨g,0,none⟩) m cap (xs ++ ys)) (hx:xs.length=n * sz):w.rangeAt g (0 + n * sz) ys:=fun i v hv=>by
  have hi:i < ys.length:=(List.getElem?_eq_some_iff.1 hv).1
  obtain⟨g',e,_,_,hc⟩:=h.cell (by intro e;rw [List.append_eq_nil_iff] at e;rw [e.2] at hi;simp at hi)
  cases e
  have:=hc (xs.length + i) v (by rw [List.getElem?_append_right oM];rw [Nat.add_sub_cancel_left];exact hv)
  rw [hx] at this
  rw [Nat.zero_add]
  exact this
theorem Blk.sub {w:World} {b t o n:Nat} {cs:Array Value} {xs:List Value} (h:Blk w b t cs) (hx:(cs.toList.drop o).take n=xs):w.rangeAt b o xs:=h.range (fun j v hj=>by
  subst hx
  rw [List.getElem?_take] at hj
  split at hj
  · rw [List.getElem?_drop] at hj
    simpa using hj
  · cases hj)
inductive StkS (w:World):List (Sm×Nat)→List Value→Prop
  | nil:StkS w [] []
  | snoc {l:List (Sm×Nat)} {vs:List Value} {s:Sm} {d:Nat} {A:Option Addr} {c:Nat} (h:StkS w l vs) (hs:SimsIn w A s.args):StkS w (l ++ [(s,d)]) (vs ++ [.string s.base,.slice A s.args.length c,.int .i64 d])
theorem StkS.len {w:World} {l:List (Sm×Nat)} {vs:List Value} (h:StkS w l vs):vs.length=l.length * 3:=by
  induction h with
  | nil=>rfl
  | snoc h hs ih=>simp only [List.length_append,ih,List.length_cons,List.length_nil];omega
theorem StkS.pop {w:World} {l:List (Sm×Nat)} {vs:List Value} (h:StkS w l vs) (hl:0 < l.length):∃ l' vs' s d A c,l=l' ++ [(s,d)]∧vs=vs' ++ [.string s.base,.slice A s.args.length c,.int .i64 (d:Nat)]∧StkS w l' vs'∧SimsIn w A s.args:=by
  cases h with
  | nil=>simp at hl
  | snoc h hs=>exact⟨_,_,_,_,_,_,rfl,rfl,h,hs⟩
inductive StkT (w:World):List (Tm×Nat×Nat)→List Value→Prop
  | nil:StkT w [] []
  | snoc {l:List (Tm×Nat×Nat)} {vs:List Value} {t:Tm} {d b:Nat} {A B:Option Addr} {c m:Nat} (h:StkT w l vs) (hs:SimsIn w A t.type.args) (ht:TmsIn w B t.args):StkT w (l ++ [(t,d,b)]) (vs ++ [.int .i64 t.kind,.string t.name,.int .i64 t.index,.string t.type.base,.slice A t.type.args.length c,.slice B t.args.length m,.int .i64 d,.int .i64 b])
theorem StkT.len {w:World} {l:List (Tm×Nat×Nat)} {vs:List Value} (h:StkT w l vs):vs.length=l.length * 8:=by
  induction h with
  | nil=>rfl
  | snoc h hs ht ih=>simp only [List.length_append,ih,List.length_cons,List.length_nil];omega
theorem StkT.pop {w:World} {l:List (Tm×Nat×Nat)} {vs:List Value} (h:StkT w l vs) (hl:0 < l.length):∃ l' vs' t d b A B c m,l=l' ++ [(t,d,b)]∧vs=vs' ++ [.int .i64 t.kind,.string t.name,.int .i64 t.index,.string t.type.base,.slice A t.type.args.length c,.slice B t.args.length m,.int .i64 (d:Nat),.int .i64 (b:Nat)]∧StkT w l' vs'∧SimsIn w A t.type.args∧TmsIn w B t.args:=by
  cases h with
  | nil=>simp at hl
  | snoc h hs ht=>exact⟨_,_,_,_,_,_,_,_,_,rfl,rfl,h,hs,ht⟩
theorem YZ {α:Type} (l:List α) (x:α):(l ++ [x]).reverse=x :: l.reverse:=by simp
theorem Ts.kids_len (τ:Ts):τ.sm.args.length≤2:=by cases τ <;> simp [Ts.sm,Sm.args]
def Ts.kids:Ts→List Ts
  | .b _=>[]
  | .f x y=>[x,y]
theorem Ts.kids_sm (τ:Ts):τ.sm.args=τ.kids.map Ts.sm:=by cases τ <;> rfl
theorem Ts.kids_lt {τ x:Ts} (h:x ∈ τ.kids):x.size < τ.size:=by
  cases τ with
  | b t=>cases h
  | f a b=>
    simp only [Ts.kids,List.mem_cons,List.not_mem_nil,or_false] at h;rcases h with rfl | rfl <;> simp only [Ts.size] <;> omega
theorem Ts.ext {a b:Ts} (hb:a.sm.base=b.sm.base) (hk:a.kids=b.kids):a=b:=by
  cases a with
  | b s=>cases b with
    | b t=>cases s <;> cases t <;> first | rfl | (exfalso;revert hb;simp [Ts.sm,Sm.base,smE,smT])
    | f x y=>cases hk
  | f x y=>cases b with
    | b t=>cases hk
    | f u v=>simp only [Ts.kids,List.cons.injEq,and_true] at hk;rw [hk.1,hk.2]
theorem R4 {w:World} {A:Option Addr} {τ:Ts} (h:SimsIn w A τ.sm.args) {k:Nat} (hk:k < τ.kids.length):∃ b o A' c,A=some ⟨b,o,none⟩∧b < w.heap.size∧w.rangeAt b (o + k * 2) [Value.string (τ.kids[k]).sm.base,.slice A' (τ.kids[k]).sm.args.length c]∧SimsIn w A' (τ.kids[k]).sm.args:=by
  obtain⟨b,o,A',c,h1,h2,h3,h4⟩:=h.at_ (k:=k) (by rw [Ts.kids_sm,List.length_map];exact hk);have e:τ.sm.args[k]'(by rw [Ts.kids_sm,List.length_map];exact hk)=(τ.kids[k]).sm:=by simp only [Ts.kids_sm,List.getElem_map]
  rw [e] at h3 h4;exact⟨b,o,A',c,h1,h2,h3,h4⟩
theorem take_kid {a b:List Ts} {j:Nat} (h:a.take j=b.take j) (ha:j < a.length) (hb:j < b.length) (e:a[j]=b[j]):a.take (j + 1)=b.take (j + 1):=by
  rw [List.take_succ_eq_append_getElem ha,List.take_succ_eq_append_getElem hb,h,e]
end Go.Proofs.YtbcpgfnfiekbiaaGreatDoor
