/- What these functions compute, at every world: simple.Validate$1; and plain laws. -/
import Derived.Test.YtiofaflajkgiaaaGreatDoorStk
import Derived.ArgAppend
import Derived.Test.YtiofaflajkgiaaaGreatDoorGro
import Derived.Test.YtiofaflajkgiaaaGreatDoorZst
import Derived.Test.YtiofaflajkgiaaaGreatDoorGraph
import Derived.Test.YtiofaflajkgiaaaGreatDoorRng
import Derived.Test.YtiofaflajkgiaaaGreatDoorGUnr
namespace Go.Proofs.YtiofaflajkgiaaaGreatDoor
open Go.RowKit Go.Proofs.Tryz
section
section rules
variable {P:Program} {Q:Exit->Act->World->Prop} {n:Nw} {f:Fr} {w w':World} {ops:Array Oper} {rest:List Oper} {d:Nat} {ty:TypeId} {pos:String} {af:Array Edge} {x y z:Operand} {t t' e:TypeId}
theorem r_slF{dst:Option Tmp}{gd:Option (Nat×Bool)}{A:Option Addr}{m c h:Nat}{sz:Nat}(hu:P.underlying t=some (.slice e))(hs:(P.info? e).map (·.size)=some sz)(hx:ev n f x= .slice A m c)(hy:ev n f y= .int .i64 (h:Int))(hz:ev n f z= .int .i64 (h:Int))(hh:h<=c):
  RV P n f w ⟨dst,.slice t x none (some y) (some z),ty,pos,af,gd⟩ (.slice A h h) w:=by
 cases hq:P.info? e with
 | none=>simp[hq]at hs
 | some i=>
  have h1:(Instr.sliceBound (.int .i64 (h:Int)) h .slice3C).run P w= .ok h w:=by simp[Instr.sliceBound,asIntOf]
  have h2:(Instr.sliceBound (.int .i64 (h:Int)) c .slice3Acap).run P w= .ok h w:=by simp[Instr.sliceBound,asIntOf,hh]
  have h3:(Instr.sliceBound (.int .i64 (h:Int)) h .slice3B).run P w= .ok h w:=by simp[Instr.sliceBound,asIntOf]
  cases A<;>simp[RV,execOp,hx,hy,hz,Instr.sliceAt,run_underlying hu,Instr.slice,Instr.sliceBounds,h1,h2,h3,sizeOf,typeInfo,hq,SQ]
theorem wl_appFl{zv:Value}{a6 k m c b sz:Nat}{A:Option Addr}{cs:Array Value}{a2:List Value}(hu:P.underlying t=some (.slice e))(hi:(P.info? e).map (fun i=>(i.zero,i.size,i.bytes))=some (some zv,sz,a6))(hzs:zv.cells.size=sz)(hsz:0<sz)
  (hlo:a2.length=k*sz) (a4:∀ b',A=some b'->∀ j u,a2[j]? =some u->w.cell? (b'.add j)=some u) (hno:A=none->k=0) (hb:Blk w b e cs) (hx:ev n f x= .slice A k k) (hy:ev n f y= .slice (some ⟨b,0,none⟩) m c) (hl:cs.size=m*sz) (h1:cs.toList.all (·.oneCell')=true) (hm:0<m) (h63:k+m<=9223372036854775807) (a3:(k+m)*a6<=140737488355328)
  (K:∀ g a1 w1,Own w1 w.heap.size e sz (some ⟨g,0,none⟩) (k+m) a1 (a2++cs.toList)->Same [] w w1->w.heap.size<=g->WL P ops Q rest n (upd f d (.slice (some ⟨g,0,none⟩) (k+m) a1)) w1):
  WL P ops Q (⟨some d,.call { callee:= .builtin .append,args:=#[x,y],argTypes:=#[t,t] },ty,pos,af,none⟩::rest) n f w:=by
 cases A with
 | none=>
  obtain rfl:=hno rfl;obtain rfl:a2= []:=List.eq_nil_of_length_eq_zero (by simpa using hlo);refine jv hu hi hzs hsz (Own.nil w w.heap.size e sz) hb hx hy hl h1 hm h63 a3 (ae _) (fun g a1 w1 ho hs hg=>K g a1 w1 ho hs ?_);rcases hg with h|h
  ·cases h
  ·exact h
 | some b'=>
  obtain⟨i,hq,a5⟩:=aR.1 hi;simp only[Prod.mk.injEq]at a5;obtain⟨v',w1,hr,ho,hg⟩:=run_append_arg_grows (P:=P) w t ty e i zv sz a6 hu hq a5.1 a5.2.1 a5.2.2 hzs hsz b' k k a2 hlo (a4 b' rfl) ⟨b,0,none⟩ m c cs.toList (by simpa using hl) (World.news_of_block hb) oG h63 a3;have hv:∃ g a1,v'= .slice (some ⟨g,0,none⟩) (k+m) a1/\w.heap.size<=g:=by
   rcases ho.2 with ⟨_,h0⟩|⟨g,a1,_,rfl,hg',_⟩
   ·omega
   ·exact⟨g,a1,rfl,hg'⟩
  obtain⟨g,a1,rfl,hgl⟩:=hv;refine wl (v:= .slice (some ⟨g,0,none⟩) (k+m) a1) (w':=w1) ?_ (K g a1 w1 ho (Mk (A:=none) (k:=0) (cap:=0) hg) hgl);simp only[RV,execOp,resolve,invoke,builtin,Sem.run_bind,Sem.run_pure,Result.andThen_ok,List.map_toArray,List.map_cons,List.map_nil,hx,hy,hr]
end rules
inductive SimR(w:World):List Sm->List Value->Prop
 | nil:SimR w [] []
 | snoc {l:List Sm} {vs:List Value} {s:Sm} {A:Option Addr} {c:Nat} (h:SimR w l vs) (hs:SimsIn w A s.args):SimR w (l++[s]) (vs++[.string s.base,.slice A s.args.length c])
theorem SimR.len{w:World}{l:List Sm}{vs:List Value}(h:SimR w l vs):vs.length=l.length*2:=by
 induction h with
 | nil=>rfl
 | snoc h hs ih=>simp only[List.length_append,ih,List.length_cons,List.length_nil];omega
theorem SimR.mono{w w':World}{l:List Sm}{vs:List Value}(h:SimR w l vs)(hb:Bel w w'):SimR w' l vs:=by
 induction h with
 | nil=>exact .nil
 | snoc h hs ih=>exact .snoc ih (hs.mono hb)
theorem SimR.at_{w:World}{l:List Sm}{vs:List Value}(h:SimR w l vs):∀ {k:Nat} (hk:k<l.length),∃ A c,vs[k*2]? =some (.string (l[k]).base)/\vs[k*2+1]? =some (.slice A (l[k]).args.length c)/\SimsIn w A (l[k]).args:=by
 induction h with
 | nil=>intro k hk;simp at hk
 | @snoc l vs s A c h hs ih=>
  intro k hk;have hl:=h.len;by_cases e:k<l.length
  ·obtain⟨A',c',h1,h2,h3⟩:=ih e
   rw[List.getElem_append_left e];exact⟨A',c',by rw[List.getElem?_append_left oG];exact h1,by rw[List.getElem?_append_left oG];exact h2,h3⟩
  ·have ek:k=l.length:=by rw[List.length_append]at hk;simp at hk;omega
   subst ek;rw[List.getElem_append_right (Nat.le_refl _)];simp only[Nat.sub_self,List.getElem_cons_zero];refine⟨A,c,?_,?_,hs⟩
   ·rw[List.getElem?_append_right oG,hl,Nat.sub_self];rfl
   ·rw[List.getElem?_append_right oG,hl,show l.length*2+1-l.length*2=1 by omega];rfl
theorem SimsIn.row{w:World}{b o:Nat}{l:List Sm}(h:SimsIn w (some ⟨b,o,none⟩) l):∃ vs,SimR w l vs/\∀ j u,vs[j]? =some u->w.cell? ⟨b,o+j,none⟩=some u:=by
 have key:∀ k,k<=l.length->∃ vs,SimR w (l.take k) vs/\∀ j u,vs[j]? =some u->w.cell? ⟨b,o+j,none⟩=some u:=by
  intro k
  induction k with
  | zero=>exact fun _=>⟨[],.nil,fun j u hj=>by simp at hj⟩
  | succ k ih=>
   intro hk;obtain⟨vs,h1,h2⟩:=ih oG;obtain⟨b',o',A',c',e,_,hr,hs⟩:=h.at_ (k:=k) oG;cases e;have hl:=h1.len;rw[List.length_take,Nat.min_eq_left oG]at hl;refine⟨vs++[.string (l[k]).base,.slice A' (l[k]).args.length c'],?_,fun j u hj=>?_⟩
   ·rw[I5 l oG];exact .snoc h1 hs
   ·by_cases e:j<vs.length
    ·rw[List.getElem?_append_left e]at hj;exact h2 j u hj
    ·rw[List.getElem?_append_right oG]at hj
     have:=hr (j-vs.length) u hj
     rwa[hl,show o+k*2+(j-k*2)=o+j by omega]at this
 obtain⟨vs,h1,h2⟩:=key l.length (ae _);rw[List.take_of_length_le (Nat.le_refl _)]at h1;exact⟨vs,h1,h2⟩
theorem sims_own{w:World}{base n cap g:Nat}{l:List Sm}{vs:List Value}(ho:Own w base 31 2 (some ⟨g,0,none⟩) n cap vs)(h:SimR w l vs)(hn:l.length=n)(hp:0<n):SimsIn w (some ⟨g,0,none⟩) l:=by
 have hl:=h.len;obtain⟨g',e,_,hg,hc⟩:=ho.cell (by intro e;rw[e]at hl;simp at hl;omega);cases e;refine .more (by have:=ho.max;unfold jx;omega) hg (fun k hk=>?_);obtain⟨A,c,h1,h2,h3⟩:=h.at_ hk;rw[show l[k]=Sm.mk (l[k]).base (l[k]).args from Sm.eta _];refine SimAt.mk (c:=c) hg (fun i v hv=>?_) h3
 match i,hv with
 | 0,hv=>cases hv;have:=hc _ _ h1;rwa[Nat.zero_add]
 | 1,hv=>cases hv;have:=hc _ _ h2;rwa[Nat.zero_add]
 | i+2,hv=>simp at hv
def CtxIn(w:World)(C:Option Addr)(Γ:List Ts):Prop:=SimsIn w C (Γ.reverse.map Ts.sm)/\(C=none->Γ= [])
theorem CtxIn.mono{w w':World}{C:Option Addr}{Γ:List Ts}(h:CtxIn w C Γ)(hb:Bel w w'):CtxIn w' C Γ:=⟨h.1.mono hb,h.2⟩
theorem CtxIn.nil(w:World):CtxIn w none []:=⟨.nil,fun _=>rfl⟩
theorem CtxIn.at_{w:World}{C:Option Addr}{Γ:List Ts}(h:CtxIn w C Γ){i:Nat}{τ:Ts}(hi:Γ[i]? =some τ):∃ b o A c,C=some ⟨b,o,none⟩/\b<w.heap.size/\w.rangeAt b (o+(Γ.length-1-i)*2) [.string τ.sm.base,.slice A τ.sm.args.length c]/\SimsIn w A τ.sm.args:=by
 obtain⟨hl,rfl⟩:=av.1 hi;obtain⟨b,o,A,c,h1,h2,h3,h4⟩:=h.1.at_ (k:=Γ.length-1-i) (by rw[List.length_map,List.length_reverse];omega);have e:(Γ.reverse.map Ts.sm)[Γ.length-1-i]'(by rw[List.length_map,List.length_reverse];omega)=(Γ[i]).sm:=by
  rw[List.getElem_map,List.getElem_reverse]
  congr 2;omega
 rw[e]at h3 h4;exact⟨b,o,A,c,h1,h2,h3,h4⟩
theorem CtxIn.row{w:World}{C:Option Addr}{Γ:List Ts}(h:CtxIn w C Γ):∃ vs,SimR w (Γ.reverse.map Ts.sm) vs/\vs.length=Γ.length*2/\(∀ b',C=some b'->∀ j u,vs[j]? =some u->w.cell? (b'.add j)=some u)/\(C=none->Γ.length=0):=by
 have hn:C=none->Γ.length=0:=fun e=>by rw[h.2 e];rfl
 cases C with
 | none=>
  have:=h.2 rfl;subst this;exact⟨[],.nil,rfl,fun b' e=>(by cases e),hn⟩
 | some a=>
  cases hq:Γ with
  | nil=>exact⟨[],.nil,rfl,fun b' e j u hj=>by simp at hj,fun e=>by cases e⟩
  | cons τ Γ'=>
   have h1:=h.1;rw[hq]at h1
   generalize el:List.map Ts.sm (τ::Γ').reverse=l at h1
   cases h1 with
   | nil=>rw[List.map_eq_nil_iff]at el;simp at el
   | @more b o _ hl hb hx=>
    obtain⟨vs,h2,h3⟩:=SimsIn.row (.more hl hb hx);refine⟨vs,h2,by rw[h2.len,<- el,List.length_map,List.length_reverse],fun b' e j u hj=>?_,fun e=>by cases e⟩;cases e;rw[Addr.add_mid];exact h3 j u hj
theorem ctx_app{w:World}{base n cap g c:Nat}{A:Option Addr}{Γ:List Ts}{τ:Ts}{vs:List Value}(ho:Own w base 31 2 (some ⟨g,0,none⟩) n cap (vs++[.string τ.sm.base,.slice A τ.sm.args.length c]))(h:SimR w (Γ.reverse.map Ts.sm) vs)(hs:SimsIn w A τ.sm.args)(hn:Γ.length+1=n):CtxIn w (some ⟨g,0,none⟩) (τ::Γ):=by
 refine⟨?_,fun e=>by cases e⟩;have e:(τ::Γ).reverse.map Ts.sm=Γ.reverse.map Ts.sm++[τ.sm]:=by simp
 rw[e];exact sims_own ho (.snoc h hs) (by simp;exact hn) oG
theorem Sw{w w':World}{X:List Nat}{b o:Nat}{v:Value}(hs:Same X w w')(hb:b<w.heap.size)(hx:b∉X)(h:w.cell? ⟨b,o,none⟩=some v):w'.cell? ⟨b,o,none⟩=some v:=by
 have e:=hs.blk b hb hx;unfold World.cell? at h ⊢;simp only[e];exact h
theorem Nq{w w':World}{b:Nat}(hb:Blk w b 31 #[.string ⟨#[]⟩,.slice none 0 0])(hs:Same [b] w w'):∀(τ:Ts) {A:Option Addr},SimsIn w A τ.sm.args->SimsIn w' A τ.sm.args
 | .b t,A,h=>by cases t<;>exact .nil
 | .f x y,A,h=>by
  have far:∀(τ:Ts) (o c:Nat) (A':Option Addr),w.rangeAt b o [.string τ.sm.base,.slice A' τ.sm.args.length c]->False:=fun τ o c A' hr=>by
   have h0:=hr 0 _ rfl
   have h1:=hr 1 _ rfl
   rw[Nat.add_zero,cell_of_row w b o _ _ _ hb]at h0
   rw[cell_of_row w b (o+1) _ _ _ hb]at h1
   match o,h0,h1 with
   | 0,h0,h1=>
    simp only[List.getElem?_toArray,List.getElem?_cons_zero,Option.some.injEq,Value.string.injEq,List.getElem?_cons_succ,Value.slice.injEq,Nat.zero_add]at h0 h1
    obtain⟨p,q,rfl⟩:∃ p q,τ= .f p q:=by
     cases τ with
     | b t=>exfalso;revert h0;cases t<;>decide
     | f p q=>exact⟨p,q,rfl⟩
    have h2:0=2:=h1.2.1;cases h2
   | 1,h0,_=>simp at h0
   | o+2,h0,_=>simp at h0
  obtain⟨b1,o1,A0,c0,rfl,hl,hr0,hs0⟩:=h.at_ (k:=0) (by simp[Ts.sm,Sm.args]);obtain⟨_,_,A1,c1,e1,_,hr1,hs1⟩:=h.at_ (k:=1) (by simp[Ts.sm,Sm.args]);cases e1;have hne:b1∉[b]:=fun hm=>by
   obtain rfl:=aj.1 hm;exact far x _ _ _ hr0
  refine .more (show 2<=jx by decide) (nLL hl hs.size) (fun k hk=>?_)
  match k,hk with
  | 0,_=>
   show SimAt w' b1 (o1+0*2) x.sm;rw[Sm.eta x.sm];exact SimAt.mk (nLL hl hs.size) (fun i v hv=>Sw hs hl hne (hr0 i v hv)) (Nq hb hs x hs0)
  | 1,_=>
   show SimAt w' b1 (o1+1*2) y.sm;rw[Sm.eta y.sm];exact SimAt.mk (nLL hl hs.size) (fun i v hv=>Sw hs hl hne (hr1 i v hv)) (Nq hb hs y hs1)
end
section
section monoi
variable {P:Program} {Q:Exit->Act->World->Prop} {n:Nw} {f:Fr} {w:World}
def ivB(l:List Oper)(m:Nat)(ow:Nat->Nat):Bool:=(List.range m).all (fun i=>decide (ow i<m)&&Nat.beq (ow (ow i)) (ow i)&&(Nat.beq (ow i) i||(match l[i]? with|some o=>(vV o).any (fun j=>Nat.beq (ow j) (ow i))|none=>false)))
def monoF(l:List Oper)(m:Nat)(S fl:List Nat):Bool:=
 (List.range m).all (fun i=>match l[i]? with
  | some o=>(match o.dst with|some d=>mem S d|none=>false)&&(match o.guard with|none=>true|some (j,_)=>(vV o).contains j)&&(vV o).all (fun j=>decide (j<i))&&(List.range m).all (fun j=>decide (i=j) || !(yZ l.toArray i==yZ l.toArray j))
  | none=>false)&&decide (m<=l.length) &&
 (List.range l.length).all (fun i=>decide (i<m)||(match l[i]? with
  | some o=>(List.range m).all (fun j=>fl.contains j||(vV o).contains j)
  | none=>false))
def subs:List Nat->List (List Nat)
 | []=>[[]]
 | a::r=>subs r++(subs r).map (a :: ·)
theorem OQ(p:Nat->Bool):∀ F:List Nat,F.filter p∈subs F
 | []=>by simp[subs]
 | a::r=>by
  have ih:=OQ p r
  cases h:p a with
  | true=>rw[List.filter_cons_of_pos h];exact List.mem_append_right _ (List.mem_map_of_mem ih)
  | false=>rw[List.filter_cons_of_neg (by simp[h])];exact List.mem_append_left _ ih
def FinAll(p:List Nat->Prop):List (List Nat)->Prop
 | []=>True
 | x::r=>p x/\FinAll p r
theorem FinAll.get{p:List Nat->Prop}:∀ {xs:List (List Nat)},FinAll p xs->∀ x∈xs,p x
 | _::_,h,x,hx=>by
  rcases ap.1 hx with rfl|hx
  ·exact h.1
  ·exact FinAll.get h.2 x hx
def GQ(k m:Nat)(U:List Nat):Array Bool:=Array.ofFn (n:=k) (fun i=>decide (i.val<m) && !U.contains i.val)
theorem O6{l:List Oper}{x k k':Nat}{listed:Array Bool}(h:k=k')(K:WA P l Q (x+k') listed n f w):WA P l Q (x+k) listed n f w:=by rw[h];exact K
theorem yY{l:List Oper}{x:Nat}{listed:Array Bool}(t:Nat)(v:Value)(h:ev n f (.tmp t)=v)(hv:v≠undef)(K:WA P l Q x listed n (upd f t v) w):WA P l Q x listed n f w:=by
 rw[uv (J5 h hv)]at K;exact K
theorem Sv{l:List Oper}{x:Nat}{listed listed':Array Bool}(h:listed=listed')(K:WA P l Q x listed' n f w):WA P l Q x listed n f w:=by rw[h];exact K
theorem c_monoF{id:Nat}{l:List Oper}(m:Nat)(S fl:List Nat)(ow:Nat->Nat)(R:Nat->Value->Nat->Nat->World->Prop)(hm:P.follows .mixedOrders=true)(hB:monoF l m S fl=true)(hI:ivB l m ow=true)(hF:(List.range m).filter (fun i=>fl.contains i)=fl)
  (hst:∀ i v a b w w',R i v a b w->b<=w.heap.size->Same [] w w'->R i v a b w')
  (step:∀ i o,i<m->l[i]? =some o->∀ f' w' (lo hi:Nat->Nat),Same [] w w'->Ag S f' f->(∀ j∈vV o,R j (f' (yZ l.toArray j)) (lo (ow j)) (hi (ow j)) w'/\hi (ow j)<=w'.heap.size)->(∀ j k,j∈vV o->k∈vV o->ow j≠ow k->hi (ow j)<=lo (ow k)\/hi (ow k)<=lo (ow j))->(Region.wanted o (yielded l.toArray (AF n f').tmps)=true->OS P n f' w' o (fun v w''=>Same [] w' w''/\R i v (bif Nat.beq (ow i) i then w'.heap.size else lo (ow i)) (bif Nat.beq (ow i) i then w''.heap.size else hi (ow i)) w''))/\(Region.wanted o (yielded l.toArray (AF n f').tmps)=false->R i undef (bif Nat.beq (ow i) i then w'.heap.size else lo (ow i)) (bif Nat.beq (ow i) i then w'.heap.size else hi (ow i)) w'))
  (fin:FinAll (fun U=>∀ x f' w' (lo hi:Nat->Nat),Same [] w w'->Ag S f' f->(∀ i,i<m->U.contains i=false->R i (f' (yZ l.toArray i)) (lo (ow i)) (hi (ow i)) w'/\hi (ow i)<=w'.heap.size)->(∀ i j,i<m->j<m->U.contains i=false->U.contains j=false->ow i≠ow j->hi (ow i)<=lo (ow j)\/hi (ow j)<=lo (ow i))->WA P l Q (x+(U.length+(l.length-m))) (GQ l.length m U) n f' w') (subs fl)):WC P (.region id l.toArray true) Q n f w:=by
 simp only[monoF,Bool.and_eq_true,List.all_eq_true,List.mem_range,decide_eq_true_eq]at hB;obtain⟨⟨hh,a7⟩,hl⟩:=hB;have a4:∀ i,i<m->ow i<m/\ow (ow i)=ow i/\(ow i=i\/∀ o,l[i]? =some o->∃ j∈vV o,ow j=ow i):=by
  intro i hi;have h:=aD.1 hI i (ax.2 hi);simp only[Bool.and_eq_true,Bool.or_eq_true,decide_eq_true_eq]at h;obtain⟨⟨h1,h2⟩,h3⟩:=h;refine⟨h1,aU h2,?_⟩;rcases h3 with h3|h3
  ·exact .inl (aU h3)
  ·refine .inr (fun o ho=>?_)
   rw[ho]at h3;obtain⟨j,hj,hb⟩:=List.any_eq_true.1 h3;exact⟨j,hj,aU hb⟩
 let J:Array Bool->Fr->World->Prop:=fun listed f' w'=>Same [] w w'/\Ag S f' f/\(∀ t,m<=t->listed.getD t false=false)/\∃ lo hi:Nat->Nat,(∀ i,i<m->listed.getD i false=true->listed.getD (ow i) false=true/\R i (f' (yZ l.toArray i)) (lo (ow i)) (hi (ow i)) w'/\hi (ow i)<=w'.heap.size)/\∀ i j,i<m->j<m->ow i=i->ow j=j->i≠j->listed.getD i false=true->listed.getD j false=true->hi i<=lo j\/hi j<=lo i
 refine E7 J hm (fun w' hs=>⟨hs,J8,fun t _=>by simpa using ZZ (i:=t),fun _=>0,fun _=>0,fun i _ h=>absurd h ZZ,fun i j _ _ _ _ _ h=>absurd h ZZ⟩) ?_
 rintro listed f' w' ⟨hsm,hag,ht,lo,hi,hR,hdis⟩ hs hD
 by_cases hbd:∀ i,i<m->fl.contains i=false->listed.getD i false=true
 ·refine .inl (fun a8 hc=>?_)
  unfold unl at hc;rw[Hy a7 (fun t h=>by rw[ht t h];rfl)]at hc;have hU:=fin.get _ (OQ (fun i=>!listed.getD i false) fl)
  generalize hUe:fl.filter (fun i=>!listed.getD i false)=U at hU
  have a3:∀ i,i<m->(U.contains i=false↔listed.getD i false=true):=fun i hi=>by
   cases a2:listed.getD i false with
   | true=>
    simp only[iff_true];cases hq:U.contains i with
    | false=>rfl
    | true=>
     have h1:i∈U:=by simpa using hq
     rw[<- hUe,List.mem_filter,a2]at h1;exact absurd h1.2 (by simp)
   | false=>
    simp only[Bool.false_eq_true,iff_false,Bool.not_eq_false];have h1:fl.contains i=true:=by
     cases hq:fl.contains i with
     | true=>rfl
     | false=>rw[hbd i hi hq]at a2;cases a2
    have h2:i∈U:=by
     rw[<- hUe,List.mem_filter,a2];exact⟨by simpa using h1,rfl⟩
    simpa using h2
  have b3:listed=GQ l.length m U:=by
   apply Array.ext
   ·simp[GQ,hs]
   ·intro i h1 h2
    have h3:listed[i]=listed.getD i false:=by simp[h1]
    simp only[GQ,Array.getElem_ofFn];rw[h3];by_cases a1:i<m
    ·have h4:=a3 i a1
     cases a2:listed.getD i false with
     | true=>rw[h4.2 a2];simp[a1]
     | false=>
      have h5:U.contains i=true:=by
       cases hq:U.contains i with
       | true=>rfl
       | false=>rw[h4.1 hq]at a2;cases a2
      rw[h5];simp
    ·rw[ht i oG];simp[a1]
  have a7:U.length<=(List.range m).countP (fun i=>!listed.getD i false):=by
   rw[<- hUe,<- hF,List.filter_filter,<- List.countP_eq_length_filter]
   exact List.countP_mono_left (fun x _ hx=>by
    simp only[Bool.and_eq_true]at hx
    exact hx.1)
  have hW:=hU (a8-(U.length+(l.length-m))) f' w' lo hi hsm hag (fun i hi h=>(hR i hi ((a3 i hi).1 h)).2) (fun i j hi hj h1 h2 b2=>hdis (ow i) (ow j) (a4 i hi).1 (a4 j hj).1 (a4 i hi).2.1 (a4 j hj).2.1 b2 (hR i hi ((a3 i hi).1 h1)).1 (hR j hj ((a3 j hj).1 h2)).1);rw[show a8-(U.length+(l.length-m))+(U.length+(l.length-m))=a8 by omega,<- b3]at hW;unfold WA at hW;exact hW
 ·obtain⟨a,ha⟩:=aT.1 hbd
  obtain⟨ha,hb⟩:=aP.1 ha;obtain⟨hb,hb2⟩:=aP.1 hb;refine .inr ⟨KQ hs (fun i o hi ho=>(V5 hh hi ho).2.1) a7 a ha (by simpa using hb2),fun i o hil ho hn hd=>?_⟩
  have a1:i<m:=Nat.lt_of_not_le (fun h=>hb2 (by
   have h1:=hl i hil;simp only[decide_eq_false (Nat.not_lt.2 h),Bool.false_or,ho]at h1;have h2:=aD.1 h1 a (ax.2 ha);rw[hb,Bool.false_or]at h2
   exact hd a (by simpa using h2)))
  obtain⟨_,a6,hau,hus,huo⟩:=V5 hh a1 ho
  have nx:∀ v w'',Same [] w' w''->R i v (bif Nat.beq (ow i) i then w'.heap.size else lo (ow i)) (bif Nat.beq (ow i) i then w''.heap.size else hi (ow i)) w''->J (listed.setIfInBounds i true) (Zx f' o.dst v) w'':=fun v w'' an a9=>⟨hsm.trans an,hau f f' v hag,fun t h=>by rw[gse oG];exact ht t h,fun k=>if k=i then w'.heap.size else lo k,fun k=>if k=i then w''.heap.size else hi k,fun j hj a2=>by
   by_cases a5:i=j
   ·subst a5
    rw[hus];by_cases ad:ow i=i
    ·rw[ad]at a9 ⊢
     simp only[show Nat.beq i i=true from Nat.beq_refl i,cond_true]at a9;simp only[if_true];exact⟨a2,a9,ae _⟩
    ·have hb:Nat.beq (ow i) i=false:=by
      cases hb:Nat.beq (ow i) i
      ·rfl
      ·exact absurd (aU hb) ad
     simp only[hb,cond_false]at a9;simp only[if_neg ad];obtain⟨k,hk,hke⟩:=(a4 i hj).2.2.resolve_left ad o ho;obtain⟨h1,_,h3⟩:=hR k (aE (a6 k hk) a1) (hd k hk);rw[hke]at h1 h3;exact⟨by rw[gse (Ne.symm ad)];exact h1,a9,nLT h3 an.size⟩
   ·rw[huo _ _ j hj a5]
    rw[gse a5]at a2;obtain⟨h1,h2,h3⟩:=hR j hj a2;have hoi:¬ow j=i:=fun h=>by rw[h,hn]at h1;cases h1
    simp only[if_neg hoi];exact⟨by rw[gse (Ne.symm hoi)];exact h1,hst j _ _ _ _ _ h2 h3 an,nLT h3 an.size⟩,fun j k hj hk hoj hok b5 b4 b1=>by
   by_cases a5:i=j
   ·subst a5
    rw[gse b5]at b1;have h4:=(hR k hk b1).2.2;rw[hok]at h4;simp only[if_true,if_neg (Ne.symm b5)];exact .inr h4
   ·rw[gse a5]at b4
    by_cases b6:i=k
    ·subst b6
     have h4:=(hR j hj b4).2.2;rw[hoj]at h4;simp only[if_true,if_neg (Ne.symm a5)];exact .inl h4
    ·rw[gse b6]at b1
     simp only[if_neg (Ne.symm a5),if_neg (Ne.symm b6)]
     exact hdis j k hj hk hoj hok b5 b4 b1⟩
  have h:=step i o a1 ho f' w' lo hi hsm hag (fun j hj=>(hR j (aE (a6 j hj) a1) (hd j hj)).2) (fun j k hj hk b2=>hdis (ow j) (ow k) (a4 j (aE (a6 j hj) a1)).1 (a4 k (aE (a6 k hk) a1)).1 (a4 j (aE (a6 j hj) a1)).2.1 (a4 k (aE (a6 k hk) a1)).2.1 b2 (hR j (aE (a6 j hj) a1) (hd j hj)).1 (hR k (aE (a6 k hk) a1) (hd k hk)).1);refine⟨fun hw=>?_,fun hw=>nx undef w' (Same.refl _ _) (h.2 hw)⟩;have h1:=h.1 hw;unfold OS at h1 ⊢;exact fun K Q' hK=>h1 K Q' (fun v w'' ⟨h1,h2⟩=>hK v w'' (nx v w'' h1 h2))
theorem HX{id:Nat}{l:List Oper}(m:Nat)(S fl:List Nat)(ow:Nat->Nat)(R:Nat->Value->Nat->Nat->World->Prop)(hm:P.follows .mixedOrders=true)(hB:monoF l m S fl=true)(hI:ivB l m ow=true)(hF:(List.range m).filter (fun i=>fl.contains i)=fl)
  (hst:∀ i v a b w1 w2,R i v a b w1->b<=w1.heap.size->Same [] w1 w2->R i v a b w2)
  (step:∀ i o,i<m->l[i]? =some o->∀ g w' (lo hi:Nat->Nat),Same [] w w'->(∀ j∈vV o,R j (g (yZ l.toArray j)) (lo (ow j)) (hi (ow j)) w'/\hi (ow j)<=w'.heap.size)->(∀ j k,j∈vV o->k∈vV o->ow j≠ow k->hi (ow j)<=lo (ow k)\/hi (ow k)<=lo (ow j))->(Region.wanted o (yielded l.toArray (AF n (ovr S g f)).tmps)=true->OS P n (ovr S g f) w' o (fun v w''=>Same [] w' w''/\R i v (bif Nat.beq (ow i) i then w'.heap.size else lo (ow i)) (bif Nat.beq (ow i) i then w''.heap.size else hi (ow i)) w''))/\(Region.wanted o (yielded l.toArray (AF n (ovr S g f)).tmps)=false->R i undef (bif Nat.beq (ow i) i then w'.heap.size else lo (ow i)) (bif Nat.beq (ow i) i then w'.heap.size else hi (ow i)) w'))
  (fin:FinAll (fun U=>∀ x g w' (lo hi:Nat->Nat),Same [] w w'->(∀ i,i<m->U.contains i=false->R i (g (yZ l.toArray i)) (lo (ow i)) (hi (ow i)) w'/\hi (ow i)<=w'.heap.size)->(∀ i j,i<m->j<m->U.contains i=false->U.contains j=false->ow i≠ow j->hi (ow i)<=lo (ow j)\/hi (ow j)<=lo (ow i))->WA P l Q (x+(U.length+(l.length-m))) (GQ l.length m U) n (ovr S g f) w') (subs fl)):WC P (.region id l.toArray true) Q n f w:=by
 have a2:∀ xs:List (List Nat),FinAll (fun U=>∀ x g w' (lo hi:Nat->Nat),Same [] w w'->(∀ i,i<m->U.contains i=false->R i (g (yZ l.toArray i)) (lo (ow i)) (hi (ow i)) w'/\hi (ow i)<=w'.heap.size)->(∀ i j,i<m->j<m->U.contains i=false->U.contains j=false->ow i≠ow j->hi (ow i)<=lo (ow j)\/hi (ow j)<=lo (ow i))->WA P l Q (x+(U.length+(l.length-m))) (GQ l.length m U) n (ovr S g f) w') xs->
   FinAll (fun U=>∀ x f' w' (lo hi:Nat->Nat),Same [] w w'->Ag S f' f->(∀ i,i<m->U.contains i=false->R i (f' (yZ l.toArray i)) (lo (ow i)) (hi (ow i)) w'/\hi (ow i)<=w'.heap.size)->(∀ i j,i<m->j<m->U.contains i=false->U.contains j=false->ow i≠ow j->hi (ow i)<=lo (ow j)\/hi (ow j)<=lo (ow i))->WA P l Q (x+(U.length+(l.length-m))) (GQ l.length m U) n f' w') xs:=by
  intro xs
  induction xs with
  | nil=>exact fun _=>trivial
  | cons U r ih=>
   exact fun h=>⟨fun x f' w' lo hi hs a3 hR a1=>by
    have:=h.1 x f' w' lo hi hs hR a1
    rwa[<- Qz a3]at this,ih h.2⟩
 refine c_monoF m S fl ow R hm hB hI hF hst (fun i o hi ho f' w' lo hi' hs a3 hd a1=>?_) (a2 _ fin);have:=step i o hi ho f' w' lo hi' hs hd a1
 rwa[<- Qz a3]at this
end monoi
def Kept(lo hi:Nat)(w:World)(p:World->Prop):Prop:=hi<=w.heap.size/\∀ w2:World,hi<=w2.heap.size->(∀ b,lo<=b->b<hi->w2.heap[b]? =w.heap[b]?)->p w2
theorem Kept.now{lo hi:Nat}{w:World}{p:World->Prop}(h:Kept lo hi w p):p w:=h.2 w h.1 (fun _ _ _=>rfl)
theorem Kept.tr{lo hi:Nat}{w w':World}{p:World->Prop}{X:List Nat}(h:Kept lo hi w p)(hs:Same X w w')(hx:∀ g∈X,g<lo\/hi<=g):Kept lo hi w' p:=
 ⟨nLT h.1 hs.size,fun w2 h2 hb=>h.2 w2 h2 (fun b h3 h4=>(hb b h3 h4).trans (hs.blk b (nLL h4 h.1) (fun hX=>by rcases hx b hX with h5|h5<;>omega)))⟩
theorem Kept.tr0{lo hi:Nat}{w w':World}{p:World->Prop}(h:Kept lo hi w p)(hs:Same [] w w'):Kept lo hi w' p:=h.tr hs (by simp)
theorem Kept.tr1{lo hi b:Nat}{w w':World}{p:World->Prop}(h:Kept lo hi w p)(hs:Same [b] w w')(hx:b<lo\/hi<=b):Kept lo hi w' p:=h.tr hs (fun g hg=>by rw[List.mem_singleton.1 hg];exact hx)
theorem Kept.imp{lo hi:Nat}{w:World}{p q:World->Prop}(h:Kept lo hi w p)(k:∀ w2,p w2->q w2):Kept lo hi w q:=⟨h.1,fun w2 h2 hb=>k w2 (h.2 w2 h2 hb)⟩
end
def iV(xs:List Int):List Value:=xs.map (Value.int .i64)
theorem iV_len(xs:List Int):(iV xs).length=xs.length:=by simp[iV]
theorem IntsIn.news{w:World}{A:Option Addr}{xs:List Int}(h:IntsIn w A xs):0<xs.length->∃ b o',A=some ⟨b,o',none⟩/\∀ j u,(iV xs)[j]? =some u->w.cell? ⟨b,o'+j,none⟩=some u:=fun hm=>by
 obtain⟨b,o,e,_,hc⟩:=h.2 (by rintro rfl;simp at hm)
 refine⟨b,o,e,fun j u hj=>?_⟩
 simp only[iV,List.getElem?_map,Option.map_eq_some_iff]at hj
 obtain⟨x,hx,rfl⟩:=hj
 obtain⟨hk,rfl⟩:=av.1 hx
 simpa using hc j hk
def MatIn(w:World)(A:Option Addr)(L:List (List Int)):Prop:=
 L.length<=jx/\(L≠[]->∃ b o,A=some ⟨b,o,none⟩/\b<w.heap.size/\∀ k (hk:k<L.length),∃ A' c,w.cell? ⟨b,o+k*1,none⟩=some (.slice A' (L[k]).length c)/\IntsIn w A' L[k])
theorem MatIn.mono{w w':World}{A:Option Addr}{L:List (List Int)}(h:MatIn w A L)(hb:Bel w w'):MatIn w' A L:=
 ⟨h.1,fun hn=>by
  obtain⟨b,o,e,hl,hc⟩:=h.2 hn
  refine⟨b,o,e,nLL hl hb.size,fun k hk=>?_⟩
  obtain⟨A',c,h1,h2⟩:=hc k hk
  exact⟨A',c,hb.cell hl h1,h2.mono hb⟩⟩
theorem MatIn.at_{w w':World}{A:Option Addr}{L:List (List Int)}(h:MatIn w A L)(hb:Bel w w'){k:Nat}(hk:k<L.length):
  ∃ b o A' c,A=some ⟨b,o,none⟩/\w'.cell? ⟨b,o+k*1,none⟩=some (.slice A' (L[k]).length c)/\IntsIn w A' L[k]:=by
 obtain⟨b,o,e,hl,hc⟩:=h.2 (by rintro rfl;simp at hk);obtain⟨A',c,h1,h2⟩:=hc k hk;exact⟨b,o,A',c,e,hb.cell hl h1,h2⟩
section
theorem X4{w:World}{base b sz k c:Nat}{e t:TypeId}{A:Option Addr}{xs:List Value}{cs:Array Value}(h:Own w base e sz A k c xs)(hb:Blk w b t cs)(hne:e≠t):∀ g∈aL A,g≠b:=fun g hg e1=>by
 obtain⟨c2,h2⟩:=h.typ g hg
 subst e1
 exact hne (vW h2 hb)
def fnd(l:List Ty)(s:ByteArray):Int:=match l.findIdx? (fun t=>decide (t.name=s))with
 | some k=>(k:Int)
 | none=>-1
def wd(ws:List ByteArray)(k:Nat):ByteArray:=ws.getD k ⟨#[]⟩
def ats(l:List Ty):List ByteArray->Option (List Int)
 | []=>some []
 | x::xs=>if fnd l x<0 then none else (ats l xs).map (fun r=>fnd l x::r)
def PrIn(lo hi:Nat)(w:World)(A:Option Addr)(xs:List Int):Prop:=xs.length<=jx/\(xs≠[]->∃ g cs,A=some ⟨g,0,none⟩/\lo<=g/\g<hi/\Blk w g 3 cs/\cs.toList.take xs.length=iV xs)
theorem PrIn.tr{lo hi:Nat}{w w':World}{A:Option Addr}{xs:List Int}{X:List Nat}(h:PrIn lo hi w A xs)(hs:Same X w w')(hx:∀ g∈X,hi<=g\/∃ cs t,Blk w g t cs/\t≠3):PrIn lo hi w' A xs:=
 ⟨h.1,fun hn=>by
  obtain⟨g,cs,e,hlo,hl,hb,ht⟩:=h.2 hn
  refine⟨g,cs,e,hlo,hl,hb.tr hs (fun hm=>?_),ht⟩
  rcases hx g hm with h1|⟨cs2,t,hb2,hne⟩
  ·omega
  ·exact hne (vW hb2 hb)⟩
theorem PrIn.up{lo hi hi':Nat}{w:World}{A:Option Addr}{xs:List Int}(h:PrIn lo hi w A xs)(hl:hi<=hi'):PrIn lo hi' w A xs:=
 ⟨h.1,fun hn=>by
  obtain⟨g,cs,e,hlo,hg,hb,ht⟩:=h.2 hn
  exact⟨g,cs,e,hlo,by omega,hb,ht⟩⟩
theorem PrIn.low{lo lo' hi:Nat}{w:World}{A:Option Addr}{xs:List Int}(h:PrIn lo hi w A xs)(hl:lo'<=lo):PrIn lo' hi w A xs:=
 ⟨h.1,fun hn=>by
  obtain⟨g,cs,e,hlo,hg,hb,ht⟩:=h.2 hn
  exact⟨g,cs,e,by omega,hg,hb,ht⟩⟩
theorem PrIn.fr{lo hi:Nat}{w w':World}{A:Option Addr}{xs:List Int}(h:PrIn lo hi w A xs)(hf:FrSame lo w w'):PrIn lo hi w' A xs:=
 ⟨h.1,fun hn=>by
  obtain⟨g,cs,e,hlo,hg,hb,ht⟩:=h.2 hn
  exact⟨g,cs,e,hlo,hg,hf.at_ hb hlo,ht⟩⟩
theorem own_pr{w:World}{base k cap:Nat}{A:Option Addr}{xs:List Int}(h:Own w base 3 1 A k cap (iV xs)):PrIn base w.heap.size w A xs:=by
 have h1:=h.len;have h2:=h.max;rw[iV_len,Nat.mul_one]at h1;refine⟨by unfold jx;omega,fun hn=>?_⟩;have hp:=List.length_pos_iff.2 hn;obtain⟨g,cur,e,hlo,hb,_,_,ht⟩:=h.whole oG;rw[Nat.mul_one,<- h1]at ht;exact⟨g,cur,e,hlo,hb.lt,hb,ht⟩
def RowT(lo hi:Nat)(w:World)(l:List Ty)(vs:List Value):Prop:=vs.length=l.length*2/\∀ k (hk:k<l.length),∃ A c,vs[k*2]? =some (.string (l[k]).name)/\vs[k*2+1]? =some (.slice A (l[k]).par.length c)/\PrIn lo hi w A (l[k]).par
theorem RowT.nil(lo hi:Nat)(w:World):RowT lo hi w [] []:=⟨rfl,fun k hk=>by simp at hk⟩
theorem RowT.tr{lo hi:Nat}{w w':World}{l:List Ty}{vs:List Value}{X:List Nat}(h:RowT lo hi w l vs)(hs:Same X w w')(hx:∀ g∈X,hi<=g\/∃ cs t,Blk w g t cs/\t≠3):RowT lo hi w' l vs:=
 ⟨h.1,fun k hk=>by obtain⟨A,c,e1,e2,hp⟩:=h.2 k hk;exact⟨A,c,e1,e2,hp.tr hs hx⟩⟩
theorem RowT.up{lo hi hi':Nat}{w:World}{l:List Ty}{vs:List Value}(h:RowT lo hi w l vs)(hl:hi<=hi'):RowT lo hi' w l vs:=
 ⟨h.1,fun k hk=>by obtain⟨A,c,e1,e2,hp⟩:=h.2 k hk;exact⟨A,c,e1,e2,hp.up hl⟩⟩
theorem RowT.fr{lo hi:Nat}{w w':World}{l:List Ty}{vs:List Value}(h:RowT lo hi w l vs)(hf:FrSame lo w w'):RowT lo hi w' l vs:=
 ⟨h.1,fun k hk=>by obtain⟨A,c,e1,e2,hp⟩:=h.2 k hk;exact⟨A,c,e1,e2,hp.fr hf⟩⟩
theorem RowT.snoc{lo hi:Nat}{w:World}{l:List Ty}{vs:List Value}{s:ByteArray}{xs:List Int}{A:Option Addr}{c:Nat}(h:RowT lo hi w l vs)(hp:PrIn lo hi w A xs):RowT lo hi w (l++[⟨s,xs⟩]) (vs++[.string s,.slice A xs.length c]):=by
 have h1:=h.1;refine⟨by simp[h1];omega,fun k hk=>?_⟩;by_cases e:k<l.length
 ·obtain⟨A2,c2,e1,e2,hp2⟩:=h.2 k e
  refine⟨A2,c2,?_,?_,?_⟩
  ·rw[List.getElem?_append_left oG,List.getElem_append_left e];exact e1
  ·rw[List.getElem?_append_left oG,List.getElem_append_left e];exact e2
  ·rw[List.getElem_append_left e];exact hp2
 ·have e2:k=l.length:=by simp at hk;omega
  subst e2;refine⟨A,c,?_,?_,?_⟩
  ·rw[List.getElem?_append_right oG,h1,Nat.sub_self];simp
  ·rw[List.getElem?_append_right oG,h1,show l.length*2+1-l.length*2=1 by omega];simp
  ·simpa using hp
section rules
variable {P:Program} {n:Nw} {f:Fr} {w:World} {ty:TypeId} {pos:String} {af:Array Edge} {x y:Operand} {t e:TypeId}
end rules
end
def KidIn(w:World)(D:Nat->Prop)(A:Option Addr)(xs:List Int):Prop:=xs.length<=jx/\(xs≠[]->∃ g cs,A=some ⟨g,0,none⟩/\D g/\Blk w g 3 cs/\cs.toList.take xs.length=iV xs)
theorem KidIn.nil(w:World)(D:Nat->Prop)(A:Option Addr):KidIn w D A []:=⟨ag _,fun h=>absurd rfl h⟩
theorem KidIn.chG{w w':World}{D Z:Nat->Prop}{A:Option Addr}{xs:List Int}(h:KidIn w D A xs)(hc:ChG Z w w')(hz:∀ g,Z g->¬D g\/∃ cs t,Blk w g t cs/\t≠3):KidIn w' D A xs:=
 ⟨h.1,fun hn=>by
  obtain⟨g,cs,e,hd,hb,ht⟩:=h.2 hn
  refine⟨g,cs,e,hd,hb.chG hc (fun hm=>?_),ht⟩
  rcases hz g hm with h1|⟨c2,t2,h1,h2⟩
  ·exact h1 hd
  ·exact h2 (vW h1 hb)⟩
theorem ChG.of_same{X:List Nat}{w w':World}(h:Same X w w'):ChG (fun g=>g∈X) w w':=⟨h.os,h.tape,h.output,h.size,fun k hk hx=>h.blk k hk hx⟩
theorem KidIn.weak{w:World}{D D':Nat->Prop}{A:Option Addr}{xs:List Int}(h:KidIn w D A xs)(hd:∀ g,g<w.heap.size->D g->D' g):KidIn w D' A xs:=
 ⟨h.1,fun hn=>by
  obtain⟨g,cs,e,h1,hb,ht⟩:=h.2 hn
  exact⟨g,cs,e,hd g hb.lt h1,hb,ht⟩⟩
theorem KidIn.own{w:World}{base k cap:Nat}{A:Option Addr}{xs:List Int}(h:Own w base 3 1 A k cap (iV xs))(hk:k=xs.length):KidIn w (fun g=>base<=g) A xs:=by
 subst hk;have h2:=own_pr h
 exact⟨h2.1,fun hn=>by
  obtain⟨g,cs,e,h3,_,h4,h5⟩:=h2.2 hn
  exact⟨g,cs,e,h3,h4,h5⟩⟩
theorem KidIn.cell{w:World}{D:Nat->Prop}{A:Option Addr}{xs:List Int}(h:KidIn w D A xs){j:Nat}(hj:j<xs.length):∃ g,A=some ⟨g,0,none⟩/\g<w.heap.size/\w.cell? ⟨g,0+j*1,none⟩=some (.int .i64 xs[j]):=by
 obtain⟨g,cs,e,_,hb,ht⟩:=h.2 (by intro e;rw[e]at hj;simp at hj);refine⟨g,e,hb.lt,hb.cell ?_⟩;have h1:(cs.toList.take xs.length)[j]? =some (.int .i64 xs[j]):=by rw[ht];simp[iV,hj]
 rw[List.getElem?_take_of_lt hj,Array.getElem?_toList]at h1;rw[Nat.zero_add,Nat.mul_one];exact h1
def rwV(r:Rw)(A:Option Addr)(c:Nat)(K:Option Addr)(ck:Nat):List Value:=[.int .i64 r.kind,.string r.name,.string r.typ.base,.slice A r.typ.args.length c,.int .i64 r.index,.slice K r.kids.length ck,.int .i64 r.up]
inductive RwsIn(w0 w:World)(D:Nat->Prop):List Rw->List Value->Prop
 | nil:RwsIn w0 w D [] []
 | cons {r:Rw} {l:List Rw} {vs:List Value} {A K:Option Addr} {c ck:Nat} (hs:SimsIn w0 A r.typ.args) (hk:KidIn w D K r.kids) (h:RwsIn w0 w D l vs):RwsIn w0 w D (r::l) (rwV r A c K ck++vs)
theorem RwsIn.len{w0 w:World}{D:Nat->Prop}{l:List Rw}{vs:List Value}(h:RwsIn w0 w D l vs):vs.length=l.length*7:=by
 induction h with
 | nil=>rfl
 | cons hs hk h ih=>simp only[List.length_append,ih,List.length_cons,rwV,List.length_nil];omega
theorem RwsIn.chG{w0 w w':World}{D Z:Nat->Prop}{l:List Rw}{vs:List Value}(h:RwsIn w0 w D l vs)(hc:ChG Z w w')(hz:∀ g,Z g->¬D g\/∃ cs t,Blk w g t cs/\t≠3):RwsIn w0 w' D l vs:=by
 induction h with
 | nil=>exact .nil
 | cons hs hk h ih=>exact .cons hs (hk.chG hc hz) ih
theorem RwsIn.tr{w0 w w':World}{D:Nat->Prop}{X:List Nat}{l:List Rw}{vs:List Value}(h:RwsIn w0 w D l vs)(hs:Same X w w')(hz:∀ g,g∈X->¬D g\/∃ cs t,Blk w g t cs/\t≠3):RwsIn w0 w' D l vs:=h.chG (ChG.of_same hs) hz
theorem RwsIn.weak{w0 w:World}{D D':Nat->Prop}{l:List Rw}{vs:List Value}(h:RwsIn w0 w D l vs)(hd:∀ g,g<w.heap.size->D g->D' g):RwsIn w0 w D' l vs:=by
 induction h with
 | nil=>exact .nil
 | cons hs hk h ih=>exact .cons hs (hk.weak hd) ih
theorem RwsIn.app{w0 w:World}{D:Nat->Prop}{l m:List Rw}{vs us:List Value}(h:RwsIn w0 w D l vs)(k:RwsIn w0 w D m us):RwsIn w0 w D (l++m) (vs++us):=by
 induction h with
 | nil=>exact k
 | cons hs hk h ih=>rw[List.append_assoc];exact .cons hs hk ih
theorem RwsIn.at_{w0 w:World}{D:Nat->Prop}{l:List Rw}{vs:List Value}(h:RwsIn w0 w D l vs):∀ {k:Nat} {r:Rw},l[k]? =some r->∃ A c K ck,(vs.drop (k*7)).take 7=rwV r A c K ck/\SimsIn w0 A r.typ.args/\KidIn w D K r.kids:=by
 induction h with
 | nil=>intro k r hk;simp at hk
 | @cons r' l vs A K c ck hs hk h ih=>
  intro k r hr;cases k with
  | zero=>
   obtain rfl:=Option.some.inj hr;exact⟨A,c,K,ck,by rw[Nat.zero_mul,List.drop_zero];exact List.take_left' rfl,hs,hk⟩
  | succ k=>
   obtain⟨A',c',K',ck',h1,h2⟩:=ih (k:=k) (r:=r) hr;refine⟨A',c',K',ck',?_,h2⟩;rw[show (k+1)*7=7+k*7 by omega,<- List.drop_drop,show List.drop 7 (rwV r' A c K ck++vs)=vs from List.drop_left' rfl];exact h1
theorem own_mid{w:World}{base sz cap g m o n:Nat}{e:TypeId}{xs ys:List Value}(h:Own w base e sz (some ⟨g,0,none⟩) m cap xs)(hx:(xs.drop o).take n=ys):w.rangeAt g (0+o) ys:=fun i v hv=>by
 subst hx
 rw[List.getElem?_take]at hv
 split at hv
 ·rw[List.getElem?_drop]at hv
  have hi:=(av.1 hv).1
  obtain⟨g',e,_,_,hc⟩:=h.cell (by intro e;rw[e]at hi;simp at hi)
  cases e
  rw[Nat.zero_add]
  exact hc _ v hv
 ·cases hv
def Tv.parts:Tv->List Tv
 | .con _ _=>[]
 | .var _=>[]
 | .abs _ x=>[x]
 | .app x y=>[x,y]
def hd(v:Tv)(up:Int)(ks:List Int):Rw:=⟨v.tm.kind,v.tm.name,v.tm.type,v.tm.index,ks,up⟩
def WV(p:Nat):List Tv->List Int->List Rw->List Int×List Rw
 | [],ks,t=>(ks,t)
 | x::r,ks,t=>WV p r (ks++[((p+1+t.length:Nat):Int)]) (t++rws p (p+1+t.length) x)
theorem rws_acc(up:Int)(p:Nat)(v:Tv):rws up p v=hd v up (WV p v.parts [] []).1::(WV p v.parts [] []).2:=by
 cases v with
 | con nm τ=>rfl
 | var i=>rfl
 | abs τ x=>simp[rws,WV,Tv.parts,hd,Tv.tm,Tm.kind,Tm.name,Tm.type,Tm.index]
 | app x y=>simp[rws,WV,Tv.parts,hd,Tv.tm,Tm.kind,Tm.name,Tm.type,Tm.index,VQ]
theorem Dw(v:Tv):v.tm.args=v.parts.map Tv.tm:=by cases v<;>rfl
theorem parts_lt{v x:Tv}(h:x∈v.parts):x.size<v.size:=by
 cases v with
 | con nm τ=>cases h
 | var i=>cases h
 | abs τ y=>simp only[Tv.parts,List.mem_singleton]at h;subst h;simp[Tv.size]
 | app y z=>
  simp only[Tv.parts,List.mem_cons,List.not_mem_nil,or_false]at h;rcases h with rfl|rfl<;>simp only[Tv.size]<;>omega
theorem parts_len(v:Tv):v.parts.length<=2:=by cases v<;>simp[Tv.parts]
theorem parts_sum(v:Tv):(v.parts.map Tv.size).sum+1=v.size:=by cases v<;>simp[Tv.parts,Tv.size]
theorem tms_part{w:World}{A:Option Addr}{v:Tv}(h:TmsIn w A v.tm.args){k:Nat}(hk:k<v.parts.length):∃ b o A' c B d,A=some ⟨b,o,none⟩/\b<w.heap.size/\w.rangeAt b (o+k*6) [Value.int .i64 (v.parts[k]).tm.kind,.string (v.parts[k]).tm.name,.int .i64 (v.parts[k]).tm.index,.string (v.parts[k]).tm.type.base,.slice A' (v.parts[k]).tm.type.args.length c,.slice B (v.parts[k]).tm.args.length d]/\SimsIn w A' (v.parts[k]).tm.type.args/\TmsIn w B (v.parts[k]).tm.args:=by
 have hk2:k<v.tm.args.length:=by rw[Dw,List.length_map];exact hk
 obtain⟨b,o,A',c,B,d,h1,h2,h3,h4,h5⟩:=h.at_ hk2;have e:v.tm.args[k]'hk2=(v.parts[k]).tm:=by simp only[Dw,List.getElem_map]
 rw[e]at h3 h4 h5;exact⟨b,o,A',c,B,d,h1,h2,h3,h4,h5⟩
theorem R0{α:Type}(a:List α)(x y:α)(b:List α)(i:Nat)(h:i=a.length):(a++x::b).set i y=a++y::b:=by
 subst h
 induction a with
 | nil=>rfl
 | cons z a ih=>simp only[List.cons_append,List.length_cons,List.set_cons_succ,ih]
theorem rw_set{vs ys:List Value}{r:Rw}{A K K':Option Addr}{c ck a1 n:Nat}{ks:List Int}(h:vs.length=n*7):(vs++rwV r A c K ck++ys).set (0+n*7+5) (.slice K' ks.length a1)=vs++rwV { r with kids:=ks } A c K' a1++ys:=by
 have h2:=R0 (vs++[.int .i64 r.kind,.string r.name,.string r.typ.base,.slice A r.typ.args.length c,.int .i64 r.index]) (.slice K r.kids.length ck) (.slice K' ks.length a1) ([.int .i64 r.up]++ys) (0+n*7+5) (by simp[h])
 simpa[rwV]using h2
theorem rw_kid{vs ys:List Value}{r:Rw}{A K:Option Addr}{c ck n:Nat}(h:vs.length=n*7):(vs++rwV r A c K ck++ys)[0+n*7+5]? =some (.slice K r.kids.length ck):=by
 rw[List.append_assoc,List.getElem?_append_right oG,h,show 0+n*7+5-n*7=5 by omega];rfl
theorem ChG.same{X:List Nat}{w w':World}(h:ChG (fun g=>g∈X) w w'):Same X w w':=⟨h.os,h.tape,h.output,h.size,fun k hk hx=>h.blk k hk hx⟩
section
def RdT(w0 w:World)(q:Nat)(ls:List Rw):Prop:=∀ k r,ls[k]? =some r->∃ A c K ck,w.rangeAt q (0+k*7) [.int .i64 r.kind,.string r.name,.string r.typ.base,.slice A r.typ.args.length c,.int .i64 r.index,.slice K r.kids.length ck,.int .i64 r.up]/\w.rangeAt q (0+k*7+2) [.string r.typ.base,.slice A r.typ.args.length c]/\SimsIn w0 A r.typ.args/\∀ j (hj:j<r.kids.length),∃ g,K=some ⟨g,0,none⟩/\g<w.heap.size/\w.cell? ⟨g,0+j*1,none⟩=some (.int .i64 r.kids[j])
theorem rdt_of{w0 w:World}{q n cap base:Nat}{D:Nat->Prop}{ls:List Rw}{zs:List Value}(ho:Own w base 172 7 (some ⟨q,0,none⟩) n cap zs)(h:RwsIn w0 w D ls zs):RdT w0 w q ls:=fun k r hr=>by
 obtain⟨A,c,K,ck,h1,h2,h3⟩:=h.at_ hr
 have hm:=own_mid ho h1
 refine⟨A,c,K,ck,hm,fun i v hv=>?_,h2,fun j hj=>h3.cell hj⟩
 match i,hv with
 | 0,hv=>exact hm 2 v hv
 | 1,hv=>exact hm 3 v hv
 | i+2,hv=>simp at hv
theorem nd_row{l:List Rw}{p:Nat}{Γ:List Ts}{v:Tv}(h:J9 l p Γ v):∃ r,l[p]? =some r/\(r.kind=1\/r.kind=2\/r.kind=3\/r.kind=4):=by
 cases v with
 | con nm τ=>obtain⟨r,h1,h2,_⟩:=h;exact⟨r,h1,.inl h2⟩
 | var i=>obtain⟨r,h1,h2,_⟩:=h;exact⟨r,h1,.inr (.inl h2)⟩
 | abs τ x=>obtain⟨⟨r,h1,h2,_⟩,_⟩:=h;exact⟨r,h1,.inr (.inr (.inl h2))⟩
 | app x y=>obtain⟨⟨r,h1,h2,_⟩,_⟩:=h;exact⟨r,h1,.inr (.inr (.inr h2))⟩
theorem nd_lt{l:List Rw}{p:Nat}{Γ:List Ts}{v:Tv}(h:J9 l p Γ v):p<l.length:=by
 obtain⟨r,h1,_⟩:=nd_row h;exact(av.1 h1).1
section nd
variable {l:List Rw} {p:Nat} {r:Rw} {Γ:List Ts} {v:Tv}
theorem nd_con(h:J9 l p Γ v)(hr:l[p]? =some r)(hk:r.kind=1):∃ nm τ,v= .con nm τ/\r.typ=τ.sm:=by
 cases v with
 | con nm τ=>obtain⟨r',h1,_,h2⟩:=h;cases xv hr h1;exact⟨nm,τ,rfl,h2⟩
 | var i=>obtain⟨r',h1,h2,_⟩:=h;cases xv hr h1;rw[hk]at h2;cases h2
 | abs σ x=>obtain⟨⟨r',h1,h2,_⟩,_⟩:=h;cases xv hr h1;rw[hk]at h2;cases h2
 | app x y=>obtain⟨⟨r',h1,h2,_⟩,_⟩:=h;cases xv hr h1;rw[hk]at h2;cases h2
theorem nd_var(h:J9 l p Γ v)(hr:l[p]? =some r)(hk:r.kind=2):∃ i,v= .var i/\r.index=(i:Int)/\r.up<(p:Int)/\Chn l r.up Γ:=by
 cases v with
 | con nm τ=>obtain⟨r',h1,h2,_⟩:=h;cases xv hr h1;rw[hk]at h2;cases h2
 | var i=>obtain⟨r',h1,_,h2,h3,h4⟩:=h;cases xv hr h1;exact⟨i,rfl,h2,h3,h4⟩
 | abs σ x=>obtain⟨⟨r',h1,h2,_⟩,_⟩:=h;cases xv hr h1;rw[hk]at h2;cases h2
 | app x y=>obtain⟨⟨r',h1,h2,_⟩,_⟩:=h;cases xv hr h1;rw[hk]at h2;cases h2
theorem nd_abs(h:J9 l p Γ v)(hr:l[p]? =some r)(hk:r.kind=3):∃ τ x,v= .abs τ x/\r.typ=τ.sm/\r.kids= [((p+1:Nat):Int)]/\J9 l (p+1) (τ::Γ) x:=by
 cases v with
 | con nm τ=>obtain⟨r',h1,h2,_⟩:=h;cases xv hr h1;rw[hk]at h2;cases h2
 | var i=>obtain⟨r',h1,h2,_⟩:=h;cases xv hr h1;rw[hk]at h2;cases h2
 | abs σ x=>obtain⟨⟨r',h1,_,h2,h3⟩,h4⟩:=h;cases xv hr h1;exact⟨σ,x,rfl,h2,h3,h4⟩
 | app x y=>obtain⟨⟨r',h1,h2,_⟩,_⟩:=h;cases xv hr h1;rw[hk]at h2;cases h2
theorem nd_app(h:J9 l p Γ v)(hr:l[p]? =some r)(hk:r.kind=4):∃ x y,v= .app x y/\r.kids= [((p+1:Nat):Int),((p+1+x.size:Nat):Int)]/\J9 l (p+1) Γ x/\J9 l (p+1+x.size) Γ y:=by
 cases v with
 | con nm τ=>obtain⟨r',h1,h2,_⟩:=h;cases xv hr h1;rw[hk]at h2;cases h2
 | var i=>obtain⟨r',h1,h2,_⟩:=h;cases xv hr h1;rw[hk]at h2;cases h2
 | abs σ x=>obtain⟨⟨r',h1,h2,_⟩,_⟩:=h;cases xv hr h1;rw[hk]at h2;cases h2
 | app x y=>obtain⟨⟨r',h1,_,h2⟩,h3,h4⟩:=h;cases xv hr h1;exact⟨x,y,rfl,h2,h3,h4⟩
end nd
theorem chn_row{l:List Rw}{u:Int}{Γ:List Ts}{k:Nat}{τ:Ts}(h:Chn l u Γ)(hk:Γ[k]? =some τ):∃(m:Nat) (r:Rw),u=(m:Int)/\l[m]? =some r/\r.up<(m:Int)/\-1<=r.up/\((r.kind=3/\((k=0/\r.typ=τ.sm)\/∃ k',k=k'+1/\∃ Δ,Δ[k']? =some τ/\Chn l r.up Δ))\/(r.kind≠3/\∃ Δ,Δ[k]? =some τ/\Chn l r.up Δ)):=by
 have low:∀ {u:Int} {Γ:List Ts},Chn l u Γ->-1<=u:=fun h=>by cases h<;>omega
 cases h with
 | nil=>simp at hk
 | @abs m r σ Δ h1 h2 h3 h4 h5=>
  refine⟨m,r,rfl,h1,h4,low h5,.inl ⟨h2,?_⟩⟩;cases k with
  | zero=>obtain rfl:σ=τ:=Option.some.inj hk;exact .inl ⟨rfl,h3⟩
  | succ k=>exact .inr ⟨k,rfl,Δ,hk,h5⟩
 | @app m r _ h1 h2 h4 h5=>exact⟨m,r,rfl,h1,h4,low h5,.inr ⟨h2,Γ,hk,h5⟩⟩
theorem Px:∀(v:Tv) (Γ:List Ts) (j:Nat) (h:j<(nds Γ v).length),(nds Γ v)[j].1.length+(nds Γ v)[j].2.size<=Γ.length+v.size
 | .con nm τ,Γ,j,h=>by
  obtain rfl:j=0:=by simp[nds]at h;omega
  exact ae _
 | .var i,Γ,j,h=>by
  obtain rfl:j=0:=by simp[nds]at h;omega
  exact ae _
 | .abs τ x,Γ,j,h=>by
  cases j with
  | zero=>exact ae _
  | succ j=>
   have:=Px x (τ::Γ) j (by simp only[nds,List.length_cons]at h;omega)
   simp only[nds,List.getElem_cons_succ,List.length_cons,Tv.size]at this ⊢
   omega
 | .app x y,Γ,j,h=>by
  cases j with
  | zero=>exact ae _
  | succ j=>
   simp only[nds,List.getElem_cons_succ,Tv.size]
   by_cases e:j<(nds Γ x).length
   ·rw[List.getElem_append_left e]
    have:=Px x Γ j e
    omega
   ·rw[List.getElem_append_right oG]
    have:=Px y Γ (j-(nds Γ x).length) (by simp only[nds,List.length_cons,List.length_append]at h;omega)
    omega
theorem Nk{m i:Nat}{f h:Nat->Value}{a b:Value}:D4 (kX m f h) (0+i*2) [a,b]=kX m (fun j=>if j=i then a else f j) (fun j=>if j=i then b else h j):=by
 show ((kX m f h).setIfInBounds (0+i*2+0) a).setIfInBounds (0+i*2+1) b=_;rw[EQ,EZ]
theorem Nv{w:World}{b t n k:Nat}{F H:Nat->Value}{x y:Value}(hb:Blk w b t (kX n F H))(hk:k<n)(hF:F k=x)(hH:H k=y):w.rangeAt b (0+k*2) [x,y]:=fun i v hv=>by
 match i,hv with
 | 0,hv=>obtain rfl:=Option.some.inj hv;rw[cell_of_row w b _ _ _ _ hb,EK hk,hF]
 | 1,hv=>obtain rfl:=Option.some.inj hv;rw[cell_of_row w b _ _ _ _ hb,I8 hk,hH]
 | i+2,hv=>simp at hv
def TyS(S:Nat->Prop)(w:World):Option Addr->Ts->Prop
 | _,.b _=>True
 | A,.f x y=>∃ b o A0 c0 A1 c1,A=some ⟨b,o,none⟩/\b<w.heap.size/\S b/\w.rangeAt b o [.string x.sm.base,.slice A0 x.sm.args.length c0,.string y.sm.base,.slice A1 y.sm.args.length c1]/\TyS S w A0 x/\TyS S w A1 y
theorem Bel.then{a b c:World}(h:Bel a b)(g:Bel b c):Bel a c:=h.tr0 (sB g)
section tys
variable {S S':Nat->Prop} {w w':World}
theorem rng4{b o:Nat}{a0 a1 a2 a3:Value}(h:w.rangeAt b o [a0,a1,a2,a3]):w.rangeAt b (o+0*2) [a0,a1]/\w.rangeAt b (o+1*2) [a2,a3]:=⟨fun j v hj=>by
 match j,hj with
 | 0,hj=>exact h 0 v hj
 | 1,hj=>exact h 1 v hj
 | j+2,hj=>simp at hj,fun j v hj=>by
 match j,hj with
 | 0,hj=>exact h 2 v hj
 | 1,hj=>exact h 3 v hj
 | j+2,hj=>simp at hj⟩
theorem TyS.keep(hz:w.heap.size<=w'.heap.size)(hk:∀ b,b<w.heap.size->S b->w'.heap[b]? =w.heap[b]?):∀(τ:Ts) {A:Option Addr},TyS S w A τ->TyS S w' A τ
 | .b _,_,_=>trivial
 | .f x y,A,h=>by
  obtain⟨b,o,A0,c0,A1,c1,e,h1,h2,h3,h4,h5⟩:=h
  exact⟨b,o,A0,c0,A1,c1,e,nLL h1 hz,h2,fun j v hj=>by
   have:=h3 j v hj
   unfold World.cell? at this ⊢
   rw[hk b h1 h2];exact this,h4.keep hz hk x,h5.keep hz hk y⟩
theorem TyS.tr{Z:List Nat}{τ:Ts}{A:Option Addr}(h:TyS S w A τ)(hs:Same Z w w')(hz:∀ g∈Z,¬S g\/w.heap.size<=g):TyS S w' A τ:=
 h.keep hs.size (fun b hb hS=>hs.blk b hb (fun hm=>by rcases hz b hm with h|h;exact h hS;omega)) τ
theorem TyS.mono{τ:Ts}{A:Option Addr}(h:TyS S w A τ)(hb:Bel w w'):TyS S w' A τ:=h.tr (sB hb) (by simp)
theorem TyS.imp(hi:∀ b,b<w.heap.size->S b->S' b):∀(τ:Ts) {A:Option Addr},TyS S w A τ->TyS S' w A τ
 | .b _,_,_=>trivial
 | .f x y,A,h=>by
  obtain⟨b,o,A0,c0,A1,c1,e,h1,h2,h3,h4,h5⟩:=h
  exact⟨b,o,A0,c0,A1,c1,e,h1,hi b h1 h2,h3,h4.imp hi x,h5.imp hi y⟩
theorem TyS.sims:∀(τ:Ts) {A:Option Addr},TyS S w A τ->SimsIn w A τ.sm.args
 | .b t,A,_=>by cases t<;>exact .nil
 | .f x y,A,h=>by
  obtain⟨b,o,A0,c0,A1,c1,rfl,h1,_,h3,h4,h5⟩:=h
  obtain⟨h6,h7⟩:=rng4 h3
  refine .more (show 2<=jx by decide) h1 (fun k hk2=>?_)
  match k,hk2 with
  | 0,_=>
   show SimAt w b (o+0*2) x.sm
   rw[Sm.eta x.sm]
   exact SimAt.mk h1 h6 (h4.sims x)
  | 1,_=>
   show SimAt w b (o+1*2) y.sm
   rw[Sm.eta y.sm]
   exact SimAt.mk h1 h7 (h5.sims y)
theorem TyS.of(hS:∀ b,b<w.heap.size->S b):∀(τ:Ts) {A:Option Addr},SimsIn w A τ.sm.args->TyS S w A τ
 | .b _,_,_=>trivial
 | .f x y,A,h=>by
  obtain⟨b,o,A0,c0,rfl,hl,h1,h2⟩:=h.at_ (k:=0) (by simp[Ts.sm,Sm.args])
  obtain⟨b1,o1,A1,c1,e1,_,h3,h4⟩:=h.at_ (k:=1) (by simp[Ts.sm,Sm.args])
  obtain⟨rfl,rfl⟩:b=b1/\o=o1:=by cases e1;exact⟨rfl,rfl⟩
  exact⟨b,o,A0,c0,A1,c1,rfl,hl,hS b hl,fun j v hj=>by
   match j,hj with
   | 0,hj=>exact h1 0 v hj
   | 1,hj=>exact h1 1 v hj
   | 2,hj=>exact h3 0 v hj
   | 3,hj=>exact h3 1 v hj
   | j+4,hj=>simp at hj,TyS.of hS x h2,TyS.of hS y h4⟩
theorem TyS.old{w0:World}{τ:Ts}{A:Option Addr}(h:SimsIn w0 A τ.sm.args)(hB:Bel w0 w)(hS:∀ b,b<w0.heap.size->S b):TyS S w A τ:=(TyS.of hS τ h).mono hB
theorem TyS.mk{b t:Nat}{A0 A1:Option Addr}{c0 c1:Nat}{x y:Ts}(hb:Blk w b t #[.string x.sm.base,.slice A0 x.sm.args.length c0,.string y.sm.base,.slice A1 y.sm.args.length c1])(hS:S b)(hx:TyS S w A0 x)(hy:TyS S w A1 y):TyS S w (some ⟨b,0,none⟩) (.f x y):=⟨b,0,A0,c0,A1,c1,rfl,hb.lt,hS,hb.range0,hx,hy⟩
end tys
def nwX(w0 w:World)(X:List Nat)(b:Nat):Prop:=b<w0.heap.size\/(w.heap.size<=b/\b∉X)
theorem nwX.no{w0 w:World}{X:List Nat}{b:Nat}(h:b∈X)(h0:Bel w0 w)(hb:w.heap.size<=b):¬nwX w0 w X b:=fun h2=>by
 have:=Bel.size h0
 rcases h2 with h2|h2
 ·omega
 ·exact h2.2 h
theorem nwX.yes{w0 w:World}{b c d:Nat}(h0:w.heap.size<=b)(hc:c<b)(hd:d<b):nwX w0 w [c,d] b:= .inr ⟨h0,fun hm=>by simp at hm;omega⟩
structure TI(S:Nat->Prop)(ls:List Rw)(n i:Nat)(F H:Nat->Value)(w:World):Prop where
 t:∀ k,i<=k->k<n->∃ τ A c,TyAt ls k τ/\F k= .string τ.sm.base/\H k= .slice A τ.sm.args.length c/\TyS S w A τ
theorem TI.start(S:Nat->Prop)(ls:List Rw)(n:Nat)(w:World):TI S ls n n (fun _=> .string ⟨#[]⟩) (fun _=> .slice none 0 0) w:=⟨fun k h1 h2=>by omega⟩
theorem TI.mono{S:Nat->Prop}{ls:List Rw}{n i:Nat}{F H:Nat->Value}{w w':World}(h:TI S ls n i F H w)(hb:Bel w w'):TI S ls n i F H w':=⟨fun k h1 h2=>by
 obtain⟨τ,A,c,a1,a2,a3,a4⟩:=h.t k h1 h2
 exact⟨τ,A,c,a1,a2,a3,a4.mono hb⟩⟩
theorem TI.put{S:Nat->Prop}{ls:List Rw}{n p b c:Nat}{F H:Nat->Value}{w w':World}{τ:Ts}{A:Option Addr}(h:TI S ls n (p+1) F H w)(hb:¬S b)(hs:Same [b] w w')(hT:TyAt ls p τ)(hS:TyS S w A τ):TI S ls n p (fun j=>if j=p then .string τ.sm.base else F j) (fun j=>if j=p then .slice A τ.sm.args.length c else H j) w':=by
 have mv:∀ {σ:Ts} {B:Option Addr},TyS S w B σ->TyS S w' B σ:=fun hσ=>hσ.tr hs (fun g hg=> .inl (by rw[List.mem_singleton.1 hg];exact hb))
 refine⟨fun k h1 h2=>?_⟩;by_cases e:k=p
 ·subst e
  simp only[if_true];exact⟨τ,A,c,hT,rfl,rfl,mv hS⟩
 ·simp only[if_neg e]
  obtain⟨σ,B,d,a1,a2,a3,a4⟩:=h.t k oG h2;exact⟨σ,B,d,a1,a2,a3,mv a4⟩
theorem nd_txt{l:List Rw}{p:Nat}{Γ:List Ts}{v:Tv}{τ:Ts}(h:J9 l p Γ v)(ho:v.ok Γ.length)(hG:∀ σ∈Γ,σ.size<=200)(hs:v.size<=200)(ht:TyAt l p τ):τ.txt.length<=1000000:=by
 have h1:=PV ho hG (ht Γ v h);have h2:=Ts.txt_le τ;omega
end
section
section ok
variable {b:ByteArray} {l:List Sm}
theorem okA(h:b=smE\/b=smT)(k:((l.length:Nat):Int)=0):YJ (.mk b l):= .inl ⟨h,by show l.length=0;omega⟩
theorem okB1(h:b=smE\/b=smT)(k:¬((l.length:Nat):Int)=0):¬YJ (.mk b l):=by
 rintro (⟨_,h2⟩|⟨h2,_⟩)
 ·exact k (by have:l.length=0:=h2;omega)
 ·have h2:b=⟨#[]⟩:=h2
  rcases h with h|h<;>exact absurd (h.symm.trans h2) dE
theorem okB2(h:¬(b=smE\/b=smT))(k:¬b=⟨#[]⟩):¬YJ (.mk b l):=by
 rintro (⟨h2,_⟩|⟨h2,_⟩)
 ·exact h h2
 ·exact k h2
theorem okX(h:b=smE\/b=smT)(k:b=⟨#[]⟩):False:=by rcases h with h|h<;>exact absurd (h.symm.trans k) dE
theorem okD(h:¬(b=smE\/b=smT))(k:b=⟨#[]⟩):decide (¬((l.length:Nat):Int)=2)=decide (¬YJ (.mk b l)):=by
 refine ai.2 (not_congr ⟨fun e=> .inr ⟨k,by show l.length=2;omega⟩,fun e=>?_⟩);rcases e with ⟨h2,_⟩|⟨_,h2⟩
 ·exact absurd h2 h
 ·have:l.length=2:=h2
  omega
end ok
theorem xY:(prog.info? 31).map (·.size)=some 2:=by kernel_rfl
theorem JQ:(prog.info? 31).map (·.zero)=some (some (.agg #[.string ⟨#[]⟩,.slice none 0 0])):=by kernel_rfl
set_option maxRecDepth 100000 in
set_option maxHeartbeats 2000000 in
theorem swk_step{w0:World}{bN bV:Nat}(l0N:w0.heap.size<=bN)(_l0V:w0.heap.size<=bV)(nVN:bV≠bN){base:ByteArray}{args:List Sm}{A:Option Addr}{c d n:Nat}{w:World}(hS:SimsIn w0 A args)(IH:∀ x∈args,∀(A2:Option Addr) (c2 d2 n2:Nat) (w2:World),SimsIn w0 A2 x.args->n2<=200->d2<=41->Bel w0 w2->Blk w2 bN 3 #[.int .i64 ((n2:Nat):Int)]->Blk w2 bV 183 #[.func (.func 113) #[] #[.pointer (some ⟨bN,0,none⟩),.pointer (some ⟨bV,0,none⟩)]]->Calls prog 113 #[.agg #[.string x.base,.slice A2 x.args.length c2],.int .i64 ((d2:Nat):Int),.pointer (some ⟨bN,0,none⟩),.pointer (some ⟨bV,0,none⟩)] w2 fun e w'=>e= .returned (.int .i64 (swk x d2 n2).2)/\ChG (fun g=>g=bN) w2 w'/\Blk w' bN 3 #[.int .i64 (((swk x d2 n2).1:Nat):Int)])(hn:n<=200)(hd:d<=41)(hB:Bel w0 w)(a3:Blk w bN 3 #[.int .i64 ((n:Nat):Int)])(a5:Blk w bV 183 #[.func (.func 113) #[] #[.pointer (some ⟨bN,0,none⟩),.pointer (some ⟨bV,0,none⟩)]]):Calls prog 113 #[.agg #[.string base,.slice A args.length c],.int .i64 ((d:Nat):Int),.pointer (some ⟨bN,0,none⟩),.pointer (some ⟨bV,0,none⟩)] w fun e w'=>e= .returned (.int .i64 (swk (.mk base args) d n).2)/\ChG (fun g=>g=bN) w w'/\Blk w' bN 3 #[.int .i64 (((swk (.mk base args) d n).1:Nat):Int)]:=by
 have hmx:=hS.le;unfold jx at hmx;have ltN:=a3.lt;have ltV:=a5.lt;have hC:ChG (fun g=>g=bN) w w:=ChG.refl _ _;refine enter func113 ntmps113 rfl (ay rfl) (zn2 ?_);refine qY (v:= .agg #[_,_]) (cs:=#[_,_]) rfl rfl (fun b4 w1 hb4 s1 hr=>?_);have:=nLL a3.lt hr;have:=nLL a5.lt hr;replace hC:=hC.st s1 (by simp);refine zn7 ?_;replace a3:=a3.tr0 s1;refine xZ (v:= .int _ _) a3 rfl rfl xx (by first|decide|simp) rfl rfl (fun w2 hq s2=>?_);replace hB:=hB.u.tr1 s2 l0N;replace hC:=hC.st s2 (fun g hg=>by rw[List.mem_singleton.1 hg];first|exact .inl rfl|exact .inr or_hC_bN);replace a3:=hq;refine zn4 ?_;refine xk [13,14,15,16,17,18] 18 (.bool (decide (200<n+1\/40<d))) nu ?_ (fun gq=>?_)
 ·refine zn4 ?_;refine zw 15 rfl (fun g15=>?_) (fun g15=>?_)
  ·refine zn3 ?_;refine zQ (e_R ⟨rfl,agA,?_⟩);exact clA
  refine zn5 ?_;refine zQ (e_R ⟨rfl,agA,?_⟩);exact clA
 refine e_S ?_;refine zV rfl (fun ad=>?_) (fun ad=>?_)
 ·refine zn8 ?_;have e:swk (.mk base args) d n=(n+1,1):=by rw[Ev,if_pos ad]
  rw[e];exact⟨rfl,hC,a3⟩
 refine zn3 ?_;refine xk (rg [7] 19 8) 7 (.bool (decide (base=smE\/base=smT))) nu ?_ (fun gq=>?_)
 ·refine zn5 ?_;refine zw 22 rfl (fun a9=>?_) (fun a9=>?_)
  ·refine zn5 ?_;refine zQ (e_R ⟨rfl,agA,?_⟩);show Value.bool _=Value.bool _
   first|exact ac (ah (Or.inl a9)).symm|exact ac (ai.2 ⟨Or.inr,fun h=>h.resolve_left a9⟩)
  refine zn8 ?_;refine zQ (e_R ⟨rfl,agA,?_⟩);show Value.bool _=Value.bool _
  first|exact ac (ah (Or.inl a9)).symm|exact ac (ai.2 ⟨Or.inr,fun h=>h.resolve_left a9⟩)
 refine zn3 ?_;refine xk (rg [] 27 19) 45 (.bool (decide (¬YJ (.mk base args)))) nu ?_ (fun gq=>?_)
 ·refine zn3 ?_;refine zw 28 rfl (fun a1=>?_) (fun a1=>?_)
  ·refine vy ?_;refine zw 34 rfl (fun a6=>?_) (fun a6=>?_)
   ·refine kQ ?_;refine zQ (e_R ⟨rfl,agA,?_⟩);show Value.bool _=Value.bool _
    first|exact(okX a1 a2).elim|exact ac (ao (fun h=>h (okA a1 a6))).symm|exact ac (ah (okB1 a1 a6)).symm|exact ac (ah (okB2 a1 a2)).symm|exact ac (okD a1 a2)
   refine zn8 ?_;refine zw 38 rfl (fun a2=>?_) (fun a2=>?_)
   ·refine jz ?_;refine zQ (e_R ⟨rfl,agA,?_⟩);show Value.bool _=Value.bool _
    first|exact(okX a1 a2).elim|exact ac (ao (fun h=>h (okA a1 a6))).symm|exact ac (ah (okB1 a1 a6)).symm|exact ac (ah (okB2 a1 a2)).symm|exact ac (okD a1 a2)
   refine zn8 ?_;refine zQ (e_R ⟨rfl,agA,?_⟩);show Value.bool _=Value.bool _
   first|exact(okX a1 a2).elim|exact ac (ao (fun h=>h (okA a1 a6))).symm|exact ac (ah (okB1 a1 a6)).symm|exact ac (ah (okB2 a1 a2)).symm|exact ac (okD a1 a2)
  refine Jj ?_;refine zw 38 rfl (fun a2=>?_) (fun a2=>?_)
  ·refine jz ?_;refine zQ (e_R ⟨rfl,agA,?_⟩);show Value.bool _=Value.bool _
   first|exact(okX a1 a2).elim|exact ac (ao (fun h=>h (okA a1 a6))).symm|exact ac (ah (okB1 a1 a6)).symm|exact ac (ah (okB2 a1 a2)).symm|exact ac (okD a1 a2)
  refine zn8 ?_;refine zQ (e_R ⟨rfl,agA,?_⟩);show Value.bool _=Value.bool _
  first|exact(okX a1 a2).elim|exact ac (ao (fun h=>h (okA a1 a6))).symm|exact ac (ah (okB1 a1 a6)).symm|exact ac (ah (okB2 a1 a2)).symm|exact ac (okD a1 a2)
 refine e_S ?_;refine zV rfl (fun b2=>?_) (fun b2=>?_)
 ·have e:swk (.mk base args) d n=(n+1,5):=by rw[Ev,if_neg ad,if_neg b2]
  refine zn8 ?_;rw[e];exact⟨rfl,hC,a3⟩
 have hok:YJ (.mk base args):=ak.1 b2;have he:swk (.mk base args) d n=M9 args (d+1) (n+1):=by rw[Ev,if_neg ad,if_pos hok];rfl
 refine jz ?_;refine qj (rg [6,9,10] 49 13) (fun m g w'=>∃ j nj:Nat,j<=args.length/\m=args.length-j/\g 49= .int .i64 j/\nj<=200/\M9 args (d+1) (n+1)=M9 (args.drop j) (d+1) nj/\Bel w0 w'/\Blk w' bN 3 #[.int .i64 ((nj:Nat):Int)]/\Blk w' bV 183 #[.func (.func 113) #[] #[.pointer (some ⟨bN,0,none⟩),.pointer (some ⟨bV,0,none⟩)]]/\ChG (fun g=>g=bN) w w') (args.length) ?_ (fun m g8 w3 hI=>?_)
 ·exact⟨0,n+1,ag _,rfl,rfl,by omega,rfl,hB,a3,a5.u,hC⟩
 obtain⟨j,nj,hj,hmj,h49,hnj,hR,hB,a3,a5,hC⟩:=hI;refine zK 49 _ h49 nu (zn6 ?_);refine zV rfl (fun c50=>?_) (fun c50=>?_)
 ·have a8:j<args.length:=by omega
  obtain⟨sb,so,A',c',rfl,hsb,hsr,hs2⟩:=hS.at_ a8;have hdr:args.drop j=args[j]::args.drop (j+1):=List.drop_eq_getElem_cons a8;rw[hdr,M9]at hR;refine zn8 ?_;refine qk (cs:=#[.string ⟨#[]⟩,.slice none 0 0]) JQ rfl (fun b9 w4 hb9 s3 hr=>?_);have:=nLL a3.lt hr;have:=nLL a5.lt hr;have a4:=(nLT hC.size hr)
  have lo9:=nLT (Bel.size hB) hr;replace hC:=hC.st s3 (by simp);refine zk hb9 rfl rfl xY rfl zJ (fun w5 hq s4=>?_);replace hC:=hC.st s4 (fun g hg=>by rw[List.mem_singleton.1 hg];first|exact .inl rfl|exact .inr a4);replace hb9:=hq;refine zn8 ?_;refine y9 rfl kR (IH _ (ar a8) A' c' (d+1) nj _ hs2 hnj oG hB.u a3.u a5.u) rfl rfl (fun e' w6 hr=>?_);obtain⟨rfl,b1,an⟩:=hr;replace hB:=(hB.tr0 s3).tr1 s4 lo9;replace hB:=hB.chG b1 (fun g hg=>by rw[show g=bN from hg];exact l0N);replace a5:=(a5.tr0 s3).tr1 s4 oG;replace a5:=a5.chG b1 (fun hx=>by have hx:bV=bN:=hx;omega);replace hC:=hC.trans b1 (fun g hg=> .inl hg);replace a3:=an;refine⟨_,rfl,?_⟩;refine zn9 ?_;refine zV rfl (fun a7=>?_) (fun a7=>?_)
  ·rw[if_neg a7]at hR;refine oJ ?_;rw[he,hR];exact⟨rfl,hC,a3⟩
  have a7:(swk (args[j]'a8) (d+1) nj).2=0:=ak.1 a7;rw[if_pos a7]at hR;obtain⟨_,_,e1,e2⟩:=LZ _ _ _ a7;have hn3:(swk (args[j]'a8) (d+1) nj).1<=200:=by rw[e1];exact e2
  have hR3:=hR;refine zn7 ?_;refine xK (args.length-(j+1)) oG agA ?_;exact⟨j+1,_,by omega,rfl,rfl,hn3,hR3,hB,a3,a5,hC⟩
 have hje:j=args.length:=by omega
 rw[hje,List.drop_length,M9]at hR;refine jz ?_;rw[he,hR];exact⟨rfl,hC,a3⟩
theorem swk_anyK{w0:World}{bN bV:Nat}(l0N:w0.heap.size<=bN)(a1:w0.heap.size<=bV)(nVN:bV≠bN):∀(k:Nat) (s:Sm),SizeOf.sizeOf s<k->∀(A:Option Addr) (c d n:Nat) (w:World),SimsIn w0 A s.args->n<=200->d<=41->Bel w0 w->Blk w bN 3 #[.int .i64 ((n:Nat):Int)]->Blk w bV 183 #[.func (.func 113) #[] #[.pointer (some ⟨bN,0,none⟩),.pointer (some ⟨bV,0,none⟩)]]->Calls prog 113 #[.agg #[.string s.base,.slice A s.args.length c],.int .i64 ((d:Nat):Int),.pointer (some ⟨bN,0,none⟩),.pointer (some ⟨bV,0,none⟩)] w fun e w'=>e= .returned (.int .i64 (swk s d n).2)/\ChG (fun g=>g=bN) w w'/\Blk w' bN 3 #[.int .i64 (((swk s d n).1:Nat):Int)]:=by
 intro k
 induction k with
 | zero=>intro s h;omega
 | succ k ih=>
  intro s h A c d n w hS hn hd hB hbN hbV;cases s with
  | mk base args=>exact swk_step (base:=base) (args:=args) l0N a1 nVN hS (fun x hx A2 c2 d2 n2 w2 h1 h2 h3 h4 h5 h6=>ih x (by have:=List.sizeOf_lt_of_mem hx;simp only[Sm.mk.sizeOf_spec]at h;omega) A2 c2 d2 n2 w2 h1 h2 h3 h4 h5 h6) hn hd hB hbN hbV
theorem swk_any{w0:World}{bN bV:Nat}(l0N:w0.heap.size<=bN)(a1:w0.heap.size<=bV)(nVN:bV≠bN)(s:Sm)(A:Option Addr)(c d n:Nat)(w:World):SimsIn w0 A s.args->n<=200->d<=41->Bel w0 w->Blk w bN 3 #[.int .i64 ((n:Nat):Int)]->Blk w bV 183 #[.func (.func 113) #[] #[.pointer (some ⟨bN,0,none⟩),.pointer (some ⟨bV,0,none⟩)]]->Calls prog 113 #[.agg #[.string s.base,.slice A s.args.length c],.int .i64 ((d:Nat):Int),.pointer (some ⟨bN,0,none⟩),.pointer (some ⟨bV,0,none⟩)] w fun e w'=>e= .returned (.int .i64 (swk s d n).2)/\ChG (fun g=>g=bN) w w'/\Blk w' bN 3 #[.int .i64 (((swk s d n).1:Nat):Int)]:=swk_anyK l0N a1 nVN (SizeOf.sizeOf s+1) s (aG _) A c d n w
end
end Go.Proofs.YtiofaflajkgiaaaGreatDoor
