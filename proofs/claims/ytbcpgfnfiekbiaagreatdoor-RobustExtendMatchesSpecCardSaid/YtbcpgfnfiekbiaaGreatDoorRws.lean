/- Entries for unknown words: what they make of a grammar, and its faults. No program in sight. What these functions of the program compute, at every world: unicode/utf8.RuneCountInString, unicode/utf8.word[string]. Terms written as tables: each node with its parts' places and the place above; what the types of the places are. No program in sight. Slices cut at their length, and what is appended to them; rows of types. No program in sight. Slices of slices of ints, as they lie in a world. No program in sight. Lines that describe a hierarchy: what they make, and how a hierarchy that grows lies in a world. No program in sight. Rows of a table of terms, as a world holds them. No program in sight. -/
import Derived.Test.YtbcpgfnfiekbiaaGreatDoorCgr
import Derived.Test.YtbcpgfnfiekbiaaGreatDoorU
import Derived.Test.YtbcpgfnfiekbiaaGreatDoorTrm
import Derived.Test.YtbcpgfnfiekbiaaGreatDoorLxd
import Derived.Test.YtbcpgfnfiekbiaaGreatDoorEng4
import Derived.Test.YtbcpgfnfiekbiaaGreatDoorStk
import Derived.ArgAppend
import Derived.Test.YtbcpgfnfiekbiaaGreatDoorOpen
import Derived.Test.YtbcpgfnfiekbiaaGreatDoorHLaw
import Derived.Test.YtbcpgfnfiekbiaaGreatDoorRng
import Derived.Test.YtbcpgfnfiekbiaaGreatDoorGLoose
namespace Go.Proofs.YtbcpgfnfiekbiaaGreatDoor
open Go.RowKit
def wdN (ws:List ByteArray) (i:Nat):Int:=match ws[i]? with
  | none=>0
  | some s=>if yX s=true then 0 else 10
theorem T4 {ws:List ByteArray} {i:Nat} (hi:i < ws.length) (h:yX ws[i]=true):wdN ws i=0:=by simp [wdN,List.getElem?_eq_getElem hi,h]
theorem wd_bad {ws:List ByteArray} {i:Nat} (hi:i < ws.length) (h:yX ws[i]=false):wdN ws i=10:=by simp [wdN,List.getElem?_eq_getElem hi,h]
noncomputable def Vj (l:List Ty) (fs:List Ft) (ws:List ByteArray) (us:List Lx):Fl:=
  if ws.length=0∨12 < ws.length then (9,-2) else if (zW (wdN ws) 0 ws.length).1≠0 then zW (wdN ws) 0 ws.length
  else if 100 < us.length then (2,-3) else zW (gJ l fs us) 0 us.length
def uZ (xs:List Lx) (s:ByteArray):Bool:=xs.any (fun x=>decide (x.word=s))
noncomputable def unX (l:List Ty) (fs:List Ft) (s:ByteArray) (x:Lx):Lx:={ ow l fs x with word:=s }
noncomputable def nw (l:List Ty) (fs:List Ft) (us xs:List Lx) (s:ByteArray):List Lx:=if uZ xs s=true then [] else us.map (unX l fs s)
noncomputable def Y2 (l:List Ty) (fs:List Ft) (us:List Lx):List ByteArray→List Lx→Option (List Lx)
  | [],xs=>some xs
  | s :: ws,xs=>if 100 < (xs ++ nw l fs us xs s).length then none else Y2 l fs us ws (xs ++ nw l fs us xs s)
noncomputable def OJ (l:List Ty) (fs:List Ft) (xs:List Lx) (ws:List ByteArray) (us:List Lx):Fl×List Lx:=
  if (Vj l fs ws us).1≠0 then (Vj l fs ws us,[]) else match Y2 l fs us ws (xs.map (ow l fs)) with
    | none=>((17,-1),[])
    | some ys=>((0,0),ys)
noncomputable def W3 (l:List Ty) (fs:List Ft) (rs:List Rl) (xs:List Lx) (st:List Nd) (ws:List ByteArray) (us:List Lx):Fl×List Lx:=
  if (jv l fs rs xs st).1≠0 then (jv l fs rs xs st,[]) else OJ l fs xs ws us
section
variable {l:List Ty} {fs:List Ft} {rs:List Rl} {xs us cur:List Lx} {st:List Nd} {ws:List ByteArray} {s:ByteArray}
theorem Lj {k:Nat} (hk:k < xs.length):uZ (xs.take (k + 1)) s=(uZ (xs.take k) s || decide ((xs[k]).word=s)):=by
  unfold uZ;rw [ux xs hk,List.any_append,List.any_cons,List.any_nil,Bool.or_false]
theorem O9 (h:uZ cur s=true):nw l fs us cur s= []:=if_pos h
theorem DZ (h:uZ cur s=false):nw l fs us cur s=us.map (unX l fs s):=if_neg (by rw [h];decide)
theorem nw_lt {q:Nat} (h:uZ cur s=false) (hq:q < us.length):cur.length + q < (cur ++ nw l fs us cur s).length:=by
  rw [DZ h,List.length_append,List.length_map];omega
theorem nw_at {q:Nat} (h:uZ cur s=false) (hq:q < us.length):(cur ++ nw l fs us cur s)[cur.length + q]'(nw_lt h hq)=unX l fs s us[q]:=by
  simp [DZ h]
theorem nw_len {t:Nat} (h1:uZ cur s=true→t=0) (h2:uZ cur s=false→t=us.length):t=(nw l fs us cur s).length:=by
  cases h:uZ cur s with
  | true=>rw [O9 h,h1 h];rfl
  | false=>rw [DZ h,h2 h,List.length_map]
theorem Sy {j:Nat} (hj:j < ws.length) (h:¬100 < (cur ++ nw l fs us cur ws[j]).length):Y2 l fs us (ws.drop j) cur=Y2 l fs us (ws.drop (j + 1)) (cur ++ nw l fs us cur ws[j]):=by
  rw [List.drop_eq_getElem_cons hj];exact if_neg h
theorem ext_no {j:Nat} (hj:j < ws.length) (h:100 < (cur ++ nw l fs us cur ws[j]).length):Y2 l fs us (ws.drop j) cur=none:=by
  rw [List.drop_eq_getElem_cons hj];exact if_pos h
theorem ef_len (h:ws.length=0∨12 < ws.length):Vj l fs ws us=(9,-2):=if_pos h
theorem ef_word {c i:Int} (h:¬(ws.length=0∨12 < ws.length)) (h2:zW (wdN ws) 0 ws.length=(c,i)) (hc:c≠0):Vj l fs ws us=(c,i):=by
  unfold Vj;rw [if_neg h,h2,if_pos hc]
theorem ef_many (h:¬(ws.length=0∨12 < ws.length)) (h2:zW (wdN ws) 0 ws.length=(0,0)) (h3:100 < us.length):Vj l fs ws us=(2,-3):=by
  unfold Vj;rw [if_neg h,h2,if_neg dE,if_pos h3]
theorem OV {F:Fl} (h:¬(ws.length=0∨12 < ws.length)) (h2:zW (wdN ws) 0 ws.length=(0,0)) (h3:¬100 < us.length) (h4:zW (gJ l fs us) 0 us.length=F):Vj l fs ws us=F:=by
  unfold Vj;rw [if_neg h,h2,if_neg dE,if_neg h3,h4]
theorem Y3 {F:Fl} (h:Vj l fs ws us=F) (hc:F.1≠0):OJ l fs xs ws us=(F,[]):=by unfold OJ;rw [h,if_pos hc]
theorem ea_no (h:Vj l fs ws us=(0,0)) (h2:Y2 l fs us ws (xs.map (ow l fs))=none):OJ l fs xs ws us=((17,-1),[]):=by unfold OJ;rw [h,if_neg dE,h2]
theorem ea_ok (h:Vj l fs ws us=(0,0)) (h2:Y2 l fs us ws (xs.map (ow l fs))=some cur):OJ l fs xs ws us=((0,0),cur):=by unfold OJ;rw [h,if_neg dE,h2]
theorem ev_bad {F:Fl} (h:jv l fs rs xs st=F) (hc:F.1≠0):W3 l fs rs xs st ws us=(F,[]):=by unfold W3;rw [h,if_pos hc]
theorem N7 (h:jv l fs rs xs st=(0,0)):W3 l fs rs xs st ws us=OJ l fs xs ws us:=by unfold W3;rw [h,if_neg dE]
theorem Ex (hh:(qx l fs).1=0) (h:(zW (gJ l fs us) 0 us.length).1=0) (i:Nat) (hi:i < us.length):(jJ l fs (us[i]).gr).1=0∧TmK (us[i]).mean:=
  have h2:=Mv hh ((lnF hi).symm.trans (yJ h i (Nat.zero_le _) om))
  ⟨h2.1,h2.2.1⟩
end
def resOk (A:Fl×List Lx) (l:List Ty) (fs:List Ft) (rs:List Rl) (st:List Nd) (l':List Ty) (fs':List Ft) (rs':List Rl) (xs':List Lx) (st':List Nd):Prop:=
  (A.1.1=0∧l'=l∧fs'=fs∧rs'=rs.map (gZ l fs)∧xs'=A.2∧st'=yk l fs st)∨(A.1.1≠0∧l'= []∧fs'= []∧rs'= []∧xs'= []∧st'= [])
theorem res_det {A:Fl×List Lx} {l:List Ty} {fs:List Ft} {rs:List Rl} {st:List Nd} {l1 l2:List Ty} {f1 f2:List Ft} {r1 r2:List Rl} {x1 x2:List Lx} {s1 s2:List Nd}
    (h:resOk A l fs rs st l1 f1 r1 x1 s1) (g:resOk A l fs rs st l2 f2 r2 x2 s2):l2=l1∧f2=f1∧r2=r1∧x2=x1∧s2=s1:=by
  rcases h with ⟨h,rfl,rfl,rfl,rfl,rfl⟩ | ⟨h,rfl,rfl,rfl,rfl,rfl⟩ <;> rcases g with ⟨g,rfl,rfl,rfl,rfl,rfl⟩ | ⟨g,rfl,rfl,rfl,rfl,rfl⟩
  · exact⟨rfl,rfl,rfl,rfl,rfl⟩
  · exact absurd h g
  · exact absurd g h
  · exact⟨rfl,rfl,rfl,rfl,rfl⟩
def Wz (T F R X G:Option Addr) (l:List Ty) (fs:List Ft) (rs:List Rl) (xs:List Lx) (st:List Nd) (w:World):Prop:=TypesIn w T l∧FeatsIn w F fs∧RulesIn w R rs∧LexesIn w X xs∧NodesIn w G st
def G8 (A:Fl×List Lx) (l:List Ty) (fs:List Ft) (rs:List Rl) (st:List Nd) (w':World) (e:Ending):Prop:=
  ∃ (T F R X G:Option Addr) (ct cf cr cx cg:Nat) (l':List Ty) (fs':List Ft) (rs':List Rl) (xs':List Lx) (st':List Nd),
    e= .returned (.tuple #[.agg #[.slice T l'.length ct,.slice F fs'.length cf,.slice R rs'.length cr,.slice X xs'.length cx,.slice G st'.length cg],.agg #[.int .i64 A.1.1,.int .i64 A.1.2]])∧
    resOk A l fs rs st l' fs' rs' xs' st'∧Hv 0 [] w'.heap.size w' (Wz T F R X G l' fs' rs' xs' st')
theorem FK (w:World):Wz none none none none none [] [] [] [] [] w:=
  ⟨⟨Nat.zero_le _,fun h=>absurd rfl h⟩,⟨Nat.zero_le _,fun h=>absurd rfl h⟩,⟨Nat.zero_le _,fun h=>absurd rfl h⟩,⟨Nat.zero_le _,fun h=>absurd rfl h⟩,⟨Nat.zero_le _,fun h=>absurd rfl h⟩⟩
theorem Iv {A:Fl×List Lx} {F:Fl} {l:List Ty} {fs:List Ft} {rs:List Rl} {st:List Nd} {w':World} (hA:A=(F,[])) (hc:F.1≠0):
    G8 A l fs rs st w' (.returned (.tuple #[.agg #[.slice none 0 0,.slice none 0 0,.slice none 0 0,.slice none 0 0,.slice none 0 0],.agg #[.int .i64 F.1,.int .i64 F.2]])):=by
  subst hA;exact⟨none,none,none,none,none,0,0,0,0,0,[],[],[],[],[],rfl,.inr ⟨hc,rfl,rfl,rfl,rfl,rfl⟩,Hv.triv _ _ _ FK⟩
theorem W2 {A:Fl×List Lx} {l:List Ty} {fs:List Ft} {rs:List Rl} {st:List Nd} {w':World} {cur:List Lx} {T F R X G:Option Addr} {ct cf cr cx cg:Nat} (hA:A=((0,0),cur))
    (h:Hv 0 [] w'.heap.size w' (Wz T F R X G l fs (rs.map (gZ l fs)) cur (yk l fs st))):
    G8 A l fs rs st w' (.returned (.tuple #[.agg #[.slice T l.length ct,.slice F fs.length cf,.slice R rs.length cr,.slice X cur.length cx,.slice G (yk l fs st).length cg],.agg #[.int .i64 0,.int .i64 0]])):=by
  subst hA;exact⟨T,F,R,X,G,ct,cf,cr,cx,cg,l,fs,rs.map (gZ l fs),cur,yk l fs st,by rw [List.length_map],.inl ⟨rfl,rfl,rfl,rfl,rfl,rfl⟩,h⟩
def ExtQ (lo:Nat) (A:Fl×List Lx) (l:List Ty) (fs:List Ft) (rs:List Rl) (st:List Nd) (w':World) (e:Ending):Prop:=
  ∃ (T F R X G:Option Addr) (ct cf cr cx cg n1 n2 n3 n4 n5:Nat),
    e= .returned (.tuple #[.agg #[.slice T n1 ct,.slice F n2 cf,.slice R n3 cr,.slice X n4 cx,.slice G n5 cg],.agg #[.int .i64 A.1.1,.int .i64 A.1.2]])∧
    (A.1.1=0→A.1.2=0∧n1=l.length∧n2=fs.length∧n3=rs.length∧n4=A.2.length∧n5=(yk l fs st).length∧Hv lo [] w'.heap.size w' (Wz T F R X G l fs (rs.map (gZ l fs)) A.2 (yk l fs st)))
theorem Xz {lo:Nat} {A:Fl×List Lx} {c i:Int} {l:List Ty} {fs:List Ft} {rs:List Rl} {st:List Nd} {w':World} {T F R X G:Option Addr} {ct cf cr cx cg n1 n2 n3 n4 n5:Nat} (hA:A=((c,i),[])) (hc:c≠0):
    ExtQ lo A l fs rs st w' (.returned (.tuple #[.agg #[.slice T n1 ct,.slice F n2 cf,.slice R n3 cr,.slice X n4 cx,.slice G n5 cg],.agg #[.int .i64 c,.int .i64 i]])):=by
  subst hA;exact⟨T,F,R,X,G,ct,cf,cr,cx,cg,n1,n2,n3,n4,n5,rfl,fun h=>absurd h hc⟩
theorem extq_good {lo:Nat} {A:Fl×List Lx} {l:List Ty} {fs:List Ft} {rs:List Rl} {st:List Nd} {w':World} {cur:List Lx} {T F R X G:Option Addr} {ct cf cr cx cg:Nat} (hA:A=((0,0),cur))
    (h:Hv lo [] w'.heap.size w' (Wz T F R X G l fs (rs.map (gZ l fs)) cur (yk l fs st))):
    ExtQ lo A l fs rs st w' (.returned (.tuple #[.agg #[.slice T l.length ct,.slice F fs.length cf,.slice R rs.length cr,.slice X cur.length cx,.slice G (yk l fs st).length cg],.agg #[.int .i64 0,.int .i64 0]])):=by
  subst hA;exact⟨T,F,R,X,G,ct,cf,cr,cx,cg,_,_,_,_,_,rfl,fun _=>⟨rfl,rfl,rfl,rfl,rfl,rfl,h⟩⟩
theorem ext_bad2 {A:Fl×List Lx} {l:List Ty} {fs:List Ft} {rs:List Rl} {st:List Nd} {w':World} (hc:A.1.1≠0):
    G8 A l fs rs st w' (.returned (.tuple #[.agg #[.slice none 0 0,.slice none 0 0,.slice none 0 0,.slice none 0 0,.slice none 0 0],.agg #[.int .i64 A.1.1,.int .i64 A.1.2]])):=
  ⟨none,none,none,none,none,0,0,0,0,0,[],[],[],[],[],rfl,.inr ⟨hc,rfl,rfl,rfl,rfl,rfl⟩,Hv.triv _ _ _ FK⟩
theorem ext_good2 {A:Fl×List Lx} {l:List Ty} {fs:List Ft} {rs:List Rl} {st:List Nd} {w':World} {T F R X G:Option Addr} {ct cf cr cx cg:Nat} (h1:A.1.1=0) (h2:A.1.2=0)
    (h:Hv 0 [] w'.heap.size w' (Wz T F R X G l fs (rs.map (gZ l fs)) A.2 (yk l fs st))):
    G8 A l fs rs st w' (.returned (.tuple #[.agg #[.slice T l.length ct,.slice F fs.length cf,.slice R rs.length cr,.slice X A.2.length cx,.slice G (yk l fs st).length cg],.agg #[.int .i64 0,.int .i64 0]])):=
  W2 (A:=A) (by rw [Prod.ext_iff,Prod.ext_iff];exact⟨⟨h1,h2⟩,rfl⟩) h
end Go.Proofs.YtbcpgfnfiekbiaaGreatDoor
namespace Go.Proofs.YtbcpgfnfiekbiaaGreatDoor
open Go.RowKit
set_option maxHeartbeats 1000000 in
theorem rc_any (s:ByteArray) (w:World) (hsz:s.size < 9223372036854775807):Calls Tryz.prog 95 #[.string s] w fun e w'=>e= .returned (.int .i64 (((ch s 0).length:Nat):Int))∧Bel w w':=by
 refine enT Tryz.func95 Tryz.ntmps95 rfl rfl fun hB=>?_;refine zn9 ?_;refine Gz U9 rfl (fun b4 w1 hb4 s1 hr=>?_);have lo4:=nLT (Bel.size hB) hr;refine zn3 ?_;refine zK [2,5,6,7,8] (fun m g w'=>∃ p n:Nat,p≤s.size∧m=s.size - p∧n≤p∧g 2= .int .i64 n∧n + (ch s p).length=(ch s 0).length∧Bel w w'∧ItIn w' b4 s p) (s.size) ?_ (fun m g2 w2 hI=>?_)
 ·exact⟨0,0,Nat.zero_le _,rfl,Nat.le_refl _,rfl,Nat.zero_add _,hB.u,hb4⟩
 obtain⟨p,n,hp,hm,hnp,h2,hc,hB,hb4⟩:=hI;refine zQ 2 _ h2 nu (zn2 ?_);rcases Nat.lt_or_ge (p) (s).size with hnlt | hnge
 ·refine Gq hb4 rfl hnlt (fun w3 hq s2=>?_);replace hb4:=hq;have hwp:=Q7 hnlt;have hwl:=Cz hnlt;rw [Iy hnlt,List.length_cons] at hc;refine wl (jw (v:= .bool true) rfl rfl) (kJ ?_);refine qV (s.size - (p + wdt s p)) om agA ?_;exact⟨p + wdt s p,n + 1,hwl,rfl,by omega,rfl,by omega,hB.u,hb4⟩
 refine wl (r_ne hb4 rfl (Nat.not_lt.2 hnge)) ?_;rw [SZ (Nat.not_lt.2 hnge),List.length_nil,Nat.add_zero] at hc;refine wl (jw (v:= .bool false) rfl rfl) (N9 ?_);exact⟨by rw [← hc];rfl,hB⟩
set_option maxHeartbeats 2000000 in
theorem ZV (s:ByteArray) (w:World) (h8:8≤s.size):Calls Tryz.prog 120 #[.string s] w fun e w'=>e= .returned (.int .u64 ((wo 7 s:Nat):Int))∧Bel w w':=by
 have q0:=u5 s 0;have q1:=u5 s 1;have q2:=u5 s 2;have q3:=u5 s 3;have q4:=u5 s 4;have q5:=u5 s 5;have q6:=u5 s 6;have q7:=u5 s 7;have r0:=kQ s (k:=0) dE;have r1:=kQ s (k:=1) dE;have r2:=kQ s (k:=2) dE;have r3:=kQ s (k:=3) dE;have r4:=kQ s (k:=4) dE;have r5:=kQ s (k:=5) dE;have r6:=kQ s (k:=6) dE;have r7:=kQ s (k:=7) dE;refine enT Tryz.func120 Tryz.ntmps120 rfl rfl fun hB=>?_;refine yw ?_;refine gQ kR kR (fun w1 s1=>?_);refine zn1 ?_;refine ws (jk (i:=0) U9 rfl rfl om) (ws (I4 U5 Yj rfl (MJ om)) (zn1 ?_));refine ws (jk (i:=1) U9 rfl rfl om) (ws (I4 U5 Yj rfl (MJ om)) (ws (Jv (b:=8) rfl rfl dE om rfl) (ws (X6 rfl rfl r0 om) (zn1 ?_))));refine ws (jk (i:=2) U9 rfl rfl om) (ws (I4 U5 Yj rfl (MJ om)) (ws (Jv (b:=16) rfl rfl dE om rfl) (ws (X6 rfl rfl r1 om) (zn1 ?_))));refine ws (jk (i:=3) U9 rfl rfl om) (ws (I4 U5 Yj rfl (MJ om)) (ws (Jv (b:=24) rfl rfl dE om rfl) (ws (X6 rfl rfl r2 om) (zn1 ?_))));refine ws (jk (i:=4) U9 rfl rfl om) (ws (I4 U5 Yj rfl (MJ om)) (ws (Jv (b:=32) rfl rfl dE om rfl) (ws (X6 rfl rfl r3 om) (zn1 ?_))));refine ws (jk (i:=5) U9 rfl rfl om) (ws (I4 U5 Yj rfl (MJ om)) (ws (Jv (b:=40) rfl rfl dE om rfl) (ws (X6 rfl rfl r4 om) (zn1 ?_))));refine ws (jk (i:=6) U9 rfl rfl om) (ws (I4 U5 Yj rfl (MJ om)) (ws (Jv (b:=48) rfl rfl dE om rfl) (ws (X6 rfl rfl r5 om) (zn1 ?_))));refine ws (jk (i:=7) U9 rfl rfl om) (ws (I4 U5 Yj rfl (MJ om)) (ws (Jv (b:=56) rfl rfl dE om rfl) (ws (X6 rfl rfl r6 om) (zn1 ?_))));refine u4 (zn3 ?_);exact⟨rfl,hB.u⟩
end Go.Proofs.YtbcpgfnfiekbiaaGreatDoor
namespace Go.Proofs.YtbcpgfnfiekbiaaGreatDoor
open Go.RowKit
structure Rw where
  kind:Int
  name:ByteArray
  typ:Sm
  index:Int
  kids:List Int
  up:Int
def rws:Int→Nat→Tv→List Rw
  | up,_,.con nm τ=>[⟨1,nm,τ.sm,0,[],up⟩]
  | up,_,.var i=>[⟨2,⟨#[]⟩,smZ,i,[],up⟩]
  | up,p,.abs τ x=>⟨3,⟨#[]⟩,τ.sm,0,[((p + 1:Nat):Int)],up⟩ :: rws p (p + 1) x
  | up,p,.app x y=>⟨4,⟨#[]⟩,smZ,0,[((p + 1:Nat):Int),((p + 1 + x.size:Nat):Int)],up⟩ :: (rws p (p + 1) x ++ rws p (p + 1 + x.size) y)
theorem XX:∀ (up:Int) (p:Nat) (v:Tv),(rws up p v).length=v.size
  | _,_,.con _ _=>rfl
  | _,_,.var _=>rfl
  | _,p,.abs τ x=>by simp only [rws,List.length_cons,XX _ _ x,Tv.size]
  | _,p,.app x y=>by simp only [rws,List.length_cons,List.length_append,XX _ _ x,XX _ _ y,Tv.size]
def RwAt (l:List Rw) (p:Nat) (s:List Rw):Prop:=∀ j (h:j < s.length),l[p + j]? =some s[j]
theorem RwAt.app {l:List Rw} {p:Nat} {s t:List Rw} (h:RwAt l p (s ++ t)):RwAt l p s∧RwAt l (p + s.length) t:=by
  refine⟨fun j hj=>?_,fun j hj=>?_⟩
  · have:=h j (by rw [List.length_append];omega)
    rwa [List.getElem_append_left hj] at this
  · have:=h (s.length + j) (by rw [List.length_append];omega)
    rw [List.getElem_append_right om,← Nat.add_assoc] at this;rw [this];simp
theorem RwAt.cons {l:List Rw} {p:Nat} {r:Rw} {t:List Rw} (h:RwAt l p (r :: t)):l[p]? =some r∧RwAt l (p + 1) t:=by
  refine⟨h 0 (by simp),fun j hj=>?_⟩;have:=h (j + 1) (by rw [List.length_cons];omega);rw [List.getElem_cons_succ,show p + (j + 1)=p + 1 + j by omega] at this;exact this
inductive Chn (l:List Rw):Int→List Ts→Prop
  | nil:Chn l (-1) []
  | abs {u:Nat} {r:Rw} {τ:Ts} {Γ:List Ts} (h:l[u]? =some r) (hk:r.kind=3) (ht:r.typ=τ.sm) (hu:r.up < u) (hc:Chn l r.up Γ):Chn l u (τ :: Γ)
  | app {u:Nat} {r:Rw} {Γ:List Ts} (h:l[u]? =some r) (hk:r.kind≠3) (hu:r.up < u) (hc:Chn l r.up Γ):Chn l u Γ
def Y7 (l:List Rw):Nat→List Ts→Tv→Prop
  | p,_,.con _ τ=>∃ r,l[p]? =some r∧r.kind=1∧r.typ=τ.sm
  | p,Γ,.var i=>∃ r,l[p]? =some r∧r.kind=2∧r.index=i∧r.up < p∧Chn l r.up Γ
  | p,Γ,.abs τ x=>(∃ r,l[p]? =some r∧r.kind=3∧r.typ=τ.sm∧r.kids= [((p + 1:Nat):Int)])∧Y7 l (p + 1) (τ :: Γ) x
  | p,Γ,.app x y=>(∃ r,l[p]? =some r∧r.kind=4∧r.kids= [((p + 1:Nat):Int),((p + 1 + x.size:Nat):Int)])∧Y7 l (p + 1) Γ x∧Y7 l (p + 1 + x.size) Γ y
theorem B6 {l:List Rw}:∀ {v:Tv} {up:Int} {p:Nat} {Γ:List Ts},RwAt l p (rws up p v)→Chn l up Γ→up < p→Y7 l p Γ v
  | .con nm τ,up,p,Γ,h,hc,hu=>⟨_,(h.cons).1,rfl,rfl⟩
  | .var i,up,p,Γ,h,hc,hu=>⟨_,(h.cons).1,rfl,rfl,hu,hc⟩
  | .abs τ x,up,p,Γ,h,hc,hu=>by
    obtain⟨h1,h2⟩:=RwAt.cons h
    exact⟨⟨_,h1,rfl,rfl,rfl⟩,B6 h2 (.abs h1 rfl rfl hu hc) om⟩
  | .app x y,up,p,Γ,h,hc,hu=>by
    obtain⟨h1,h2⟩:=RwAt.cons h
    obtain⟨h3,h4⟩:=h2.app
    rw [XX] at h4
    have hC:Chn l p Γ:= .app h1 (show (4:Int)≠3 by decide) hu hc
    exact⟨⟨_,h1,rfl,rfl⟩,B6 h3 hC om,B6 h4 hC om⟩
def nds:List Ts→Tv→List (List Ts×Tv)
  | Γ,.con nm τ=>[(Γ,.con nm τ)]
  | Γ,.var i=>[(Γ,.var i)]
  | Γ,.abs τ x=>(Γ,.abs τ x) :: nds (τ :: Γ) x
  | Γ,.app x y=>(Γ,.app x y) :: (nds Γ x ++ nds Γ y)
theorem I8:∀ (Γ:List Ts) (v:Tv),(nds Γ v).length=v.size
  | _,.con _ _=>rfl
  | _,.var _=>rfl
  | _,.abs τ x=>by simp only [nds,List.length_cons,I8 _ x,Tv.size]
  | _,.app x y=>by simp only [nds,List.length_cons,List.length_append,I8 _ x,I8 _ y,Tv.size]
theorem NK {l:List Rw}:∀ {v:Tv} {p:Nat} {Γ:List Ts},Y7 l p Γ v→v.ok Γ.length→(∀ σ ∈ Γ,σ.size≤200)→∀ j (h:j < (nds Γ v).length),Y7 l (p + j) (nds Γ v)[j].1 (nds Γ v)[j].2∧(nds Γ v)[j].2.ok (nds Γ v)[j].1.length∧(∀ σ ∈ (nds Γ v)[j].1,σ.size≤200)∧(nds Γ v)[j].2.size≤v.size∧((tyv Γ v).isSome=true→(tyv (nds Γ v)[j].1 (nds Γ v)[j].2).isSome=true)
  | .con nm τ,p,Γ,h,ho,hG,j,hj=>by
    obtain rfl:j=0:=by simp [nds] at hj;omega
    exact⟨h,ho,hG,Nat.le_refl _,id⟩
  | .var i,p,Γ,h,ho,hG,j,hj=>by
    obtain rfl:j=0:=by simp [nds] at hj;omega
    exact⟨h,ho,hG,Nat.le_refl _,id⟩
  | .abs τ x,p,Γ,h,ho,hG,j,hj=>by
    cases j with
    | zero=>exact⟨h,ho,hG,Nat.le_refl _,id⟩
    | succ j=>
      have:=NK (v:=x) h.2 ho.2 (fun q hq=>by
        rcases List.mem_cons.1 hq with rfl | hq
        · exact ho.1
        · exact hG q hq) j (by simp only [nds,List.length_cons] at hj;omega)
      obtain⟨a1,a2,a3,a5,a4⟩:=this
      have hp:p + (j + 1)=p + 1 + j:=by omega
      refine⟨by rw [hp];exact a1,a2,a3,nLT a5 (by simp [Tv.size]),fun hs=>a4 ?_⟩
      simp only [tyv,Option.isSome_map] at hs
      exact hs
  | .app x y,p,Γ,h,ho,hG,j,hj=>by
    cases j with
    | zero=>exact⟨h,ho,hG,Nat.le_refl _,id⟩
    | succ j=>
      have hs:(tyv Γ (.app x y)).isSome=true→(tyv Γ x).isSome=true∧(tyv Γ y).isSome=true:=by
        intro e;simp only [tyv] at e
        split at e
        · rename_i a r z h1 h2
          rw [h1,h2];exact⟨rfl,rfl⟩
        · cases e
      by_cases hx:j < (nds Γ x).length
      · obtain⟨a1,a2,a3,a5,a4⟩:=NK (v:=x) h.2.1 ho.1 hG j hx
        have hp:p + (j + 1)=p + 1 + j:=by omega
        have e:(nds Γ (.app x y))[j + 1]=(nds Γ x)[j]:=by simp only [nds,List.getElem_cons_succ];exact List.getElem_append_left hx
        rw [e];exact⟨by rw [hp];exact a1,a2,a3,nLT a5 (by simp only [Tv.size];omega),fun k=>a4 (hs k).1⟩
      · have hl:=I8 Γ x
        have hj2:j - x.size < (nds Γ y).length:=by simp only [nds,List.length_cons,List.length_append] at hj;omega
        obtain⟨a1,a2,a3,a5,a4⟩:=NK (v:=y) h.2.2 ho.2 hG (j - x.size) hj2;have hp:p + (j + 1)=p + 1 + x.size + (j - x.size):=by omega
        have e:(nds Γ (.app x y))[j + 1]=(nds Γ y)[j - x.size]:=by
          simp only [nds,List.getElem_cons_succ];rw [List.getElem_append_right om];simp only [hl]
        rw [e];exact⟨by rw [hp];exact a1,a2,a3,nLT a5 (by simp only [Tv.size];omega),fun k=>a4 (hs k).2⟩
def TyAt (l:List Rw) (p:Nat) (τ:Ts):Prop:=∀ Γ v,Y7 l p Γ v→tyv Γ v=some τ
theorem xx {α:Type} {o:Option α} {a b:α} (h:o=some a) (k:o=some b):a=b:=Option.some.inj (h.symm.trans k)
theorem TyAt.con {l:List Rw} {p:Nat} {r:Rw} {τ:Ts} (h:l[p]? =some r) (hk:r.kind=1) (ht:r.typ=τ.sm):TyAt l p τ:=by
  intro Γ v hv;cases v with
  | con nm σ=>
    obtain⟨r',h1,_,h2⟩:=hv;cases xx h h1;rw [Ts.sm_inj (h2.symm.trans ht)];rfl
  | var i=>obtain⟨r',h1,h2,_⟩:=hv;cases xx h h1;rw [hk] at h2;cases h2
  | abs σ x=>obtain⟨⟨r',h1,h2,_⟩,_⟩:=hv;cases xx h h1;rw [hk] at h2;cases h2
  | app x y=>obtain⟨⟨r',h1,h2,_⟩,_⟩:=hv;cases xx h h1;rw [hk] at h2;cases h2
theorem Chn.uniq {l:List Rw} {u:Int} {Γ Δ:List Ts} (h:Chn l u Γ) (k:Chn l u Δ):Γ=Δ:=by
  induction h generalizing Δ with
  | nil=>
    generalize e:(-1:Int)=z at k
    cases k with
    | nil=>rfl
    | @abs u=>omega
    | @app u=>omega
  | @abs u r τ Γ h hk ht hu hc ih=>
    generalize e:(u:Int)=z at k
    cases k with
    | nil=>omega
    | @abs u2 r2 τ2 Γ2 h2 hk2 ht2 hu2 hc2=>
      obtain rfl:u=u2:=by omega
      cases xx h h2;rw [ih hc2,Ts.sm_inj (ht.symm.trans ht2)]
    | @app u2 r2 Γ2 h2 hk2 hu2 hc2=>
      obtain rfl:u=u2:=by omega
      cases xx h h2;exact absurd hk hk2
  | @app u r Γ h hk hu hc ih=>
    generalize e:(u:Int)=z at k
    cases k with
    | nil=>omega
    | @abs u2 r2 τ2 Γ2 h2 hk2 ht2 hu2 hc2=>
      obtain rfl:u=u2:=by omega
      cases xx h h2;exact absurd hk2 hk
    | @app u2 r2 Γ2 h2 hk2 hu2 hc2=>
      obtain rfl:u=u2:=by omega
      cases xx h h2;exact ih hc2
theorem TyAt.var {l:List Rw} {p i:Nat} {r:Rw} {τ:Ts} {Γ:List Ts} (h:l[p]? =some r) (hk:r.kind=2) (hi:r.index=i) (hc:Chn l r.up Γ) (ht:Γ[i]? =some τ):TyAt l p τ:=by
  intro Δ v hv;cases v with
  | con nm σ=>obtain⟨r',h1,h2,_⟩:=hv;cases xx h h1;rw [hk] at h2;cases h2
  | var j=>
    obtain⟨r',h1,_,h2,_,h3⟩:=hv;cases xx h h1;rw [hi] at h2;rw [show j=i by omega,← hc.uniq h3];exact ht
  | abs σ x=>obtain⟨⟨r',h1,h2,_⟩,_⟩:=hv;cases xx h h1;rw [hk] at h2;cases h2
  | app x y=>obtain⟨⟨r',h1,h2,_⟩,_⟩:=hv;cases xx h h1;rw [hk] at h2;cases h2
theorem TyAt.abs {l:List Rw} {p:Nat} {r:Rw} {τ ρ:Ts} (h:l[p]? =some r) (hk:r.kind=3) (ht:r.typ=τ.sm) (hx:TyAt l (p + 1) ρ):TyAt l p (.f τ ρ):=by
  intro Γ v hv;cases v with
  | con nm σ=>obtain⟨r',h1,h2,_⟩:=hv;cases xx h h1;rw [hk] at h2;cases h2
  | var i=>obtain⟨r',h1,h2,_⟩:=hv;cases xx h h1;rw [hk] at h2;cases h2
  | abs σ x=>
    obtain⟨⟨r',h1,h2,h3,_⟩,h4⟩:=hv;cases xx h h1;show (tyv (σ :: Γ) x).map (Ts.f σ)=_;rw [hx _ _ h4,Ts.sm_inj (h3.symm.trans ht)];rfl
  | app x y=>obtain⟨⟨r',h1,h2,_⟩,_⟩:=hv;cases xx h h1;rw [hk] at h2;cases h2
theorem TyAt.app {l:List Rw} {p q:Nat} {r:Rw} {a ρ:Ts} (h:l[p]? =some r) (hk:r.kind=4) (hq:r.kids= [((p + 1:Nat):Int),(q:Int)]) (hx:TyAt l (p + 1) (.f a ρ)) (hy:TyAt l q a):TyAt l p ρ:=by
  intro Γ v hv;cases v with
  | con nm σ=>obtain⟨r',h1,h2,_⟩:=hv;cases xx h h1;rw [hk] at h2;cases h2
  | var i=>obtain⟨r',h1,h2,_⟩:=hv;cases xx h h1;rw [hk] at h2;cases h2
  | abs σ x=>obtain⟨⟨r',h1,h2,_⟩,_⟩:=hv;cases xx h h1;rw [hk] at h2;cases h2
  | app x y=>
    obtain⟨⟨r',h1,_,h2⟩,h3,h4⟩:=hv;cases xx h h1;rw [hq] at h2;simp only [List.cons.injEq,and_true,true_and] at h2;rw [show p + 1 + x.size=q by omega] at h4;simp only [tyv,hx _ _ h3,hy _ _ h4];rw [if_pos (Ts.eqb_iff.2 rfl)]
theorem ty_no {l:List Rw} {p q:Nat} {r:Rw} {α β:Ts} {Γ:List Ts} {v:Tv} (hv:Y7 l p Γ v) (h:l[p]? =some r) (hk:r.kind=4) (hq:r.kids= [((p + 1:Nat):Int),(q:Int)]) (hx:TyAt l (p + 1) α) (hy:TyAt l q β) (hn:∀ ρ:Ts,α≠Ts.f β ρ):tyv Γ v=none:=by
  cases v with
  | con nm σ=>obtain⟨r',h1,h2,_⟩:=hv;cases xx h h1;rw [hk] at h2;cases h2
  | var i=>obtain⟨r',h1,h2,_⟩:=hv;cases xx h h1;rw [hk] at h2;cases h2
  | abs σ x=>obtain⟨⟨r',h1,h2,_⟩,_⟩:=hv;cases xx h h1;rw [hk] at h2;cases h2
  | app x y=>
    obtain⟨⟨r',h1,_,h2⟩,h3,h4⟩:=hv;cases xx h h1;rw [hq] at h2;simp only [List.cons.injEq,and_true,true_and] at h2;rw [show p + 1 + x.size=q by omega] at h4;simp only [tyv,hx _ _ h3,hy _ _ h4];cases α with
    | b t=>rfl
    | f a ρ=>
      by_cases e:a=β
      · subst e;exact absurd rfl (hn ρ)
      · simp only []
        rw [if_neg (fun k=>e (Ts.eqb_iff.1 k))]
end Go.Proofs.YtbcpgfnfiekbiaaGreatDoor
namespace Go.Proofs.YtbcpgfnfiekbiaaGreatDoor
open Go.RowKit
section rules
variable {P:Program} {Q:Exit→Act→World→Prop} {n:Nat} {f:Fr} {w w':World} {ops:Array Oper} {rest:List Oper} {d:Nat} {ty:TypeId} {pos:String} {af:Array Edge} {x y z:Operand} {t t' e:TypeId}
theorem r_slF {dst:Option Tmp} {gd:Option (Nat×Bool)} {A:Option Addr} {m c h:Nat} {sz:Nat} (hu:P.underlying t=some (.slice e)) (hs:(P.info? e).map (·.size)=some sz) (hx:ev n f x= .slice A m c) (hy:ev n f y= .int .i64 (h:Int)) (hz:ev n f z= .int .i64 (h:Int)) (hh:h≤c):
    RV P n f w ⟨dst,.slice t x none (some y) (some z),ty,pos,af,gd⟩ (.slice A h h) w:=by
  cases hq:P.info? e with
  | none=>simp [hq] at hs
  | some i=>
    have h1:(Instr.sliceBound (.int .i64 (h:Int)) h .slice3C).run P w= .ok h w:=by simp [Instr.sliceBound,asIntOf]
    have h2:(Instr.sliceBound (.int .i64 (h:Int)) c .slice3Acap).run P w= .ok h w:=by simp [Instr.sliceBound,asIntOf,hh]
    have h3:(Instr.sliceBound (.int .i64 (h:Int)) h .slice3B).run P w= .ok h w:=by simp [Instr.sliceBound,asIntOf]
    cases A <;> simp [RV,execOp,hx,hy,hz,Instr.sliceAt,run_underlying hu,Instr.slice,Instr.sliceBounds,h1,h2,h3,sizeOf,typeInfo,hq,C7]
theorem wl_appFl {zv:Value} {by' k m c b sz:Nat} {A:Option Addr} {cs:Array Value} {olds:List Value} (hu:P.underlying t=some (.slice e)) (hi:(P.info? e).map (fun i=>(i.zero,i.size,i.bytes))=some (some zv,sz,by')) (hzs:zv.cells.size=sz) (hsz:0 < sz)
    (hlo:olds.length=k * sz) (holds:∀ b',A=some b'→∀ j u,olds[j]? =some u→w.cell? (b'.add j)=some u) (hno:A=none→k=0) (hb:Blk w b e cs) (hx:ev n f x= .slice A k k) (hy:ev n f y= .slice (some ⟨b,0,none⟩) m c) (hl:cs.size=m * sz) (h1:cs.toList.all (·.oneCell')=true) (hm:0 < m) (h63:k + m≤9223372036854775807) (hbytes:(k + m) * by'≤140737488355328)
    (K:∀ g cap' w1,Own w1 w.heap.size e sz (some ⟨g,0,none⟩) (k + m) cap' (olds ++ cs.toList)→Same [] w w1→w.heap.size≤g→WL P ops Q rest n (upd f d (.slice (some ⟨g,0,none⟩) (k + m) cap')) w1):
    WL P ops Q (⟨some d,.call { callee:= .builtin .append,args:=#[x,y],argTypes:=#[t,t] },ty,pos,af,none⟩ :: rest) n f w:=by
  cases A with
  | none=>
    obtain rfl:=hno rfl;obtain rfl:olds= []:=List.eq_nil_of_length_eq_zero (by simpa using hlo);refine vW hu hi hzs hsz (Own.nil w w.heap.size e sz) hb hx hy hl h1 hm h63 hbytes (Nat.le_refl _) (fun g cap' w1 ho hs hg=>K g cap' w1 ho hs ?_);rcases hg with h | h
    · cases h
    · exact h
  | some b'=>
    obtain⟨i,hq,hzz⟩:=Option.map_eq_some_iff.1 hi;simp only [Prod.mk.injEq] at hzz;obtain⟨v',w1,hr,ho,hg⟩:=run_append_arg_grows (P:=P) w t ty e i zv sz by' hu hq hzz.1 hzz.2.1 hzz.2.2 hzs hsz b' k k olds hlo (holds b' rfl) ⟨b,0,none⟩ m c cs.toList (by simpa using hl) (World.news_of_block hb) om h63 hbytes;have hv:∃ g cap',v'= .slice (some ⟨g,0,none⟩) (k + m) cap'∧w.heap.size≤g:=by
      rcases ho.2 with ⟨_,h0⟩ | ⟨g,cap',_,rfl,hg',_⟩
      · omega
      · exact⟨g,cap',rfl,hg'⟩
    obtain⟨g,cap',rfl,hgl⟩:=hv;refine wl (v:= .slice (some ⟨g,0,none⟩) (k + m) cap') (w':=w1) ?_ (K g cap' w1 ho (JQ (A:=none) (k:=0) (cap:=0) hg) hgl);simp only [RV,execOp,resolve,invoke,builtin,Sem.run_bind,Sem.run_pure,Result.andThen_ok,List.map_toArray,List.map_cons,List.map_nil,hx,hy,hr]
end rules
inductive SimR (w:World):List Sm→List Value→Prop
  | nil:SimR w [] []
  | snoc {l:List Sm} {vs:List Value} {s:Sm} {A:Option Addr} {c:Nat} (h:SimR w l vs) (hs:SimsIn w A s.args):SimR w (l ++ [s]) (vs ++ [.string s.base,.slice A s.args.length c])
theorem SimR.len {w:World} {l:List Sm} {vs:List Value} (h:SimR w l vs):vs.length=l.length * 2:=by
  induction h with
  | nil=>rfl
  | snoc h hs ih=>simp only [List.length_append,ih,List.length_cons,List.length_nil];omega
theorem SimR.mono {w w':World} {l:List Sm} {vs:List Value} (h:SimR w l vs) (hb:Bel w w'):SimR w' l vs:=by
  induction h with
  | nil=>exact .nil
  | snoc h hs ih=>exact .snoc ih (hs.mono hb)
theorem SimR.at_ {w:World} {l:List Sm} {vs:List Value} (h:SimR w l vs):∀ {k:Nat} (hk:k < l.length),∃ A c,vs[k * 2]? =some (.string (l[k]).base)∧vs[k * 2 + 1]? =some (.slice A (l[k]).args.length c)∧SimsIn w A (l[k]).args:=by
  induction h with
  | nil=>intro k hk;simp at hk
  | @snoc l vs s A c h hs ih=>
    intro k hk;have hl:=h.len;by_cases e:k < l.length
    · obtain⟨A',c',h1,h2,h3⟩:=ih e
      rw [List.getElem_append_left e];exact⟨A',c',by rw [List.getElem?_append_left om];exact h1,by rw [List.getElem?_append_left om];exact h2,h3⟩
    · have ek:k=l.length:=by rw [List.length_append] at hk;simp at hk;omega
      subst ek;rw [List.getElem_append_right (Nat.le_refl _)];simp only [Nat.sub_self,List.getElem_cons_zero];refine⟨A,c,?_,?_,hs⟩
      · rw [List.getElem?_append_right om,hl,Nat.sub_self];rfl
      · rw [List.getElem?_append_right om,hl,show l.length * 2 + 1 - l.length * 2=1 by omega];rfl
theorem SimsIn.row {w:World} {b o:Nat} {l:List Sm} (h:SimsIn w (some ⟨b,o,none⟩) l):∃ vs,SimR w l vs∧∀ j u,vs[j]? =some u→w.cell? ⟨b,o + j,none⟩=some u:=by
  have key:∀ k,k≤l.length→∃ vs,SimR w (l.take k) vs∧∀ j u,vs[j]? =some u→w.cell? ⟨b,o + j,none⟩=some u:=by
    intro k
    induction k with
    | zero=>exact fun _=>⟨[],.nil,fun j u hj=>by simp at hj⟩
    | succ k ih=>
      intro hk;obtain⟨vs,h1,h2⟩:=ih om;obtain⟨b',o',A',c',e,_,hr,hs⟩:=h.at_ (k:=k) om;cases e;have hl:=h1.len;rw [List.length_take,Nat.min_eq_left om] at hl;refine⟨vs ++ [.string (l[k]).base,.slice A' (l[k]).args.length c'],?_,fun j u hj=>?_⟩
      · rw [ux l om];exact .snoc h1 hs
      · by_cases e:j < vs.length
        · rw [List.getElem?_append_left e] at hj;exact h2 j u hj
        · rw [List.getElem?_append_right om] at hj
          have:=hr (j - vs.length) u hj
          rwa [hl,show o + k * 2 + (j - k * 2)=o + j by omega] at this
  obtain⟨vs,h1,h2⟩:=key l.length (Nat.le_refl _);rw [List.take_of_length_le (Nat.le_refl _)] at h1;exact⟨vs,h1,h2⟩
theorem sims_own {w:World} {base n cap g:Nat} {l:List Sm} {vs:List Value} (ho:Own w base 41 2 (some ⟨g,0,none⟩) n cap vs) (h:SimR w l vs) (hn:l.length=n) (hp:0 < n):SimsIn w (some ⟨g,0,none⟩) l:=by
  have hl:=h.len;obtain⟨g',e,_,hg,hc⟩:=ho.cell (by intro e;rw [e] at hl;simp at hl;omega);cases e;refine .more (by have:=ho.max;unfold vQ;omega) hg (fun k hk=>?_);obtain⟨A,c,h1,h2,h3⟩:=h.at_ hk;rw [show l[k]=Sm.mk (l[k]).base (l[k]).args from Sm.eta _];refine SimAt.mk (c:=c) hg (fun i v hv=>?_) h3
  match i,hv with
  | 0,hv=>cases hv;have:=hc _ _ h1;rwa [Nat.zero_add]
  | 1,hv=>cases hv;have:=hc _ _ h2;rwa [Nat.zero_add]
  | i + 2,hv=>simp at hv
def CtxIn (w:World) (C:Option Addr) (Γ:List Ts):Prop:=SimsIn w C (Γ.reverse.map Ts.sm)∧(C=none→Γ= [])
theorem CtxIn.mono {w w':World} {C:Option Addr} {Γ:List Ts} (h:CtxIn w C Γ) (hb:Bel w w'):CtxIn w' C Γ:=⟨h.1.mono hb,h.2⟩
theorem CtxIn.nil (w:World):CtxIn w none []:=⟨.nil,fun _=>rfl⟩
theorem CtxIn.at_ {w:World} {C:Option Addr} {Γ:List Ts} (h:CtxIn w C Γ) {i:Nat} {τ:Ts} (hi:Γ[i]? =some τ):∃ b o A c,C=some ⟨b,o,none⟩∧b < w.heap.size∧w.rangeAt b (o + (Γ.length - 1 - i) * 2) [.string τ.sm.base,.slice A τ.sm.args.length c]∧SimsIn w A τ.sm.args:=by
  obtain⟨hl,rfl⟩:=List.getElem?_eq_some_iff.1 hi;obtain⟨b,o,A,c,h1,h2,h3,h4⟩:=h.1.at_ (k:=Γ.length - 1 - i) (by rw [List.length_map,List.length_reverse];omega);have e:(Γ.reverse.map Ts.sm)[Γ.length - 1 - i]'(by rw [List.length_map,List.length_reverse];omega)=(Γ[i]).sm:=by
    rw [List.getElem_map,List.getElem_reverse]
    congr 2;omega
  rw [e] at h3 h4;exact⟨b,o,A,c,h1,h2,h3,h4⟩
theorem CtxIn.row {w:World} {C:Option Addr} {Γ:List Ts} (h:CtxIn w C Γ):∃ vs,SimR w (Γ.reverse.map Ts.sm) vs∧vs.length=Γ.length * 2∧(∀ b',C=some b'→∀ j u,vs[j]? =some u→w.cell? (b'.add j)=some u)∧(C=none→Γ.length=0):=by
  have hn:C=none→Γ.length=0:=fun e=>by rw [h.2 e];rfl
  cases C with
  | none=>
    have:=h.2 rfl;subst this;exact⟨[],.nil,rfl,fun b' e=>(by cases e),hn⟩
  | some a=>
    cases hq:Γ with
    | nil=>exact⟨[],.nil,rfl,fun b' e j u hj=>by simp at hj,fun e=>by cases e⟩
    | cons τ Γ'=>
      have h1:=h.1;rw [hq] at h1
      generalize el:List.map Ts.sm (τ :: Γ').reverse=l at h1
      cases h1 with
      | nil=>rw [List.map_eq_nil_iff] at el;simp at el
      | @more b o _ hl hb hx=>
        obtain⟨vs,h2,h3⟩:=SimsIn.row (.more hl hb hx);refine⟨vs,h2,by rw [h2.len,← el,List.length_map,List.length_reverse],fun b' e j u hj=>?_,fun e=>by cases e⟩;cases e;rw [Addr.add_mid];exact h3 j u hj
theorem ctx_app {w:World} {base n cap g c:Nat} {A:Option Addr} {Γ:List Ts} {τ:Ts} {vs:List Value} (ho:Own w base 41 2 (some ⟨g,0,none⟩) n cap (vs ++ [.string τ.sm.base,.slice A τ.sm.args.length c])) (h:SimR w (Γ.reverse.map Ts.sm) vs) (hs:SimsIn w A τ.sm.args) (hn:Γ.length + 1=n):CtxIn w (some ⟨g,0,none⟩) (τ :: Γ):=by
  refine⟨?_,fun e=>by cases e⟩;have e:(τ :: Γ).reverse.map Ts.sm=Γ.reverse.map Ts.sm ++ [τ.sm]:=by simp
  rw [e];exact sims_own ho (.snoc h hs) (by simp;exact hn) om
theorem MQ {w w':World} {X:List Nat} {b o:Nat} {v:Value} (hs:Same X w w') (hb:b < w.heap.size) (hx:b ∉ X) (h:w.cell? ⟨b,o,none⟩=some v):w'.cell? ⟨b,o,none⟩=some v:=by
  have e:=hs.blk b hb hx;unfold World.cell? at h ⊢;simp only [e];exact h
theorem KW {w w':World} {b:Nat} (hb:Blk w b 41 #[.string ⟨#[]⟩,.slice none 0 0]) (hs:Same [b] w w'):∀ (τ:Ts) {A:Option Addr},SimsIn w A τ.sm.args→SimsIn w' A τ.sm.args
  | .b t,A,h=>by cases t <;> exact .nil
  | .f x y,A,h=>by
    have far:∀ (τ:Ts) (o c:Nat) (A':Option Addr),w.rangeAt b o [.string τ.sm.base,.slice A' τ.sm.args.length c]→False:=fun τ o c A' hr=>by
      have h0:=hr 0 _ rfl
      have h1:=hr 1 _ rfl
      rw [Nat.add_zero,cell_of_row w b o _ _ _ hb] at h0
      rw [cell_of_row w b (o + 1) _ _ _ hb] at h1
      match o,h0,h1 with
      | 0,h0,h1=>
        simp only [List.getElem?_toArray,List.getElem?_cons_zero,Option.some.injEq,Value.string.injEq,List.getElem?_cons_succ,Value.slice.injEq,Nat.zero_add] at h0 h1
        obtain⟨p,q,rfl⟩:∃ p q,τ= .f p q:=by
          cases τ with
          | b t=>exfalso;revert h0;cases t <;> decide
          | f p q=>exact⟨p,q,rfl⟩
        have h2:0=2:=h1.2.1;cases h2
      | 1,h0,_=>simp at h0
      | o + 2,h0,_=>simp at h0
    obtain⟨b1,o1,A0,c0,rfl,hl,hr0,hs0⟩:=h.at_ (k:=0) (by simp [Ts.sm,Sm.args]);obtain⟨_,_,A1,c1,e1,_,hr1,hs1⟩:=h.at_ (k:=1) (by simp [Ts.sm,Sm.args]);cases e1;have hne:b1 ∉ [b]:=fun hm=>by
      obtain rfl:=List.mem_singleton.1 hm;exact far x _ _ _ hr0
    refine .more (show 2≤vQ by decide) (nLL hl hs.size) (fun k hk=>?_)
    match k,hk with
    | 0,_=>
      show SimAt w' b1 (o1 + 0 * 2) x.sm;rw [Sm.eta x.sm];exact SimAt.mk (nLL hl hs.size) (fun i v hv=>MQ hs hl hne (hr0 i v hv)) (KW hb hs x hs0)
    | 1,_=>
      show SimAt w' b1 (o1 + 1 * 2) y.sm;rw [Sm.eta y.sm];exact SimAt.mk (nLL hl hs.size) (fun i v hv=>MQ hs hl hne (hr1 i v hv)) (KW hb hs y hs1)
end Go.Proofs.YtbcpgfnfiekbiaaGreatDoor
namespace Go.Proofs.YtbcpgfnfiekbiaaGreatDoor
open Go.RowKit
def iV (xs:List Int):List Value:=xs.map (Value.int .i64)
theorem iV_len (xs:List Int):(iV xs).length=xs.length:=by simp [iV]
theorem IntsIn.news {w:World} {A:Option Addr} {xs:List Int} (h:IntsIn w A xs):0 < xs.length→∃ b o',A=some ⟨b,o',none⟩∧∀ j u,(iV xs)[j]? =some u→w.cell? ⟨b,o' + j,none⟩=some u:=fun hm=>by
  obtain⟨b,o,e,_,hc⟩:=h.2 (by rintro rfl;simp at hm)
  refine⟨b,o,e,fun j u hj=>?_⟩
  simp only [iV,List.getElem?_map,Option.map_eq_some_iff] at hj
  obtain⟨x,hx,rfl⟩:=hj
  obtain⟨hk,rfl⟩:=List.getElem?_eq_some_iff.1 hx
  simpa using hc j hk
def MatIn (w:World) (A:Option Addr) (L:List (List Int)):Prop:=
  L.length≤vQ∧(L≠[]→∃ b o,A=some ⟨b,o,none⟩∧b < w.heap.size∧∀ k (hk:k < L.length),∃ A' c,w.cell? ⟨b,o + k * 1,none⟩=some (.slice A' (L[k]).length c)∧IntsIn w A' L[k])
theorem MatIn.mono {w w':World} {A:Option Addr} {L:List (List Int)} (h:MatIn w A L) (hb:Bel w w'):MatIn w' A L:=
  ⟨h.1,fun hn=>by
    obtain⟨b,o,e,hl,hc⟩:=h.2 hn
    refine⟨b,o,e,nLL hl hb.size,fun k hk=>?_⟩
    obtain⟨A',c,h1,h2⟩:=hc k hk
    exact⟨A',c,hb.cell hl h1,h2.mono hb⟩⟩
theorem MatIn.at_ {w w':World} {A:Option Addr} {L:List (List Int)} (h:MatIn w A L) (hb:Bel w w') {k:Nat} (hk:k < L.length):
    ∃ b o A' c,A=some ⟨b,o,none⟩∧w'.cell? ⟨b,o + k * 1,none⟩=some (.slice A' (L[k]).length c)∧IntsIn w A' L[k]:=by
  obtain⟨b,o,e,hl,hc⟩:=h.2 (by rintro rfl;simp at hk);obtain⟨A',c,h1,h2⟩:=hc k hk;exact⟨b,o,A',c,e,hb.cell hl h1,h2⟩
end Go.Proofs.YtbcpgfnfiekbiaaGreatDoor
namespace Go.Proofs.YtbcpgfnfiekbiaaGreatDoor
open Go.RowKit
theorem Zy {w:World} {base b sz k c:Nat} {e t:TypeId} {A:Option Addr} {xs:List Value} {cs:Array Value} (h:Own w base e sz A k c xs) (hb:Blk w b t cs) (hne:e≠t):∀ g ∈ aL A,g≠b:=fun g hg e1=>by
  obtain⟨c2,h2⟩:=h.typ g hg
  subst e1
  exact hne (jQ h2 hb)
def fnd (l:List Ty) (s:ByteArray):Int:=match l.findIdx? (fun t=>decide (t.name=s)) with
  | some k=>(k:Int)
  | none=>-1
def ats (l:List Ty):List ByteArray→Option (List Int)
  | []=>some []
  | x :: xs=>if fnd l x < 0 then none else (ats l xs).map (fun r=>fnd l x :: r)
def PrIn (lo hi:Nat) (w:World) (A:Option Addr) (xs:List Int):Prop:=xs.length≤vQ∧(xs≠[]→∃ g cs,A=some ⟨g,0,none⟩∧lo≤g∧g < hi∧Blk w g 3 cs∧cs.toList.take xs.length=iV xs)
theorem PrIn.tr {lo hi:Nat} {w w':World} {A:Option Addr} {xs:List Int} {X:List Nat} (h:PrIn lo hi w A xs) (hs:Same X w w') (hx:∀ g ∈ X,hi≤g∨∃ cs t,Blk w g t cs∧t≠3):PrIn lo hi w' A xs:=
  ⟨h.1,fun hn=>by
    obtain⟨g,cs,e,hlo,hl,hb,ht⟩:=h.2 hn
    refine⟨g,cs,e,hlo,hl,hb.tr hs (fun hm=>?_),ht⟩
    rcases hx g hm with h1 | ⟨cs2,t,hb2,hne⟩
    · omega
    · exact hne (jQ hb2 hb)⟩
theorem PrIn.up {lo hi hi':Nat} {w:World} {A:Option Addr} {xs:List Int} (h:PrIn lo hi w A xs) (hl:hi≤hi'):PrIn lo hi' w A xs:=
  ⟨h.1,fun hn=>by
    obtain⟨g,cs,e,hlo,hg,hb,ht⟩:=h.2 hn
    exact⟨g,cs,e,hlo,by omega,hb,ht⟩⟩
theorem PrIn.low {lo lo' hi:Nat} {w:World} {A:Option Addr} {xs:List Int} (h:PrIn lo hi w A xs) (hl:lo'≤lo):PrIn lo' hi w A xs:=
  ⟨h.1,fun hn=>by
    obtain⟨g,cs,e,hlo,hg,hb,ht⟩:=h.2 hn
    exact⟨g,cs,e,by omega,hg,hb,ht⟩⟩
theorem PrIn.fr {lo hi:Nat} {w w':World} {A:Option Addr} {xs:List Int} (h:PrIn lo hi w A xs) (hf:FrSame lo w w'):PrIn lo hi w' A xs:=
  ⟨h.1,fun hn=>by
    obtain⟨g,cs,e,hlo,hg,hb,ht⟩:=h.2 hn
    exact⟨g,cs,e,hlo,hg,hf.at_ hb hlo,ht⟩⟩
theorem own_pr {w:World} {base k cap:Nat} {A:Option Addr} {xs:List Int} (h:Own w base 3 1 A k cap (iV xs)):PrIn base w.heap.size w A xs:=by
  have h1:=h.len;have h2:=h.max;rw [iV_len,Nat.mul_one] at h1;refine⟨by unfold vQ;omega,fun hn=>?_⟩;have hp:=List.length_pos_iff.2 hn;obtain⟨g,cur,e,hlo,hb,_,_,ht⟩:=h.whole om;rw [Nat.mul_one,← h1] at ht;exact⟨g,cur,e,hlo,hb.lt,hb,ht⟩
def RowT (lo hi:Nat) (w:World) (l:List Ty) (vs:List Value):Prop:=vs.length=l.length * 2∧∀ k (hk:k < l.length),∃ A c,vs[k * 2]? =some (.string (l[k]).name)∧vs[k * 2 + 1]? =some (.slice A (l[k]).par.length c)∧PrIn lo hi w A (l[k]).par
theorem RowT.nil (lo hi:Nat) (w:World):RowT lo hi w [] []:=⟨rfl,fun k hk=>by simp at hk⟩
theorem RowT.tr {lo hi:Nat} {w w':World} {l:List Ty} {vs:List Value} {X:List Nat} (h:RowT lo hi w l vs) (hs:Same X w w') (hx:∀ g ∈ X,hi≤g∨∃ cs t,Blk w g t cs∧t≠3):RowT lo hi w' l vs:=
  ⟨h.1,fun k hk=>by obtain⟨A,c,e1,e2,hp⟩:=h.2 k hk;exact⟨A,c,e1,e2,hp.tr hs hx⟩⟩
theorem RowT.up {lo hi hi':Nat} {w:World} {l:List Ty} {vs:List Value} (h:RowT lo hi w l vs) (hl:hi≤hi'):RowT lo hi' w l vs:=
  ⟨h.1,fun k hk=>by obtain⟨A,c,e1,e2,hp⟩:=h.2 k hk;exact⟨A,c,e1,e2,hp.up hl⟩⟩
theorem RowT.fr {lo hi:Nat} {w w':World} {l:List Ty} {vs:List Value} (h:RowT lo hi w l vs) (hf:FrSame lo w w'):RowT lo hi w' l vs:=
  ⟨h.1,fun k hk=>by obtain⟨A,c,e1,e2,hp⟩:=h.2 k hk;exact⟨A,c,e1,e2,hp.fr hf⟩⟩
theorem RowT.snoc {lo hi:Nat} {w:World} {l:List Ty} {vs:List Value} {s:ByteArray} {xs:List Int} {A:Option Addr} {c:Nat} (h:RowT lo hi w l vs) (hp:PrIn lo hi w A xs):RowT lo hi w (l ++ [⟨s,xs⟩]) (vs ++ [.string s,.slice A xs.length c]):=by
  have h1:=h.1;refine⟨by simp [h1];omega,fun k hk=>?_⟩;by_cases e:k < l.length
  · obtain⟨A2,c2,e1,e2,hp2⟩:=h.2 k e
    refine⟨A2,c2,?_,?_,?_⟩
    · rw [List.getElem?_append_left om,List.getElem_append_left e];exact e1
    · rw [List.getElem?_append_left om,List.getElem_append_left e];exact e2
    · rw [List.getElem_append_left e];exact hp2
  · have e2:k=l.length:=by simp at hk;omega
    subst e2;refine⟨A,c,?_,?_,?_⟩
    · rw [List.getElem?_append_right om,h1,Nat.sub_self];simp
    · rw [List.getElem?_append_right om,h1,show l.length * 2 + 1 - l.length * 2=1 by omega];simp
    · simpa using hp
section rules
variable {P:Program} {n:Nat} {f:Fr} {w:World} {ty:TypeId} {pos:String} {af:Array Edge} {x y:Operand} {t e:TypeId}
end rules
end Go.Proofs.YtbcpgfnfiekbiaaGreatDoor
namespace Go.Proofs.YtbcpgfnfiekbiaaGreatDoor
open Go.RowKit
def KidIn (w:World) (D:Nat→Prop) (A:Option Addr) (xs:List Int):Prop:=xs.length≤vQ∧(xs≠[]→∃ g cs,A=some ⟨g,0,none⟩∧D g∧Blk w g 3 cs∧cs.toList.take xs.length=iV xs)
theorem KidIn.nil (w:World) (D:Nat→Prop) (A:Option Addr):KidIn w D A []:=⟨Nat.zero_le _,fun h=>absurd rfl h⟩
theorem KidIn.chG {w w':World} {D Z:Nat→Prop} {A:Option Addr} {xs:List Int} (h:KidIn w D A xs) (hc:ChG Z w w') (hz:∀ g,Z g→¬D g∨∃ cs t,Blk w g t cs∧t≠3):KidIn w' D A xs:=
  ⟨h.1,fun hn=>by
    obtain⟨g,cs,e,hd,hb,ht⟩:=h.2 hn
    refine⟨g,cs,e,hd,hb.chG hc (fun hm=>?_),ht⟩
    rcases hz g hm with h1 | ⟨c2,t2,h1,h2⟩
    · exact h1 hd
    · exact h2 (jQ h1 hb)⟩
theorem ChG.of_same {X:List Nat} {w w':World} (h:Same X w w'):ChG (fun g=>g ∈ X) w w':=⟨h.os,h.tape,h.output,h.size,fun k hk hx=>h.blk k hk hx⟩
theorem KidIn.weak {w:World} {D D':Nat→Prop} {A:Option Addr} {xs:List Int} (h:KidIn w D A xs) (hd:∀ g,g < w.heap.size→D g→D' g):KidIn w D' A xs:=
  ⟨h.1,fun hn=>by
    obtain⟨g,cs,e,h1,hb,ht⟩:=h.2 hn
    exact⟨g,cs,e,hd g hb.lt h1,hb,ht⟩⟩
theorem KidIn.own {w:World} {base k cap:Nat} {A:Option Addr} {xs:List Int} (h:Own w base 3 1 A k cap (iV xs)) (hk:k=xs.length):KidIn w (fun g=>base≤g) A xs:=by
  subst hk;have h2:=own_pr h
  exact⟨h2.1,fun hn=>by
    obtain⟨g,cs,e,h3,_,h4,h5⟩:=h2.2 hn
    exact⟨g,cs,e,h3,h4,h5⟩⟩
theorem KidIn.cell {w:World} {D:Nat→Prop} {A:Option Addr} {xs:List Int} (h:KidIn w D A xs) {j:Nat} (hj:j < xs.length):∃ g,A=some ⟨g,0,none⟩∧g < w.heap.size∧w.cell? ⟨g,0 + j * 1,none⟩=some (.int .i64 xs[j]):=by
  obtain⟨g,cs,e,_,hb,ht⟩:=h.2 (by intro e;rw [e] at hj;simp at hj);refine⟨g,e,hb.lt,hb.cell ?_⟩;have h1:(cs.toList.take xs.length)[j]? =some (.int .i64 xs[j]):=by rw [ht];simp [iV,hj]
  rw [List.getElem?_take_of_lt hj,Array.getElem?_toList] at h1;rw [Nat.zero_add,Nat.mul_one];exact h1
def rwV (r:Rw) (A:Option Addr) (c:Nat) (K:Option Addr) (ck:Nat):List Value:=[.int .i64 r.kind,.string r.name,.string r.typ.base,.slice A r.typ.args.length c,.int .i64 r.index,.slice K r.kids.length ck,.int .i64 r.up]
inductive RwsIn (w0 w:World) (D:Nat→Prop):List Rw→List Value→Prop
  | nil:RwsIn w0 w D [] []
  | cons {r:Rw} {l:List Rw} {vs:List Value} {A K:Option Addr} {c ck:Nat} (hs:SimsIn w0 A r.typ.args) (hk:KidIn w D K r.kids) (h:RwsIn w0 w D l vs):RwsIn w0 w D (r :: l) (rwV r A c K ck ++ vs)
theorem RwsIn.len {w0 w:World} {D:Nat→Prop} {l:List Rw} {vs:List Value} (h:RwsIn w0 w D l vs):vs.length=l.length * 7:=by
  induction h with
  | nil=>rfl
  | cons hs hk h ih=>simp only [List.length_append,ih,List.length_cons,rwV,List.length_nil];omega
theorem RwsIn.chG {w0 w w':World} {D Z:Nat→Prop} {l:List Rw} {vs:List Value} (h:RwsIn w0 w D l vs) (hc:ChG Z w w') (hz:∀ g,Z g→¬D g∨∃ cs t,Blk w g t cs∧t≠3):RwsIn w0 w' D l vs:=by
  induction h with
  | nil=>exact .nil
  | cons hs hk h ih=>exact .cons hs (hk.chG hc hz) ih
theorem RwsIn.tr {w0 w w':World} {D:Nat→Prop} {X:List Nat} {l:List Rw} {vs:List Value} (h:RwsIn w0 w D l vs) (hs:Same X w w') (hz:∀ g,g ∈ X→¬D g∨∃ cs t,Blk w g t cs∧t≠3):RwsIn w0 w' D l vs:=h.chG (ChG.of_same hs) hz
theorem RwsIn.weak {w0 w:World} {D D':Nat→Prop} {l:List Rw} {vs:List Value} (h:RwsIn w0 w D l vs) (hd:∀ g,g < w.heap.size→D g→D' g):RwsIn w0 w D' l vs:=by
  induction h with
  | nil=>exact .nil
  | cons hs hk h ih=>exact .cons hs (hk.weak hd) ih
theorem RwsIn.app {w0 w:World} {D:Nat→Prop} {l m:List Rw} {vs us:List Value} (h:RwsIn w0 w D l vs) (k:RwsIn w0 w D m us):RwsIn w0 w D (l ++ m) (vs ++ us):=by
  induction h with
  | nil=>exact k
  | cons hs hk h ih=>rw [List.append_assoc];exact .cons hs hk ih
theorem RwsIn.at_ {w0 w:World} {D:Nat→Prop} {l:List Rw} {vs:List Value} (h:RwsIn w0 w D l vs):∀ {k:Nat} {r:Rw},l[k]? =some r→∃ A c K ck,(vs.drop (k * 7)).take 7=rwV r A c K ck∧SimsIn w0 A r.typ.args∧KidIn w D K r.kids:=by
  induction h with
  | nil=>intro k r hk;simp at hk
  | @cons r' l vs A K c ck hs hk h ih=>
    intro k r hr;cases k with
    | zero=>
      obtain rfl:=Option.some.inj hr;exact⟨A,c,K,ck,by rw [Nat.zero_mul,List.drop_zero];exact List.take_left' rfl,hs,hk⟩
    | succ k=>
      obtain⟨A',c',K',ck',h1,h2⟩:=ih (k:=k) (r:=r) hr;refine⟨A',c',K',ck',?_,h2⟩;rw [show (k + 1) * 7=7 + k * 7 by omega,← List.drop_drop,show List.drop 7 (rwV r' A c K ck ++ vs)=vs from List.drop_left' rfl];exact h1
theorem own_mid {w:World} {base sz cap g m o n:Nat} {e:TypeId} {xs ys:List Value} (h:Own w base e sz (some ⟨g,0,none⟩) m cap xs) (hx:(xs.drop o).take n=ys):w.rangeAt g (0 + o) ys:=fun i v hv=>by
  subst hx
  rw [List.getElem?_take] at hv
  split at hv
  · rw [List.getElem?_drop] at hv
    have hi:=(List.getElem?_eq_some_iff.1 hv).1
    obtain⟨g',e,_,_,hc⟩:=h.cell (by intro e;rw [e] at hi;simp at hi)
    cases e
    rw [Nat.zero_add]
    exact hc _ v hv
  · cases hv
def Tv.parts:Tv→List Tv
  | .con _ _=>[]
  | .var _=>[]
  | .abs _ x=>[x]
  | .app x y=>[x,y]
def hd (v:Tv) (up:Int) (ks:List Int):Rw:=⟨v.tm.kind,v.tm.name,v.tm.type,v.tm.index,ks,up⟩
def Fq (p:Nat):List Tv→List Int→List Rw→List Int×List Rw
  | [],ks,t=>(ks,t)
  | x :: r,ks,t=>Fq p r (ks ++ [((p + 1 + t.length:Nat):Int)]) (t ++ rws p (p + 1 + t.length) x)
theorem rws_acc (up:Int) (p:Nat) (v:Tv):rws up p v=hd v up (Fq p v.parts [] []).1 :: (Fq p v.parts [] []).2:=by
  cases v with
  | con nm τ=>rfl
  | var i=>rfl
  | abs τ x=>simp [rws,Fq,Tv.parts,hd,Tv.tm,Tm.kind,Tm.name,Tm.type,Tm.index]
  | app x y=>simp [rws,Fq,Tv.parts,hd,Tv.tm,Tm.kind,Tm.name,Tm.type,Tm.index,XX]
theorem O7 (v:Tv):v.tm.args=v.parts.map Tv.tm:=by cases v <;> rfl
theorem parts_lt {v x:Tv} (h:x ∈ v.parts):x.size < v.size:=by
  cases v with
  | con nm τ=>cases h
  | var i=>cases h
  | abs τ y=>simp only [Tv.parts,List.mem_singleton] at h;subst h;simp [Tv.size]
  | app y z=>
    simp only [Tv.parts,List.mem_cons,List.not_mem_nil,or_false] at h;rcases h with rfl | rfl <;> simp only [Tv.size] <;> omega
theorem parts_len (v:Tv):v.parts.length≤2:=by cases v <;> simp [Tv.parts]
theorem parts_sum (v:Tv):(v.parts.map Tv.size).sum + 1=v.size:=by cases v <;> simp [Tv.parts,Tv.size]
theorem tms_part {w:World} {A:Option Addr} {v:Tv} (h:TmsIn w A v.tm.args) {k:Nat} (hk:k < v.parts.length):∃ b o A' c B d,A=some ⟨b,o,none⟩∧b < w.heap.size∧w.rangeAt b (o + k * 6) [Value.int .i64 (v.parts[k]).tm.kind,.string (v.parts[k]).tm.name,.int .i64 (v.parts[k]).tm.index,.string (v.parts[k]).tm.type.base,.slice A' (v.parts[k]).tm.type.args.length c,.slice B (v.parts[k]).tm.args.length d]∧SimsIn w A' (v.parts[k]).tm.type.args∧TmsIn w B (v.parts[k]).tm.args:=by
  have hk2:k < v.tm.args.length:=by rw [O7,List.length_map];exact hk
  obtain⟨b,o,A',c,B,d,h1,h2,h3,h4,h5⟩:=h.at_ hk2;have e:v.tm.args[k]'hk2=(v.parts[k]).tm:=by simp only [O7,List.getElem_map]
  rw [e] at h3 h4 h5;exact⟨b,o,A',c,B,d,h1,h2,h3,h4,h5⟩
theorem BY {α:Type} (a:List α) (x y:α) (b:List α) (i:Nat) (h:i=a.length):(a ++ x :: b).set i y=a ++ y :: b:=by
  subst h
  induction a with
  | nil=>rfl
  | cons z a ih=>simp only [List.cons_append,List.length_cons,List.set_cons_succ,ih]
theorem rw_set {vs ys:List Value} {r:Rw} {A K K':Option Addr} {c ck ck' n:Nat} {ks:List Int} (h:vs.length=n * 7):(vs ++ rwV r A c K ck ++ ys).set (0 + n * 7 + 5) (.slice K' ks.length ck')=vs ++ rwV { r with kids:=ks } A c K' ck' ++ ys:=by
  have h2:=BY (vs ++ [.int .i64 r.kind,.string r.name,.string r.typ.base,.slice A r.typ.args.length c,.int .i64 r.index]) (.slice K r.kids.length ck) (.slice K' ks.length ck') ([.int .i64 r.up] ++ ys) (0 + n * 7 + 5) (by simp [h])
  simpa [rwV] using h2
theorem rw_kid {vs ys:List Value} {r:Rw} {A K:Option Addr} {c ck n:Nat} (h:vs.length=n * 7):(vs ++ rwV r A c K ck ++ ys)[0 + n * 7 + 5]? =some (.slice K r.kids.length ck):=by
  rw [List.append_assoc,List.getElem?_append_right om,h,show 0 + n * 7 + 5 - n * 7=5 by omega];rfl
theorem ChG.same {X:List Nat} {w w':World} (h:ChG (fun g=>g ∈ X) w w'):Same X w w':=⟨h.os,h.tape,h.output,h.size,fun k hk hx=>h.blk k hk hx⟩
end Go.Proofs.YtbcpgfnfiekbiaaGreatDoor
