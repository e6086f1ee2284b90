/- Steps that need no hint. Simple types as plain trees, how a world holds them, and what is wrong with them. No program in sight. What these functions of the program compute, at every world: glosswright/term.Name, glosswright/hierarchy.fault. Terms of the typed lambda calculus as plain trees, how a world holds them, and what is wrong with them. No program in sight. -/
import Derived.Test.YtbcpgfnfiekbiaaGreatDoorU
import Derived.Test.YtbcpgfnfiekbiaaGreatDoorOpen
import Derived.Test.YtbcpgfnfiekbiaaGreatDoorProg
namespace Go.Proofs.YtbcpgfnfiekbiaaGreatDoor
open Go.RowKit
class UndC (P:Program) (t:TypeId) (u:outParam TypeDesc):Prop where
  h:P.underlying t=some u
class SzC (P:Program) (t:TypeId) (n:outParam Nat):Prop where
  h:(P.info? t).map (·.size)=some n
abbrev yx {P:Program} {t:TypeId} {u:TypeDesc} (_:P.underlying t=some u):TypeDesc:=u
instance:UndC Tryz.prog 3 (yx U3):=⟨U3⟩
instance:UndC Tryz.prog 4 (yx U4):=⟨U4⟩
instance:UndC Tryz.prog 5 (yx U5):=⟨U5⟩
instance:UndC Tryz.prog 9 (yx U9):=⟨U9⟩
instance:UndC Tryz.prog 22 (yx U22):=⟨U22⟩
instance:UndC Tryz.prog 23 (yx U23):=⟨U23⟩
instance:UndC Tryz.prog 25 (yx U25):=⟨U25⟩
instance:UndC Tryz.prog 26 (yx U26):=⟨U26⟩
instance:UndC Tryz.prog 27 (yx U27):=⟨U27⟩
instance:UndC Tryz.prog 28 (yx U28):=⟨U28⟩
instance:UndC Tryz.prog 30 (yx U30):=⟨U30⟩
instance:UndC Tryz.prog 32 (yx U32):=⟨U32⟩
instance:UndC Tryz.prog 33 (yx Tryz.underlying33):=⟨Tryz.underlying33⟩
instance:UndC Tryz.prog 36 (yx U36):=⟨U36⟩
instance:UndC Tryz.prog 39 (yx U39):=⟨U39⟩
instance:UndC Tryz.prog 41 (yx U41):=⟨U41⟩
instance:UndC Tryz.prog 42 (yx U42):=⟨U42⟩
instance:UndC Tryz.prog 44 (yx U44):=⟨U44⟩
instance:UndC Tryz.prog 50 (yx U50):=⟨U50⟩
instance:UndC Tryz.prog 54 (yx U54):=⟨U54⟩
instance:UndC Tryz.prog 55 (yx U55):=⟨U55⟩
instance:UndC Tryz.prog 57 (yx U57):=⟨U57⟩
instance:UndC Tryz.prog 66 (yx U66):=⟨U66⟩
instance:UndC Tryz.prog 68 (yx U68):=⟨U68⟩
instance:UndC Tryz.prog 71 (yx U71):=⟨U71⟩
instance:UndC Tryz.prog 87 (yx U87):=⟨U87⟩
instance:UndC Tryz.prog 89 (yx U89):=⟨U89⟩
instance:UndC Tryz.prog 94 (yx U94):=⟨U94⟩
instance:UndC Tryz.prog 99 (yx U99):=⟨U99⟩
instance:UndC Tryz.prog 106 (yx QX):=⟨QX⟩
instance:UndC Tryz.prog 110 (yx T1):=⟨T1⟩
instance:UndC Tryz.prog 111 (yx u7):=⟨u7⟩
instance:UndC Tryz.prog 113 (yx I9):=⟨I9⟩
instance:UndC Tryz.prog 115 (yx Zk):=⟨Zk⟩
instance:UndC Tryz.prog 123 (yx Tryz.underlying123):=⟨Tryz.underlying123⟩
instance:UndC Tryz.prog 136 (yx U136):=⟨U136⟩
instance:UndC Tryz.prog 138 (yx Gz):=⟨Gz⟩
instance:UndC Tryz.prog 146 (yx U146):=⟨U146⟩
instance:UndC Tryz.prog 147 (yx G8):=⟨G8⟩
instance:UndC Tryz.prog 150 (yx U150):=⟨U150⟩
instance:UndC Tryz.prog 153 (yx M9):=⟨M9⟩
instance:UndC Tryz.prog 157 (yx Pj):=⟨Pj⟩
instance:UndC Tryz.prog 161 (yx Tryz.underlying161):=⟨Tryz.underlying161⟩
instance:UndC Tryz.prog 167 (yx Tryz.underlying167):=⟨Tryz.underlying167⟩
instance:UndC Tryz.prog 170 (yx Tryz.underlying170):=⟨Tryz.underlying170⟩
instance:UndC Tryz.prog 175 (yx U175):=⟨U175⟩
instance:UndC Tryz.prog 176 (yx G7):=⟨G7⟩
instance:UndC Tryz.prog 182 (yx Tryz.underlying182):=⟨Tryz.underlying182⟩
instance:UndC Tryz.prog 185 (yx Tryz.underlying185):=⟨Tryz.underlying185⟩
instance:UndC Tryz.prog 197 (yx Tryz.underlying197):=⟨Tryz.underlying197⟩
class FaC (P:Program) (t:TypeId) (i:Nat) (off:outParam Nat):Prop where
  h:∃ fs ft sz,P.underlying t=some (.struct fs)∧(P.info? ft).map (·.size)=some sz∧(sz == 0)=false∧(fs[i]?).map (fun x=>(x.type,x.offset))=some (ft,off)
theorem faM {P:Program} {t:TypeId} {i off ft sz:Nat} {fs:Array Field} (hu:P.underlying t=some (.struct fs)) (hs:(P.info? ft).map (·.size)=some sz) (h0:(sz == 0)=false) (hf:(fs[i]?).map (fun x=>(x.type,x.offset))=some (ft,off)):FaC P t i off:=⟨fs,ft,sz,hu,hs,h0,hf⟩
instance:SzC Tryz.prog 3 1:=⟨by kernel_rfl⟩
instance:SzC Tryz.prog 4 1:=⟨by kernel_rfl⟩
instance:SzC Tryz.prog 5 1:=⟨by kernel_rfl⟩
instance:SzC Tryz.prog 9 1:=⟨by kernel_rfl⟩
instance:SzC Tryz.prog 22 1:=⟨by kernel_rfl⟩
instance:SzC Tryz.prog 23 1:=⟨by kernel_rfl⟩
instance:SzC Tryz.prog 25 2:=⟨by kernel_rfl⟩
instance:SzC Tryz.prog 26 1:=⟨by kernel_rfl⟩
instance:SzC Tryz.prog 27 1:=⟨by kernel_rfl⟩
instance:SzC Tryz.prog 28 1:=⟨by kernel_rfl⟩
instance:SzC Tryz.prog 30 1:=⟨by kernel_rfl⟩
instance:SzC Tryz.prog 32 5:=⟨by kernel_rfl⟩
instance:SzC Tryz.prog 36 2:=⟨by kernel_rfl⟩
instance:SzC Tryz.prog 39 1:=⟨by kernel_rfl⟩
instance:SzC Tryz.prog 41 2:=⟨by kernel_rfl⟩
instance:SzC Tryz.prog 42 1:=⟨by kernel_rfl⟩
instance:SzC Tryz.prog 44 6:=⟨by kernel_rfl⟩
instance:SzC Tryz.prog 46 9:=⟨by kernel_rfl⟩
instance:SzC Tryz.prog 54 10:=⟨by kernel_rfl⟩
instance:SzC Tryz.prog 55 1:=⟨by kernel_rfl⟩
instance:SzC Tryz.prog 57 11:=⟨by kernel_rfl⟩
instance:SzC Tryz.prog 66 1:=⟨by kernel_rfl⟩
instance:SzC Tryz.prog 68 3:=⟨by kernel_rfl⟩
instance:SzC Tryz.prog 87 1:=⟨by kernel_rfl⟩
instance:SzC Tryz.prog 89 2:=⟨by kernel_rfl⟩
instance:SzC Tryz.prog 99 8:=⟨by kernel_rfl⟩
instance:SzC Tryz.prog 106 1:=⟨by kernel_rfl⟩
instance:SzC Tryz.prog 110 2:=⟨by kernel_rfl⟩
instance:SzC Tryz.prog 111 1:=⟨by kernel_rfl⟩
instance:SzC Tryz.prog 113 2:=⟨by kernel_rfl⟩
instance:SzC Tryz.prog 115 2:=⟨by kernel_rfl⟩
instance:SzC Tryz.prog 138 1:=⟨by kernel_rfl⟩
instance:SzC Tryz.prog 146 8:=⟨by kernel_rfl⟩
instance:SzC Tryz.prog 153 7:=⟨by kernel_rfl⟩
instance:SzC Tryz.prog 157 1:=⟨by kernel_rfl⟩
instance:SzC Tryz.prog 167 1:=⟨by kernel_rfl⟩
instance:SzC Tryz.prog 170 1:=⟨by kernel_rfl⟩
instance:SzC Tryz.prog 175 3:=⟨by kernel_rfl⟩
instance:SzC Tryz.prog 185 1:=⟨by kernel_rfl⟩
instance:FaC Tryz.prog 25 0 0:=faM U25 (SzC.h (t:=22)) rfl rfl
instance:FaC Tryz.prog 25 1 1:=faM U25 (SzC.h (t:=23)) rfl rfl
instance:FaC Tryz.prog 30 0 0:=faM U30 (SzC.h (t:=28)) rfl rfl
instance:FaC Tryz.prog 32 0 0:=faM U32 (SzC.h (t:=25)) rfl rfl
instance:FaC Tryz.prog 32 1 2:=faM U32 (SzC.h (t:=26)) rfl rfl
instance:FaC Tryz.prog 32 2 3:=faM U32 (SzC.h (t:=27)) rfl rfl
instance:FaC Tryz.prog 32 3 4:=faM U32 (SzC.h (t:=30)) rfl rfl
instance:FaC Tryz.prog 36 0 0:=faM U36 (SzC.h (t:=3)) rfl rfl
instance:FaC Tryz.prog 36 1 1:=faM U36 (SzC.h (t:=3)) rfl rfl
instance:FaC Tryz.prog 41 0 0:=faM U41 (SzC.h (t:=9)) rfl rfl
instance:FaC Tryz.prog 41 1 1:=faM U41 (SzC.h (t:=39)) rfl rfl
instance:FaC Tryz.prog 44 0 0:=faM U44 (SzC.h (t:=3)) rfl rfl
instance:FaC Tryz.prog 44 1 1:=faM U44 (SzC.h (t:=9)) rfl rfl
instance:FaC Tryz.prog 44 2 2:=faM U44 (SzC.h (t:=3)) rfl rfl
instance:FaC Tryz.prog 44 3 3:=faM U44 (SzC.h (t:=41)) rfl rfl
instance:FaC Tryz.prog 44 4 5:=faM U44 (SzC.h (t:=42)) rfl rfl
instance:FaC Tryz.prog 54 0 0:=faM U54 (SzC.h (t:=9)) rfl rfl
instance:FaC Tryz.prog 54 1 1:=faM U54 (SzC.h (t:=30)) rfl rfl
instance:FaC Tryz.prog 54 2 2:=faM U54 (SzC.h (t:=3)) rfl rfl
instance:FaC Tryz.prog 54 3 3:=faM U54 (SzC.h (t:=3)) rfl rfl
instance:FaC Tryz.prog 54 4 4:=faM U54 (SzC.h (t:=44)) rfl rfl
instance:FaC Tryz.prog 57 0 0:=faM U57 (SzC.h (t:=54)) rfl rfl
instance:FaC Tryz.prog 57 1 10:=faM U57 (SzC.h (t:=55)) rfl rfl
instance:FaC Tryz.prog 68 0 0:=faM U68 (SzC.h (t:=9)) rfl rfl
instance:FaC Tryz.prog 68 1 1:=faM U68 (SzC.h (t:=3)) rfl rfl
instance:FaC Tryz.prog 68 2 2:=faM U68 (SzC.h (t:=3)) rfl rfl
instance:FaC Tryz.prog 89 0 0:=faM U89 (SzC.h (t:=87)) rfl rfl
instance:FaC Tryz.prog 89 1 1:=faM U89 (SzC.h (t:=87)) rfl rfl
instance:FaC Tryz.prog 99 0 0:=faM U99 (SzC.h (t:=3)) rfl rfl
instance:FaC Tryz.prog 99 1 1:=faM U99 (SzC.h (t:=3)) rfl rfl
instance:FaC Tryz.prog 99 2 2:=faM U99 (SzC.h (t:=44)) rfl rfl
instance:FaC Tryz.prog 110 0 0:=faM T1 (SzC.h (t:=9)) rfl rfl
instance:FaC Tryz.prog 110 1 1:=faM T1 (SzC.h (t:=66)) rfl rfl
instance:FaC Tryz.prog 113 0 0:=faM I9 (SzC.h (t:=3)) rfl rfl
instance:FaC Tryz.prog 113 1 1:=faM I9 (SzC.h (t:=111)) rfl rfl
instance:FaC Tryz.prog 115 0 0:=faM Zk (SzC.h (t:=3)) rfl rfl
instance:FaC Tryz.prog 115 1 1:=faM Zk (SzC.h (t:=3)) rfl rfl
instance:FaC Tryz.prog 146 0 0:=faM U146 (SzC.h (t:=44)) rfl rfl
instance:FaC Tryz.prog 146 1 6:=faM U146 (SzC.h (t:=3)) rfl rfl
instance:FaC Tryz.prog 146 2 7:=faM U146 (SzC.h (t:=3)) rfl rfl
instance:FaC Tryz.prog 153 0 0:=faM M9 (SzC.h (t:=3)) rfl rfl
instance:FaC Tryz.prog 153 1 1:=faM M9 (SzC.h (t:=9)) rfl rfl
instance:FaC Tryz.prog 153 2 2:=faM M9 (SzC.h (t:=41)) rfl rfl
instance:FaC Tryz.prog 153 3 4:=faM M9 (SzC.h (t:=3)) rfl rfl
instance:FaC Tryz.prog 153 4 5:=faM M9 (SzC.h (t:=66)) rfl rfl
instance:FaC Tryz.prog 153 5 6:=faM M9 (SzC.h (t:=3)) rfl rfl
instance:FaC Tryz.prog 175 0 0:=faM U175 (SzC.h (t:=41)) rfl rfl
instance:FaC Tryz.prog 175 1 2:=faM U175 (SzC.h (t:=3)) rfl rfl
section held
variable {P:Program} {Q:Exit→Act→World→Prop} {n:Nw} {f:Fr} {w:World} {l:List Oper} {X ss ds is:List Nat} {op:Op} {ty t:TypeId} {pos:String} {af:Array Edge} {v:Value} {x:Operand} {d:Tmp} {i:Nat}
theorem hlv (ho:l[i]? =some ⟨some d,op,ty,pos,af,none⟩) (hL:Sk l i=true) (h:∀ w',Same X w w'→RV P n f w' ⟨some d,op,ty,pos,af,none⟩ v w') (K:HL P l Q X ss (i :: ds) is n (upd f d v) w):HL P l Q X ss ds (i :: is) n f w:=
  Sv ho (fun e=>by rw [hL] at e;cases e) (.inl ⟨by simp [Region.wanted],fun w' hs=>by rw [vV];exact Qw (h w' hs)⟩) K
theorem hgv {dst:Option Tmp} {j:Nat} {b:Bool} (g:Tmp) (ho:l[i]? =some ⟨dst,op,ty,pos,af,some (j,b)⟩) (hj:(l.toArray[j]?).bind (·.dst)=some g) (hv:ev n f (.tmp g)= .bool b) (hL:Sk l i=true) (h:∀ w',Same X w w'→RV P n f w' ⟨dst,op,ty,pos,af,some (j,b)⟩ v w') (K:HL P l Q X ss (i :: ds) is n (T8 f dst v) w):HL P l Q X ss ds (i :: is) n f w:=
  Sv ho (fun e=>by rw [hL] at e;cases e) (.inl ⟨by rw [gw hj hv];simp,fun w' hs=>by rw [vV];exact Qw (h w' hs)⟩) K
def UpB (b:Nat) (w w':World):Prop:=∀ c,w.heap[b]? =some c→w'.heap[b]? =some c
theorem UpB.rf {b:Nat}:UpB b w w:=fun _ h=>h
theorem UpB.fX {b:Nat} {w' w2:World} (hs:Same X w w') (hX:b ∉ X) (h:UpB b w' w2):UpB b w w2:=fun c hc=>by
  have hl:b < w.heap.size:=by
    refine Classical.byContradiction (fun hn=>?_);rw [Array.getElem?_eq_none oM] at hc;cases hc
  exact h c ((hs.blk b hl hX).trans hc)
theorem UpB.f0 {b:Nat} {w' w2:World} (hs:Same [] w w') (h:UpB b w' w2):UpB b w w2:=UpB.fX hs List.not_mem_nil h
theorem UpB.blk {w0:World} {b:Nat} {tb:TypeId} {cs:Array Value} (h:Blk w0 b tb cs) (u:UpB b w0 w):Blk w b tb cs:=u _ h
def UpN (n:Nat) (w w':World):Prop:=∀ w0:World,w0.heap.size=n→Bel w0 w→Bel w0 w'
theorem UpN.rf {n:Nat}:UpN n w w:=fun _ _ h=>h
theorem UpN.f0 {n:Nat} {w' w2:World} (hs:Same [] w w') (h:UpN n w' w2):UpN n w w2:=fun w0 e h0=>h w0 e (h0.tr0 hs)
theorem UpN.f1 {n b:Nat} {w' w2:World} (hs:Same [b] w w') (hb:n≤b) (h:UpN n w' w2):UpN n w w2:=fun w0 e h0=>h w0 e (h0.tr1 hs (by rw [e];exact hb))
theorem Bel.fw {w0 w':World} (h:Bel w0 w) (u:UpN w0.heap.size w w'):Bel w0 w':=u w0 rfl h
theorem Bel.rng {w0:World} {b o:Nat} {xs:List Value} (hc:w0.rangeAt b o xs) (hb:b < w0.heap.size) (h:Bel w0 w):w.rangeAt b o xs:=h.range hb hc
end held
theorem Blk.u {w0 w:World} {b:Nat} {tb:TypeId} {cs:Array Value} (h:Blk w0 b tb cs) (u:UpB b w0 w:=by focus repeat (first | exact UpB.rf | (apply UpB.f0;assumption) | (apply UpB.fX;assumption;(simp only [List.mem_cons,List.not_mem_nil,or_false,not_or];omega)))):Blk w b tb cs:=u _ h
theorem Bel.u {w0 w1 w:World} (h:Bel w0 w1) (u:UpN w0.heap.size w1 w:=by focus repeat (first | exact UpN.rf | (apply UpN.f0;assumption) | (apply UpN.f1;assumption;omega))):Bel w0 w:=u w0 rfl h
variable {P:Program} {Q:Exit→Act→World→Prop} {n:Nw} {f:Fr} {w:World} {ops:Array Oper} {rest:List Oper} {d:Nat} {dst:Option Tmp} {gd:Option (Nat×Bool)} {ty t:TypeId} {pos:String} {af:Array Edge} {x y z:Operand}
theorem r_mvI {a1:_} {b1:_} (h:ev n f x= .int a1 b1):RV P n f w ⟨dst,.move x,ty,pos,af,gd⟩ (.int a1 b1) w:=yq h
theorem r_asI {a1:_} {b1:_} (h:ev n f x= .int a1 b1):RV P n f w ⟨dst,.assign x,ty,pos,af,gd⟩ (.int a1 b1) w:=Y0 h
theorem r_ptI {a1:_} {b1:_} (hc:ev n f x= .bool true) (h:ev n f y= .int a1 b1):RV P n f w ⟨dst,.pick x y z,ty,pos,af,gd⟩ (.int a1 b1) w:=L0 hc h
theorem r_pfI {a1:_} {b1:_} (hc:ev n f x= .bool false) (h:ev n f z= .int a1 b1):RV P n f w ⟨dst,.pick x y z,ty,pos,af,gd⟩ (.int a1 b1) w:=L3 hc h
theorem r_mvB {a1:_} (h:ev n f x= .bool a1):RV P n f w ⟨dst,.move x,ty,pos,af,gd⟩ (.bool a1) w:=yq h
theorem r_asB {a1:_} (h:ev n f x= .bool a1):RV P n f w ⟨dst,.assign x,ty,pos,af,gd⟩ (.bool a1) w:=Y0 h
theorem r_ptB {a1:_} (hc:ev n f x= .bool true) (h:ev n f y= .bool a1):RV P n f w ⟨dst,.pick x y z,ty,pos,af,gd⟩ (.bool a1) w:=L0 hc h
theorem r_pfB {a1:_} (hc:ev n f x= .bool false) (h:ev n f z= .bool a1):RV P n f w ⟨dst,.pick x y z,ty,pos,af,gd⟩ (.bool a1) w:=L3 hc h
theorem r_mvS {a1:_} {b1:_} {c1:_} (h:ev n f x= .slice a1 b1 c1):RV P n f w ⟨dst,.move x,ty,pos,af,gd⟩ (.slice a1 b1 c1) w:=yq h
theorem r_asS {a1:_} {b1:_} {c1:_} (h:ev n f x= .slice a1 b1 c1):RV P n f w ⟨dst,.assign x,ty,pos,af,gd⟩ (.slice a1 b1 c1) w:=Y0 h
theorem r_ptS {a1:_} {b1:_} {c1:_} (hc:ev n f x= .bool true) (h:ev n f y= .slice a1 b1 c1):RV P n f w ⟨dst,.pick x y z,ty,pos,af,gd⟩ (.slice a1 b1 c1) w:=L0 hc h
theorem r_pfS {a1:_} {b1:_} {c1:_} (hc:ev n f x= .bool false) (h:ev n f z= .slice a1 b1 c1):RV P n f w ⟨dst,.pick x y z,ty,pos,af,gd⟩ (.slice a1 b1 c1) w:=L3 hc h
theorem r_mvT {a1:_} (h:ev n f x= .string a1):RV P n f w ⟨dst,.move x,ty,pos,af,gd⟩ (.string a1) w:=yq h
theorem r_asT {a1:_} (h:ev n f x= .string a1):RV P n f w ⟨dst,.assign x,ty,pos,af,gd⟩ (.string a1) w:=Y0 h
theorem r_ptT {a1:_} (hc:ev n f x= .bool true) (h:ev n f y= .string a1):RV P n f w ⟨dst,.pick x y z,ty,pos,af,gd⟩ (.string a1) w:=L0 hc h
theorem r_pfT {a1:_} (hc:ev n f x= .bool false) (h:ev n f z= .string a1):RV P n f w ⟨dst,.pick x y z,ty,pos,af,gd⟩ (.string a1) w:=L3 hc h
theorem r_mvF {a1:_} {b1:_} {c1:_} (h:ev n f x= .func a1 b1 c1):RV P n f w ⟨dst,.move x,ty,pos,af,gd⟩ (.func a1 b1 c1) w:=yq h
theorem r_asF {a1:_} {b1:_} {c1:_} (h:ev n f x= .func a1 b1 c1):RV P n f w ⟨dst,.assign x,ty,pos,af,gd⟩ (.func a1 b1 c1) w:=Y0 h
theorem r_ptF {a1:_} {b1:_} {c1:_} (hc:ev n f x= .bool true) (h:ev n f y= .func a1 b1 c1):RV P n f w ⟨dst,.pick x y z,ty,pos,af,gd⟩ (.func a1 b1 c1) w:=L0 hc h
theorem r_pfF {a1:_} {b1:_} {c1:_} (hc:ev n f x= .bool false) (h:ev n f z= .func a1 b1 c1):RV P n f w ⟨dst,.pick x y z,ty,pos,af,gd⟩ (.func a1 b1 c1) w:=L3 hc h
theorem r_mvU {a1:_} (h:ev n f x= .tuple a1):RV P n f w ⟨dst,.move x,ty,pos,af,gd⟩ (.tuple a1) w:=yq h
theorem r_asU {a1:_} (h:ev n f x= .tuple a1):RV P n f w ⟨dst,.assign x,ty,pos,af,gd⟩ (.tuple a1) w:=Y0 h
theorem r_ptU {a1:_} (hc:ev n f x= .bool true) (h:ev n f y= .tuple a1):RV P n f w ⟨dst,.pick x y z,ty,pos,af,gd⟩ (.tuple a1) w:=L0 hc h
theorem r_pfU {a1:_} (hc:ev n f x= .bool false) (h:ev n f z= .tuple a1):RV P n f w ⟨dst,.pick x y z,ty,pos,af,gd⟩ (.tuple a1) w:=L3 hc h
theorem r_mvG {a1:_} (h:ev n f x= .agg a1):RV P n f w ⟨dst,.move x,ty,pos,af,gd⟩ (.agg a1) w:=yq h
theorem r_asG {a1:_} (h:ev n f x= .agg a1):RV P n f w ⟨dst,.assign x,ty,pos,af,gd⟩ (.agg a1) w:=Y0 h
theorem r_ptG {a1:_} (hc:ev n f x= .bool true) (h:ev n f y= .agg a1):RV P n f w ⟨dst,.pick x y z,ty,pos,af,gd⟩ (.agg a1) w:=L0 hc h
theorem r_pfG {a1:_} (hc:ev n f x= .bool false) (h:ev n f z= .agg a1):RV P n f w ⟨dst,.pick x y z,ty,pos,af,gd⟩ (.agg a1) w:=L3 hc h
theorem r_ldC {b o:Nat} {dd:TypeDesc} {tb:TypeId} {cs:Array Value} {v:Value} [hu:UndC P t dd] (hd:dd.isRow=false) (hx:ev n f x= .pointer (some ⟨b,o,none⟩)) (hb:Blk w b tb cs) (hc:cs[o]? =some v):RV P n f w ⟨dst,.load t x,ty,pos,af,gd⟩ v w:=qV hu.h hd hx (hb.cell hc)
theorem r_ldD {b o:Nat} {dd:TypeDesc} {cs:List Value} [hu:UndC P t dd] (hd:dd.isRow=true) (hx:ev n f x= .pointer (some ⟨b,o,none⟩)) (hc:w.rangeAt b o cs) (hi:(P.info? t).map (·.size)=some cs.length):RV P n f w ⟨dst,.load t x,ty,pos,af,gd⟩ (.agg cs.toArray) w:=zY hu.h hd hx hc hi
theorem r_faC {b o o' i off:Nat} [hu:FaC P t i off] (hx:ev n f x= .pointer (some ⟨b,o,none⟩)) (ho:o + off=o'):RV P n f w ⟨dst,.fieldAddr t x i,ty,pos,af,gd⟩ (.pointer (some ⟨b,o',none⟩)) w:=by
  obtain⟨fs,ft,sz,h1,h2,h3,h4⟩:=hu.h;exact X2 h1 h2 (by simpa using h3) h4 hx ho
theorem r_lnC {A:Option Addr} {m c:Nat} {e:TypeId} [hu:UndC P t (.slice e)] (hx:ev n f x= .slice A m c):RV P n f w ⟨dst,.call { callee:= .builtin .len,args:=#[x],argTypes:=#[t] },ty,pos,af,gd⟩ (.int .i64 (m:Int)) w:=F0 hu.h hx
theorem r_lsC {p:ByteArray} [hu:UndC P t .string] (hx:ev n f x= .string p):RV P n f w ⟨dst,.call { callee:= .builtin .len,args:=#[x],argTypes:=#[t] },ty,pos,af,gd⟩ (.int .i64 (p.size:Int)) w:=r_lenS hu.h hx
theorem r_iaC {b o o' m c i sz:Nat} {e:TypeId} [hu:UndC P t (.slice e)] [hs:SzC P e sz] (hx:ev n f x= .slice (some ⟨b,o,none⟩) m c) (hy:ev n f y= .int .i64 (i:Int)) (ho:o + i * sz=o') (hi:i < m):RV P n f w ⟨dst,.indexAddr t x y,ty,pos,af,gd⟩ (.pointer (some ⟨b,o',none⟩)) w:=xk hu.h hs.h hx hy hi ho
theorem rvA {o:Oper} {v:Value} {w2:World} (h:RV P n f w o v w2:=by first | (apply r_mvI;exact rfl) | (apply r_mvB;exact rfl) | (apply r_asI;exact rfl) | (apply r_asB;exact rfl) | (apply r_ldC;exact rfl;exact rfl;(first | assumption | (apply UpB.blk;assumption;focus repeat (first | exact UpB.rf | (apply UpB.f0;assumption) | (apply UpB.fX;assumption;(simp only [List.mem_cons,List.not_mem_nil,or_false,not_or];omega)))));exact rfl) | (apply r_faC;exact rfl;exact rfl) | (apply r_mvS;exact rfl) | (apply r_mvT;exact rfl) | (apply r_ptB;exact rfl;exact rfl) | (apply r_pfB;exact rfl;exact rfl) | (apply RY;exact rfl;exact rfl) | (apply r_eql;exact rfl;exact rfl) | (apply r_lnC;exact rfl) | (apply r_ldD;exact rfl;exact rfl;(first | (apply Blk.range0;(first | assumption | (apply UpB.blk;assumption;focus repeat (first | exact UpB.rf | (apply UpB.f0;assumption) | (apply UpB.fX;assumption;(simp only [List.mem_cons,List.not_mem_nil,or_false,not_or];omega)))))) | (apply Bel.rng;assumption;assumption;(first | assumption | (apply Bel.fw;assumption;focus repeat (first | exact UpN.rf | (apply UpN.f0;assumption) | (apply UpN.f1;assumption;omega))))));exact SzC.h.trans rfl) | (apply Z9;exact rfl;exact rfl;exact rfl;omega) | (apply r_iaC;exact rfl;exact rfl;exact rfl;omega) | (apply r_neq;exact rfl;exact rfl) | (apply r_gtr;exact rfl;exact rfl) | (apply r_geq;exact rfl;exact rfl) | (apply r_leq;exact rfl;exact rfl) | (apply r_lsC;exact rfl) | (apply r_notd;exact rfl) | (apply r_not;exact rfl) | (apply r_eqlS;exact rfl;exact rfl) | (apply L4;exact rfl;exact rfl) | (apply r_asS;exact rfl) | (apply r_asT;exact rfl) | (apply r_asF;exact rfl) | (apply r_asU;exact rfl) | (apply r_asG;exact rfl) | (apply r_mvF;exact rfl) | (apply r_mvU;exact rfl) | (apply r_mvG;exact rfl) | (apply r_ptI;exact rfl;exact rfl) | (apply r_ptS;exact rfl;exact rfl) | (apply r_ptT;exact rfl;exact rfl) | (apply r_ptF;exact rfl;exact rfl) | (apply r_ptU;exact rfl;exact rfl) | (apply r_ptG;exact rfl;exact rfl) | (apply r_pfI;exact rfl;exact rfl) | (apply r_pfS;exact rfl;exact rfl) | (apply r_pfT;exact rfl;exact rfl) | (apply r_pfF;exact rfl;exact rfl) | (apply r_pfU;exact rfl;exact rfl) | (apply r_pfG;exact rfl;exact rfl)):RV P n f w o v w2:=h
theorem zc {A B C:Prop} (h:B→C:=by intro k;first | exact e_S k | exact yj k | exact zJ k | exact Oy k | (apply wl;(case K=>exact k);exact rvA) | (apply wlgn;(case K=>exact k);exact rfl;exact rfl;exact rfl) | (apply wlgu;(case K=>exact k);exact rfl;exact rfl) | (apply wl_gd;(case K=>exact k);exact rfl;exact rfl) | (apply x7;(case hR=>exact k);exact .inl rfl;exact rfl;exact rfl) | exact M7 k | exact e_Sr k | exact c_ret k | exact e_B k | exact c_block k | exact e_Br k | exact c_exit k | exact e_LSr k | exact e_LSx k | exact e_Sx k | exact e_Bx k | exact c_yes rfl k | exact c_no rfl k | (apply ws;(case hk=>exact k);exact rvA) | (apply wsgn;(case hk=>exact k);exact rfl;exact rfl;exact rfl) | (apply hl;(case K=>exact k);exact rfl;(intro _;exact rvA)) | (apply hlv;(case K=>exact k);exact rfl;exact rfl;(intro _ _;exact rvA)) | (apply hg;(case K=>exact k);exact rfl;exact rfl;exact rfl;(intro _ _;exact rvA)) | (apply hgv;(case K=>exact k);exact rfl;exact rfl;exact rfl;exact rfl;(intro _ _;exact rvA)) | (apply hsk;(case K=>exact k);exact rfl;exact rfl;exact rfl) | (apply hsu;(case K=>exact k);exact rfl;exact rfl;exact rfl) | exact h_end k) (g:A→B):A→C:=fun a=>h (g a)
theorem zn1 {A B:Prop} (k:A) (h:A→B:=by exact zc (g:=fun k=>k)):B:=h k
theorem zn2 {A B:Prop} (k:A) (h:A→B:=by exact zc (g:=zc (g:=fun k=>k))):B:=h k
theorem zn3 {A B:Prop} (k:A) (h:A→B:=by exact zc (g:=zc (g:=zc (g:=fun k=>k)))):B:=h k
theorem zn4 {A B:Prop} (k:A) (h:A→B:=by exact zc (g:=zc (g:=zc (g:=zc (g:=fun k=>k))))):B:=h k
theorem zn5 {A B:Prop} (k:A) (h:A→B:=by exact zc (g:=zc (g:=zc (g:=zc (g:=zc (g:=fun k=>k)))))):B:=h k
theorem zn6 {A B:Prop} (k:A) (h:A→B:=by exact zc (g:=zc (g:=zc (g:=zc (g:=zc (g:=zc (g:=fun k=>k))))))):B:=h k
theorem zn7 {A B:Prop} (k:A) (h:A→B:=by exact zc (g:=zc (g:=zc (g:=zc (g:=zc (g:=zc (g:=zc (g:=fun k=>k)))))))):B:=h k
theorem zn8 {A B:Prop} (k:A) (h:A→B:=by exact zc (g:=zc (g:=zc (g:=zc (g:=zc (g:=zc (g:=zc (g:=zc (g:=fun k=>k))))))))):B:=h k
theorem zn9 {A B:Prop} (k:A) (h:A→B:=by exact zc (g:=zc (g:=zc (g:=zc (g:=zc (g:=zc (g:=zc (g:=zc (g:=zc (g:=fun k=>k)))))))))):B:=h k
theorem yv {A B:Prop} (k:A) (h:A→B:=by exact zc (g:=zc (g:=zc (g:=zc (g:=zc (g:=zc (g:=zc (g:=zc (g:=zc (g:=zc (g:=fun k=>k))))))))))):B:=h k
theorem vq {A B:Prop} (k:A) (h:A→B:=by exact zc (g:=zc (g:=zc (g:=zc (g:=zc (g:=zc (g:=zc (g:=zc (g:=zc (g:=zc (g:=zc (g:=fun k=>k)))))))))))):B:=h k
theorem yZ {A B:Prop} (k:A) (h:A→B:=by exact zc (g:=zc (g:=zc (g:=zc (g:=zc (g:=zc (g:=zc (g:=zc (g:=zc (g:=zc (g:=zc (g:=zc (g:=fun k=>k))))))))))))):B:=h k
theorem ky {A B:Prop} (k:A) (h:A→B:=by exact zc (g:=zc (g:=zc (g:=zc (g:=zc (g:=zc (g:=zc (g:=zc (g:=zc (g:=zc (g:=zc (g:=zc (g:=zc (g:=fun k=>k)))))))))))))):B:=h k
theorem ZX {A B:Prop} (k:A) (h:A→B:=by exact zc (g:=zc (g:=zc (g:=zc (g:=zc (g:=zc (g:=zc (g:=zc (g:=zc (g:=zc (g:=zc (g:=zc (g:=zc (g:=zc (g:=fun k=>k))))))))))))))):B:=h k
theorem QJ {A B:Prop} (k:A) (h:A→B:=by exact zc (g:=zc (g:=zc (g:=zc (g:=zc (g:=zc (g:=zc (g:=zc (g:=zc (g:=zc (g:=zc (g:=zc (g:=zc (g:=zc (g:=zc (g:=fun k=>k)))))))))))))))):B:=h k
theorem Nk {A B:Prop} (k:A) (h:A→B:=by exact zc (g:=zc (g:=zc (g:=zc (g:=zc (g:=zc (g:=zc (g:=zc (g:=zc (g:=zc (g:=zc (g:=zc (g:=zc (g:=zc (g:=zc (g:=zc (g:=fun k=>k))))))))))))))))):B:=h k
theorem J9 {A B:Prop} (k:A) (h:A→B:=by exact zc (g:=zc (g:=zc (g:=zc (g:=zc (g:=zc (g:=zc (g:=zc (g:=zc (g:=zc (g:=zc (g:=zc (g:=zc (g:=zc (g:=zc (g:=zc (g:=zc (g:=fun k=>k)))))))))))))))))):B:=h k
theorem zn18 {A B:Prop} (k:A) (h:A→B:=by exact zc (g:=zc (g:=zc (g:=zc (g:=zc (g:=zc (g:=zc (g:=zc (g:=zc (g:=zc (g:=zc (g:=zc (g:=zc (g:=zc (g:=zc (g:=zc (g:=zc (g:=zc (g:=fun k=>k))))))))))))))))))):B:=h k
theorem zn19 {A B:Prop} (k:A) (h:A→B:=by exact zc (g:=zc (g:=zc (g:=zc (g:=zc (g:=zc (g:=zc (g:=zc (g:=zc (g:=zc (g:=zc (g:=zc (g:=zc (g:=zc (g:=zc (g:=zc (g:=zc (g:=zc (g:=zc (g:=fun k=>k)))))))))))))))))))):B:=h k
theorem zn20 {A B:Prop} (k:A) (h:A→B:=by exact zc (g:=zc (g:=zc (g:=zc (g:=zc (g:=zc (g:=zc (g:=zc (g:=zc (g:=zc (g:=zc (g:=zc (g:=zc (g:=zc (g:=zc (g:=zc (g:=zc (g:=zc (g:=zc (g:=zc (g:=fun k=>k))))))))))))))))))))):B:=h k
theorem zn21 {A B:Prop} (k:A) (h:A→B:=by exact zc (g:=zc (g:=zc (g:=zc (g:=zc (g:=zc (g:=zc (g:=zc (g:=zc (g:=zc (g:=zc (g:=zc (g:=zc (g:=zc (g:=zc (g:=zc (g:=zc (g:=zc (g:=zc (g:=zc (g:=zc (g:=fun k=>k)))))))))))))))))))))):B:=h k
theorem zn22 {A B:Prop} (k:A) (h:A→B:=by exact zc (g:=zc (g:=zc (g:=zc (g:=zc (g:=zc (g:=zc (g:=zc (g:=zc (g:=zc (g:=zc (g:=zc (g:=zc (g:=zc (g:=zc (g:=zc (g:=zc (g:=zc (g:=zc (g:=zc (g:=zc (g:=zc (g:=fun k=>k))))))))))))))))))))))):B:=h k
theorem zn26 {A B:Prop} (k:A) (h:A→B:=by exact zc (g:=zc (g:=zc (g:=zc (g:=zc (g:=zc (g:=zc (g:=zc (g:=zc (g:=zc (g:=zc (g:=zc (g:=zc (g:=zc (g:=zc (g:=zc (g:=zc (g:=zc (g:=zc (g:=zc (g:=zc (g:=zc (g:=zc (g:=zc (g:=zc (g:=zc (g:=fun k=>k))))))))))))))))))))))))))):B:=h k
theorem zn30 {A B:Prop} (k:A) (h:A→B:=by exact zc (g:=zc (g:=zc (g:=zc (g:=zc (g:=zc (g:=zc (g:=zc (g:=zc (g:=zc (g:=zc (g:=zc (g:=zc (g:=zc (g:=zc (g:=zc (g:=zc (g:=zc (g:=zc (g:=zc (g:=zc (g:=zc (g:=zc (g:=zc (g:=zc (g:=zc (g:=zc (g:=zc (g:=zc (g:=zc (g:=fun k=>k))))))))))))))))))))))))))))))):B:=h k
end Go.Proofs.YtbcpgfnfiekbiaaGreatDoor
namespace Go.Proofs.YtbcpgfnfiekbiaaGreatDoor
open Go.RowKit
inductive Sm where
  | mk (base:ByteArray) (args:List Sm)
def Sm.base:Sm→ByteArray | .mk b _=>b
def Sm.args:Sm→List Sm | .mk _ a=>a
theorem Sm.eta (s:Sm):s= .mk s.base s.args:=by cases s;rfl
mutual
inductive SimAt (w:World):Nat→Nat→Sm→Prop
  | mk {b o:Nat} {base:ByteArray} {args:List Sm} {A:Option Addr} {c:Nat} (hb:b < w.heap.size) (h:w.rangeAt b o [.string base,.slice A (List.length args) c]) (hs:SimsIn w A args):SimAt w b o (.mk base args)
inductive SimsIn (w:World):Option Addr→List Sm→Prop
  | nil {A:Option Addr}:SimsIn w A []
  | more {b o:Nat} {args:List Sm} (hl:args.length≤yJ) (hb:b < w.heap.size) (h:∀ k (hk:k < args.length),SimAt w b (o + k * 2) args[k]):SimsIn w (some ⟨b,o,none⟩) args
end
theorem SimAt.both {w w':World} (hw:Bel w w'):(∀ {b o:Nat} {s:Sm},SimAt w b o s→SimAt w' b o s)∧∀ {A:Option Addr} {l:List Sm},SimsIn w A l→SimsIn w' A l:=by
  have h1:∀ {b o:Nat} {s:Sm} (h:SimAt w b o s),SimAt w' b o s:=fun h=>
    SimAt.rec (motive_1:=fun b o s _=>SimAt w' b o s) (motive_2:=fun A l _=>SimsIn w' A l)
      (fun hb h _ ih=> .mk (nLL hb hw.size) (hw.range hb h) ih) .nil (fun hl hb _ ih=> .more hl (nLL hb hw.size) ih) h
  have h2:∀ {A:Option Addr} {l:List Sm} (h:SimsIn w A l),SimsIn w' A l:=fun h=>
    SimsIn.rec (motive_1:=fun b o s _=>SimAt w' b o s) (motive_2:=fun A l _=>SimsIn w' A l)
      (fun hb h _ ih=> .mk (nLL hb hw.size) (hw.range hb h) ih) .nil (fun hl hb _ ih=> .more hl (nLL hb hw.size) ih) h
  exact⟨h1,h2⟩
theorem SimAt.mono {w w':World} {b o:Nat} {s:Sm} (h:SimAt w b o s) (hw:Bel w w'):SimAt w' b o s:=(SimAt.both hw).1 h
theorem SimsIn.mono {w w':World} {A:Option Addr} {l:List Sm} (h:SimsIn w A l) (hw:Bel w w'):SimsIn w' A l:=(SimAt.both hw).2 h
theorem SimsIn.le {w:World} {A:Option Addr} {l:List Sm} (h:SimsIn w A l):l.length≤yJ:=by
  cases h with
  | nil=>exact Nat.zero_le _
  | more hl=>exact hl
theorem SimsIn.at_ {w:World} {A:Option Addr} {l:List Sm} (h:SimsIn w A l) {k:Nat} (hk:k < l.length):∃ b o A' c,A=some ⟨b,o,none⟩∧b < w.heap.size∧w.rangeAt b (o + k * 2) [Value.string (l[k]).base,.slice A' (l[k]).args.length c]∧SimsIn w A' (l[k]).args:=by
  cases h with
  | nil=>simp at hk
  | @more b o _ _ hb h=>
    have hx:=h k hk
    generalize l[k]=s at hx
    cases hx with
    | mk _ hr hs=>exact⟨b,o,_,_,rfl,hb,hr,hs⟩
def smE:ByteArray:=⟨#[101]⟩
def smT:ByteArray:=⟨#[116]⟩
def QW (s:Sm):Prop:=((s.base=smE∨s.base=smT)∧s.args.length=0)∨(s.base=⟨#[]⟩∧s.args.length=2)
instance (s:Sm):Decidable (QW s):=by unfold QW;infer_instance
mutual
def swk:Sm→Nat→Nat→Nat×Int
  | .mk b l,d,n=>if 200 < n + 1∨40 < d then (n + 1,1) else if QW (.mk b l) then J1 l (d + 1) (n + 1) else (n + 1,5)
def J1:List Sm→Nat→Nat→Nat×Int
  | [],_,n=>(n,0)
  | x :: r,d,n=>if (swk x d n).2=0 then J1 r d (swk x d n).1 else swk x d n
end
theorem Iw (s:Sm) (d n:Nat):swk s d n=if 200 < n + 1∨40 < d then (n + 1,1) else if QW s then J1 s.args (d + 1) (n + 1) else (n + 1,5):=by
  cases s;rw [swk];rfl
def sst:List (Sm×Nat)→Nat→Nat×Int
  | [],n=>(n,0)
  | x :: r,n=>if (swk x.1 x.2 n).2=0 then sst r (swk x.1 x.2 n).1 else swk x.1 x.2 n
theorem swks_st (d:Nat):∀ (l:List Sm) (n:Nat),J1 l d n=sst (l.map (fun y=>(y,d))) n
  | [],_=>by rw [J1];rfl
  | x :: r,n=>by
    rw [J1,swks_st d r];rfl
theorem sst_app:∀ (l r:List (Sm×Nat)) (n:Nat),sst (l ++ r) n=if (sst l n).2=0 then sst r (sst l n).1 else sst l n
  | [],_,_=>rfl
  | x :: l,r,n=>by
    show (if (swk x.1 x.2 n).2=0 then sst (l ++ r) (swk x.1 x.2 n).1 else swk x.1 x.2 n)=_
    rw [sst_app l r]
    show _=if (if (swk x.1 x.2 n).2=0 then sst l (swk x.1 x.2 n).1 else swk x.1 x.2 n).2=0 then sst r (if (swk x.1 x.2 n).2=0 then sst l (swk x.1 x.2 n).1 else swk x.1 x.2 n).1 else (if (swk x.1 x.2 n).2=0 then sst l (swk x.1 x.2 n).1 else swk x.1 x.2 n)
    by_cases h:(swk x.1 x.2 n).2=0
    · simp only [if_pos h]
    · simp only [if_neg h]
theorem sst_out {n d:Nat} {s:Sm} {r:List (Sm×Nat)} (h:200 < n + 1∨40 < d):sst ((s,d) :: r) n=(n + 1,1):=by
  have e:swk s d n=(n + 1,1):=by rw [Iw,if_pos h]
  show (if (swk s d n).2=0 then _ else swk s d n)=_;rw [e];rfl
theorem sst_bad {n d:Nat} {s:Sm} {r:List (Sm×Nat)} (h:¬(200 < n + 1∨40 < d)) (ho:¬QW s):sst ((s,d) :: r) n=(n + 1,5):=by
  have e:swk s d n=(n + 1,5):=by rw [Iw,if_neg h,if_neg ho]
  show (if (swk s d n).2=0 then _ else swk s d n)=_;rw [e];rfl
theorem sst_go {n d:Nat} {s:Sm} {r:List (Sm×Nat)} (h:¬(200 < n + 1∨40 < d)) (ho:QW s):sst ((s,d) :: r) n=sst (s.args.map (fun y=>(y,d + 1)) ++ r) (n + 1):=by
  have e:swk s d n=sst (s.args.map (fun y=>(y,d + 1))) (n + 1):=by rw [Iw,if_neg h,if_pos ho,swks_st]
  rw [sst_app,← e];rfl
theorem sst_one (s:Sm) (d n:Nat):sst [(s,d)] n=swk s d n:=by
  show (if (swk s d n).2=0 then ((swk s d n).1,0) else swk s d n)=_;by_cases h:(swk s d n).2=0
  · rw [if_pos h,← h]
  · rw [if_neg h]
def smF (s:Sm):Int:=(swk s 1 0).2
inductive Ts where
  | b (t:Bool)
  | f (x y:Ts)
def Ts.sm:Ts→Sm
  | .b t=> .mk (if t then smT else smE) []
  | .f x y=> .mk ⟨#[]⟩ [x.sm,y.sm]
def Ts.size:Ts→Nat
  | .b _=>1
  | .f x y=>x.size + y.size + 1
def Ts.eqb:Ts→Ts→Bool
  | .b s,.b t=>s == t
  | .f x y,.f p q=>x.eqb p && y.eqb q
  | _,_=>false
theorem Ts.eqb_iff:∀ {a b:Ts},a.eqb b=true ↔ a=b
  | .b s,.b t=>by simp [Ts.eqb]
  | .f x y,.f p q=>by simp [Ts.eqb,Ts.eqb_iff (a:=x),Ts.eqb_iff (a:=y)]
  | .b s,.f p q=>by simp [Ts.eqb]
  | .f x y,.b t=>by simp [Ts.eqb]
theorem smOk_leaf {s:Sm} (h:QW s) (hl:s.args.length=0):∃ t,s=(Ts.b t).sm:=by
  rcases h with ⟨hb,_⟩ | ⟨_,h2⟩
  · have ha:s.args= []:=List.length_eq_zero_iff.1 hl
    rcases hb with hb | hb
    · exact⟨false,by rw [Sm.eta s,hb,ha];rfl⟩
    · exact⟨true,by rw [Sm.eta s,hb,ha];rfl⟩
  · omega
mutual
theorem Hz:∀ (s:Sm) (d n:Nat),(swk s d n).2=0→∃ τ:Ts,s=τ.sm∧(swk s d n).1=n + τ.size∧n + τ.size≤200
  | .mk b l,d,n,h=>by
    rw [swk] at h ⊢
    by_cases h1:200 < n + 1∨40 < d
    · rw [if_pos h1] at h;cases h
    · rw [if_neg h1] at h ⊢
      by_cases h2:QW (.mk b l)
      · rw [if_pos h2] at h ⊢
        obtain⟨ts,e1,e2,e3⟩:=swks_ts l (d + 1) (n + 1) h oM
        match l,ts,e1,h2 with
        | [],ts,e1,h2=>
          obtain⟨t,ht⟩:=smOk_leaf h2 rfl
          cases ts with
          | nil=>exact⟨.b t,ht,e2,by simp [Ts.size] at e3 ⊢;omega⟩
          | cons a r=>cases e1
        | [x,y],[p,q],e1,h2=>
          simp only [List.map_cons,List.map_nil,List.cons.injEq,and_true] at e1
          rcases h2 with ⟨_,h2⟩ | ⟨h2,_⟩
          · cases h2
          · have h2:b=⟨#[]⟩:=h2
            simp only [List.map_cons,List.map_nil,List.sum_cons,List.sum_nil] at e2 e3
            refine⟨.f p q,?_,?_,?_⟩
            · rw [h2,e1.1,e1.2];rfl
            · rw [e2];show _=n + (p.size + q.size + 1);omega
            · show n + (p.size + q.size + 1)≤200;omega
        | [x],ts,_,h2=>rcases h2 with ⟨_,h2⟩ | ⟨_,h2⟩ <;> cases h2
        | x :: y :: z :: r,ts,_,h2=>rcases h2 with ⟨_,h2⟩ | ⟨_,h2⟩ <;> cases h2
      · rw [if_neg h2] at h;cases h
theorem swks_ts:∀ (l:List Sm) (d n:Nat),(J1 l d n).2=0→n≤200→∃ ts:List Ts,l=ts.map Ts.sm∧(J1 l d n).1=n + (ts.map Ts.size).sum∧n + (ts.map Ts.size).sum≤200
  | [],d,n,_,hn=>⟨[],rfl,by rw [J1];rfl,hn⟩
  | x :: r,d,n,h,hn=>by
    rw [J1] at h ⊢
    by_cases h1:(swk x d n).2=0
    · rw [if_pos h1] at h ⊢
      obtain⟨τ,e1,e2,e3⟩:=Hz x d n h1
      rw [e2] at h ⊢
      obtain⟨ts,k1,k2,k3⟩:=swks_ts r d (n + τ.size) h e3
      exact⟨τ :: ts,by rw [e1,k1];rfl,by rw [k2];simp;omega,by simp;omega⟩
    · rw [if_neg h1] at h;exact absurd h h1
end
theorem smF_ts {s:Sm} (h:smF s=0):∃ τ:Ts,s=τ.sm∧τ.size≤200:=by
  obtain⟨τ,e,_,e2⟩:=Hz s 1 0 h;exact⟨τ,e,by omega⟩
theorem Ts.sm_inj:∀ {a b:Ts},a.sm=b.sm→a=b
  | .b s,.b t,h=>by
    cases s <;> cases t <;> first | rfl | (exfalso;revert h;simp [Ts.sm,smE,smT])
  | .b s,.f x y,h=>by exfalso;revert h;cases s <;> simp [Ts.sm]
  | .f x y,.b t,h=>by exfalso;revert h;cases t <;> simp [Ts.sm]
  | .f x y,.f p q,h=>by
    simp only [Ts.sm,Sm.mk.injEq,List.cons.injEq,and_true,true_and] at h
    rw [Ts.sm_inj h.1,Ts.sm_inj h.2]
def Ts.txt:Ts→List UInt8
  | .b t=>if t then [116] else [101]
  | .f x y=>40 :: (x.txt ++ 32 :: (y.txt ++ [41]))
theorem Ts.txt_le:∀ τ:Ts,τ.txt.length≤4 * τ.size
  | .b t=>by cases t <;> simp [Ts.txt,Ts.size]
  | .f x y=>by
    have h1:=Ts.txt_le x
    have h2:=Ts.txt_le y
    simp [Ts.txt,Ts.size];omega
theorem Ts.txt_pre:∀ {a b:Ts} {p q:List UInt8},a.txt ++ p=b.txt ++ q→a=b∧p=q
  | .b s,.b t,p,q,h=>by cases s <;> cases t <;> simp_all [Ts.txt]
  | .b s,.f x y,p,q,h=>by cases s <;> simp [Ts.txt] at h
  | .f x y,.b t,p,q,h=>by cases t <;> simp [Ts.txt] at h
  | .f x y,.f u v,p,q,h=>by
    simp only [Ts.txt,List.cons_append,List.append_assoc,List.cons.injEq,true_and,List.nil_append] at h
    obtain⟨rfl,h2⟩:=Ts.txt_pre h
    simp only [List.cons.injEq,true_and] at h2
    obtain⟨rfl,h3⟩:=Ts.txt_pre h2
    simp only [List.cons.injEq,true_and] at h3
    exact⟨rfl,h3⟩
theorem Ts.txt_inj {a b:Ts} (h:a.txt=b.txt):a=b:=(Ts.txt_pre (p:=[]) (q:=[]) (by rw [h])).1
end Go.Proofs.YtbcpgfnfiekbiaaGreatDoor
namespace Go.Proofs.YtbcpgfnfiekbiaaGreatDoor
open Go.RowKit
def oX (c:UInt8):Bool:=decide (97≤c.toNat∧c.toNat≤122) || decide (48≤c.toNat∧c.toNat≤57) || decide (c.toNat=95) || decide (c.toNat=45)
theorem gX (c:UInt8):oX c=true ↔ ((97≤c.toNat∧c.toNat≤122)∨(48≤c.toNat∧c.toNat≤57)∨c.toNat=95∨c.toNat=45):=by simp [oX,or_assoc]
def Lk:List UInt8→Bool
  | []=>false
  | c :: _=>decide (97≤c.toNat∧c.toNat≤122)
def xj (s:ByteArray):Bool:=decide (s.size≤30) && Lk s.data.toList && s.data.toList.all oX
theorem vZ {a b:Bool} (h:a=b):Ending.returned (.bool b)= .returned (.bool a):=by rw [h]
theorem LK (s:ByteArray):∃ c0:Nat,∀ h:0 < s.size,(s[0]'h).toNat=c0:=by
  by_cases h:0 < s.size
  · exact⟨(s[0]'h).toNat,fun _=>rfl⟩
  · exact⟨0,fun h'=>absurd h' h⟩
theorem M3 (s:ByteArray) (c0:Nat) (e0:∀ h:0 < s.size,(s[0]'h).toNat=c0):
    xj s=decide ((s.size≠0∧s.size≤30)∧(97≤c0∧c0≤122)∧(∀ k (hk:k < s.size),oX (s[k]'hk)=true)):=by
  have ha:(s.data.toList.all oX=true) ↔ (∀ k (hk:k < s.size),oX (s[k]'hk)=true):=by
    rw [List.all_eq_true]
    constructor
    · intro h k hk
      exact h _ (List.getElem_mem (l:=s.data.toList) (n:=k) (by simpa using hk))
    · intro h x hx
      obtain⟨k,hk,rfl⟩:=List.mem_iff_getElem.1 hx;exact h k (by simpa using hk)
  have hh:∀ h:0 < s.size,Lk s.data.toList=decide (97≤c0∧c0≤122):=by
    intro h;rw [← e0 h];obtain⟨⟨l⟩⟩:=s;cases l with
    | nil=>exact absurd h dE
    | cons c l=>rfl
  by_cases h0:s.size=0
  · have:s.data.toList= []:=by
      apply List.eq_nil_of_length_eq_zero;simpa using h0
    simp [xj,this,Lk,h0]
  · have h:=hh oM
    rw [Bool.eq_iff_iff];simp only [xj,h,Bool.and_eq_true,decide_eq_true_eq,ha]
    constructor
    · rintro ⟨⟨a,b⟩,c⟩;exact⟨⟨h0,a⟩,b,c⟩
    · rintro ⟨⟨_,a⟩,b,c⟩;exact⟨⟨a,b⟩,c⟩
theorem o8:(Tryz.prog.info? 36).map (·.size)=some 2:=by kernel_rfl
theorem ze36:(Tryz.prog.info? 36).map (·.zero)=some (some (.agg #[.int .i64 0,.int .i64 0])):=by kernel_rfl
theorem YV (s:ByteArray) (w:World):Calls Tryz.prog 44 #[.string s] w fun e w'=>e= .returned (.bool (xj s))∧w=w':=by
 obtain⟨c0,e0⟩:=LK s;have hN:=Lib.hid (M3 s c0 e0);refine enter Tryz.func44 Tryz.ntmps44 rfl (Nat.le_of_ble_eq_true rfl) (zn7 ?_);refine xJ (rg [] 5 18) 22 (.bool (decide (s.size=0∨30 < s.size∨c0 < 97∨122 < c0))) nu ?_ (fun gq=>?_)
 ·refine zn5 ?_;refine zw 8 rfl (fun g8=>?_) (fun g8=>?_)
  ·refine ZX ?_;refine zJ (e_R ⟨rfl,agA,?_⟩);show Value.bool _=Value.bool _
   try have e0':=e0 oM
   first | exact congrArg Value.bool (decide_eq_true oM).symm | exact congrArg Value.bool (decide_eq_false oM).symm | exact congrArg Value.bool (decide_eq_decide.2 oM) | exact congrArg Value.bool ((decide_not).symm.trans (decide_eq_decide.2 oM))
  refine zn8 ?_;refine zw 13 rfl (fun g13=>?_) (fun g13=>?_)
  ·refine zn9 ?_;refine zJ (e_R ⟨rfl,agA,?_⟩);show Value.bool _=Value.bool _
   try have e0':=e0 oM
   first | exact congrArg Value.bool (decide_eq_true oM).symm | exact congrArg Value.bool (decide_eq_false oM).symm | exact congrArg Value.bool (decide_eq_decide.2 oM) | exact congrArg Value.bool ((decide_not).symm.trans (decide_eq_decide.2 oM))
  refine zn3 ?_;refine wl (YQ (i:=0) U9 rfl rfl oM) (zn4 ?_);refine zw 18 rfl (fun g18=>?_) (fun g18=>?_)
  ·refine zn4 ?_;refine zJ (e_R ⟨rfl,agA,?_⟩);show Value.bool _=Value.bool _
   try have e0':=e0 oM
   first | exact congrArg Value.bool (decide_eq_true oM).symm | exact congrArg Value.bool (decide_eq_false oM).symm | exact congrArg Value.bool (decide_eq_decide.2 oM) | exact congrArg Value.bool ((decide_not).symm.trans (decide_eq_decide.2 oM))
  refine zn3 ?_;refine wl (YQ (i:=0) U9 rfl rfl oM) (zn3 ?_);refine zJ (e_R ⟨rfl,agA,?_⟩);show Value.bool _=Value.bool _
  try have e0':=e0 oM
  first | exact congrArg Value.bool (decide_eq_true oM).symm | exact congrArg Value.bool (decide_eq_false oM).symm | exact congrArg Value.bool (decide_eq_decide.2 oM) | exact congrArg Value.bool ((decide_not).symm.trans (decide_eq_decide.2 oM))
 refine e_S ?_;refine zX rfl (fun c22=>?_) (fun c22=>?_)
 ·refine zn8 ?_;exact⟨vZ (by rw [hN.out];exact decide_eq_false (fun h=>by omega)),rfl⟩
 refine vq ?_;refine zW (rg [2,3,4] 25 30) (fun m g w'=>∃ k:Nat,k≤s.size∧m=s.size - k∧g 25= .int .i64 k∧w=w'∧(∀ j (hj:j < s.size),j < k→oX (s[j]'hj)=true)) (s.size) ?_ (fun m g4 w1 hI=>?_)
 ·exact⟨0,Nat.zero_le _,rfl,rfl,rfl,fun j hj h=>by omega⟩
 obtain⟨k,hk,hm,h25,rfl,hall⟩:=hI;refine zZ 25 _ h25 nu (zn6 ?_);refine zX rfl (fun c26=>?_) (fun c26=>?_)
 ·refine ZX ?_;refine wl (YQ (i:=k) U9 rfl rfl oM) (zn4 ?_);refine xJ (rg [] 31 23) 53 (.bool (decide (¬((97≤(s[k]'oM).toNat∧(s[k]'oM).toNat≤122)∨(48≤(s[k]'oM).toNat∧(s[k]'oM).toNat≤57)∨(s[k]'oM).toNat=95∨(s[k]'oM).toNat=45)))) nu ?_ (fun gq=>?_)
  ·refine zn4 ?_;refine zw 33 rfl (fun g33=>?_) (fun g33=>?_)
   ·refine zn6 ?_;refine zw 37 rfl (fun g37=>?_) (fun g37=>?_)
    ·refine Nk ?_;refine zJ (e_R ⟨rfl,agA,?_⟩);exact clA
    refine zn6 ?_;refine zw 40 rfl (fun g40=>?_) (fun g40=>?_)
    ·refine zn8 ?_;refine zw 45 rfl (fun g45=>?_) (fun g45=>?_)
     ·refine zn8 ?_;refine zJ (e_R ⟨rfl,agA,?_⟩);exact clA
     refine zn6 ?_;refine zw 49 rfl (fun g49=>?_) (fun g49=>?_)
     ·refine zn4 ?_;refine zJ (e_R ⟨rfl,agA,?_⟩);exact clA
     refine zn6 ?_;refine zJ (e_R ⟨rfl,agA,?_⟩);exact clA
    refine yZ ?_;refine zw 49 rfl (fun g49=>?_) (fun g49=>?_)
    ·refine zn4 ?_;refine zJ (e_R ⟨rfl,agA,?_⟩);exact clA
    refine zn6 ?_;refine zJ (e_R ⟨rfl,agA,?_⟩);exact clA
   refine yv ?_;refine zw 40 rfl (fun g40=>?_) (fun g40=>?_)
   ·refine zn8 ?_;refine zw 45 rfl (fun g45=>?_) (fun g45=>?_)
    ·refine zn8 ?_;refine zJ (e_R ⟨rfl,agA,?_⟩);exact clA
    refine zn6 ?_;refine zw 49 rfl (fun g49=>?_) (fun g49=>?_)
    ·refine zn4 ?_;refine zJ (e_R ⟨rfl,agA,?_⟩);exact clA
    refine zn6 ?_;refine zJ (e_R ⟨rfl,agA,?_⟩);exact clA
   refine yZ ?_;refine zw 49 rfl (fun g49=>?_) (fun g49=>?_)
   ·refine zn4 ?_;refine zJ (e_R ⟨rfl,agA,?_⟩);exact clA
   refine zn6 ?_;refine zJ (e_R ⟨rfl,agA,?_⟩);exact clA
  refine e_S ?_;refine zX rfl (fun c53=>?_) (fun c53=>?_)
  ·refine yZ ?_;exact⟨vZ (by rw [hN.out];exact decide_eq_false (fun h=>c53 ((gX _).1 (h.2.2 k oM)))),rfl⟩
  have hall':∀ j (hj:j < s.size),j < k + 1→oX (s[j]'hj)=true:=fun j hj h=>by
    by_cases e:j=k
    · subst e;exact(gX _).2 oM
    · exact hall j hj oM
  refine zn7 ?_;refine xv (s.size - (k + 1)) oM agA ?_;exact⟨k + 1,by omega,rfl,rfl,rfl,fun j hj h=>hall' j hj h⟩
 refine yZ ?_;exact⟨vZ (by rw [hN.out];exact decide_eq_true ⟨by omega,by omega,fun j hj=>hall j hj oM⟩),rfl⟩
theorem kw (a b:Int) (w:World):Calls Tryz.prog 104 #[.int .i64 a,.int .i64 b] w fun e w'=>e= .returned (flV (a,b))∧Bel w w':=by
 refine enT Tryz.func104 Tryz.ntmps104 rfl rfl fun hB=>?_;refine zn2 ?_;refine qq (cs:=#[.int .i64 0,.int .i64 0]) ze36 rfl (fun b4 w1 hb4 s1 hr=>?_);have lo4:=nLT (Bel.size hB) hr;refine zn6 ?_;refine wl (xY (v0:= .int _ _) (v1:= .int _ _) (fun v0 v1=>#[v0,v1]) rfl rfl kR) ?_;refine zk hb4 rfl rfl o8 rfl zQ (fun w2 hq s2=>?_);replace hb4:=hq;refine zn3 ?_;refine x7 (.inl rfl) rfl (zy U36 rfl rfl hb4.range0 o8) ?_;exact⟨rfl,hB.u⟩
end Go.Proofs.YtbcpgfnfiekbiaaGreatDoor
namespace Go.Proofs.YtbcpgfnfiekbiaaGreatDoor
open Go.RowKit
inductive Tm where
  | mk (kind:Int) (name:ByteArray) (index:Int) (type:Sm) (args:List Tm)
def Tm.kind:Tm→Int | .mk k _ _ _ _=>k
def Tm.name:Tm→ByteArray | .mk _ n _ _ _=>n
def Tm.index:Tm→Int | .mk _ _ i _ _=>i
def Tm.type:Tm→Sm | .mk _ _ _ t _=>t
def Tm.args:Tm→List Tm | .mk _ _ _ _ a=>a
theorem Tm.eta (t:Tm):t= .mk t.kind t.name t.index t.type t.args:=by cases t;rfl
mutual
inductive TmAt (w:World):Nat→Nat→Tm→Prop
  | mk {b o:Nat} {k i:Int} {nm:ByteArray} {s:Sm} {args:List Tm} {A B:Option Addr} {c d:Nat} (hb:b < w.heap.size) (h:w.rangeAt b o [.int .i64 k,.string nm,.int .i64 i,.string s.base,.slice A s.args.length c,.slice B (List.length args) d]) (hs:SimsIn w A s.args) (ht:TmsIn w B args):TmAt w b o (.mk k nm i s args)
inductive TmsIn (w:World):Option Addr→List Tm→Prop
  | nil {A:Option Addr}:TmsIn w A []
  | more {b o:Nat} {args:List Tm} (hl:args.length≤yJ) (hb:b < w.heap.size) (h:∀ k (hk:k < args.length),TmAt w b (o + k * 6) args[k]):TmsIn w (some ⟨b,o,none⟩) args
end
theorem TmAt.both {w w':World} (hw:Bel w w'):(∀ {b o:Nat} {s:Tm},TmAt w b o s→TmAt w' b o s)∧∀ {A:Option Addr} {l:List Tm},TmsIn w A l→TmsIn w' A l:=by
  have h1:∀ {b o:Nat} {s:Tm} (h:TmAt w b o s),TmAt w' b o s:=fun h=>
    TmAt.rec (motive_1:=fun b o s _=>TmAt w' b o s) (motive_2:=fun A l _=>TmsIn w' A l)
      (fun hb h hs _ ih=> .mk (nLL hb hw.size) (hw.range hb h) (hs.mono hw) ih) .nil (fun hl hb _ ih=> .more hl (nLL hb hw.size) ih) h
  have h2:∀ {A:Option Addr} {l:List Tm} (h:TmsIn w A l),TmsIn w' A l:=fun h=>
    TmsIn.rec (motive_1:=fun b o s _=>TmAt w' b o s) (motive_2:=fun A l _=>TmsIn w' A l)
      (fun hb h hs _ ih=> .mk (nLL hb hw.size) (hw.range hb h) (hs.mono hw) ih) .nil (fun hl hb _ ih=> .more hl (nLL hb hw.size) ih) h
  exact⟨h1,h2⟩
theorem TmAt.mono {w w':World} {b o:Nat} {s:Tm} (h:TmAt w b o s) (hw:Bel w w'):TmAt w' b o s:=(TmAt.both hw).1 h
theorem TmsIn.mono {w w':World} {A:Option Addr} {l:List Tm} (h:TmsIn w A l) (hw:Bel w w'):TmsIn w' A l:=(TmAt.both hw).2 h
theorem TmsIn.le {w:World} {A:Option Addr} {l:List Tm} (h:TmsIn w A l):l.length≤yJ:=by
  cases h with
  | nil=>exact Nat.zero_le _
  | more hl=>exact hl
theorem TmsIn.at_ {w:World} {A:Option Addr} {l:List Tm} (h:TmsIn w A l) {k:Nat} (hk:k < l.length):∃ b o A' c B d,A=some ⟨b,o,none⟩∧b < w.heap.size∧w.rangeAt b (o + k * 6) [Value.int .i64 (l[k]).kind,.string (l[k]).name,.int .i64 (l[k]).index,.string (l[k]).type.base,.slice A' (l[k]).type.args.length c,.slice B (l[k]).args.length d]∧SimsIn w A' (l[k]).type.args∧TmsIn w B (l[k]).args:=by
  cases h with
  | nil=>simp at hk
  | @more b o _ _ hb h=>
    have hx:=h k hk
    generalize l[k]=s at hx
    cases hx with
    | mk _ hr hs ht=>exact⟨b,o,_,_,_,_,rfl,hb,hr,hs,ht⟩
def Vj (s:Sm):Prop:=s.base=⟨#[]⟩∧s.args.length=0
instance (s:Sm):Decidable (Vj s):=by unfold Vj;infer_instance
def ndC (b:Nat) (t:Tm):Int:=
  if t.kind=1 then (if t.index=0∧t.args.length=0 then (if xj t.name=true then (if smF t.type=0 then 0 else 12) else 10) else 5)
  else if t.kind=2 then (if t.name=⟨#[]⟩∧Vj t.type∧t.args.length=0 then (if t.index < 0∨(b:Int)≤t.index then 15 else 0) else 5)
  else if t.kind=3 then (if t.name=⟨#[]⟩∧t.index=0∧t.args.length=1 then (if smF t.type=0 then 0 else 12) else 5)
  else if t.kind=4 then (if t.name=⟨#[]⟩∧t.index=0∧Vj t.type∧t.args.length=2 then 0 else 5)
  else 4
theorem ndC_mk (b:Nat) (k:Int) (nm:ByteArray) (i:Int) (s:Sm) (l:List Tm):ndC b (.mk k nm i s l) =
  if k=1 then (if i=0∧l.length=0 then (if xj nm=true then (if smF s=0 then 0 else 12) else 10) else 5)
  else if k=2 then (if nm=⟨#[]⟩∧Vj s∧l.length=0 then (if i < 0∨(b:Int)≤i then 15 else 0) else 5)
  else if k=3 then (if nm=⟨#[]⟩∧i=0∧l.length=1 then (if smF s=0 then 0 else 12) else 5)
  else if k=4 then (if nm=⟨#[]⟩∧i=0∧Vj s∧l.length=2 then 0 else 5)
  else 4:=rfl
def inB (t:Tm) (b:Nat):Nat:=if t.kind=3 then b + 1 else b
mutual
def twk:Tm→Nat→Nat→Nat→Nat×Fl
  | .mk k nm i s l,d,b,n=>if 200 < n + 1∨40 < d then (n + 1,(1,(n:Int))) else if ndC b (.mk k nm i s l)=0 then Qv l (d + 1) (inB (.mk k nm i s l) b) (n + 1) else (n + 1,(ndC b (.mk k nm i s l),(n:Int)))
def Qv:List Tm→Nat→Nat→Nat→Nat×Fl
  | [],_,_,n=>(n,(0,0))
  | x :: r,d,b,n=>if (twk x d b n).2.1=0 then Qv r d b (twk x d b n).1 else twk x d b n
end
theorem X5 (t:Tm) (d b n:Nat):twk t d b n=if 200 < n + 1∨40 < d then (n + 1,(1,(n:Int))) else if ndC b t=0 then Qv t.args (d + 1) (inB t b) (n + 1) else (n + 1,(ndC b t,(n:Int))):=by
  cases t;rw [twk];rfl
def tst:List (Tm×Nat×Nat)→Nat→Nat×Fl
  | [],n=>(n,(0,0))
  | x :: r,n=>if (twk x.1 x.2.1 x.2.2 n).2.1=0 then tst r (twk x.1 x.2.1 x.2.2 n).1 else twk x.1 x.2.1 x.2.2 n
theorem GJ (d b:Nat):∀ (l:List Tm) (n:Nat),Qv l d b n=tst (l.map (fun y=>(y,d,b))) n
  | [],_=>by rw [Qv];rfl
  | x :: r,n=>by
    rw [Qv,GJ d b r];rfl
theorem tst_app:∀ (l r:List (Tm×Nat×Nat)) (n:Nat),tst (l ++ r) n=if (tst l n).2.1=0 then tst r (tst l n).1 else tst l n
  | [],_,_=>rfl
  | x :: l,r,n=>by
    show (if (twk x.1 x.2.1 x.2.2 n).2.1=0 then tst (l ++ r) (twk x.1 x.2.1 x.2.2 n).1 else twk x.1 x.2.1 x.2.2 n)=_
    rw [tst_app l r]
    show _=if (if (twk x.1 x.2.1 x.2.2 n).2.1=0 then tst l (twk x.1 x.2.1 x.2.2 n).1 else twk x.1 x.2.1 x.2.2 n).2.1=0 then tst r (if (twk x.1 x.2.1 x.2.2 n).2.1=0 then tst l (twk x.1 x.2.1 x.2.2 n).1 else twk x.1 x.2.1 x.2.2 n).1 else (if (twk x.1 x.2.1 x.2.2 n).2.1=0 then tst l (twk x.1 x.2.1 x.2.2 n).1 else twk x.1 x.2.1 x.2.2 n)
    by_cases h:(twk x.1 x.2.1 x.2.2 n).2.1=0
    · simp only [if_pos h]
    · simp only [if_neg h]
theorem tst_out {n d b:Nat} {t:Tm} {r:List (Tm×Nat×Nat)} (h:200 < n + 1∨40 < d):tst ((t,d,b) :: r) n=(n + 1,(1,(n:Int))):=by
  have e:twk t d b n=(n + 1,(1,(n:Int))):=by rw [X5,if_pos h]
  show (if (twk t d b n).2.1=0 then _ else twk t d b n)=_;rw [e];rfl
theorem tst_bad {n d b:Nat} {t:Tm} {r:List (Tm×Nat×Nat)} (h:¬(200 < n + 1∨40 < d)) (ho:ndC b t≠0):tst ((t,d,b) :: r) n=(n + 1,(ndC b t,(n:Int))):=by
  have e:twk t d b n=(n + 1,(ndC b t,(n:Int))):=by rw [X5,if_neg h,if_neg ho]
  show (if (twk t d b n).2.1=0 then _ else twk t d b n)=_;rw [e,if_neg ho]
theorem twks_z:∀ (l:List Tm) (d b n:Nat),(Qv l d b n).2.1=0→(Qv l d b n).2=(0,0)
  | [],_,_,_,_=>by rw [Qv]
  | .mk k nm i s a :: r,d,b,n,h=>by
    rw [Qv] at h ⊢
    by_cases h1:(twk (.mk k nm i s a) d b n).2.1=0
    · rw [if_pos h1] at h ⊢;exact twks_z r d b _ h
    · rw [if_neg h1] at h;exact absurd h h1
theorem twk_z {t:Tm} {d b n:Nat} (h:(twk t d b n).2.1=0):(twk t d b n).2=(0,0):=by
  rw [X5] at h ⊢;by_cases h1:200 < n + 1∨40 < d
  · rw [if_pos h1] at h;cases h
  · rw [if_neg h1] at h ⊢
    by_cases h2:ndC b t=0
    · rw [if_pos h2] at h ⊢;exact twks_z _ _ _ _ h
    · rw [if_neg h2] at h;exact absurd h h2
theorem tst_go {n d b:Nat} {t:Tm} {r:List (Tm×Nat×Nat)} (h:¬(200 < n + 1∨40 < d)) (ho:ndC b t=0):tst ((t,d,b) :: r) n=tst (t.args.map (fun y=>(y,d + 1,inB t b)) ++ r) (n + 1):=by
  have e:twk t d b n=tst (t.args.map (fun y=>(y,d + 1,inB t b))) (n + 1):=by rw [X5,if_neg h,if_pos ho,GJ]
  rw [tst_app,← e];rfl
theorem tst_one (t:Tm) (d b n:Nat):tst [(t,d,b)] n=twk t d b n:=by
  show (if (twk t d b n).2.1=0 then ((twk t d b n).1,(0,0)) else twk t d b n)=_;by_cases h:(twk t d b n).2.1=0
  · rw [if_pos h,← twk_z h]
  · rw [if_neg h]
inductive Tv where
  | con (nm:ByteArray) (τ:Ts)
  | var (i:Nat)
  | abs (τ:Ts) (x:Tv)
  | app (x y:Tv)
def smZ:Sm:= .mk ⟨#[]⟩ []
def Tv.tm:Tv→Tm
  | .con nm τ=> .mk 1 nm 0 τ.sm []
  | .var i=> .mk 2 ⟨#[]⟩ i smZ []
  | .abs τ x=> .mk 3 ⟨#[]⟩ 0 τ.sm [x.tm]
  | .app x y=> .mk 4 ⟨#[]⟩ 0 smZ [x.tm,y.tm]
def Tv.size:Tv→Nat
  | .con _ _=>1
  | .var _=>1
  | .abs _ x=>x.size + 1
  | .app x y=>x.size + y.size + 1
theorem Tv.pos (v:Tv):0 < v.size:=by cases v <;> simp [Tv.size]
def Tv.ok:Nat→Tv→Prop
  | _,.con _ τ=>τ.size≤200
  | b,.var i=>i < b
  | b,.abs τ x=>τ.size≤200∧x.ok (b + 1)
  | b,.app x y=>x.ok b∧y.ok b
theorem smNo_z {s:Sm} (h:Vj s):s=smZ:=by
  rw [Sm.eta s,h.1,List.length_eq_zero_iff.1 h.2];rfl
theorem nil_of {α:Type} {l:List α} (h:l.length=0):l= []:=List.length_eq_zero_iff.1 h
mutual
theorem Ij:∀ (t:Tm) (d b n:Nat),(twk t d b n).2.1=0→∃ v:Tv,t=v.tm∧v.ok b∧(twk t d b n).1=n + v.size∧n + v.size≤200
  | .mk k nm i s l,d,b,n,h=>by
    rw [twk] at h ⊢
    by_cases h1:200 < n + 1∨40 < d
    · rw [if_pos h1] at h;cases h
    rw [if_neg h1] at h ⊢
    by_cases h2:ndC b (.mk k nm i s l)=0
    · rw [if_pos h2] at h ⊢
      obtain⟨vs,e1,e0,e2,e3⟩:=GQ l (d + 1) (inB (.mk k nm i s l) b) (n + 1) h oM
      rw [e2]
      rw [ndC_mk] at h2
      by_cases k1:k=1
      · subst k1
        rw [if_pos rfl] at h2
        by_cases q:i=0∧l.length=0
        · rw [if_pos q] at h2
          obtain⟨rfl,q2⟩:=q
          obtain rfl:=nil_of q2
          by_cases q3:xj nm=true
          · rw [if_pos q3] at h2
            by_cases q4:smF s=0
            · obtain⟨τ,rfl,hτ⟩:=smF_ts q4
              obtain rfl:vs= []:=by cases vs with | nil=>rfl | cons a r=>cases e1
              exact⟨.con nm τ,rfl,hτ,by simp [Tv.size],by simp [Tv.size];omega⟩
            · rw [if_neg q4] at h2;cases h2
          · rw [if_neg q3] at h2;cases h2
        · rw [if_neg q] at h2;cases h2
      rw [if_neg k1] at h2
      by_cases k2:k=2
      · subst k2
        rw [if_pos rfl] at h2
        by_cases q:nm=⟨#[]⟩∧Vj s∧l.length=0
        · rw [if_pos q] at h2
          obtain⟨rfl,qs,q2⟩:=q
          obtain rfl:=nil_of q2
          obtain rfl:=smNo_z qs
          by_cases q3:i < 0∨(b:Int)≤i
          · rw [if_pos q3] at h2;cases h2
          · obtain⟨j,rfl⟩:∃ j:Nat,i=j:=⟨i.toNat,by omega⟩
            obtain rfl:vs= []:=by cases vs with | nil=>rfl | cons a r=>cases e1
            exact⟨.var j,rfl,show j < b by omega,by simp [Tv.size],by simp [Tv.size];omega⟩
        · rw [if_neg q] at h2;cases h2
      rw [if_neg k2] at h2
      by_cases k3:k=3
      · subst k3
        rw [if_pos rfl] at h2
        by_cases q:nm=⟨#[]⟩∧i=0∧l.length=1
        · rw [if_pos q] at h2
          obtain⟨rfl,rfl,q2⟩:=q
          by_cases q4:smF s=0
          · obtain⟨τ,rfl,hτ⟩:=smF_ts q4
            match l,vs,e1,q2 with
            | [x],[v],e1,_=>
              simp only [List.map_cons,List.map_nil,List.cons.injEq,and_true] at e1
              simp only [List.map_cons,List.map_nil,List.sum_cons,List.sum_nil] at e3 ⊢
              have eb:=e0 v (List.mem_singleton.2 rfl)
              have hin:inB (.mk 3 ⟨#[]⟩ 0 τ.sm [x]) b=b + 1:=rfl
              rw [hin] at eb
              exact⟨.abs τ v,by rw [e1];rfl,⟨hτ,eb⟩,by simp only [Tv.size];omega,by simp only [Tv.size];omega⟩
          · rw [if_neg q4] at h2;cases h2
        · rw [if_neg q] at h2;cases h2
      rw [if_neg k3] at h2
      by_cases k4:k=4
      · subst k4
        rw [if_pos rfl] at h2
        by_cases q:nm=⟨#[]⟩∧i=0∧Vj s∧l.length=2
        · obtain⟨rfl,rfl,qs,q2⟩:=q
          obtain rfl:=smNo_z qs
          match l,vs,e1,q2 with
          | [x,y],[v,u],e1,_=>
            simp only [List.map_cons,List.map_nil,List.cons.injEq,and_true] at e1
            simp only [List.map_cons,List.map_nil,List.sum_cons,List.sum_nil] at e3 ⊢
            have eb:=e0 v (by simp)
            have eu:=e0 u (by simp)
            have hin:inB (.mk 4 ⟨#[]⟩ 0 smZ [x,y]) b=b:=rfl
            rw [hin] at eb eu
            exact⟨.app v u,by rw [e1.1,e1.2];rfl,⟨eb,eu⟩,by simp only [Tv.size];omega,by simp only [Tv.size];omega⟩
        · rw [if_neg q] at h2;cases h2
      · rw [if_neg k4] at h2;cases h2
    · rw [if_neg h2] at h;exact absurd h h2
theorem GQ:∀ (l:List Tm) (d b n:Nat),(Qv l d b n).2.1=0→n≤200→∃ vs:List Tv,l=vs.map Tv.tm∧(∀ v ∈ vs,v.ok b)∧(Qv l d b n).1=n + (vs.map Tv.size).sum∧n + (vs.map Tv.size).sum≤200
  | [],d,b,n,_,hn=>⟨[],rfl,(fun _ h=>by cases h),(by rw [Qv];rfl),hn⟩
  | x :: r,d,b,n,h,hn=>by
    rw [Qv] at h ⊢
    by_cases h1:(twk x d b n).2.1=0
    · rw [if_pos h1] at h ⊢
      obtain⟨v,e1,e0,e2,e3⟩:=Ij x d b n h1
      rw [e2] at h ⊢
      obtain⟨vs,k1,k0,k2,k3⟩:=GQ r d b (n + v.size) h e3
      refine⟨v :: vs,by rw [e1,k1];rfl,fun u hu=>?_,by rw [k2];simp;omega,by simp;omega⟩
      rcases List.mem_cons.1 hu with rfl | hu
      · exact e0
      · exact k0 u hu
    · rw [if_neg h1] at h;exact absurd h h1
end
theorem Tv.tm_inj:∀ {a b:Tv},a.tm=b.tm→a=b
  | .con n s,.con m t,h=>by
    simp only [Tv.tm,Tm.mk.injEq,and_true,true_and] at h
    rw [h.1,Ts.sm_inj h.2]
  | .var i,.var j,h=>by
    simp only [Tv.tm,Tm.mk.injEq,and_true,true_and] at h
    rw [show i=j by omega]
  | .abs s x,.abs t y,h=>by
    simp only [Tv.tm,Tm.mk.injEq,List.cons.injEq,and_true,true_and] at h
    rw [Ts.sm_inj h.1,Tv.tm_inj h.2]
  | .app x y,.app u v,h=>by
    simp only [Tv.tm,Tm.mk.injEq,List.cons.injEq,and_true,true_and] at h
    rw [Tv.tm_inj h.1,Tv.tm_inj h.2]
  | .con _ _,.var _,h=>by simp [Tv.tm] at h
  | .con _ _,.abs _ _,h=>by simp [Tv.tm] at h
  | .con _ _,.app _ _,h=>by simp [Tv.tm] at h
  | .var _,.con _ _,h=>by simp [Tv.tm] at h
  | .var _,.abs _ _,h=>by simp [Tv.tm] at h
  | .var _,.app _ _,h=>by simp [Tv.tm] at h
  | .abs _ _,.con _ _,h=>by simp [Tv.tm] at h
  | .abs _ _,.var _,h=>by simp [Tv.tm] at h
  | .abs _ _,.app _ _,h=>by simp [Tv.tm] at h
  | .app _ _,.con _ _,h=>by simp [Tv.tm] at h
  | .app _ _,.var _,h=>by simp [Tv.tm] at h
  | .app _ _,.abs _ _,h=>by simp [Tv.tm] at h
def tyv:List Ts→Tv→Option Ts
  | _,.con _ τ=>some τ
  | Γ,.var i=>Γ[i]?
  | Γ,.abs τ x=>(tyv (τ :: Γ) x).map (.f τ)
  | Γ,.app x y=>match tyv Γ x,tyv Γ y with
    | some (.f a r),some z=>if a.eqb z=true then some r else none
    | _,_=>none
theorem Jk:∀ {v:Tv} {Γ:List Ts} {τ:Ts},v.ok Γ.length→(∀ σ ∈ Γ,σ.size≤200)→tyv Γ v=some τ→τ.size≤201 * v.size
  | .con _ τ,Γ,τ',h,_,e=>by
    obtain rfl:τ=τ':=Option.some.inj e
    have:τ.size≤200:=h
    simp only [Tv.size];omega
  | .var i,Γ,τ,h,hG,e=>by
    have:=hG τ (List.mem_of_getElem? e)
    simp only [Tv.size];omega
  | .abs σ x,Γ,τ,h,hG,e=>by
    simp only [tyv,Option.map_eq_some_iff] at e
    obtain⟨ρ,e1,rfl⟩:=e
    have h1:=Jk (v:=x) (Γ:=σ :: Γ) h.2 (fun q hq=>by
      rcases List.mem_cons.1 hq with rfl | hq
      · exact h.1
      · exact hG q hq) e1
    have:=h.1
    simp only [Tv.size,Ts.size];omega
  | .app x y,Γ,τ,h,hG,e=>by
    simp only [tyv] at e
    split at e
    · rename_i a r z h1 h2
      split at e
      · obtain rfl:r=τ:=Option.some.inj e
        have h3:=Jk (v:=x) h.1 hG h1
        simp only [Tv.size,Ts.size] at h3 ⊢;omega
      · cases e
    · cases e
open Classical in
noncomputable def tmF (t:Tm):Fl:=if (twk t 1 0 0).2.1=0 then (if ∃ v τ,t=Tv.tm v∧tyv [] v=some τ then (0,0) else (12,-1)) else (twk t 1 0 0).2
theorem N2 {t:Tm} (h:¬(twk t 1 0 0).2.1=0):tmF t=(twk t 1 0 0).2:=by unfold tmF;rw [if_neg h]
theorem H5 {v:Tv} (h:(twk v.tm 1 0 0).2.1=0):tmF v.tm=if (tyv [] v).isSome then (0,0) else (12,-1):=by
  unfold tmF;rw [if_pos h];cases e:tyv [] v with
  | none=>
    rw [if_neg]
    · rfl
    · rintro ⟨u,τ,h1,h2⟩
      rw [← Tv.tm_inj h1,e] at h2;cases h2
  | some τ=>rw [if_pos ⟨v,τ,rfl,e⟩];rfl
end Go.Proofs.YtbcpgfnfiekbiaaGreatDoor
