/-
  Facts of this program's types;the reference's permutation check.
-/
import Derived.Test.YtnopenpheaihmaaGreatDoorM4
import Derived.Test.YtnopenpheaihmaaGreatDoorM7
import Derived.KernelRfl
import Derived.Test.YtnopenpheaihmaaGreatDoorM5
import Derived.Test.YtnopenpheaihmaaGreatDoorM6
namespace Go.Proofs.Xx
open Go Go.Proofs
set_option linter.unusedSimpArgs false
set_option linter.unusedVariables false
theorem GM:Tryz.prog.underlying 23=some (.slice 3):=by kernel_rfl
theorem sz3:zH Tryz.prog 3=some 1:=by kernel_rfl
theorem qhl:Zd Tryz.prog 3=some false:=by kernel_rfl
theorem z3:qW Tryz.prog 3=some [.int .i64 0]:=by kernel_rfl
theorem z4:qW Tryz.prog 4=some [.bool false]:=by kernel_rfl
abbrev RdI (h:AH) (v:Value) (l:List Int):Prop:=Rd h v 1 l.length (ints l)
def qhK (l:List Int):Bool:=decide (∀ i:Nat,i<l.length→(i:Int)∈l)
set_option maxRecDepth 100000
def BoolIs (v:Value) (p:Prop):Prop:=(v = .bool true∧p)∨(v = .bool false∧¬ p)
def QB (a b:Int):Int:=if 1≤a∧a≤24∧b=0 then a else 0
def Zn (a b:Int):Int:=if 1≤a∧a≤11∧0≤b∧b≤2 then 2*a+b else 0
def Zl (a b:Int):Int:=if 1≤a∧a≤8∧1≤b∧b≤8 then a+2*b else 0
def Ji (a b:Int):Int:=if 1≤a∧a≤24∧0≤b∧b≤a then a else 0
theorem vM {h:AH} (a b:Int):Fn Tryz.prog Xh 143 [.int .i64 a,.int .i64 b] h (fun v h'=>v = .int .i64 (QB a b)∧h'=h):=by
 refine qF rfl Tryz.func143 rfl rfl ?_
 all_goals (repeat' (first|refine qi ?_|refine ql rfl ?_|refine qo ?_|(refine qf 0 ?_;refine mv ?_;refine qg ?_)|(refine qf 1 ?_;refine mv ?_;(first|(refine cS ?_ ?_<;>intro hc))<;>(refine mv ?_;(first|refine off ?_|refine mv ?_);(first|refine off ?_|(first|(refine cS ?_ ?_<;>intro hc)))<;>(refine vl ?_;refine mv ?_;(first|refine off ?_|refine mv ?_);(first|refine off ?_|(first|(refine cS ?_ ?_<;>intro hc)))<;>(refine vl ?_;refine qg ?_))))|(refine qf 2 ?_;refine mv ?_;refine qg ?_)|(refine qf 3 ?_;refine mv ?_;refine mv ?_;refine qg ?_)))
 all_goals (refine qx ⟨_,rfl,?_⟩)
 all_goals (refine ⟨?_,rfl⟩;unfold QB;first|(rw [if_pos (by omega)];rfl)|(rw [if_neg (by omega)];rfl))
theorem KH {h:AH} (a b:Int):Fn Tryz.prog Xh 148 [.int .i64 a,.int .i64 b] h (fun v h'=>v = .int .i64 (Zn a b)∧h'=h):=by
 refine qF rfl Tryz.func148 rfl rfl ?_
 all_goals (repeat' (first|refine qi ?_|refine ql rfl ?_|refine qo ?_|(refine qf 0 ?_;refine mv ?_;refine qg ?_)|(refine qf 1 ?_;refine mv ?_;(first|(refine cS ?_ ?_<;>intro hc))<;>(refine mv ?_;(first|refine off ?_|refine mv ?_);(first|refine off ?_|(first|(refine cS ?_ ?_<;>intro hc)))<;>(refine vl ?_;refine mv ?_;(first|refine off ?_|refine mv ?_);(first|refine off ?_|(first|(refine cS ?_ ?_<;>intro hc)))<;>(refine vl ?_;refine mv ?_;(first|refine off ?_|refine mv ?_);(first|refine off ?_|(first|(refine cS ?_ ?_<;>intro hc)))<;>(refine vl ?_;refine qg ?_)))))|(refine qf 2 ?_;refine mv ?_;refine qg ?_)|(refine qf 3 ?_;refine mv ?_;refine ml ?_;refine mv ?_;refine ad ?_;refine mv ?_;refine qg ?_)))
 all_goals (refine qx ⟨_,rfl,?_⟩)
 all_goals (refine ⟨?_,rfl⟩;unfold Zn;first|(rw [if_pos (by omega)];rfl)|(rw [if_neg (by omega)];rfl))
theorem gU {h:AH} (a b:Int):Fn Tryz.prog Xh 153 [.int .i64 a,.int .i64 b] h (fun v h'=>v = .int .i64 (Zl a b)∧h'=h):=by
 refine qF rfl Tryz.func153 rfl rfl ?_
 all_goals (repeat' (first|refine qi ?_|refine ql rfl ?_|refine qo ?_|(refine qf 0 ?_;refine mv ?_;refine qg ?_)|(refine qf 1 ?_;refine mv ?_;(first|(refine cS ?_ ?_<;>intro hc))<;>(refine mv ?_;(first|refine off ?_|refine mv ?_);(first|refine off ?_|(first|(refine cS ?_ ?_<;>intro hc)))<;>(refine vl ?_;refine mv ?_;(first|refine off ?_|refine mv ?_);(first|refine off ?_|(first|(refine cS ?_ ?_<;>intro hc)))<;>(refine vl ?_;refine mv ?_;(first|refine off ?_|refine mv ?_);(first|refine off ?_|(first|(refine cS ?_ ?_<;>intro hc)))<;>(refine vl ?_;refine qg ?_)))))|(refine qf 2 ?_;refine mv ?_;refine qg ?_)|(refine qf 3 ?_;refine mv ?_;refine mv ?_;refine ml ?_;refine ad ?_;refine mv ?_;refine qg ?_)))
 all_goals (refine qx ⟨_,rfl,?_⟩)
 all_goals (refine ⟨?_,rfl⟩;unfold Zl;first|(rw [if_pos (by omega)];rfl)|(rw [if_neg (by omega)];rfl))
theorem PK {h:AH} (a b:Int):Fn Tryz.prog Xh 158 [.int .i64 a,.int .i64 b] h (fun v h'=>v = .int .i64 (Ji a b)∧h'=h):=by
 refine qF rfl Tryz.func158 rfl rfl ?_
 all_goals (repeat' (first|refine qi ?_|refine ql rfl ?_|refine qo ?_|(refine qf 0 ?_;refine mv ?_;refine qg ?_)|(refine qf 1 ?_;refine mv ?_;(first|(refine cS ?_ ?_<;>intro hc))<;>(refine mv ?_;(first|refine off ?_|refine mv ?_);(first|refine off ?_|(first|(refine cS ?_ ?_<;>intro hc)))<;>(refine vl ?_;refine mv ?_;(first|refine off ?_|refine mv ?_);(first|refine off ?_|(first|(refine cS ?_ ?_<;>intro hc)))<;>(refine vl ?_;refine mv ?_;(first|refine off ?_|refine mv ?_);(first|refine off ?_|refine mv ?_);(first|refine off ?_|(first|(refine cS ?_ ?_<;>intro hc)))<;>(refine vl ?_;refine qg ?_)))))|(refine qf 2 ?_;refine mv ?_;refine qg ?_)|(refine qf 3 ?_;refine mv ?_;refine mv ?_;refine qg ?_)))
 all_goals (refine qx ⟨_,rfl,?_⟩)
 all_goals (refine ⟨?_,rfl⟩;unfold Ji;first|(rw [if_pos (by omega)];rfl)|(rw [if_neg (by omega)];rfl))
theorem qaF {h:AH} (a b:Int) (h1:0≤a∧a≤100∧0≤b∧b≤100):Fn Tryz.prog Xh 192 [.int .i64 a,.int .i64 b] h (fun v h'=>v = .int .i64 (a+min b 1)∧h'=h):=by
 refine qF rfl Tryz.func192 rfl rfl ?_
 all_goals (repeat' (first|refine qi ?_|(refine qf 0 ?_;refine mv ?_;refine qg ?_)|(refine qf 1 ?_;refine mv ?_;refine mv ?_;refine mn ?_;refine ad ?_;refine mv ?_;refine qg ?_)))
 all_goals (refine qx ⟨_,rfl,?_⟩)
 all_goals (refine ⟨rfl,rfl⟩)
def xO (a b x y:Int):Prop:=y - x=1∨y - x=a - 1
def VD (a b x y:Int):Prop:=a % 2=0∧y - x=a / 2
def ku (a b x y:Int):Prop :=
 if b=2∧y=2*a+1 then x=0∨x=y - 1
 else if 0<b∧(x=a∨y=a) then y - x=1
 else y - x=1∧(y<a∨x≥a+min b 1)
def kw (a b x y:Int):Prop:=if b=2∧y=2*a+1 then x=a else x<a∧x+y=a+min b 1+a - 1
def qbF (a b x y:Int):Prop:=y - x=1
def qbG (a b x y:Int):Prop:=x<b∧x+y=a+2*b - 1
def rowB (a b x y:Int):Prop:=y - x=1∧(b=0∨y % b≠0)
def GK (a b x y:Int):Prop:=0≤a∧a≤100∧0≤b∧b≤100∧0≤x∧x≤1000∧0≤y∧y≤1000
theorem xN {h:AH} (a b x y:Int) (hb:GK a b x y):Fn Tryz.prog Xh 144 [.int .i64 a,.int .i64 b,.int .i64 x,.int .i64 y] h (fun v h'=>BoolIs v (xO a b x y)∧h'=h):=by
 unfold GK at hb
 refine qF rfl Tryz.func144 rfl rfl ?_
 all_goals (repeat' (first|refine qi ?_|(refine qf 0 ?_;refine mv ?_;refine qg ?_)|(refine qf 1 ?_;refine mv ?_;refine mv ?_;refine sb ?_;(first|(refine cS ?_ ?_<;>intro hc))<;>(refine mv ?_;(first|refine off ?_|refine mv ?_);(first|refine off ?_|refine mv ?_);(first|refine off ?_|(refine sb ?_));(first|refine off ?_|refine mv ?_);(first|refine off ?_|(refine sb ?_));(first|refine off ?_|(first|(refine cS ?_ ?_<;>intro hc)))<;>(refine vl ?_;refine mv ?_;refine qg ?_)))))
 all_goals (refine qx ⟨_,rfl,?_⟩)
 all_goals (refine ⟨?_,rfl⟩;unfold BoolIs xO;first|exact .inl ⟨rfl,by omega⟩|exact .inr ⟨rfl,by omega⟩)
theorem xP {h:AH} (a b x y:Int) (hb:GK a b x y):Fn Tryz.prog Xh 145 [.int .i64 a,.int .i64 b,.int .i64 x,.int .i64 y] h (fun v h'=>BoolIs v (VD a b x y)∧h'=h):=by
 unfold GK at hb
 refine qF rfl Tryz.func145 rfl rfl ?_
 all_goals (repeat' (first|refine qi ?_|(refine qf 0 ?_;refine mv ?_;refine qg ?_)|(refine qf 1 ?_;refine mv ?_;refine rm ?_;(first|(refine cS ?_ ?_<;>intro hc))<;>(refine mv ?_;(first|refine off ?_|refine mv ?_);(first|refine off ?_|refine mv ?_);(first|refine off ?_|(refine sb ?_));(first|refine off ?_|refine mv ?_);(first|refine off ?_|(refine qu ?_));(first|refine off ?_|(first|(refine cS ?_ ?_<;>intro hc)))<;>(refine vl ?_;refine mv ?_;refine qg ?_)))))
 all_goals (refine qx ⟨_,rfl,?_⟩)
 all_goals (refine ⟨?_,rfl⟩;unfold BoolIs VD;first|exact .inl ⟨rfl,by omega⟩|exact .inr ⟨rfl,by omega⟩)
theorem vU {h:AH} (a b x y:Int) (hb:GK a b x y):Fn Tryz.prog Xh 149 [.int .i64 a,.int .i64 b,.int .i64 x,.int .i64 y] h (fun v h'=>BoolIs v (ku a b x y)∧h'=h):=by
 unfold GK at hb
 refine qF rfl Tryz.func149 rfl rfl ?_
 all_goals (repeat' (first|refine qi ?_|(refine qf 0 ?_;refine mv ?_;refine qg ?_)|(refine qf 1 ?_;refine mv ?_;refine mv ?_)))
 (refine qw rfl rfl rfl rfl rfl ((qaF _ _ (by omega)).mono ?_);rintro _ _ ⟨rfl,rfl⟩)<;>(refine mv ?_;refine qg ?_)
 all_goals (repeat' (first|refine qi ?_|refine ql rfl ?_|refine qo ?_|refine qm ?_|(refine qf 2 ?_;refine mv ?_;(first|(refine cS ?_ ?_<;>intro hc))<;>(refine mv ?_;(first|refine off ?_|refine mv ?_);(first|refine off ?_|refine mv ?_);(first|refine off ?_|(refine ml ?_));(first|refine off ?_|(refine ad ?_));(first|refine off ?_|(first|(refine cS ?_ ?_<;>intro hc)))<;>(refine vl ?_;refine mv ?_;refine qg ?_)))|(refine qf 3 ?_;refine mv ?_;(first|(refine cS ?_ ?_<;>intro hc))<;>(refine mv ?_;(first|refine off ?_|refine mv ?_);(first|refine off ?_|refine mv ?_);(first|refine off ?_|(refine sb ?_));(first|refine off ?_|(first|(refine cS ?_ ?_<;>intro hc)))<;>(refine vl ?_;refine mv ?_;refine qg ?_)))|(refine qf 4 ?_;refine mv ?_;(first|refine cT ?_|(refine cS ?_ ?_<;>intro hc))<;>(refine mv ?_;(first|refine off ?_|refine mv ?_);(first|refine off ?_|refine mv ?_);(first|refine off ?_|(first|(refine cS ?_ ?_<;>intro hc)))<;>((first|refine off ?_|refine mv ?_);(first|refine off ?_|refine mv ?_);(first|refine off ?_|refine mv ?_);(first|refine off ?_|(first|(refine cS ?_ ?_<;>intro hc)))<;>((first|refine off ?_|refine vl ?_);refine vl ?_;refine mv ?_;refine qg ?_))))|(refine qf 5 ?_;refine mv ?_;refine mv ?_;refine sb ?_;(first|(refine cS ?_ ?_<;>intro hc))<;>(refine mv ?_;refine qg ?_))|(refine qf 6 ?_;refine mv ?_;refine mv ?_;refine sb ?_;(first|(refine cS ?_ ?_<;>intro hc))<;>(refine mv ?_;(first|refine off ?_|refine mv ?_);(first|refine off ?_|refine mv ?_);(first|refine off ?_|(first|(refine cS ?_ ?_<;>intro hc)))<;>((first|refine off ?_|refine mv ?_);(first|refine off ?_|refine mv ?_);(first|refine off ?_|refine mv ?_);(first|refine off ?_|(first|refine cT ?_|(refine cS ?_ ?_<;>intro hc)))<;>((first|refine off ?_|refine vl ?_);refine vl ?_;refine mv ?_;refine qg ?_))))))
 all_goals (refine qx ⟨_,rfl,?_⟩)
 all_goals (refine ⟨?_,rfl⟩;unfold BoolIs ku;(repeat' split)<;>first|exact .inl ⟨rfl,by omega⟩|exact .inr ⟨rfl,by omega⟩)
theorem vV {h:AH} (a b x y:Int) (hb:GK a b x y):Fn Tryz.prog Xh 150 [.int .i64 a,.int .i64 b,.int .i64 x,.int .i64 y] h (fun v h'=>BoolIs v (kw a b x y)∧h'=h):=by
 unfold GK at hb
 refine qF rfl Tryz.func150 rfl rfl ?_
 all_goals (repeat' (first|refine qi ?_|refine ql rfl ?_|refine qo ?_|(refine qf 0 ?_;refine mv ?_;refine qg ?_)|(refine qf 1 ?_;refine mv ?_;(first|(refine cS ?_ ?_<;>intro hc))<;>(refine mv ?_;(first|refine off ?_|refine mv ?_);(first|refine off ?_|refine mv ?_);(first|refine off ?_|(refine ml ?_));(first|refine off ?_|(refine ad ?_));(first|refine off ?_|(first|(refine cS ?_ ?_<;>intro hc)))<;>(refine vl ?_;refine qg ?_)))|(refine qf 2 ?_;refine mv ?_;refine mv ?_;(first|(refine cS ?_ ?_<;>intro hc))<;>(refine mv ?_;refine qg ?_))|(refine qf 3 ?_;refine mv ?_;refine mv ?_;(first|(refine cS ?_ ?_<;>intro hc))<;>(refine mv ?_;(first|refine off ?_|refine mv ?_);(first|refine off ?_|refine mv ?_);(first|refine off ?_|(refine ad ?_));(first|refine off ?_|refine mv ?_);(first|refine off ?_|refine mv ?_);(first|(refine off ?_;refine off ?_;refine off ?_;refine off ?_;(refine off ?_)<;>(refine vl ?_;refine mv ?_;refine qg ?_))|skip)))))
 any_goals ((refine qw rfl rfl rfl rfl rfl ((qaF _ _ (by omega)).mono ?_);rintro _ _ ⟨rfl,rfl⟩)<;>((refine mv ?_);(first|(refine ad ?_));(first|(refine sb ?_));(first|(first|(refine cS ?_ ?_<;>intro hc)))<;>(refine vl ?_;refine mv ?_;refine qg ?_)))
 all_goals (repeat' (fail))
 all_goals (refine qx ⟨_,rfl,?_⟩)
 all_goals (refine ⟨?_,rfl⟩;unfold BoolIs kw;(repeat' split)<;>first|exact .inl ⟨rfl,by omega⟩|exact .inr ⟨rfl,by omega⟩)
theorem vJ {h:AH} (a b x y:Int) (hb:GK a b x y):Fn Tryz.prog Xh 154 [.int .i64 a,.int .i64 b,.int .i64 x,.int .i64 y] h (fun v h'=>BoolIs v (qbF a b x y)∧h'=h):=by
 unfold GK at hb
 refine qF rfl Tryz.func154 rfl rfl ?_
 all_goals (repeat' (first|refine qi ?_|(refine qf 0 ?_;refine mv ?_;refine qg ?_)|(refine qf 1 ?_;refine mv ?_;refine mv ?_;refine sb ?_;(first|(refine cS ?_ ?_<;>intro hc))<;>(refine mv ?_;refine qg ?_))))
 all_goals (refine qx ⟨_,rfl,?_⟩)
 all_goals (refine ⟨?_,rfl⟩;unfold BoolIs qbF;first|exact .inl ⟨rfl,by omega⟩|exact .inr ⟨rfl,by omega⟩)
theorem vK {h:AH} (a b x y:Int) (hb:GK a b x y):Fn Tryz.prog Xh 155 [.int .i64 a,.int .i64 b,.int .i64 x,.int .i64 y] h (fun v h'=>BoolIs v (qbG a b x y)∧h'=h):=by
 unfold GK at hb
 refine qF rfl Tryz.func155 rfl rfl ?_
 all_goals (repeat' (first|refine qi ?_|(refine qf 0 ?_;refine mv ?_;refine qg ?_)|(refine qf 1 ?_;refine mv ?_;refine mv ?_;(first|(refine cS ?_ ?_<;>intro hc))<;>(refine mv ?_;(first|refine off ?_|refine mv ?_);(first|refine off ?_|refine mv ?_);(first|refine off ?_|(refine ad ?_));(first|refine off ?_|refine mv ?_);(first|refine off ?_|refine mv ?_);(first|refine off ?_|(refine ml ?_));(first|refine off ?_|(refine ad ?_));(first|refine off ?_|(refine sb ?_));(first|refine off ?_|(first|(refine cS ?_ ?_<;>intro hc)))<;>(refine vl ?_;refine mv ?_;refine qg ?_)))))
 all_goals (refine qx ⟨_,rfl,?_⟩)
 all_goals (refine ⟨?_,rfl⟩;unfold BoolIs qbG;first|exact .inl ⟨rfl,by omega⟩|exact .inr ⟨rfl,by omega⟩)
theorem gY {h:AH} (a b x y:Int) (hb:GK a b x y):Fn Tryz.prog Xh 159 [.int .i64 a,.int .i64 b,.int .i64 x,.int .i64 y] h (fun v h'=>BoolIs v (rowB a b x y)∧h'=h):=by
 unfold GK at hb
 refine qF rfl Tryz.func159 rfl rfl ?_
 all_goals (repeat' (first|refine qi ?_|(refine qf 0 ?_;refine mv ?_;refine qg ?_)|(refine qf 1 ?_;refine mv ?_;refine mv ?_;refine sb ?_;(first|(refine cS ?_ ?_<;>intro hc))<;>(refine mv ?_;(first|refine off ?_|refine mv ?_);(first|refine off ?_|(first|(refine cS ?_ ?_<;>intro hc)))<;>((first|refine off ?_|refine mv ?_);(first|refine off ?_|refine mv ?_);(first|refine off ?_|refine mv ?_);(first|refine off ?_|(refine rm ?_));(first|refine off ?_|(first|(refine cS ?_ ?_<;>intro hc)))<;>((first|refine off ?_|refine vl ?_);refine vl ?_;refine mv ?_;refine qg ?_))))))
 all_goals (refine qx ⟨_,rfl,?_⟩)
 all_goals (refine ⟨?_,rfl⟩;unfold BoolIs rowB;first|exact .inl ⟨rfl,by omega⟩|exact .inr ⟨rfl,by omega⟩)
structure SlV where
 p:Option Addr
 n:Nat
 c:Nat
abbrev SlV.val (s:SlV):Value:=.slice s.p s.n s.c
theorem Rd.Xq {h:AH} {v:Value} {z n:Nat} {c:List Value} (r:Rd h v z n c):∃ s:SlV,v=s.val:=by
 rcases r with ⟨rfl,-,-⟩|⟨b,o,cap,cc,e,s,q,rfl,-,-⟩
 ·exact ⟨⟨none,0,0⟩,rfl⟩
 ·exact ⟨⟨some ⟨b,o,none⟩,n,cap⟩,rfl⟩
structure Tab where
 name:List UInt8
 shape:Int
 A:Int
 B:Int
 os:SlV
 opn:List Int
 X:Int
 Y:Int
abbrev Tab.ov (t:Tab):Value:=t.os.val
instance:Inhabited Tab:=⟨⟨[],0,0,0,⟨none,0,0⟩,[],0,0⟩⟩
def eT (t:Tab):List Value:=[str t.name,.int .u8 t.shape,.int .i64 t.A,.int .i64 t.B,t.ov,.int .i64 t.X,.int .i64 t.Y]
abbrev jg (t:Tab):Value:=.agg (eT t).toArray
def kL (n:Nat):Value:=.func (.func n) #[] #[]
def Zu:List UInt8:=[114,111,117,110,100]
def Xj:List UInt8:=[108,111,110,103]
def Xi:List UInt8:=[104,111,114,115,101,115,104,111,101]
def wRow:List UInt8:=[114,111,119]
def lay1:List Value:=[str Zu,kL 143,kL 144,kL 145,kL 146,kL 147]
def lay2:List Value:=[str Xj,kL 148,kL 149,kL 150,kL 151,kL 152]
def lay3:List Value:=[str Xi,kL 153,kL 154,kL 155,kL 156,kL 157]
def lay4:List Value:=[str wRow,kL 158,kL 159,kL 160,kL 161,kL 162]
def lay0:List Value:=[str [],.nilFunc,.nilFunc,.nilFunc,.nilFunc,.nilFunc]
def qfS (s:Int) (v:Value):Prop :=
 (v = .tuple #[.agg lay1.toArray,.bool true]∧s=1)∨(v = .tuple #[.agg lay2.toArray,.bool true]∧s=2)∨(v = .tuple #[.agg lay3.toArray,.bool true]∧s=3) ∨
 (v = .tuple #[.agg lay4.toArray,.bool true]∧s=4)∨(v = .tuple #[.agg lay0.toArray,.bool false]∧¬ (1≤s∧s≤4))
theorem Qg {h0:AH} (w:WfH h0) (s:Int):Fn Tryz.prog Xh 109 [.int .u8 s] h0 (fun v h'=>qfS s v∧Hs h0 h' []):=by
 have S:=Hs.start w
 refine qF rfl Tryz.func109 rfl rfl ?_
 all_goals (repeat' (first|refine qi ?_|refine ql rfl ?_|refine qo ?_|refine qm ?_|(refine qf 0 ?_;(refine al S ?_;clear S;intro b h S);refine mv ?_;refine qg ?_)|(refine qf 1 ?_;refine mv ?_;refine qg ?_)|(refine qf 2 ?_;(first|(refine cS ?_ ?_<;>intro hc))<;>(refine mv ?_;refine qg ?_))|(refine qf 3 ?_;refine vl ?_;(first|(refine sB S rfl rfl ?_;clear S;intro h S));refine mv ?_;refine qg ?_)|(refine qf 4 ?_;(first|(refine cS ?_ ?_<;>intro hc))<;>(refine mv ?_;refine qg ?_))|(refine qf 5 ?_;refine vl ?_;(first|(refine sB S rfl rfl ?_;clear S;intro h S));refine mv ?_;refine qg ?_)|(refine qf 6 ?_;(first|(refine cS ?_ ?_<;>intro hc))<;>(refine mv ?_;refine qg ?_))|(refine qf 7 ?_;refine vl ?_;(first|(refine sB S rfl rfl ?_;clear S;intro h S));refine mv ?_;refine qg ?_)|(refine qf 8 ?_;(first|(refine cS ?_ ?_<;>intro hc))<;>(refine mv ?_;refine qg ?_))|(refine qf 9 ?_;refine vl ?_;(first|(refine sB S rfl rfl ?_;clear S;intro h S));refine mv ?_;refine qg ?_)|(refine qf 10 ?_;refine vl ?_;(first|(refine sB S rfl rfl ?_;clear S;intro h S));refine mv ?_;refine qg ?_)))
 all_goals (refine qx ⟨_,zK S rfl (by first|exact .here) (by exact rfl) (by exact rfl),?_⟩)
 all_goals (refine ⟨?_,S.drop⟩;unfold qfS)
 ·exact .inl ⟨rfl,by omega⟩
 ·exact .inr (.inl ⟨rfl,by omega⟩)
 ·exact .inr (.inr (.inl ⟨rfl,by omega⟩))
 ·exact .inr (.inr (.inr (.inl ⟨rfl,by omega⟩)))
 ·exact .inr (.inr (.inr (.inr ⟨rfl,by omega⟩)))
def jh (s a b:Int):Int:=if s=1 then QB a b else if s=2 then Zn a b else if s=3 then Zl a b else if s=4 then Ji a b else 0
def qC (t:Tab):Int:=jh t.shape t.A t.B
theorem Ze {h0:AH} (w:WfH h0) (t:Tab):Fn Tryz.prog Xh 83 [jg t] h0 (fun v h'=>v = .int .i64 (qC t)∧Hs h0 h' []):=by
 have S:=Hs.start w
 refine qF rfl Tryz.func83 rfl rfl ?_
 all_goals (repeat' (first|refine qi ?_|(refine qf 0 ?_;(refine bx S ?_;clear S;intro b h S);refine mv ?_;refine qg ?_)|(refine qf 1 ?_;refine vl ?_;refine lB S rfl rfl ?_)))
 (refine qw rfl rfl rfl rfl rfl ((Qg S.wf _).mono ?_);rintro _ h ⟨⟨rfl,hs⟩|⟨rfl,hs⟩|⟨rfl,hs⟩|⟨rfl,hs⟩|⟨rfl,hs⟩,x⟩)<;>(have S:=S.qy x;refine mv ?_;refine vl ?_;refine vl ?_;(refine al S ?_;clear S;intro b h S);(first|(refine sB S rfl rfl ?_;clear S;intro h S));refine mv ?_;refine qg ?_)
 all_goals (repeat' (first|refine qi ?_|refine ql rfl ?_|refine qo ?_|(refine qf 2 ?_;refine mv ?_;refine vl ?_;refine qg ?_)|(refine qf 3 ?_;refine mv ?_;refine qg ?_)|(refine qf 4 ?_;refine vl ?_;refine lB S rfl rfl ?_;refine vl ?_;refine lB S rfl rfl ?_;refine vl ?_;refine lB S rfl rfl ?_)))
 ·(refine qN rfl rfl rfl rfl ((vM _ _).mono ?_);rintro _ _ ⟨rfl,rfl⟩)<;>(refine mv ?_;refine qg ?_)
  all_goals (repeat' (fail))
  refine qx ⟨_,rfl,?_⟩
  exact ⟨by simp [zX,qC,jh,hs],S.drop⟩
 ·(refine qN rfl rfl rfl rfl ((KH _ _).mono ?_);rintro _ _ ⟨rfl,rfl⟩)<;>(refine mv ?_;refine qg ?_)
  all_goals (repeat' (fail))
  refine qx ⟨_,rfl,?_⟩
  exact ⟨by simp [zX,qC,jh,hs],S.drop⟩
 ·(refine qN rfl rfl rfl rfl ((gU _ _).mono ?_);rintro _ _ ⟨rfl,rfl⟩)<;>(refine mv ?_;refine qg ?_)
  all_goals (repeat' (fail))
  refine qx ⟨_,rfl,?_⟩
  exact ⟨by simp [zX,qC,jh,hs],S.drop⟩
 ·(refine qN rfl rfl rfl rfl ((PK _ _).mono ?_);rintro _ _ ⟨rfl,rfl⟩)<;>(refine mv ?_;refine qg ?_)
  all_goals (repeat' (fail))
  refine qx ⟨_,rfl,?_⟩
  exact ⟨by simp [zX,qC,jh,hs],S.drop⟩
 ·refine qx ⟨_,rfl,?_⟩
  refine ⟨?_,S.drop⟩
  simp only [zX,qC,jh]
  rw [if_neg (by omega),if_neg (by omega),if_neg (by omega),if_neg (by omega)]
def zk (t:Tab) (x y:Int):Prop:=x≠y∧((t.shape=1∧xO t.A t.B (min x y) (max x y))∨(t.shape=2∧ku t.A t.B (min x y) (max x y))∨(t.shape=3∧qbF t.A t.B (min x y) (max x y))∨(t.shape=4∧rowB t.A t.B (min x y) (max x y)))
def zt (t:Tab) (x y:Int):Prop:=x≠y∧((t.shape=1∧VD t.A t.B (min x y) (max x y))∨(t.shape=2∧kw t.A t.B (min x y) (max x y))∨(t.shape=3∧qbG t.A t.B (min x y) (max x y)))
def zu (t:Tab) (x y:Int):Prop:=zk t x y∨zt t x y
def V6 (t:Tab):Prop:=1≤t.shape∧t.shape≤4∧0≤t.A∧t.A≤100∧0≤t.B∧t.B≤100
theorem qa8 {h:AH} (a b x y:Int):Fn Tryz.prog Xh 160 [.int .i64 a,.int .i64 b,.int .i64 x,.int .i64 y] h (fun v h'=>BoolIs v False∧h'=h):=by
 refine qF rfl Tryz.func160 rfl rfl ?_
 all_goals (repeat' (first|refine qi ?_|(refine qf 0 ?_;refine mv ?_;refine qg ?_)|(refine qf 1 ?_;refine mv ?_;refine qg ?_)))
 all_goals (refine qx ⟨_,rfl,?_⟩)
 exact ⟨.inr ⟨rfl,id⟩,rfl⟩
theorem Yc {h0:AH} (w:WfH h0) (t:Tab) (x y:Int) (ht:V6 t) (hx:0≤x∧x≤1000) (hy:0≤y∧y≤1000):Fn Tryz.prog Xh 102 [jg t,.int .i64 x,.int .i64 y] h0 (fun v h'=>BoolIs v (zk t x y)∧Hs h0 h' []):=by
 have S:=Hs.start w
 obtain ⟨t1,t2,t3,t4,t5,t6⟩:=ht
 refine qF rfl Tryz.func102 rfl rfl ?_
 all_goals (repeat' (first|refine qi ?_|(refine qf 0 ?_;(refine bx S ?_;clear S;intro b h S);refine mv ?_;refine qg ?_)|(refine qf 1 ?_;refine vl ?_;refine lB S rfl rfl ?_)))
 have hb:GK t.A t.B (min x y) (max x y):=by unfold GK;omega
 (refine qw rfl rfl rfl rfl rfl ((Qg S.wf _).mono ?_);rintro _ h ⟨⟨rfl,hs⟩|⟨rfl,hs⟩|⟨rfl,hs⟩|⟨rfl,hs⟩|⟨rfl,hs⟩,x⟩)<;>(have S:=S.qy x;refine mv ?_;refine vl ?_;refine vl ?_;(refine al S ?_;clear S;intro b h S);(first|(refine sB S rfl rfl ?_;clear S;intro h S));refine mv ?_;refine qg ?_)
 all_goals (repeat' (first|refine qi ?_|(refine qf 2 ?_;refine mv ?_;refine mv ?_;(first|refine cT ?_|(refine cS ?_ ?_<;>intro hc))<;>(refine mv ?_;(first|refine off ?_|(refine vl ?_));(first|refine off ?_|(refine lB S rfl rfl ?_));(first|refine off ?_|(refine vl ?_));(first|refine off ?_|(refine lB S rfl rfl ?_));(first|refine off ?_|(refine vl ?_));(first|refine off ?_|(refine lB S rfl rfl ?_));(first|refine off ?_|refine mv ?_);(first|refine off ?_|refine mv ?_);(first|refine off ?_|refine mn ?_);(first|refine off ?_|refine mv ?_);(first|refine off ?_|refine mv ?_);(first|refine off ?_|refine mx ?_);(first|(refine off ?_;refine vl ?_;refine mv ?_;refine qg ?_)|skip)))))
 all_goals (try (exfalso;omega))
 any_goals (((first|refine qN rfl rfl rfl rfl ((xN _ _ _ _ hb).mono ?_)|refine qN rfl rfl rfl rfl ((vU _ _ _ _ hb).mono ?_)|refine qN rfl rfl rfl rfl ((vJ _ _ _ _ hb).mono ?_)|refine qN rfl rfl rfl rfl ((gY _ _ _ _ hb).mono ?_));rintro _ _ ⟨⟨rfl,hq⟩|⟨rfl,hq⟩,rfl⟩)<;>(refine vl ?_;refine mv ?_;refine qg ?_))
 all_goals (repeat' (fail))
 all_goals (refine qx ⟨_,rfl,?_⟩)
 all_goals (first|exact ⟨.inl ⟨rfl,hc,by (first|simpa [hs] using hq)⟩,S.drop⟩|exact ⟨.inr ⟨rfl,fun q=>hq (by simpa [hs] using q.2)⟩,S.drop⟩|exact ⟨.inr ⟨rfl,fun q=>q.1 (by omega)⟩,S.drop⟩)
theorem ZW {h0:AH} (w:WfH h0) (t:Tab) (x y:Int) (ht:V6 t) (hx:0≤x∧x≤1000) (hy:0≤y∧y≤1000):Fn Tryz.prog Xh 103 [jg t,.int .i64 x,.int .i64 y] h0 (fun v h'=>BoolIs v (zt t x y)∧Hs h0 h' []):=by
 have S:=Hs.start w
 obtain ⟨t1,t2,t3,t4,t5,t6⟩:=ht
 refine qF rfl Tryz.func103 rfl rfl ?_
 all_goals (repeat' (first|refine qi ?_|(refine qf 0 ?_;(refine bx S ?_;clear S;intro b h S);refine mv ?_;refine qg ?_)|(refine qf 1 ?_;refine vl ?_;refine lB S rfl rfl ?_)))
 have hb:GK t.A t.B (min x y) (max x y):=by unfold GK;omega
 (refine qw rfl rfl rfl rfl rfl ((Qg S.wf _).mono ?_);rintro _ h ⟨⟨rfl,hs⟩|⟨rfl,hs⟩|⟨rfl,hs⟩|⟨rfl,hs⟩|⟨rfl,hs⟩,x⟩)<;>(have S:=S.qy x;refine mv ?_;refine vl ?_;refine vl ?_;(refine al S ?_;clear S;intro b h S);(first|(refine sB S rfl rfl ?_;clear S;intro h S));refine mv ?_;refine qg ?_)
 all_goals (repeat' (first|refine qi ?_|(refine qf 2 ?_;refine mv ?_;refine mv ?_;(first|refine cT ?_|(refine cS ?_ ?_<;>intro hc))<;>(refine mv ?_;(first|refine off ?_|(refine vl ?_));(first|refine off ?_|(refine lB S rfl rfl ?_));(first|refine off ?_|(refine vl ?_));(first|refine off ?_|(refine lB S rfl rfl ?_));(first|refine off ?_|(refine vl ?_));(first|refine off ?_|(refine lB S rfl rfl ?_));(first|refine off ?_|refine mv ?_);(first|refine off ?_|refine mv ?_);(first|refine off ?_|refine mn ?_);(first|refine off ?_|refine mv ?_);(first|refine off ?_|refine mv ?_);(first|refine off ?_|refine mx ?_);(first|(refine off ?_;refine vl ?_;refine mv ?_;refine qg ?_)|skip)))))
 all_goals (try (exfalso;omega))
 any_goals (((first|refine qN rfl rfl rfl rfl ((xP _ _ _ _ hb).mono ?_)|refine qN rfl rfl rfl rfl ((vV _ _ _ _ hb).mono ?_)|refine qN rfl rfl rfl rfl ((vK _ _ _ _ hb).mono ?_)|refine qN rfl rfl rfl rfl ((qa8 _ _ _ _).mono ?_));rintro _ _ ⟨⟨rfl,hq⟩|⟨rfl,hq⟩,rfl⟩)<;>(refine vl ?_;refine mv ?_;refine qg ?_))
 all_goals (repeat' (fail))
 all_goals (refine qx ⟨_,rfl,?_⟩)
 all_goals (first|exact ⟨.inl ⟨rfl,hc,by (first|(simp [hs] at hq;done)|simpa [hs] using hq)⟩,S.drop⟩|exact ⟨.inr ⟨rfl,fun q=>hq (by simpa [hs] using q.2)⟩,S.drop⟩|exact ⟨.inr ⟨rfl,fun q=>q.1 (by omega)⟩,S.drop⟩)
theorem KC {h0:AH} (w:WfH h0) (t:Tab) (x y:Int) (ht:V6 t) (hx:0≤x∧x≤1000) (hy:0≤y∧y≤1000):Fn Tryz.prog Xh 91 [jg t,.int .i64 x,.int .i64 y] h0 (fun v h'=>BoolIs v (zu t x y)∧Hs h0 h' []):=by
 have S:=Hs.start w
 refine qF rfl Tryz.func91 rfl rfl ?_
 all_goals (repeat' (first|refine qi ?_|(refine qf 0 ?_;(refine bx S ?_;clear S;intro b h S);refine mv ?_;refine qg ?_)|(refine qf 1 ?_;refine lB S rfl rfl ?_;refine mv ?_;refine mv ?_)))
 (refine qw rfl rfl rfl rfl rfl ((Yc S.wf t _ _ ht hx hy).mono ?_);rintro _ h ⟨⟨rfl,hq⟩|⟨rfl,hq⟩,x⟩)<;>(have S:=S.qy x;refine mv ?_;(first|refine off ?_|(refine lB S rfl rfl ?_));(first|refine off ?_|refine mv ?_);(first|refine off ?_|refine mv ?_);(first|(refine off ?_;refine vl ?_;refine mv ?_;refine qg ?_)|skip))
 any_goals ((refine qw rfl rfl rfl rfl rfl ((ZW S.wf t _ _ ht hx hy).mono ?_);rintro _ h ⟨⟨rfl,hq2⟩|⟨rfl,hq2⟩,x⟩)<;>(have S:=S.qy x;refine vl ?_;refine mv ?_;refine qg ?_))
 all_goals (repeat' (fail))
 all_goals (refine qx ⟨_,rfl,?_⟩)
 all_goals (refine ⟨?_,S.drop⟩;unfold BoolIs zu)
 ·exact .inl ⟨rfl,.inl hq⟩
 ·exact .inl ⟨rfl,.inr hq2⟩
 ·exact .inr ⟨rfl,fun q=>q.elim hq hq2⟩
end Go.Proofs.Xx
namespace Go.Proofs.Xx
set_option linter.unusedVariables false
section
variable (N:Int→Int→Prop) (n s:Nat)
def Wk:Nat→Nat→Prop
 | 0,y=>y=s
 | d+1,y=>∃ x:Nat,x<n∧Wk d x∧N x y
def IsDist (d y:Nat):Prop:=Wk N n s d y∧∀ e,e<d→¬ Wk N n s e y
def DistL (l:List Int):Prop:=l.length=n∧∀ y,y<n→(l.getD y default = -1∧∀ d,¬ Wk N n s d y)∨∃ d:Nat,l.getD y default=(d:Int)∧IsDist N n s d y
end
section
variable {N:Int→Int→Prop} {n s:Nat}
theorem IsDist.unique {d e y:Nat} (h1:IsDist N n s d y) (h2:IsDist N n s e y):d=e:=by
 rcases Nat.lt_trichotomy d e with h|h|h
 ·exact absurd h1.1 (h2.2 d h)
 ·exact h
 ·exact absurd h2.1 (h1.2 e h)
theorem Wk.least {d y:Nat} (h:Wk N n s d y):∃ e,e≤d∧IsDist N n s e y:=by
 induction d using Nat.strongRecOn with
 | _ d ih =>
  by_cases hd:∃ e,e<d∧Wk N n s e y
  ·obtain ⟨e,h1,h2⟩:=hd
   obtain ⟨e',h3,h4⟩:=ih e h1 h2
   exact ⟨e',by omega,h4⟩
  ·exact ⟨d,Nat.le_refl _,h,fun e he hw=>hd ⟨e,he,hw⟩⟩
theorem DistL.unique {l m:List Int} (h1:DistL N n s l) (h2:DistL N n s m):l=m:=by
 refine List.ext_getElem (h1.1.trans h2.1.symm) fun i q1 q2=>?_
 have hi:i<n:=by have:=h1.1;omega
 have e1:l.getD i default=l[i]:=by simp [List.getD_eq_getElem?_getD,List.getElem?_eq_getElem q1]
 have e2:m.getD i default=m[i]:=by simp [List.getD_eq_getElem?_getD,List.getElem?_eq_getElem q2]
 have a:=h1.2 i hi
 have b:=h2.2 i hi
 rw [e1] at a;rw [e2] at b
 rcases a with ⟨a1,a2⟩|⟨d,a1,a2⟩<;>rcases b with ⟨b1,b2⟩|⟨e,b1,b2⟩
 ·omega
 ·exact absurd b2.1 (a2 e)
 ·exact absurd a2.1 (b2 d)
 ·have:=a2.unique b2;omega
abbrev at_ (l:List Int) (x:Int):Int:=l.getD x.toNat default
abbrev Xl (l:List Int):Nat:=l.countP (fun x=>decide (x<0))
theorem Y3:∀ (l:List Int) (m:Nat) (v:Int),m<l.length→l.getD m default<0→0≤v→Xl (l.set m v)+1=Xl l
 | [],m,v,h,_,_=>by simp at h
 | x :: l,0,v,_,h1,h2=>by
  have h1':x<0:=by simpa using h1
  have h2':¬ v<0:=by omega
  simp [Xl,h1',h2']
 | x :: l,m+1,v,h,h1,h2=>by
  have ih:=Y3 l m v (by simpa using h) (by simpa using h1) h2
  unfold Xl at ih ⊢
  simp only [List.set_cons_succ,List.countP_cons]
  omega
structure BfsIn (N:Int→Int→Prop) (n s:Nat) (out q:List Int) (k:Int) (m:Nat):Prop where
 len:out.length=n
 src:s<n∧0≤at_ out s
 vis:∀ y:Nat,y<n→0≤at_ out y→IsDist N n s (at_ out y).toNat y
 neg:∀ y:Nat,y<n→at_ out y<0→at_ out y = -1
 low:∀ y:Nat,y<n→at_ out y+(Xl out:Int)≤(n:Int) - 1
 kin:0≤k∧k<n∧0≤at_ out k
 qin:∀ x∈q,0≤x∧x<n∧at_ out k≤at_ out x∧at_ out x≤at_ out k+1
 sort:q.Pairwise fun x y=>at_ out x≤at_ out y
 here:∀ y:Nat,y<m→y<n→N k y→0≤at_ out y
 done:∀ x:Nat,x<n→0≤at_ out x→(x:Int) ∉ q→(x:Int)≠k→∀ y:Nat,y<n→N x y→0≤at_ out y
structure Bfs (N:Int→Int→Prop) (n s:Nat) (out q:List Int):Prop where
 len:out.length=n
 src:s<n∧0≤at_ out s
 vis:∀ y:Nat,y<n→0≤at_ out y→IsDist N n s (at_ out y).toNat y
 neg:∀ y:Nat,y<n→at_ out y<0→at_ out y = -1
 low:∀ y:Nat,y<n→at_ out y+(Xl out:Int)≤(n:Int) - 1
 qin:∀ x∈q,0≤x∧x<n∧0≤at_ out x
 sort:q.Pairwise fun x y=>at_ out x≤at_ out y
 span:∀ x∈q,∀ y∈q,at_ out y≤at_ out x+1
 done:∀ x:Nat,x<n→0≤at_ out x→(x:Int) ∉ q→∀ y:Nat,y<n→N x y→0≤at_ out y
theorem BfsIn.near {out q:List Int} {k:Int} {m:Nat} (b:BfsIn N n s out q k m):∀ (e y:Nat),y<n→IsDist N n s e y→(e:Int)<at_ out k→0≤at_ out y∧(y:Int) ∉ q∧(y:Int)≠k:=by
 intro e
 induction e with
 | zero =>
  intro y hy hd he
  have:y=s:=hd.1
  subst this
  have h0:=b.src.2
  have h1:=(b.vis y hy h0).unique hd
  refine ⟨h0,fun q1=>?_,fun q1=>?_⟩
  ·have:=(b.qin _ q1).2.2.1;omega
  ·rw [← q1] at he;omega
 | succ e ih =>
  intro y hy hd he
  obtain ⟨x,hx,hw,hn⟩:=hd.1
  have hdx:IsDist N n s e x:=⟨hw,fun e' he' hw'=>hd.2 (e'+1) (by omega) ⟨x,hx,hw',hn⟩⟩
  obtain ⟨q1,q2,q3⟩:=ih x hx hdx (by omega)
  have hy0:=b.done x hx q1 q2 q3 y hy hn
  have h1:=(b.vis y hy hy0).unique hd
  refine ⟨hy0,fun q1=>?_,fun q1=>?_⟩
  ·have:=(b.qin _ q1).2.2.1;omega
  ·rw [← q1] at he;omega
theorem at_set (l:List Int) (m:Nat) (v:Int) (x:Int) (hm:m<l.length):at_ (l.set m v) x=if x.toNat=m then v else at_ l x:=by
 unfold at_
 by_cases h:x.toNat=m
 ·rw [if_pos h,h];simp [List.getD_eq_getElem?_getD,hm]
 ·rw [if_neg h];simp [List.getD_eq_getElem?_getD,Ne.symm h]
theorem BfsIn.meet {out q:List Int} {k:Int} {m:Nat} (b:BfsIn N n s out q k m) (hm:m<n) (hn:N k m) (ho:at_ out m<0):BfsIn N n s (out.set m (at_ out k+1)) (q ++ [(m:Int)]) k (m+1):=by
 have hl:m<out.length:=by have:=b.len;omega
 have key:∀ x:Int,at_ (out.set m (at_ out k+1)) x=if x.toNat=m then at_ out k+1 else at_ out x:=fun x=>at_set out m _ x hl
 obtain ⟨k1,k2,k3⟩:=b.kin
 have hkm:k.toNat≠m:=fun e=>by
  have:at_ out k=at_ out m:=by unfold at_;rw [e];rfl
  omega
 have hk':at_ (out.set m (at_ out k+1)) k=at_ out k:=by rw [key,if_neg hkm]
 have ge:∀ x:Int,0≤at_ out x→0≤at_ (out.set m (at_ out k+1)) x:=fun x hx=>by rw [key];split<;>omega
 have old:∀ x:Int,0≤at_ out x→at_ (out.set m (at_ out k+1)) x=at_ out x:=fun x hx=>by
  rw [key,if_neg]
  intro e
  have:at_ out x=at_ out m:=by unfold at_;rw [e];rfl
  omega
 have hdist:IsDist N n s ((at_ out k).toNat+1) m:=by
  have hdk:=b.vis k.toNat (by omega) (by simpa [Int.toNat_of_nonneg k1] using k3)
  have hkk:at_ out (k.toNat:Int)=at_ out k:=by rw [Int.toNat_of_nonneg k1]
  rw [hkk] at hdk
  refine ⟨⟨k.toNat,by omega,hdk.1,by rw [Int.toNat_of_nonneg k1];exact hn⟩,fun e he hw=>?_⟩
  obtain ⟨e0,he0,hd0⟩:=hw.least
  cases e0 with
  | zero =>
   have:m=s:=hd0.1
   subst this
   have:=b.src.2
   omega
  | succ e1 =>
   obtain ⟨x,hx,hwx,hnx⟩:=hd0.1
   obtain ⟨e2,he2,hdx⟩:=hwx.least
   obtain ⟨q1,q2,q3⟩:=b.near e2 x hx hdx (by omega)
   have:=b.done x hx q1 q2 q3 m hm hnx
   omega
 refine ⟨by simp [b.len],⟨b.src.1,ge _ b.src.2⟩,fun y hy hy0=>?_,fun y hy hy0=>?_,fun y hy=>?_,⟨k1,k2,by rw [hk'];exact k3⟩,fun x hx=>?_,?_,fun y hy hyn hN=>?_,fun x hx hx0 hxq hxk y hy hN=>?_⟩
 ·rw [key] at hy0 ⊢
  by_cases e:((y:Int).toNat)=m
  ·rw [if_pos e]
   have:y=m:=by simpa using e
   subst this
   rw [show (at_ out k+1).toNat=(at_ out k).toNat+1 by omega]
   exact hdist
  ·rw [if_neg e] at hy0 ⊢;exact b.vis y hy hy0
 ·rw [key] at hy0 ⊢
  by_cases e:((y:Int).toNat)=m
  ·rw [if_pos e] at hy0;omega
  ·rw [if_neg e] at hy0 ⊢;exact b.neg y hy hy0
 ·have hr:=Y3 out m (at_ out k+1) hl (by simpa using ho) (by omega)
  rw [key]
  have h1:=b.low y hy
  have h2:=b.low k.toNat (by omega)
  rw [Int.toNat_of_nonneg k1] at h2
  split<;>omega
 ·rw [hk']
  rcases List.mem_append.1 hx with hx|hx
  ·obtain ⟨q1,q2,q3,q4⟩:=b.qin x hx
   rw [old x (by omega)];exact ⟨q1,q2,q3,q4⟩
  ·obtain rfl:x=(m:Int):=by simpa using hx
   rw [key,if_pos (by simp)];omega
 ·rw [List.pairwise_append]
  refine ⟨?_,by simp,fun x hx y hy=>?_⟩
  ·refine b.sort.imp_of_mem fun hx hy hxy=>?_
   have h1:=(b.qin _ hx).2.2.1
   have h2:=(b.qin _ hy).2.2.1
   rw [old _ (by omega),old _ (by omega)];exact hxy
  ·obtain rfl:y=(m:Int):=by simpa using hy
   obtain ⟨q1,q2,q3,q4⟩:=b.qin x hx
   rw [old x (by omega),key (m:Int),if_pos (by simp)];exact q4
 ·by_cases e:y=m
  ·subst e;rw [key,if_pos (by simp)];omega
  ·exact ge _ (b.here y (by omega) hyn hN)
 ·have hxm:¬ (x:Int).toNat=m:=by
   intro e
   have e2:x=m:=by simpa using e
   subst e2
   exact hxq (by simp)
  rw [key,if_neg hxm] at hx0
  exact ge _ (b.done x hx hx0 (fun q=>hxq (List.mem_append_left _ q)) hxk y hy hN)
theorem BfsIn.pass {out q:List Int} {k:Int} {m:Nat} (b:BfsIn N n s out q k m) (h:N k m→0≤at_ out m):BfsIn N n s out q k (m+1) :=
 ⟨b.len,b.src,b.vis,b.neg,b.low,b.kin,b.qin,b.sort,fun y hy hyn hN=>by
  by_cases e:y=m
  ·subst e;exact h hN
  ·exact b.here y (by omega) hyn hN,b.done⟩
theorem Bfs.take {out q:List Int} {k:Int} (b:Bfs N n s out (k :: q)):BfsIn N n s out q k 0:=by
 obtain ⟨k1,k2,k3⟩:=b.qin k (by simp)
 have hs:=List.pairwise_cons.1 b.sort
 exact ⟨b.len,b.src,b.vis,b.neg,b.low,⟨k1,k2,k3⟩,fun x hx=>⟨(b.qin x (by simp [hx])).1,(b.qin x (by simp [hx])).2.1,hs.1 x hx,b.span k (by simp) x (by simp [hx])⟩,hs.2,fun y hy=>by omega,fun x hx h0 hq hk=>b.done x hx h0 (by simp [hq,hk])⟩
theorem BfsIn.back {out q:List Int} {k:Int} {m:Nat} (b:BfsIn N n s out q k m) (hm:n≤m):Bfs N n s out q :=
 ⟨b.len,b.src,b.vis,b.neg,b.low,fun x hx=>⟨(b.qin x hx).1,(b.qin x hx).2.1,by have:=(b.qin x hx).2.2.1;have:=b.kin.2.2;omega⟩,b.sort,
  fun x hx y hy=>by have:=(b.qin x hx).2.2.1;have:=(b.qin y hy).2.2.2;omega,fun x hx h0 hq y hy hN=>by
   by_cases e:(x:Int)=k
   ·exact b.here y (by omega) hy (e ▸ hN)
   ·exact b.done x hx h0 hq e y hy hN⟩
theorem Bfs.start {out:List Int} (hl:out.length=n) (hs:s<n) (h0:at_ out s=0) (h1:∀ y:Nat,y<n→y≠s→at_ out y = -1):Bfs N n s out [(s:Int)]:=by
 refine ⟨hl,⟨hs,by omega⟩,fun y hy hy0=>?_,fun y hy hy0=>?_,fun y hy=>?_,fun x hx=>?_,by simp,fun x hx y hy=>?_,fun x hx hx0 hxq=>?_⟩
 ·by_cases e:y=s
  ·subst e;rw [h0];exact ⟨rfl,fun e he=>by simp at he⟩
  ·rw [h1 y hy e] at hy0;omega
 ·by_cases e:y=s
  ·subst e;omega
  ·exact h1 y hy e
 ·have hr:Xl out≤n - 1:=by
   have h2:=Y3 (out.set s (-1)) s 0 (by simp;omega) (by simp [List.getD_eq_getElem?_getD,show s<out.length by omega]) (by omega)
   have h3:(out.set s (-1)).set s 0=out:=by
    rw [List.set_set]
    refine List.ext_getElem (by simp) fun i q1 q2=>?_
    rw [List.getElem_set]
    split
    ·rename_i e
     subst e
     have:at_ out (s:Int)=out[s]:=by unfold at_;simp [List.getD_eq_getElem?_getD,List.getElem?_eq_getElem q2]
     omega
    ·rfl
   rw [h3] at h2
   have h4:Xl (out.set s (-1))≤(out.set s (-1)).length:=List.countP_le_length
   rw [List.length_set] at h4
   omega
  by_cases e:y=s
  ·subst e;omega
  ·have:=h1 y hy e;omega
 ·obtain rfl:x=(s:Int):=by simpa using hx
  omega
 ·obtain rfl:x=(s:Int):=by simpa using hx
  obtain rfl:y=(s:Int):=by simpa using hy
  omega
 ·have:x≠s:=fun e=>by subst e;simp at hxq
  rw [h1 x hx this] at hx0;omega
theorem Bfs.finish {out:List Int} (b:Bfs N n s out []):DistL N n s out:=by
 have all:∀ d y,y<n→Wk N n s d y→0≤at_ out y:=by
  intro d
  induction d with
  | zero=>intro y hy hw;have:y=s:=hw;subst this;exact b.src.2
  | succ d ih =>
   intro y hy ⟨x,hx,hw,hN⟩
   exact b.done x hx (ih x hx hw) (by simp) y hy hN
 refine ⟨b.len,fun y hy=>?_⟩
 have e:at_ out (y:Int)=out.getD y default:=by unfold at_;simp
 rw [← e]
 rcases Int.lt_or_le (at_ out y) 0 with h|h
 ·exact .inl ⟨b.neg y hy h,fun d hw=>by have:=all d y hy hw;omega⟩
 ·exact .inr ⟨(at_ out y).toNat,(Int.toNat_of_nonneg h).symm,b.vis y hy h⟩
end
set_option linter.unusedSimpArgs false
set_option maxRecDepth 100000
theorem xA {h0:AH} (w:WfH h0) (t:Tab) (from_ n:Nat) (ht:V6 t) (hn:qC t=n) (hn2:n≤1000) (hf:from_<n) :
 Fn Tryz.prog Xh 93 [jg t,.int .i64 from_] h0 (fun v h'=>∃ l,DistL (zu t) n from_ l∧Hs h0 h' [.sl v 3 1 eI l]):=by
 have S:=Hs.start w
 refine qF rfl Tryz.func93 rfl rfl ?_
 all_goals (repeat' (first|refine qi ?_|refine ql rfl ?_|refine qo ?_|refine qA ?_|refine qm ?_|refine qR ?_|(refine qf 0 ?_;(refine bx S ?_;clear S;intro b h S);refine mv ?_;refine qg ?_)|(refine qf 1 ?_;(first|refine lB S rfl rfl ?_|refine lES S rfl rfl ?_|refine zS S ?_))))
 (refine qw rfl rfl rfl rfl rfl ((Ze S.wf t).mono ?_);rintro _ h ⟨rfl,x⟩)<;>(replace S:=S.qy x;clear x;rw [hn])
 refine VJ (z:=1) (by_:=8) (enc:=eI) (y0:=0) S rfl rfl rfl rfl rfl rfl rfl rfl rfl (by intro _;rfl) (by first|omega|grind) rfl rfl ?_;clear S;intro v h S;refine mv ?_;refine qg ?_
 simp only [Int.toNat_natCast] at S
 all_goals (repeat' (first|refine qi ?_|refine ql rfl ?_|refine qo ?_|refine qA ?_|refine qm ?_|refine qR ?_|(refine qf 2 ?_;refine mv ?_;(first|refine QD S ?_|refine ZC S rfl rfl ?_);refine mv ?_;refine qg ?_)))
 refine qE (σ:=Nat×List Int) (fun (i,l) h'=>Hs h0 h' [.sl v 3 1 eI l,.blk b (eT t) 25]∧i≤n∧l.length=n∧∀ y:Nat,y<i→at_ l y = -1) (fun (i,l)=>n - i) (fun (i,l)=>[(1,.int .i64 from_),(2,.pointer (some ⟨b,0,none⟩)),(5,v),(14,v),(15,.int .i64 n),(16,.int .i64 i)]) (0,List.replicate n 0) (by repeat (first|exact Ks.le_nil _|refine Ks.qh rfl ?_|refine Ks.zf ?_)) ?_ ?_
 ·exact ⟨S,Nat.zero_le _,by simp,fun y hy=>absurd hy (Nat.not_lt_zero _)⟩
 rintro ⟨i,l⟩ h ⟨S,h1,h2,h3⟩
 all_goals (repeat' (first|refine qi ?_|refine ql rfl ?_|refine qo ?_|refine qA ?_|refine qm ?_|refine qR ?_|(refine qf 3 ?_;(first|refine cT ?_|refine cF ?_|(refine cS ?_ ?_<;>intro hc))<;>(refine qg ?_))|(refine qf 4 ?_;refine mv ?_;refine mv ?_;refine qg ?_)|(refine qf 5 ?_;refine mv ?_;refine mv ?_;(first|refine jv S ?_|refine ixS S rfl rfl ?_);(first|(refine sB S rfl rfl ?_;clear S;intro h S)|(refine sE S rfl rfl ?_;clear S;intro h S));refine qg ?_)|(refine qf 6 ?_;(first|refine ad ?_|refine vl ?_);refine mv ?_;refine qg ?_)|(refine qf 7 ?_;refine mv ?_;refine mv ?_;(first|refine jv S ?_|refine ixS S rfl rfl ?_);(first|(refine sB S rfl rfl ?_;clear S;intro h S)|(refine sE S rfl rfl ?_;clear S;intro h S));refine qg ?_)|(refine qf 8 ?_;refine mv ?_;(refine one 1 S ?_;clear S;intro u h S);refine mv ?_;refine qg ?_)))
 ·refine ⟨(i+1,l.set i (-1)),?_,?_,(by repeat (first|exact Ks.le_nil _|refine Ks.qh rfl ?_|refine Ks.zf ?_))⟩
  ·simp only;omega
  ·refine ⟨S,by omega,by simpa using h2,fun y hy=>?_⟩
   rw [at_set l i _ _ (by omega)]
   split
   ·rfl
   ·rename_i hne;exact h3 y (by simp at hne;omega)
 have hin:i=n:=by omega
 have B:Bfs (zu t) n from_ (l.set from_ 0) [(from_:Int)]:=by
  refine Bfs.start (by simpa using h2) hf ?_ fun y hy hne=>?_
  ·rw [at_set l from_ _ _ (by omega),if_pos (by simp)]
  ·rw [at_set l from_ _ _ (by omega),if_neg (by simpa using hne)];exact h3 y (by omega)
 replace S:=S.one eI (from_:Int) rfl
 clear h1 h2 h3 hc hin
 refine qE (σ:=List Int×List Int×Value) (fun (out,q,vq) h'=>Hs h0 h' [.sl vq 3 1 eI q,.sl v 3 1 eI out,.blk b (eT t) 25]∧Bfs (zu t) n from_ out q∧Xl out+q.length≤n) (fun (out,q,vq)=>Xl out+q.length) (fun (out,q,vq)=>[(2,.pointer (some ⟨b,0,none⟩)),(5,v),(7,vq)]) (l.set from_ 0,[(from_:Int)],u) (by repeat (first|exact Ks.le_nil _|refine Ks.qh rfl ?_|refine Ks.zf ?_)) ?_ ?_
 ·have:=B.low from_ hf
  have h0:=B.src.2
  exact ⟨S,B,by simp only [List.length_cons,List.length_nil];omega⟩
 clear S B
 rintro ⟨out,q,vq⟩ h ⟨S,B,hrq⟩
 all_goals (repeat' (first|refine qi ?_|refine ql rfl ?_|refine qo ?_|refine qA ?_|refine qm ?_|refine qR ?_|(refine qf 9 ?_;refine mv ?_;(first|refine QD S ?_|refine ZC S rfl rfl ?_);(first|refine cT ?_|refine cF ?_|(refine cS ?_ ?_<;>intro hc))<;>(refine qg ?_))|(refine qf 10 ?_;refine mv ?_;(first|refine jv S ?_|refine ixS S rfl rfl ?_);(first|refine lB S rfl rfl ?_|refine lES S rfl rfl ?_|refine zS S ?_);refine mv ?_;refine qg ?_)|(refine qf 11 ?_;refine mv ?_;(refine dr S rfl rfl ?_;clear S;intro vq S);refine mv ?_;refine qg ?_)|(refine qf 12 ?_;refine mv ?_;(first|refine QD S ?_|refine ZC S rfl rfl ?_);refine mv ?_;refine qg ?_)|(refine qf 19 ?_;refine mv ?_;refine mv ?_;refine qg ?_)))
 ·cases q with
  | nil=>simp at hc
  | cons k q =>
   clear hc
   have BI:=B.take
   obtain ⟨k1,k2,k3⟩:=BI.kin
   have hol:=B.len
   rw [List.length_cons] at hrq
   refine qE (σ:=Nat×List Int×List Int×Value) (fun (m,o2,q2,vq) h'=>Hs h0 h' [.sl vq 3 1 eI q2,.sl v 3 1 eI o2,.blk b (eT t) 25]∧m≤n∧BfsIn (zu t) n from_ o2 q2 k m∧Xl o2+q2.length≤Xl out+q.length) (fun (m,o2,q2,vq)=>n - m) (fun (m,o2,q2,vq)=>[(2,.pointer (some ⟨b,0,none⟩)),(5,v),(7,vq),(8,.int .i64 k),(36,v),(37,.int .i64 n),(38,.int .i64 m)]) (0,out,q,vq) (by repeat (first|exact Ks.le_nil _|refine Ks.qh rfl ?_|refine Ks.zf ?_)) ?_ ?_
   ·exact ⟨S,Nat.zero_le _,BI,Nat.le_refl _⟩
   clear S BI k3 hol
   rintro ⟨m,o2,q2,vq⟩ h ⟨S,h1,BI,hm⟩
   have hol:=BI.len
   have hkk:=BI.low k.toNat (by omega)
   rw [Int.toNat_of_nonneg k1] at hkk
   have k3:=BI.kin.2.2
   all_goals (repeat' (first|refine qi ?_|refine ql rfl ?_|refine qo ?_|refine qA ?_|refine qm ?_|refine qR ?_|(refine qf 13 ?_;(first|refine cT ?_|refine cF ?_|(refine cS ?_ ?_<;>intro hc))<;>(refine qg ?_))|(refine qf 14 ?_;refine mv ?_;(first|refine jv S ?_|refine ixS S rfl rfl ?_);(first|refine lB S rfl rfl ?_|refine lES S rfl rfl ?_|refine zS S ?_);refine mv ?_;refine mv ?_;refine qg ?_)|(refine qf 15 ?_;refine mv ?_;(first|refine cT ?_|refine cF ?_|(refine cS ?_ ?_<;>intro hc))<;>(refine mv ?_;(first|refine off ?_|(first|refine lB S rfl rfl ?_|refine lES S rfl rfl ?_|refine zS S ?_));(first|refine off ?_|refine mv ?_);(first|refine off ?_|refine mv ?_);(first|(refine off ?_;refine vl ?_;refine qg ?_)|skip)))|(refine qf 16 ?_;(iterate 4 refine mv ?_);(first|refine jv S ?_|refine ixS S rfl rfl ?_);(first|refine lB S rfl rfl ?_|refine lES S rfl rfl ?_|refine zS S ?_);(first|refine ad ?_|refine vl ?_);(first|refine jv S ?_|refine ixS S rfl rfl ?_);(first|(refine sB S rfl rfl ?_;clear S;intro h S)|(refine sE S rfl rfl ?_;clear S;intro h S));refine qg ?_)|(refine qf 17 ?_;refine mv ?_;refine mv ?_;(refine one 1 S ?_;clear S;intro u h S))|(refine qf 18 ?_;(first|refine ad ?_|refine vl ?_);refine mv ?_;refine qg ?_)))
   ·(refine qw rfl rfl rfl rfl rfl ((KC S.wf t k m ht (by omega) (by omega)).mono ?_);rintro _ h ⟨⟨rfl,hq⟩|⟨rfl,hq⟩,x⟩)<;>(replace S:=S.qy x;clear x;refine vl ?_;refine qg ?_)
    all_goals (repeat' (first|refine qi ?_|refine ql rfl ?_|refine qo ?_|refine qA ?_|refine qm ?_|refine qR ?_|(refine qf 16 ?_;(iterate 4 refine mv ?_);(first|refine jv S ?_|refine ixS S rfl rfl ?_);(first|refine lB S rfl rfl ?_|refine lES S rfl rfl ?_|refine zS S ?_);(first|refine ad ?_|refine vl ?_);(first|refine jv S ?_|refine ixS S rfl rfl ?_);(first|(refine sB S rfl rfl ?_;clear S;intro h S)|(refine sE S rfl rfl ?_;clear S;intro h S));refine qg ?_)|(refine qf 17 ?_;refine mv ?_;refine mv ?_;(refine one 1 S ?_;clear S;intro u h S))|(refine qf 18 ?_;(first|refine ad ?_|refine vl ?_);refine mv ?_;refine qg ?_)))
    ·refine app  S rfl rfl ?_;clear S;intro v h S;refine mv ?_;refine qg ?_
     all_goals (repeat' (first|refine qi ?_|refine ql rfl ?_|refine qo ?_|refine qA ?_|refine qm ?_|refine qR ?_|(refine qf 18 ?_;(first|refine ad ?_|refine vl ?_);refine mv ?_;refine qg ?_)))
     have hmn:m<n:=by omega
     have hneg:at_ o2 m<0:=hc
     have hr:=Y3 o2 m (at_ o2 k+1) (by omega) (by simpa using hneg) (by omega)
     refine ⟨(m+1,o2.set m (at_ o2 k+1),q2 ++ [(m:Int)],v),?_,?_,(by repeat (first|exact Ks.le_nil _|refine Ks.qh rfl ?_|refine Ks.zf ?_))⟩
     ·simp only;omega
     ·exact ⟨S,by omega,BI.meet (by omega) hq hneg,by rw [List.length_append,List.length_cons,List.length_nil];omega⟩
    ·refine ⟨(m+1,o2,q2,vq),?_,?_,(by repeat (first|exact Ks.le_nil _|refine Ks.qh rfl ?_|refine Ks.zf ?_))⟩
     ·simp only;omega
     ·exact ⟨S,by omega,BI.pass (fun q=>absurd q hq),hm⟩
   ·refine ⟨(m+1,o2,q2,vq),?_,?_,(by repeat (first|exact Ks.le_nil _|refine Ks.qh rfl ?_|refine Ks.zf ?_))⟩
    ·simp only;omega
    ·exact ⟨S,by omega,BI.pass (fun _=>Int.not_lt.1 hc),hm⟩
   ·refine ⟨(o2,q2,vq),?_,?_,(by repeat (first|exact Ks.le_nil _|refine Ks.qh rfl ?_|refine Ks.zf ?_))⟩
    ·simp only [List.length_cons];omega
    ·exact ⟨S,BI.back (by omega),by omega⟩
 ·refine qx ⟨_,rfl,?_⟩
  have:q=[]:=by
   cases q with
   | nil=>rfl
   | cons k q=>simp at hc
  subst this
  exact ⟨out,B.finish,S.only (.there .here)⟩
def X6 (a b:Int):Int:=if b > 0 then a else a / 2
def WC (s a b:Int):Int:=if s=2 then X6 a b else if s=3 then b+a / 2 else if s=4 then a / 2 else 0
theorem GV {a:Int} (h:0≤a):Int.tdiv a 2=a / 2:=Int.tdiv_eq_ediv_of_nonneg h
theorem qfl {h:AH} (a b:Int):Fn Tryz.prog Xh 146 [.int .i64 a,.int .i64 b] h (fun v h'=>v = .int .i64 0∧h'=h):=by
 refine qF rfl Tryz.func146 rfl rfl ?_
 all_goals (repeat' (first|refine qi ?_|(refine qf 0 ?_;refine mv ?_;refine qg ?_)|(refine qf 1 ?_;refine mv ?_;refine qg ?_)))
 all_goals (refine qx ⟨_,rfl,?_⟩)
 exact ⟨rfl,rfl⟩
theorem qfk {h:AH} (a b:Int) (ha:0≤a∧a≤100) (hb:0≤b∧b≤100):Fn Tryz.prog Xh 151 [.int .i64 a,.int .i64 b] h (fun v h'=>v = .int .i64 (X6 a b)∧h'=h):=by
 refine qF rfl Tryz.func151 rfl rfl ?_
 all_goals (repeat' (first|refine qi ?_|refine ql rfl ?_|refine qo ?_|(refine qf 0 ?_;refine mv ?_;refine qg ?_)|(refine qf 1 ?_;refine mv ?_;(first|(refine cS ?_ ?_<;>intro hc))<;>(refine qg ?_))|(refine qf 2 ?_;refine mv ?_;refine mv ?_;refine qg ?_)|(refine qf 3 ?_;refine mv ?_;refine qu ?_;refine mv ?_;refine qg ?_)))
 all_goals (refine qx ⟨_,rfl,?_⟩)
 all_goals (refine ⟨?_,rfl⟩;unfold X6)
 ·rw [if_pos (by omega)];rfl
 ·rw [if_neg (by omega),← GV (by omega)];rfl
theorem qfj {h:AH} (a b:Int) (ha:0≤a∧a≤100) (hb:0≤b∧b≤100):Fn Tryz.prog Xh 156 [.int .i64 a,.int .i64 b] h (fun v h'=>v = .int .i64 (b+a / 2)∧h'=h):=by
 have e:=GV ha.1
 refine qF rfl Tryz.func156 rfl rfl ?_
 all_goals (repeat' (first|refine qi ?_|(refine qf 0 ?_;refine mv ?_;refine qg ?_)|(refine qf 1 ?_;refine mv ?_;refine mv ?_;refine qu ?_;refine ad ?_;refine mv ?_;refine qg ?_)))
 all_goals (refine qx ⟨_,rfl,?_⟩)
 all_goals (refine ⟨?_,rfl⟩;rw [← e];rfl)
theorem qfi {h:AH} (a b:Int) (ha:0≤a∧a≤100) (hb:0≤b∧b≤100):Fn Tryz.prog Xh 161 [.int .i64 a,.int .i64 b] h (fun v h'=>v = .int .i64 (a / 2)∧h'=h):=by
 have e:=GV ha.1
 refine qF rfl Tryz.func161 rfl rfl ?_
 all_goals (repeat' (first|refine qi ?_|(refine qf 0 ?_;refine mv ?_;refine qg ?_)|(refine qf 1 ?_;refine mv ?_;refine qu ?_;refine mv ?_;refine qg ?_)))
 all_goals (refine qx ⟨_,rfl,?_⟩)
 all_goals (refine ⟨?_,rfl⟩;rw [← e];rfl)
def ZG (t:Tab):Int:=WC t.shape t.A t.B
theorem qd9 {t:Tab} (h:V6 t) (hn:0<qC t):0≤ZG t∧ZG t<qC t:=by
 obtain ⟨h1,h2,h3,h4,h5,h6⟩:=h
 unfold ZG WC X6
 unfold qC jh QB Zn Zl Ji at hn ⊢
 repeat' split
 all_goals (repeat' split at hn)
 all_goals omega
def Yj (n:Nat) (l:List Int):List Int:=l.map fun x=>if x<0 then (n:Int) else x
def Ju (n:Nat) (l:List Int) (i:Nat):List Int:=(Yj n l).take i ++ l.drop i
theorem yt (n:Nat) (l:List Int) (i:Nat) (h:i≤l.length):(Ju n l i).length=l.length:=by simp [Ju,Yj];omega
theorem XF (n:Nat) (l:List Int) (i:Nat) (h:i<l.length):(Ju n l i).getD i default=l.getD i default:=by
 simp only [Ju,Yj,List.getD_eq_getElem?_getD]
 rw [List.getElem?_append_right (by simp;omega)]
 simp [Nat.min_eq_left (Nat.le_of_lt h)]
theorem VH (n:Nat) (l:List Int) (i:Nat) (h:i<l.length):Ju n l (i+1)=(Ju n l i).set i (if l.getD i default<0 then (n:Int) else l.getD i default):=by
 have e:l.getD i default=l[i]:=by simp [List.getD_eq_getElem?_getD,h]
 apply List.ext_getElem?
 intro j
 rw [List.getElem?_set]
 simp only [Ju,Yj,e]
 rcases Nat.lt_trichotomy j i with q|q|q
 ·rw [if_neg (by omega),List.getElem?_append_left (by simp;omega),List.getElem?_append_left (by simp;omega)]
  rw [List.getElem?_take_of_lt (by omega),List.getElem?_take_of_lt (by omega)]
 ·subst q
  rw [if_pos rfl,List.getElem?_append_left (by simp;omega)]
  rw [List.getElem?_take_of_lt (by omega)]
  simp [h]
  omega
 ·rw [if_neg (by omega),List.getElem?_append_right (by simp;omega),List.getElem?_append_right (by simp;omega)]
  simp [Nat.min_eq_left (Nat.le_of_lt h),Nat.min_eq_left h]
  congr 1;omega
theorem wY (n:Nat) (l:List Int) (i:Nat) (h:i<l.length) (h2:¬ l.getD i default<0):Ju n l (i+1)=Ju n l i:=by
 rw [VH n l i h,if_neg h2]
 apply List.ext_getElem?
 intro j
 rw [List.getElem?_set]
 split
 ·rename_i q
  subst q
  have:=XF n l i h
  have hl:=yt n l i (by omega)
  rw [if_pos (by omega),← this]
  simp [List.getD_eq_getElem?_getD,hl,h]
 ·rfl
theorem kz {h0:AH} (w:WfH h0) (t:Tab) (n:Nat) (ht:V6 t) (hn:qC t=n) (hn2:n≤1000) (hn3:0<n) :
 Fn Tryz.prog Xh 88 [jg t] h0 (fun v h'=>∃ l,DistL (zu t) n (ZG t).toNat l∧Hs h0 h' [.sl v 3 1 eI (Yj n l)]):=by
 have S:=Hs.start w
 have hh:=qd9 ht (by omega)
 refine qF rfl Tryz.func88 rfl rfl ?_
 all_goals (repeat' (first|refine qi ?_|(refine qf 0 ?_;(refine bx S ?_;clear S;intro b h S);refine mv ?_;refine qg ?_)|(refine qf 1 ?_;refine vl ?_;refine lB S rfl rfl ?_)))
 obtain ⟨bt,hnm⟩:∃ x,x=b:=⟨_,rfl⟩;subst hnm
 (refine qw rfl rfl rfl rfl rfl ((Qg S.wf _).mono ?_);rintro _ h ⟨⟨rfl,hs⟩|⟨rfl,hs⟩|⟨rfl,hs⟩|⟨rfl,hs⟩|⟨rfl,hs⟩,x⟩)<;>(replace S:=S.qy x;clear x;refine mv ?_;refine vl ?_;refine vl ?_;(refine al S ?_;clear S;intro b h S);(first|(refine sB S rfl rfl ?_;clear S;intro h S));refine mv ?_;refine qg ?_)
 all_goals (repeat' (refine qi ?_))
 all_goals (try (exfalso;unfold V6 at ht;omega))
 all_goals (obtain ⟨ht1,ht2,ht3,ht4,ht5,ht6⟩:=ht)
 all_goals (obtain ⟨k,hk⟩:∃ k:Nat,ZG t=k:=⟨(ZG t).toNat,by omega⟩)
 all_goals (refine jG (id:=2) [(0,(0,1))] [some (bt)] ?_;refine qj ?_;(first|(refine lB S rfl rfl ?_<;>refine qg ⟨⟨by (first|exact Or.inr rfl),rfl⟩,?_⟩));refine qj ?_;(first|(refine vl ?_<;>refine qg ⟨⟨by (first|exact True.intro),rfl⟩,?_⟩));refine qj ?_;(first|(refine lB S rfl rfl ?_<;>refine qg ⟨⟨by (first|exact True.intro),rfl⟩,?_⟩));refine qj ?_;(first|(refine vl ?_<;>refine qg ⟨⟨by (first|exact True.intro),rfl⟩,?_⟩));refine qj ?_;(first|(refine lB S rfl rfl ?_<;>refine qg ⟨⟨by (first|exact True.intro),rfl⟩,?_⟩));refine qj ?_;(first|(refine vl ?_<;>refine qg ⟨⟨by (first|exact True.intro),rfl⟩,?_⟩));refine qj ?_;(first|(refine lB S rfl rfl ?_<;>refine qg ⟨⟨by (first|exact True.intro),rfl⟩,?_⟩)))
 any_goals (((refine qj ?_;first|refine qN rfl rfl rfl rfl ((qfl t.A t.B).mono ?_)|refine qN rfl rfl rfl rfl ((qfk t.A t.B ⟨ht3,ht4⟩ ⟨ht5,ht6⟩).mono ?_)|refine qN rfl rfl rfl rfl ((qfj t.A t.B ⟨ht3,ht4⟩ ⟨ht5,ht6⟩).mono ?_)|refine qN rfl rfl rfl rfl ((qfi t.A t.B ⟨ht3,ht4⟩ ⟨ht5,ht6⟩).mono ?_));rintro v2 _ ⟨e,rfl⟩)<;>((refine qg ⟨⟨True.intro,?_⟩,?_⟩;(focus ((show keepsX _ _ _ _ _;simp only [keepsX];(repeat' (first|exact True.intro|refine And.intro ?_ ?_));all_goals (intro hw;first|exact True.intro)))));obtain rfl:v2 = .int .i64 (k:Int):=by rw [e,← hk];simp [ZG,WC,hs]))
 any_goals (((refine qj ?_;first|refine qw rfl rfl rfl rfl rfl ((xA S.wf t k n ⟨ht1,ht2,ht3,ht4,ht5,ht6⟩ hn hn2 (by omega)).mono ?_));rintro v h ⟨l,hl,x⟩)<;>((refine qg ⟨⟨True.intro,?_⟩,?_⟩;(focus ((show keepsX _ _ _ _ _;simp only [keepsX];(repeat' (first|exact True.intro|refine And.intro ?_ ?_));all_goals (intro hw;first|exact x.ext.old _ S.bB)))));replace S:=S.jo x;clear x;refine qj ?_;(first|(refine mv ?_<;>refine qg ⟨⟨by (first|exact True.intro),rfl⟩,?_⟩));refine jd ?_))
 all_goals (rw [hk,Int.toNat_natCast])
 all_goals (repeat' (first|refine qi ?_|refine qm ?_|(refine qf 3 ?_;refine mv ?_;refine ZC S rfl rfl ?_;refine mv ?_;refine qg ?_)))
 all_goals
  have hlen:=hl.1
  replace S:=S.del (.there .here)
  clear e
  refine qE (σ:=Nat) (fun i h'=>Hs h0 h' [.sl v 3 1 eI (Ju n l i),.blk bt (jg t).cells.toList 25]∧i≤n) (fun i=>n - i) (fun i=>[(1,.pointer (some ⟨bt,0,none⟩)),(5,v),(23,v),(24,.int .i64 n),(25,.int .i64 i)]) 0 (by repeat (first|exact Ks.le_nil _|refine Ks.qh rfl ?_|refine Ks.zf ?_)) ?_ ?_
  ·refine ⟨?_,Nat.zero_le _⟩
   have:Ju n l 0=l:=by simp [Ju]
   rw [this];exact S
  clear S
  rintro i h ⟨S,h1⟩
  have hm:=yt n l i (by omega)
  all_goals (repeat' (first|refine qi ?_|refine ql rfl ?_|refine qo ?_|refine qA ?_|refine qm ?_|(refine qf 4 ?_;(first|(refine cS ?_ ?_<;>intro hc))<;>(refine qg ?_))|(refine qf 5 ?_;refine mv ?_;refine qH S rfl rfl ?_;refine qI S rfl rfl ?_;refine mv ?_;refine mv ?_;refine qg ?_)|(refine qf 6 ?_;refine mv ?_;(first|(refine cS ?_ ?_<;>intro hc))<;>(refine qg ?_))|(refine qf 7 ?_;(iterate 3 refine mv ?_);refine ZC S rfl rfl ?_;refine qH S rfl rfl ?_;(first|(refine ZK S rfl rfl ?_;clear S;intro h S));refine qg ?_)|(refine qf 8 ?_;refine ad ?_;refine mv ?_;refine qg ?_)|(refine qf 9 ?_;refine mv ?_;refine mv ?_;refine qg ?_)))
  ·refine ⟨i+1,?_,?_,(by repeat (first|exact Ks.le_nil _|refine Ks.qh rfl ?_))⟩
   ·show n - (i+1)<n - i;omega
   ·simp only [Int.toNat_natCast] at hc S
    have hi:i<n:=by omega
    rw [XF n l i (by omega)] at hc
    have:=VH n l i (by omega)
    rw [if_pos hc] at this
    refine ⟨?_,by omega⟩
    rw [this]
    have:((Ju n l i).length:Int)=n:=by omega
    rw [this] at S
    exact S
  ·refine ⟨i+1,?_,?_,(by repeat (first|exact Ks.le_nil _|refine Ks.qh rfl ?_))⟩
   ·show n - (i+1)<n - i;omega
   ·simp only [Int.toNat_natCast] at hc
    rw [XF n l i (by omega)] at hc
    refine ⟨?_,by omega⟩
    rw [wY n l i (by omega) hc]
    exact S
  refine qx ⟨_,rfl,?_⟩
  have hi:i=n:=by omega
  refine ⟨l,hl,?_⟩
  have:Ju n l i=Yj n l:=by unfold Ju;rw [List.take_of_length_le (by simp [Yj];omega),List.drop_eq_nil_of_le (by omega)];simp
  rw [← this]
  exact S.del (.there .here)
def yx (x:UInt8):Prop:=97≤x.toNat∧x.toNat≤122
def P7 (s:List UInt8):Prop:=1≤s.length∧s.length≤12∧∀ i,i<s.length→yx (s.getD i default)
theorem qe0 {h0:AH} (w:WfH h0) (s:List UInt8) (hs:s.length≤1000000):Fn Tryz.prog Xh 114 [str s] h0 (fun v h'=>BoolIs v (P7 s)∧Hs h0 h' []):=by
 have S:=Hs.start w
 refine qF rfl Tryz.func114 rfl rfl ?_
 all_goals (repeat' (first|refine qi ?_|refine qm ?_|(refine qf 0 ?_;refine mv ?_;refine qg ?_)|(refine qf 1 ?_;refine mv ?_;refine qg ?_)))
 refine qE (σ:=Nat) (fun i h'=>Hs h0 h' []∧i≤s.length∧∀ j,j<i→yx (s.getD j default)) (fun i=>s.length - i) (fun i=>[(0,str s),(3,.int .i64 i)]) 0 (by repeat (first|exact Ks.le_nil _|refine Ks.qh rfl ?_)) ?_ ?_
 ·exact ⟨S,Nat.zero_le _,fun j hj=>absurd hj (Nat.not_lt_zero _)⟩
 clear S
 rintro i h ⟨S,h1,h2⟩
 all_goals (repeat' (first|refine qi ?_|refine ql rfl ?_|refine qo ?_|refine qA ?_|refine qm ?_|(refine qf 2 ?_;refine mv ?_;refine mv ?_;refine tl ?_;(first|(refine cS ?_ ?_<;>intro hc))<;>(refine qg ?_))|(refine qf 3 ?_;refine mv ?_;refine ad ?_;refine mv ?_;refine qg ?_)|(refine qf 4 ?_;refine mv ?_;refine mv ?_;refine ti ?_;(first|(refine cS ?_ ?_<;>intro hc))<;>(refine mv ?_;(first|refine off ?_|refine mv ?_);(first|refine off ?_|refine mv ?_);(first|refine off ?_|(refine ti ?_));(first|refine off ?_|(first|(refine cS ?_ ?_<;>intro hc)))<;>(refine vl ?_;refine qg ?_)))|(refine qf 5 ?_;refine mv ?_;refine qg ?_)|(refine qf 6 ?_;refine mv ?_;refine tl ?_;(first|(refine cS ?_ ?_<;>intro hc))<;>(refine mv ?_;(first|refine off ?_|refine mv ?_);(first|refine off ?_|refine tl ?_);(first|refine off ?_|(first|(refine cS ?_ ?_<;>intro hc)))<;>(refine vl ?_;refine mv ?_;refine qg ?_)))))
 all_goals (try simp only [Int.toNat_natCast] at *)
 ·refine qx ⟨_,rfl,?_⟩
  exact ⟨.inr ⟨rfl,fun q=>by have:=q.2.2 i (by omega);unfold yx at this;simp only [show (default:UInt8)=0 from rfl] at this;omega⟩,S.drop⟩
 ·refine qx ⟨_,rfl,?_⟩
  exact ⟨.inr ⟨rfl,fun q=>by have:=q.2.2 i (by omega);unfold yx at this;simp only [show (default:UInt8)=0 from rfl] at this;omega⟩,S.drop⟩
 ·refine ⟨i+1,?_,?_,(by repeat (first|exact Ks.le_nil _|refine Ks.qh rfl ?_))⟩
  ·show s.length - (i+1)<s.length - i;omega
  ·refine ⟨S,by omega,fun j hj=>?_⟩
   rcases Nat.lt_or_ge j i with q|q
   ·exact h2 j q
   ·have e:j=i:=by omega
    subst e
    unfold yx
    simp only [show (default:UInt8)=0 from rfl]
    omega
 all_goals (refine qx ⟨_,rfl,?_⟩)
 all_goals refine ⟨?_,S.drop⟩
 ·exact .inl ⟨rfl,by omega,by omega,fun j hj=>h2 j (by omega)⟩
 ·exact .inr ⟨rfl,fun q=>by have:=q.2.1;omega⟩
 ·exact .inr ⟨rfl,fun q=>by have:=q.1;omega⟩
theorem qaS {h0:AH} (w:WfH h0) (s:List UInt8) (hs:s.length≤1000000):Fn Tryz.prog Xh 123 [str s] h0 (fun v h'=>BoolIs v (P7 s)∧Hs h0 h' []):=by
 have S:=Hs.start w
 refine qF rfl Tryz.func123 rfl rfl ?_
 all_goals (repeat' (first|refine qi ?_|refine ql rfl ?_|refine qo ?_|refine qm ?_|(refine qf 0 ?_;refine mv ?_;refine qg ?_)|(refine qf 1 ?_;refine mv ?_;refine tl ?_;(first|(refine cS ?_ ?_<;>intro hc))<;>(refine mv ?_;(first|refine off ?_|refine mv ?_);(first|refine off ?_|refine tl ?_);(first|refine off ?_|(first|(refine cS ?_ ?_<;>intro hc)))<;>(refine vl ?_;refine qg ?_)))|(refine qf 2 ?_;refine mv ?_;refine qg ?_)|(refine qf 3 ?_;refine mv ?_;refine qg ?_)))
 ·refine qx ⟨_,rfl,?_⟩
  exact ⟨.inr ⟨rfl,fun q=>by have:=q.1;omega⟩,S.drop⟩
 ·refine qx ⟨_,rfl,?_⟩
  exact ⟨.inr ⟨rfl,fun q=>by have:=q.2.1;omega⟩,S.drop⟩
 rename_i hc1
 refine qE (σ:=Nat) (fun i h'=>Hs h0 h' []∧i≤s.length∧∀ j,j<i→yx (s.getD j default)) (fun i=>s.length - i) (fun i=>[(0,str s),(3,.int .i64 i)]) 0 (by repeat (first|exact Ks.le_nil _|refine Ks.qh rfl ?_)) ?_ ?_
 ·exact ⟨S,Nat.zero_le _,fun j hj=>absurd hj (Nat.not_lt_zero _)⟩
 clear S
 rintro i h ⟨S,h1,h2⟩
 all_goals (repeat' (first|refine qi ?_|refine ql rfl ?_|refine qo ?_|refine qA ?_|refine qm ?_|(refine qf 4 ?_;refine mv ?_;refine mv ?_;refine tl ?_;(first|(refine cS ?_ ?_<;>intro hc))<;>(refine qg ?_))|(refine qf 5 ?_;refine mv ?_;refine ad ?_;refine mv ?_;refine qg ?_)|(refine qf 6 ?_;refine mv ?_;refine mv ?_;refine ti ?_;(first|(refine cS ?_ ?_<;>intro hc))<;>(refine mv ?_;(first|refine off ?_|refine mv ?_);(first|refine off ?_|refine mv ?_);(first|refine off ?_|(refine ti ?_));(first|refine off ?_|(first|(refine cS ?_ ?_<;>intro hc)))<;>(refine vl ?_;refine qg ?_)))|(refine qf 7 ?_;refine mv ?_;refine qg ?_)|(refine qf 8 ?_;refine mv ?_;refine qg ?_)))
 all_goals (try simp only [Int.toNat_natCast] at *)
 ·refine qx ⟨_,rfl,?_⟩
  exact ⟨.inr ⟨rfl,fun q=>by have:=q.2.2 i (by omega);unfold yx at this;simp only [show (default:UInt8)=0 from rfl] at this;omega⟩,S.drop⟩
 ·refine qx ⟨_,rfl,?_⟩
  exact ⟨.inr ⟨rfl,fun q=>by have:=q.2.2 i (by omega);unfold yx at this;simp only [show (default:UInt8)=0 from rfl] at this;omega⟩,S.drop⟩
 ·refine ⟨i+1,?_,?_,(by repeat (first|exact Ks.le_nil _|refine Ks.qh rfl ?_))⟩
  ·show s.length - (i+1)<s.length - i;omega
  ·refine ⟨S,by omega,fun j hj=>?_⟩
   rcases Nat.lt_or_ge j i with q|q
   ·exact h2 j q
   ·have e:j=i:=by omega
    subst e
    unfold yx
    simp only [show (default:UInt8)=0 from rfl]
    omega
 all_goals (refine qx ⟨_,rfl,?_⟩)
 exact ⟨.inl ⟨rfl,by omega,by omega,fun j hj=>h2 j (by omega)⟩,S.drop⟩
def Yz (n:Int) (l:List Int):Prop:=∀ i,i<l.length→(0≤l.getD i default∧l.getD i default<n)∧(0<i→l.getD (i - 1) default<l.getD i default)
def qaB (t:Tab):Prop:=0≤t.X∧t.X≤1000∧0≤t.Y∧t.Y≤1000
open Classical in
noncomputable def chk (t:Tab):Int:=if ¬ P7 t.name then 4 else if qC t=0 then 10 else if ¬ Yz (qC t) t.opn then 11 else if ¬ qaB t then 2 else 0
abbrev TabR (h:AH) (t:Tab):Prop:=RdL h t.ov 1 eI t.opn∧t.name.length≤1000∧t.opn.length≤1000
abbrev qgF (h:AH) (t:Tab):Prop:=RdL h t.ov 1 eI t.opn∧t.name.length≤1000000∧t.opn.length≤1000000
theorem TabR.toL {h:AH} {t:Tab} (r:TabR h t):qgF h t:=⟨r.1,Nat.le_trans r.2.1 (by decide),Nat.le_trans r.2.2 (by decide)⟩
theorem kS {h0:AH} (w:WfH h0) (t:Tab) (r:qgF h0 t):Fn Tryz.prog Xh 56 [jg t] h0 (fun v h'=>v = .int .i64 (chk t)∧Hs h0 h' []):=by
 have S:=Hs.start w
 obtain ⟨hr,hnm,hol⟩:=r
 refine qF rfl Tryz.func56 rfl rfl ?_
 all_goals (repeat' (first|refine qi ?_|(refine qf 0 ?_;(refine bx S ?_;clear S;intro b h S);refine mv ?_;refine qg ?_)|(refine qf 1 ?_;refine lB S rfl rfl ?_)))
 (refine qw rfl rfl rfl rfl rfl ((Ze S.wf t).mono ?_);rintro _ h ⟨rfl,x⟩)<;>(replace S:=S.qy x;clear x;refine mv ?_;refine qg ?_)
 all_goals (repeat' (first|refine qi ?_|refine qm ?_|(refine qf 2 ?_;refine mv ?_;refine qg ?_)|(refine qf 3 ?_;refine vl ?_;refine lB S rfl rfl ?_)))
 (refine qw rfl rfl rfl rfl rfl ((qe0 S.wf t.name hnm).mono ?_);rintro _ h ⟨⟨rfl,hq⟩|⟨rfl,hq⟩,x⟩)<;>(replace S:=S.qy x;clear x;refine vl ?_;refine mv ?_;refine qg ?_)
 all_goals (repeat' (first|refine qi ?_|refine ql rfl ?_|refine qo ?_|refine qm ?_|(refine qf 4 ?_;refine mv ?_;refine qg ?_)|(refine qf 5 ?_;refine mv ?_;(first|(refine cS ?_ ?_<;>intro hc))<;>(refine mv ?_;refine qg ?_))|(refine qf 6 ?_;refine mv ?_;refine qg ?_)|(refine qf 7 ?_;refine vl ?_;refine lB S rfl rfl ?_;refine QD S ?_;refine mv ?_;refine qg ?_)))
 ·refine qx ⟨_,rfl,?_⟩
  exact ⟨by unfold chk;rw [if_neg (by simpa using hq),if_pos hc];rfl,S.drop⟩
 ·refine qE (σ:=Nat×Int) (fun (i,la) h'=>Hs h0 h' [.blk b (jg t).cells.toList 25]∧i≤t.opn.length∧(∀ j,j<i→(0≤t.opn.getD j default∧t.opn.getD j default<qC t)∧(0<j→t.opn.getD (j - 1) default<t.opn.getD j default))∧(la=if i=0 then -1 else t.opn.getD (i - 1) default)) (fun (i,la)=>t.opn.length - i) (fun (i,la)=>[(1,.pointer (some ⟨b,0,none⟩)),(3,.int .i64 (qC t)),(4,.int .i64 la),(18,t.ov),(19,.int .i64 t.opn.length),(20,.int .i64 i)]) (0,-1) (by repeat (first|exact Ks.le_nil _|refine Ks.qh rfl ?_)) ?_ ?_
  ·exact ⟨S,Nat.zero_le _,fun j hj=>absurd hj (Nat.not_lt_zero _),rfl⟩
  clear S
  rintro ⟨i,la⟩ h ⟨S,h1,h2,h3⟩
  all_goals (repeat' (first|refine qi ?_|refine ql rfl ?_|refine qo ?_|refine qA ?_|refine qm ?_|(refine qf 8 ?_;(first|(refine cS ?_ ?_<;>intro hc))<;>(refine qg ?_))|(refine qf 9 ?_;refine jv S ?_;refine zS S ?_;refine mv ?_;refine qg ?_)|(refine qf 10 ?_;refine mv ?_;refine mv ?_;(first|(refine cS ?_ ?_<;>intro hc))<;>(refine mv ?_;(first|refine off ?_|refine mv ?_);(first|refine off ?_|refine mv ?_);(first|refine off ?_|(first|(refine cS ?_ ?_<;>intro hc)))<;>(refine vl ?_;refine qg ?_)))|(refine qf 11 ?_;refine mv ?_;refine qg ?_)|(refine qf 12 ?_;refine mv ?_;refine mv ?_;refine qg ?_)|(refine qf 13 ?_;refine ad ?_;refine mv ?_;refine qg ?_)|(refine qf 14 ?_;refine vl ?_;refine lB S rfl rfl ?_;(first|(refine cS ?_ ?_<;>intro hc))<;>(refine mv ?_;(first|refine off ?_|(refine vl ?_));(first|refine off ?_|(refine lB S rfl rfl ?_));(first|refine off ?_|(first|(refine cS ?_ ?_<;>intro hc)))<;>(refine vl ?_;refine mv ?_;(first|refine off ?_|(refine vl ?_));(first|refine off ?_|(refine lB S rfl rfl ?_));(first|refine off ?_|(first|(refine cS ?_ ?_<;>intro hc)))<;>(refine vl ?_;refine mv ?_;(first|refine off ?_|(refine vl ?_));(first|refine off ?_|(refine lB S rfl rfl ?_));(first|refine off ?_|(first|(refine cS ?_ ?_<;>intro hc)))<;>(refine vl ?_;refine qg ?_)))))|(refine qf 15 ?_;refine mv ?_;refine qg ?_)|(refine qf 16 ?_;refine mv ?_;refine qg ?_)))
  all_goals (try simp only [Int.toNat_natCast] at *)
  ·refine qx ⟨_,rfl,?_⟩
   refine ⟨?_,S.drop⟩
   have:¬ Yz (qC t) t.opn:=fun q=>by
    have q1:=q i (by omega)
    split at h3<;>rename_i hi
    ·subst hi;omega
    ·have:=q1.2 (by omega);omega
   unfold chk;rw [if_neg (by simpa using hq),if_neg (by assumption),if_pos this];rfl
  ·refine qx ⟨_,rfl,?_⟩
   refine ⟨?_,S.drop⟩
   have:¬ Yz (qC t) t.opn:=fun q=>by have q1:=q i (by omega);omega
   unfold chk;rw [if_neg (by simpa using hq),if_neg (by assumption),if_pos this];rfl
  ·refine ⟨(i+1,t.opn.getD i default),?_,?_,(by repeat (first|exact Ks.le_nil _|refine Ks.qh rfl ?_))⟩
   ·show t.opn.length - (i+1)<t.opn.length - i;omega
   ·refine ⟨S,by omega,fun j hj=>?_,by simp⟩
    rcases Nat.lt_or_ge j i with q|q
    ·exact h2 j q
    ·have e:j=i:=by omega
     subst e
     split at h3<;>rename_i hi
     ·exact ⟨by omega,fun q=>by omega⟩
     ·have:=(h2 (j - 1) (by omega)).1
      exact ⟨by omega,fun q=>by omega⟩
  all_goals
   have hok:Yz (qC t) t.opn:=fun j hj=>h2 j (by omega)
   refine qx ⟨_,rfl,?_⟩
   refine ⟨?_,S.drop⟩
   unfold chk;rw [if_neg (by simpa using hq),if_neg (by assumption),if_neg (by simpa using hok)]
   first
    | (rw [if_pos (by unfold qaB;omega)];rfl)
    | (rw [if_neg (by unfold qaB;omega)];rfl)
 ·refine qx ⟨_,rfl,?_⟩
  exact ⟨by unfold chk;rw [if_pos (by simpa using hq)];rfl,S.drop⟩
theorem XN {h0:AH} (w:WfH h0) (t:Tab) (r:TabR h0 t):Fn Tryz.prog Xh 56 [jg t] h0 (fun v h'=>v = .int .i64 (chk t)∧Hs h0 h' []):=kS w t (TabR.toL r)
theorem jU {h:AH} (n a b:Int):Fn Tryz.prog Xh 106 [.int .i64 n,.int .i64 a,.int .i64 b] h (fun v h'=>BoolIs v (a≤n∧n≤b)∧h'=h):=by
 refine qF rfl Tryz.func106 rfl rfl ?_
 all_goals (repeat' (first|refine qi ?_|(refine qf 0 ?_;refine mv ?_;refine qg ?_)|(refine qf 1 ?_;refine mv ?_;refine mv ?_;(first|(refine cS ?_ ?_<;>intro hc))<;>(refine mv ?_;(first|refine off ?_|refine mv ?_);(first|refine off ?_|refine mv ?_);(first|refine off ?_|(first|(refine cS ?_ ?_<;>intro hc)))<;>(refine vl ?_;refine mv ?_;refine qg ?_)))))
 all_goals (refine qx ⟨_,rfl,?_⟩)
 all_goals (refine ⟨?_,rfl⟩;unfold BoolIs)
 all_goals first|exact .inl ⟨rfl,by omega⟩|exact .inr ⟨rfl,by omega⟩
theorem jc {h0:AH} (w:WfH h0) (t:Tab):Fn Tryz.prog Xh 51 [jg t] h0 (fun v h'=>v = .int .i64 (qC t)∧Hs h0 h' []):=by
 have S:=Hs.start w
 refine qF rfl Tryz.func51 rfl rfl ?_
 all_goals (repeat' (first|refine qi ?_|refine ql rfl ?_|refine qo ?_|refine qm ?_|(refine qf 0 ?_;(refine bx S ?_;clear S;intro b h S);refine mv ?_;refine qg ?_)|(refine qf 1 ?_;refine vl ?_;refine lB S rfl rfl ?_;refine qg ?_)|(refine qf 2 ?_;(first|(refine cS ?_ ?_<;>intro hc))<;>(refine mv ?_;refine qg ?_))|(refine qf 3 ?_;refine vl ?_;refine lB S rfl rfl ?_)|(refine qf 5 ?_;(first|(refine cS ?_ ?_<;>intro hc))<;>(refine mv ?_;refine qg ?_))|(refine qf 6 ?_;refine vl ?_;refine lB S rfl rfl ?_)|(refine qf 8 ?_;(first|(refine cS ?_ ?_<;>intro hc))<;>(refine mv ?_;refine qg ?_))|(refine qf 9 ?_;refine vl ?_;refine lB S rfl rfl ?_)|(refine qf 11 ?_;(first|(refine cS ?_ ?_<;>intro hc))<;>(refine mv ?_;refine qg ?_))|(refine qf 12 ?_;refine vl ?_;refine lB S rfl rfl ?_)|(refine qf 14 ?_;refine mv ?_;refine qg ?_)))
 ·(refine qw rfl rfl rfl rfl rfl ((jU _ _ _).mono ?_);rintro _ _ ⟨⟨rfl,hq⟩|⟨rfl,hq⟩,rfl⟩)<;>(refine mv ?_;(first|refine off ?_|(refine vl ?_));(first|refine off ?_|(refine lB S rfl rfl ?_));(first|refine off ?_|(first|(refine cS ?_ ?_<;>intro hc)))<;>(refine vl ?_;refine qg ?_))
  all_goals (repeat' (first|refine qi ?_|refine ql rfl ?_|refine qo ?_|(refine qf 4 ?_;refine vl ?_;refine lB S rfl rfl ?_;refine mv ?_;refine qg ?_)|(refine qf 14 ?_;refine mv ?_;refine qg ?_)))
  all_goals (refine qx ⟨_,rfl,?_⟩)
  all_goals (refine ⟨?_,S.drop⟩;unfold qC jh;rw [if_pos (by omega)];unfold QB)
  all_goals first|(rw [if_pos (by omega)];rfl)|(rw [if_neg (by omega)];rfl)
 ·(refine qw rfl rfl rfl rfl rfl ((jU _ _ _).mono ?_);rintro _ _ ⟨⟨rfl,hq⟩|⟨rfl,hq⟩,rfl⟩)<;>(refine mv ?_;(first|refine off ?_|(refine vl ?_));(first|refine off ?_|(refine lB S rfl rfl ?_));(first|(refine off ?_;refine vl ?_;refine qg ?_)|skip))
  any_goals ((refine qw rfl rfl rfl rfl rfl ((jU _ _ _).mono ?_);rintro _ _ ⟨⟨rfl,hq2⟩|⟨rfl,hq2⟩,rfl⟩)<;>(refine vl ?_;refine qg ?_))
  all_goals (repeat' (first|refine qi ?_|refine ql rfl ?_|refine qo ?_|(refine qf 7 ?_;refine vl ?_;refine lB S rfl rfl ?_;refine ml ?_;refine vl ?_;refine lB S rfl rfl ?_;refine ad ?_;refine mv ?_;refine qg ?_)|(refine qf 14 ?_;refine mv ?_;refine qg ?_)))
  all_goals (refine qx ⟨_,rfl,?_⟩)
  all_goals (refine ⟨?_,S.drop⟩;unfold qC jh;rw [if_neg (by omega),if_pos (by omega)];unfold Zn)
  all_goals first|(rw [if_pos (by omega)];rfl)|(rw [if_neg (by omega)];rfl)
 ·(refine qw rfl rfl rfl rfl rfl ((jU _ _ _).mono ?_);rintro _ _ ⟨⟨rfl,hq⟩|⟨rfl,hq⟩,rfl⟩)<;>(refine mv ?_;(first|refine off ?_|(refine vl ?_));(first|refine off ?_|(refine lB S rfl rfl ?_));(first|(refine off ?_;refine vl ?_;refine qg ?_)|skip))
  any_goals ((refine qw rfl rfl rfl rfl rfl ((jU _ _ _).mono ?_);rintro _ _ ⟨⟨rfl,hq2⟩|⟨rfl,hq2⟩,rfl⟩)<;>(refine vl ?_;refine qg ?_))
  all_goals (repeat' (first|refine qi ?_|refine ql rfl ?_|refine qo ?_|(refine qf 10 ?_;refine vl ?_;refine lB S rfl rfl ?_;refine vl ?_;refine lB S rfl rfl ?_;refine ml ?_;refine ad ?_;refine mv ?_;refine qg ?_)|(refine qf 14 ?_;refine mv ?_;refine qg ?_)))
  all_goals (refine qx ⟨_,rfl,?_⟩)
  all_goals (refine ⟨?_,S.drop⟩;unfold qC jh;rw [if_neg (by omega),if_neg (by omega),if_pos (by omega)];unfold Zl)
  all_goals first|(rw [if_pos (by omega)];rfl)|(rw [if_neg (by omega)];rfl)
 ·(refine qw rfl rfl rfl rfl rfl ((jU _ _ _).mono ?_);rintro _ _ ⟨⟨rfl,hq⟩|⟨rfl,hq⟩,rfl⟩)<;>(refine mv ?_;(first|refine off ?_|(refine vl ?_));(first|refine off ?_|(refine lB S rfl rfl ?_));(first|refine off ?_|(refine vl ?_));(first|refine off ?_|(refine lB S rfl rfl ?_));(first|(refine off ?_;refine vl ?_;refine qg ?_)|skip))
  any_goals ((refine qw rfl rfl rfl rfl rfl ((jU _ _ _).mono ?_);rintro _ _ ⟨⟨rfl,hq2⟩|⟨rfl,hq2⟩,rfl⟩)<;>(refine vl ?_;refine qg ?_))
  all_goals (repeat' (first|refine qi ?_|refine ql rfl ?_|refine qo ?_|(refine qf 13 ?_;refine vl ?_;refine lB S rfl rfl ?_;refine mv ?_;refine qg ?_)|(refine qf 14 ?_;refine mv ?_;refine qg ?_)))
  all_goals (refine qx ⟨_,rfl,?_⟩)
  all_goals (refine ⟨?_,S.drop⟩;unfold qC jh;rw [if_neg (by omega),if_neg (by omega),if_neg (by omega),if_pos (by omega)];unfold Ji)
  all_goals first|(rw [if_pos (by omega)];rfl)|(rw [if_neg (by omega)];rfl)
 ·refine qx ⟨_,rfl,?_⟩
  refine ⟨?_,S.drop⟩
  unfold qC jh;rw [if_neg (by omega),if_neg (by omega),if_neg (by omega),if_neg (by omega)];rfl
theorem qK (t:Tab):0≤qC t∧qC t≤24:=by
 unfold qC jh QB Zn Zl Ji
 repeat' split
 all_goals omega
theorem Y5 {h0:AH} (w:WfH h0) (t:Tab) (r:qgF h0 t):Fn Tryz.prog Xh 67 [jg t] h0 (fun v h'=>v = .int .i64 (chk t)∧Hs h0 h' []):=by
 have S:=Hs.start w
 have hts:=qK t
 obtain ⟨hr,hnm,hol⟩:=r
 refine qF rfl Tryz.func67 rfl rfl ?_
 all_goals (repeat' (first|refine qi ?_|(refine qf 0 ?_;(refine bx S ?_;clear S;intro b h S);refine mv ?_;refine qg ?_)|(refine qf 1 ?_;refine lB S rfl rfl ?_)))
 (refine qw rfl rfl rfl rfl rfl ((jc S.wf t).mono ?_);rintro _ h ⟨rfl,x⟩)<;>(replace S:=S.qy x;clear x;refine mv ?_;refine qg ?_)
 all_goals (repeat' (first|refine qi ?_|(refine qf 2 ?_;refine vl ?_;refine lB S rfl rfl ?_)))
 (refine qw rfl rfl rfl rfl rfl ((qaS S.wf t.name hnm).mono ?_);rintro _ h ⟨⟨rfl,hq⟩|⟨rfl,hq⟩,x⟩)<;>(replace S:=S.qy x;clear x;refine vl ?_;refine qg ?_)
 all_goals (repeat' (first|refine qi ?_|refine ql rfl ?_|refine qo ?_|refine qm ?_|(refine qf 3 ?_;refine mv ?_;refine qg ?_)|(refine qf 4 ?_;refine mv ?_;(first|(refine cS ?_ ?_<;>intro hc))<;>(refine qg ?_))|(refine qf 5 ?_;refine mv ?_;refine qg ?_)|(refine qf 6 ?_;refine mv ?_;refine qg ?_)))
 ·refine qx ⟨_,rfl,?_⟩
  exact ⟨by unfold chk;rw [if_neg (by simpa using hq),if_pos hc];rfl,S.drop⟩
 ·refine qE (σ:=Nat) (fun i h'=>Hs h0 h' [.blk b (jg t).cells.toList 25]∧i≤t.opn.length∧(∀ j,j<i→(0≤t.opn.getD j default∧t.opn.getD j default<qC t)∧(0<j→t.opn.getD (j - 1) default<t.opn.getD j default))) (fun i=>t.opn.length - i) (fun i=>[(1,.pointer (some ⟨b,0,none⟩)),(3,.int .i64 (qC t)),(4,.int .i64 i)]) 0 (by repeat (first|exact Ks.le_nil _|refine Ks.qh rfl ?_)) ?_ ?_
  ·exact ⟨S,Nat.zero_le _,fun j hj=>absurd hj (Nat.not_lt_zero _)⟩
  clear S
  rintro i h ⟨S,h1,h2⟩
  all_goals (repeat' (first|refine qi ?_|refine ql rfl ?_|refine qo ?_|refine qA ?_|refine qm ?_|(refine qf 7 ?_;refine mv ?_;refine vl ?_;refine lB S rfl rfl ?_;refine QD S ?_;(first|(refine cS ?_ ?_<;>intro hc))<;>(refine qg ?_))|(refine qO 9 ?_;refine vl ?_;refine lB S rfl rfl ?_;refine mv ?_;refine jv S ?_;refine zS S ?_;refine mv ?_;refine sb ?_)|(refine qf 11 ?_;refine vl ?_;refine lB S rfl rfl ?_)))
  ·(refine qw rfl rfl rfl rfl rfl ((jU _ _ _).mono ?_);rintro _ _ ⟨⟨rfl,hq3⟩|⟨rfl,hq3⟩,rfl⟩)<;>(refine vl ?_;refine mv ?_;(first|refine off ?_|refine mv ?_);(first|refine off ?_|(first|(refine cS ?_ ?_<;>intro hc)))<;>((first|refine off ?_|refine mv ?_);(first|refine off ?_|(refine vl ?_));(first|refine off ?_|(refine lB S rfl rfl ?_));(first|refine off ?_|refine mv ?_);(first|refine off ?_|(refine jv S ?_));(first|refine off ?_|(refine zS S ?_));(first|refine off ?_|(refine vl ?_));(first|refine off ?_|(refine lB S rfl rfl ?_));(first|refine off ?_|refine mv ?_);(first|refine off ?_|(refine sb ?_));(first|refine off ?_|(refine jv S ?_));(first|refine off ?_|(refine zS S ?_));(first|refine off ?_|(first|(refine cS ?_ ?_<;>intro hc)))<;>((first|refine off ?_|refine vl ?_);refine vl ?_;refine qg ?_)))
   all_goals (repeat' (first|refine qi ?_|refine ql rfl ?_|refine qo ?_|(refine qf 8 ?_;refine mv ?_;refine ad ?_;refine mv ?_;refine qg ?_)|(refine qf 10 ?_;refine mv ?_;refine qg ?_)))
   all_goals (try simp only [Int.toNat_natCast] at *)
   ·refine qx ⟨_,rfl,?_⟩
    refine ⟨?_,S.drop⟩
    rw [show ((i:Int) - 1).toNat=i - 1 by omega] at hc
    have:¬ Yz (qC t) t.opn:=fun q=>by have q1:=(q i (by omega)).2 (by omega);omega
    unfold chk;rw [if_neg (by simpa using hq),if_neg (by assumption),if_pos this];rfl
   ·refine ⟨i+1,?_,?_,(by repeat (first|exact Ks.le_nil _|refine Ks.qh rfl ?_))⟩
    ·show t.opn.length - (i+1)<t.opn.length - i;omega
    ·rw [show ((i:Int) - 1).toNat=i - 1 by omega] at hc
     refine ⟨S,by omega,fun j hj=>?_⟩
     rcases Nat.lt_or_ge j i with q|q
     ·exact h2 j q
     ·have e:j=i:=by omega
      subst e
      exact ⟨by omega,fun q=>by omega⟩
   ·refine ⟨i+1,?_,?_,(by repeat (first|exact Ks.le_nil _|refine Ks.qh rfl ?_))⟩
    ·show t.opn.length - (i+1)<t.opn.length - i;omega
    ·refine ⟨S,by omega,fun j hj=>?_⟩
     have e:j=i:=by omega
     subst e
     exact ⟨by omega,fun q=>by omega⟩
   ·refine qx ⟨_,rfl,?_⟩
    refine ⟨?_,S.drop⟩
    have:¬ Yz (qC t) t.opn:=fun q=>by have q1:=(q i (by omega)).1;omega
    unfold chk;rw [if_neg (by simpa using hq),if_neg (by assumption),if_pos this];rfl
  have hok:Yz (qC t) t.opn:=fun j hj=>h2 j (by omega)
  (refine qw rfl rfl rfl rfl rfl ((jU _ _ _).mono ?_);rintro _ _ ⟨⟨rfl,hq3⟩|⟨rfl,hq3⟩,rfl⟩)<;>(refine vl ?_;refine mv ?_;(first|refine off ?_|(refine vl ?_));(first|refine off ?_|(refine lB S rfl rfl ?_));(first|(refine off ?_;refine off ?_;refine vl ?_;refine qg ?_)|skip))
  any_goals ((refine qw rfl rfl rfl rfl rfl ((jU _ _ _).mono ?_);rintro _ _ ⟨⟨rfl,hq4⟩|⟨rfl,hq4⟩,rfl⟩)<;>((refine vl ?_);refine vl ?_;refine qg ?_))
  all_goals (repeat' (first|refine qi ?_|refine ql rfl ?_|refine qo ?_|(refine qf 12 ?_;refine mv ?_;refine qg ?_)|(refine qf 13 ?_;refine mv ?_;refine qg ?_)))
  all_goals
   refine qx ⟨_,rfl,?_⟩
   refine ⟨?_,S.drop⟩
   unfold chk;rw [if_neg (by simpa using hq),if_neg (by assumption),if_neg (by simpa using hok)]
   first
    | (rw [if_pos (by unfold qaB;omega)];rfl)
    | (rw [if_neg (by unfold qaB;omega)];rfl)
 ·refine qx ⟨_,rfl,?_⟩
  exact ⟨by unfold chk;rw [if_pos (by simpa using hq)];rfl,S.drop⟩
theorem XB {h0:AH} (w:WfH h0) (t:Tab) (r:TabR h0 t):Fn Tryz.prog Xh 67 [jg t] h0 (fun v h'=>v = .int .i64 (chk t)∧Hs h0 h' []):=Y5 w t (TabR.toL r)
def qfU (v:Value) (p:Nat→Prop) (n:Nat):Prop:=(∃ i:Nat,i<n∧v = .int .i64 i∧p i∧∀ j,j<i→¬ p j)∨(v = .int .i64 (-1)∧∀ j,j<n→¬ p j)
theorem WB {h0:AH} (w:WfH h0) (v:Value) (l:List Tab) (g:Nat) (cap:List Value) (p:Nat→Prop) (hr:RdL h0 v 7 eT l) (hl:l.length≤1000)
 (hf:∀ i h,i<l.length→Hs h0 h []→Fn Tryz.prog Xh g (jg (l.getD i default) :: cap) h (fun v h'=>BoolIs v (p i)∧Hs h h' [])) :
 Fn Tryz.prog Xh 85 [v,.func (.func g) #[] cap.toArray] h0 (fun r h'=>qfU r p l.length∧Hs h0 h' []):=by
 have S:=Hs.start w
 refine qF rfl Tryz.func85 rfl rfl ?_
 all_goals (repeat' (first|refine qi ?_|refine qm ?_|(refine qf 0 ?_;refine mv ?_;refine qg ?_)|(refine qf 1 ?_;refine mv ?_;refine QD S ?_;refine mv ?_;refine qg ?_)))
 refine qE (σ:=Nat) (fun i h'=>Hs h0 h' []∧i≤l.length∧∀ j,j<i→¬ p j) (fun i=>l.length - i) (fun i=>[(0,v),(1,.func (.func g) #[] cap.toArray),(7,.int .i64 l.length),(8,.int .i64 i)]) 0 (by repeat (first|exact Ks.le_nil _|refine Ks.qh rfl ?_)) ?_ ?_
 ·exact ⟨S,Nat.zero_le _,fun j hj=>absurd hj (Nat.not_lt_zero _)⟩
 clear S
 rintro i h ⟨S,h1,h2⟩
 all_goals (repeat' (first|refine qi ?_|refine ql rfl ?_|refine qo ?_|refine qA ?_|refine qm ?_|(refine qf 2 ?_;(first|(refine cS ?_ ?_<;>intro hc))<;>(refine qg ?_))|(refine qf 3 ?_;refine mv ?_;refine mv ?_;refine qg ?_)|(refine qf 4 ?_;(iterate 3 refine mv ?_);refine jv S ?_;refine zS S ?_)|(refine qf 7 ?_;refine mv ?_;refine qg ?_)))
 ·(refine qN rfl rfl rfl rfl ((hf i _ (by omega) S).mono ?_);rintro _ h ⟨⟨rfl,hq⟩|⟨rfl,hq⟩,x⟩)<;>(replace S:=S.qy x;clear x;refine qg ?_)
  all_goals (repeat' (first|refine qi ?_|refine ql rfl ?_|refine qo ?_|(refine qf 5 ?_;refine mv ?_;refine mv ?_;refine qg ?_)|(refine qf 6 ?_;refine ad ?_;refine mv ?_;refine qg ?_)))
  ·refine qx ⟨_,rfl,?_⟩
   exact ⟨.inl ⟨i,by omega,rfl,hq,h2⟩,S⟩
  ·refine ⟨i+1,?_,?_,(by repeat (first|exact Ks.le_nil _|refine Ks.qh rfl ?_))⟩
   ·show l.length - (i+1)<l.length - i;omega
   ·refine ⟨S,by omega,fun j hj=>?_⟩
    rcases Nat.lt_or_ge j i with q|q
    ·exact h2 j q
    ·have e:j=i:=by omega
     subst e;exact hq
 ·refine qx ⟨_,rfl,?_⟩
  exact ⟨.inr ⟨rfl,fun j hj=>h2 j (by omega)⟩,S⟩
theorem yT {h0:AH} (w:WfH h0) (v:Value) (l:List Tab) (g:Nat) (cap:List Value) (p:Nat→Prop) (hr:RdL h0 v 7 eT l) (hl:l.length≤1000)
 (hf:∀ i h,i<l.length→Hs h0 h []→Fn Tryz.prog Xh g (jg (l.getD i default) :: cap) h (fun v h'=>BoolIs v (p i)∧Hs h h' [])) :
 Fn Tryz.prog Xh 64 [v,.func (.func g) #[] cap.toArray] h0 (fun r h'=>BoolIs r (∃ i,i<l.length∧p i)∧Hs h0 h' []):=by
 have S:=Hs.start w
 refine qF rfl Tryz.func64 rfl rfl ?_
 all_goals (repeat' (first|refine qi ?_|(refine qf 0 ?_;refine mv ?_;refine qg ?_)|(refine qf 1 ?_;refine mv ?_;refine mv ?_)))
 (refine qw rfl rfl rfl rfl rfl ((WB S.wf v l g cap p hr hl hf).mono ?_);rintro _ h ⟨⟨i,hi,rfl,hq,hn⟩|⟨rfl,hn⟩,x⟩)<;>(replace S:=S.qy x;clear x;(first|refine cT ?_|refine cF ?_)<;>(refine mv ?_;refine qg ?_))
 all_goals (repeat' (fail))
 all_goals (try omega)
 all_goals (refine qx ⟨_,rfl,?_⟩)
 ·exact ⟨.inl ⟨rfl,i,hi,hq⟩,S⟩
 ·exact ⟨.inr ⟨rfl,fun ⟨j,hj,hp⟩=>hn j hj hp⟩,S⟩
end Go.Proofs.Xx
