/-
  Names;guests and the checks of a guest,the program's and the reference's.
-/
import Derived.Test.YtidmdnenlgjpeaaGreatDoorM7
import Derived.Test.YtidmdnenlgjpeaaGreatDoorM8
import Derived.KernelRfl
set_option linter.unusedSimpArgs false
set_option linter.unusedVariables false
set_option maxRecDepth 100000
set_option linter.unusedSectionVars false
namespace Go.Proofs.Xx
open Go Go.Proofs
def JW (v:Value) (p:Prop):Prop:=(v = .bool true∧p)∨(v = .bool false∧¬ p)
def VZ (x:UInt8):Prop:=97≤x.toNat∧x.toNat≤122
def nameP (s:List UInt8):Prop:=1≤s.length∧s.length≤12∧∀ i,i<s.length→VZ (s.getD i default)
def VJ (s:List UInt8):Prop:=s=[]∨nameP s
theorem VG:(default:UInt8)=0:=rfl
theorem Vd {p:Nat→Prop} {i:Nat} (h:∀ j,j<i→p j) (hi:p i):∀ j,j<i+1→p j:=fun j hj=>by
 rcases zA7 j i with q|q
 ·exact h j q
 ·obtain rfl:j=i:=by omega
  exact hi
variable [Flag]
theorem Vp {h0:AH} (w:WfH h0):Fn Tryz.prog Xh 19 [] h0 (fun v h'=>v = .bool true∧Hs h0 h' []):=QJ rfl ⟨rfl,Hs.start w⟩
theorem vZ {h:AH} (s:List UInt8):Fn Tryz.prog Xh 56 [str s] h (fun v h'=>JW v (nameP s)∧h'=h):=by
 refine zF rfl Tryz.func56 rfl rfl ?_;all_goals (repeat' (first|refine qx ?_|refine qi rfl ?_|refine qw ?_|refine qA ?_|refine qh ?_|refine qj ?_|refine qo ?_|(refine qf 0 ?_;refine mv ?_;refine qg ?_)|(refine qf 1 ?_;refine mv ?_;refine tl ?_;(first|refine cT ?_|refine cF ?_|(refine cS ?_ ?_<;>intro hc))<;>(refine mv ?_;(first|refine off ?_|refine mv ?_);(first|refine off ?_|refine tl ?_);(first|refine off ?_|(first|refine cT ?_|refine cF ?_|(refine cS ?_ ?_<;>intro hc)))<;>(refine vl ?_;refine qg ?_)))|(refine qf 2 ?_;refine mv ?_;refine qg ?_)))
 ·refine qF ⟨_,rfl,?_⟩;exact ⟨.inr ⟨rfl,fun q=>by have:=q.1;omega⟩,rfl⟩
 ·refine qF ⟨_,rfl,?_⟩;exact ⟨.inr ⟨rfl,fun q=>by have:=q.2.1;omega⟩,rfl⟩
 all_goals (repeat' (first|refine qx ?_|refine qi rfl ?_|refine qw ?_|refine qA ?_|refine qh ?_|refine qj ?_|refine qo ?_|(refine qf 3 ?_;refine mv ?_;refine tl ?_;refine mv ?_;refine qg ?_)))
 refine zK (σ:=Nat) (fun i h'=>h'=h∧i≤s.length∧∀ j,j<i→VZ (s.getD j default)) (fun i=>s.length - i) (fun i=>[(0,str s),(13,.int .i64 s.length),(14,.int .i64 i)]) 0 zf ?_ ?_
 ·exact ⟨rfl,zB0 _,fun j hj=>absurd hj (zB7 _)⟩
 rintro i h ⟨rfl,h1,h2⟩;all_goals (repeat' (first|refine qx ?_|refine qi rfl ?_|refine qw ?_|refine qA ?_|refine qh ?_|refine qj ?_|refine qo ?_|(refine qf 4 ?_;(first|refine cT ?_|refine cF ?_|(refine cS ?_ ?_<;>intro hc))<;>(refine qg ?_))|(refine qf 5 ?_;refine mv ?_;refine mv ?_;refine qg ?_)|(refine qf 6 ?_;refine mv ?_;refine mv ?_;(first|refine ti ?_|refine vl ?_);(first|refine cT ?_|refine cF ?_|(refine cS ?_ ?_<;>intro hc))<;>(refine mv ?_;(first|refine off ?_|refine mv ?_);(first|refine off ?_|refine mv ?_);(first|refine off ?_|(first|refine ti ?_|refine vl ?_));(first|refine off ?_|(first|refine cT ?_|refine cF ?_|(refine cS ?_ ?_<;>intro hc)))<;>(refine vl ?_;refine qg ?_)))|(refine qf 7 ?_;refine mv ?_;refine qg ?_)|(refine qf 8 ?_;(first|refine ad ?_|refine vl ?_);refine mv ?_;refine qg ?_)|(refine qf 9 ?_;refine mv ?_;refine qg ?_)))
 all_goals (try simp only [zA0] at *)
 ·refine qF ⟨_,rfl,?_⟩;exact ⟨.inr ⟨rfl,fun q=>by have:=q.2.2 i (by omega);unfold VZ at this;simp only [VG] at this;omega⟩,rfl⟩
 ·refine qF ⟨_,rfl,?_⟩;exact ⟨.inr ⟨rfl,fun q=>by have:=q.2.2 i (by omega);unfold VZ at this;simp only [VG] at this;omega⟩,rfl⟩
 ·refine ⟨i+1,?_,?_,zf⟩
  ·show s.length - (i+1)<s.length - i;omega
  ·refine ⟨rfl,by omega,Vd h2 ?_⟩;unfold VZ;simp only [VG];omega
 ·refine qF ⟨_,rfl,?_⟩;exact ⟨.inl ⟨rfl,by omega,by omega,fun j hj=>h2 j (by omega)⟩,rfl⟩
theorem vS {h:AH} (s:List UInt8):Fn Tryz.prog Xh 57 [str s] h (fun v h'=>JW v (VJ s)∧h'=h):=by
 refine zF rfl Tryz.func57 rfl rfl ?_;all_goals (repeat' (first|refine qx ?_|refine qi rfl ?_|refine qw ?_|refine qA ?_|refine qh ?_|refine qj ?_|refine qo ?_|(refine qf 0 ?_;refine mv ?_;refine qg ?_)|(refine qf 1 ?_;refine mv ?_;(refine tS ?_ ?_<;>intro hc)<;>(refine mv ?_;(first|refine off ?_|refine mv ?_);(first|(refine off ?_;refine vl ?_;refine mv ?_;refine qg ?_)|skip)))))
 ·refine qF ⟨_,rfl,?_⟩;exact ⟨.inl ⟨rfl,.inl hc⟩,rfl⟩
 (refine qH rfl rfl rfl rfl rfl ((vZ s).mono ?_);rintro _ _ ⟨⟨rfl,hq⟩|⟨rfl,hq⟩,rfl⟩)<;>(refine vl ?_;refine mv ?_;refine qg ?_)
 all_goals (all_goals (repeat' (first|refine qx ?_|refine qi rfl ?_|refine qw ?_|refine qA ?_|refine qh ?_|refine qj ?_|refine qo ?_)))
 all_goals (refine qF ⟨_,rfl,?_⟩)
 ·exact ⟨.inl ⟨rfl,.inr hq⟩,rfl⟩
 ·exact ⟨.inr ⟨rfl,fun q=>by rcases q with q|q;exact hc q;exact hq q⟩,rfl⟩
end Go.Proofs.Xx
namespace Go.Proofs.Xx
open Go Go.Proofs
structure Gu where
 name:List UInt8
 rank:List UInt8
 court:List UInt8
 since:Int
 side:Int
 diet:List UInt8
 host:Bool
 access:Bool
 tg:List (List UInt8)
instance:Inhabited Gu:=⟨⟨[],[],[],0,0,[],false,false,[]⟩⟩
structure ZL extends Gu where
 tv:SlV
instance:Inhabited ZL:=⟨⟨default,⟨none,0,0⟩⟩⟩
def gV (g:ZL):Value:=.agg #[str g.name,str g.rank,str g.court,.int .i64 g.since,.int .i64 g.side,str g.diet,.bool g.host,.bool g.access,g.tv.val]
def eG (g:ZL):List Value:=[str g.name,str g.rank,str g.court,.int .i64 g.since,.int .i64 g.side,str g.diet,.bool g.host,.bool g.access,g.tv.val]
def qfy (h:AH) (g:ZL):Prop:=Qk h g.tv.val 1 eS g.tg∧g.tg.length≤9223372036854775807
def TgOk (l:List (List UInt8)):Prop:=∀ i,i<l.length→nameP (l.getD i default)∧(0<i→jk (l.getD (i - 1) default) (l.getD i default))
def Y0 (g:Gu):Prop:=nameP g.name∧VJ g.rank∧VJ g.court∧VJ g.diet
open Classical in
noncomputable def Qg (g:Gu):Int :=
 if ¬ Y0 g then 4
 else if ¬ (0≤g.since∧g.since≤9999) then 21
 else if ¬ (0≤g.side∧g.side≤2) then 20
 else if ¬ (g.tg.length≤4∧TgOk g.tg) then 22
 else 0
theorem qee {g:Gu} (h:¬ Y0 g):Qg g=4:=by unfold Qg;rw [if_pos h]
theorem qdb {g:Gu} (h:Y0 g) (h2:¬ (0≤g.since∧g.since≤9999)):Qg g=21:=by unfold Qg;rw [if_neg (by simpa using h),if_pos h2]
theorem qdc {g:Gu} (h:Y0 g) (h2:0≤g.since∧g.since≤9999) (h3:¬ (0≤g.side∧g.side≤2)):Qg g=20:=by
 unfold Qg;rw [if_neg (by simpa using h),if_neg (by simpa using h2),if_pos h3]
theorem wU {g:Gu} (h:Y0 g) (h2:0≤g.since∧g.since≤9999) (h3:0≤g.side∧g.side≤2) (h4:¬ (g.tg.length≤4∧TgOk g.tg)):Qg g=22:=by
 unfold Qg;rw [if_neg (by simpa using h),if_neg (by simpa using h2),if_neg (by simpa using h3),if_pos h4]
theorem qbY {g:Gu} (h:Y0 g) (h2:0≤g.since∧g.since≤9999) (h3:0≤g.side∧g.side≤2) (h4:g.tg.length≤4∧TgOk g.tg):Qg g=0:=by
 unfold Qg;rw [if_neg (by simpa using h),if_neg (by simpa using h2),if_neg (by simpa using h3),if_neg (by simpa using h4)]
variable [Flag]
theorem qbZ {h0:AH} (w:WfH h0) (g:ZL) (r:qfy h0 g):Fn Tryz.prog Xh 17 [gV g] h0 (fun v h'=>v = .int .i64 (Qg g.toGu)∧Hs h0 h' []):=by
 have S:=Hs.start w;have hr:Qk h0 g.tv.val 1 eS g.tg:=r.1;have hbig:=r.2;unfold gV;refine zF rfl Tryz.func17 rfl rfl ?_;all_goals (repeat' (first|refine qx ?_|refine qh ?_|(refine qf 0 ?_;(refine bx S ?_;clear S;intro b h S);refine mv ?_;refine qg ?_)))
 all_goals (repeat' (first|(refine qf 1 ?_;refine vl ?_;refine lB S rfl rfl ?_)))
 (refine qH rfl rfl rfl rfl rfl ((vZ g.name).mono ?_);rintro _ _ ⟨⟨rfl,q1⟩|⟨rfl,q1⟩,rfl⟩)<;>(refine vl ?_;refine mv ?_;(first|refine off ?_|(refine vl ?_));(first|refine off ?_|(refine lB S rfl rfl ?_));(first|(refine off ?_;refine off ?_;refine vl ?_;refine mv ?_;refine off ?_;refine off ?_;(first|(refine off ?_;refine off ?_;refine vl ?_;refine mv ?_;refine off ?_;refine off ?_;(first|(refine off ?_;refine off ?_;refine vl ?_;refine mv ?_;refine qg ?_)))))|skip))
 any_goals ((refine qH rfl rfl rfl rfl rfl ((vS g.rank).mono ?_);rintro _ _ ⟨⟨rfl,q2⟩|⟨rfl,q2⟩,rfl⟩)<;>((refine vl ?_);refine vl ?_;refine mv ?_;(first|refine off ?_|(refine vl ?_));(first|refine off ?_|(refine lB S rfl rfl ?_));(first|(refine off ?_;refine off ?_;refine vl ?_;refine mv ?_;refine off ?_;refine off ?_;(first|(refine off ?_;refine off ?_;refine vl ?_;refine mv ?_;refine qg ?_)))|skip)))
 any_goals ((refine qH rfl rfl rfl rfl rfl ((vS g.court).mono ?_);rintro _ _ ⟨⟨rfl,q3⟩|⟨rfl,q3⟩,rfl⟩)<;>((refine vl ?_);refine vl ?_;refine mv ?_;(first|refine off ?_|(refine vl ?_));(first|refine off ?_|(refine lB S rfl rfl ?_));(first|(refine off ?_;refine off ?_;refine vl ?_;refine mv ?_;refine qg ?_)|skip)))
 any_goals ((refine qH rfl rfl rfl rfl rfl ((vS g.diet).mono ?_);rintro _ _ ⟨⟨rfl,q4⟩|⟨rfl,q4⟩,rfl⟩)<;>((refine vl ?_);refine vl ?_;refine mv ?_;refine qg ?_))
 all_goals (repeat' (first|refine qx ?_|refine qi rfl ?_|refine qw ?_|refine qh ?_|(refine qf 2 ?_;refine mv ?_;refine qg ?_)|(refine qf 3 ?_;refine vl ?_;refine lB S rfl rfl ?_;(first|(refine cS ?_ ?_<;>intro hc))<;>(refine mv ?_;(first|refine off ?_|(refine vl ?_));(first|refine off ?_|(refine lB S rfl rfl ?_));(first|refine off ?_|(first|(refine cS ?_ ?_<;>intro hc)))<;>(refine vl ?_;refine mv ?_;refine qg ?_)))|(refine qf 4 ?_;refine mv ?_;refine qg ?_)|(refine qf 5 ?_;refine vl ?_;refine lB S rfl rfl ?_;(first|(refine cS ?_ ?_<;>intro hc))<;>(refine mv ?_;(first|refine off ?_|(refine vl ?_));(first|refine off ?_|(refine lB S rfl rfl ?_));(first|refine off ?_|(first|(refine cS ?_ ?_<;>intro hc)))<;>(refine vl ?_;refine mv ?_;refine qg ?_)))|(refine qf 6 ?_;refine mv ?_;refine qg ?_)|(refine qf 7 ?_;refine vl ?_;refine lB S rfl rfl ?_;refine Zg S ?_;(first|(refine cS ?_ ?_<;>intro hc))<;>(refine mv ?_;refine qg ?_))|(refine qf 8 ?_;refine mv ?_;refine qg ?_)|(refine qf 9 ?_;refine vl ?_;refine lB S rfl rfl ?_;refine Zg S ?_;refine mv ?_;refine qg ?_)))
 any_goals
  refine qF ⟨_,rfl,?_⟩;refine ⟨?_,S.drop⟩;first
   | (rw [qee (fun q=>by unfold Y0 at q;grind)];rfl)
   | (rw [qdb ⟨q1,q2,q3,q4⟩ (by omega)];rfl)
   | (rw [qdc ⟨q1,q2,q3,q4⟩ (by omega) (by omega)];rfl)
   | (rw [wU ⟨q1,q2,q3,q4⟩ (by omega) (by omega) (fun q=>by have:=q.1;omega)];rfl)
 have h1:0≤g.since∧g.since≤9999:=by omega
 have h2:0≤g.side∧g.side≤2:=by omega
 have h3:g.tg.length≤4:=by omega
 refine zK (σ:=Nat) (fun i h'=>Hs h0 h' [.blk b (eG g) 24]∧i≤g.tg.length∧∀ j,j<i→nameP (g.tg.getD j default)∧(0<j→jk (g.tg.getD (j - 1) default) (g.tg.getD j default))) (fun i=>g.tg.length - i) (fun i=>[(1,.pointer (some ⟨b,0,none⟩)),(52,g.tv.val),(53,.int .i64 g.tg.length),(54,.int .i64 i)]) 0 zf ?_ ?_
 ·exact ⟨S,zB0 _,fun j hj=>absurd hj (zB7 _)⟩
 clear S;rintro i h ⟨S,g1,g2⟩;all_goals (repeat' (first|refine qx ?_|refine qi rfl ?_|refine qw ?_|refine qA ?_|refine qh ?_|(refine qf 10 ?_;(first|(refine cS ?_ ?_<;>intro hc))<;>(refine qg ?_))|(refine qf 11 ?_;refine mv ?_;refine Za S ?_;refine zU S ?_;refine mv ?_;refine mv ?_;refine qg ?_)|(refine qf 12 ?_;refine mv ?_)|(refine qf 15 ?_;refine mv ?_;refine qg ?_)))
 ·(try simp only [zA0] at *)
  (refine qH rfl rfl rfl rfl rfl ((vZ _).mono ?_);rintro _ _ ⟨⟨rfl,q5⟩|⟨rfl,q5⟩,rfl⟩)<;>(refine vl ?_;refine mv ?_;(first|refine off ?_|refine mv ?_);(first|refine off ?_|(first|(refine cS ?_ ?_<;>intro hc)))<;>((first|refine off ?_|refine mv ?_);(first|refine off ?_|(refine vl ?_));(first|refine off ?_|(refine lB S rfl rfl ?_));(first|refine off ?_|refine mv ?_);(first|refine off ?_|(refine sb ?_));(first|refine off ?_|(refine Za S ?_));(first|refine off ?_|(refine zU S ?_));(first|refine off ?_|refine mv ?_);(first|refine off ?_|(refine tO ?_ ?_<;>intro hc))<;>((first|refine off ?_|refine vl ?_);refine vl ?_;refine qg ?_)))
  all_goals (all_goals (repeat' (first|refine qx ?_|refine qi rfl ?_|refine qw ?_|(refine qf 13 ?_;refine mv ?_;refine qg ?_)|(refine qf 14 ?_;refine ad ?_;refine mv ?_;refine qg ?_))))
  ·refine qF ⟨_,rfl,?_⟩;rw [show ((i:Int) - 1).toNat=i - 1 by omega] at hc;exact ⟨by rw [wU ⟨q1,q2,q3,q4⟩ h1 h2 (fun q=>hc ((q.2 i (by omega)).2 (by omega)))];rfl,S.drop⟩
  ·rw [show ((i:Int) - 1).toNat=i - 1 by omega] at hc;refine ⟨i+1,?_,?_,zf⟩
   ·show g.tg.length - (i+1)<g.tg.length - i;omega
   ·exact ⟨S,by omega,Vd g2 ⟨q5,fun _=>zF3.1 hc⟩⟩
  ·refine ⟨i+1,?_,?_,zf⟩
   ·show g.tg.length - (i+1)<g.tg.length - i;omega
   ·exact ⟨S,by omega,Vd g2 ⟨q5,fun q=>by omega⟩⟩
  ·refine qF ⟨_,rfl,?_⟩;exact ⟨by rw [wU ⟨q1,q2,q3,q4⟩ h1 h2 (fun q=>q5 (q.2 i (by omega)).1)];rfl,S.drop⟩
 ·refine qF ⟨_,rfl,?_⟩;exact ⟨by rw [qbY ⟨q1,q2,q3,q4⟩ h1 h2 ⟨h3,fun j hj=>g2 j (by omega)⟩];rfl,S.drop⟩
end Go.Proofs.Xx
namespace Go.Proofs.Xx
open Go Go.Proofs
class SubR (rs rs':List Rs):Prop where
 sub:∀ {h0 h:AH},Hs h0 h rs→Hs h0 h rs'
instance (priority:=2000) SubR.here {rs:List Rs}:SubR rs rs:=⟨id⟩
instance SubR.there {r:Rs} {rs rs':List Rs} [i:SubR rs rs']:SubR (r :: rs) rs':=⟨fun S=>i.sub S.tail⟩
theorem Hs.sub {h0 h:AH} {rs rs':List Rs} [i:SubR rs rs'] (S:Hs h0 h rs):Hs h0 h rs':=i.sub S
class DtI (rs:List Rs) (r:Rs) (rs':outParam (List Rs)):Prop where
 dt:Dt rs r rs'
instance (priority:=2000) DtI.here {r:Rs} {rs:List Rs}:DtI (r :: rs) r rs:=⟨.here⟩
instance DtI.there {r s:Rs} {rs rs':List Rs} [i:DtI rs r rs']:DtI (s :: rs) r (s :: rs'):=⟨.there i.dt⟩
class SelR (rs l:List Rs):Prop where
 sel:∀ {lo:Nat} {h:AH} {U:Fp},Sep lo h rs U→Sep lo h l U
instance (priority:=2000) SelR.here {rs:List Rs}:SelR rs rs:=⟨id⟩
instance SelR.nil {rs:List Rs}:SelR rs []:=⟨fun _=>trivial⟩
instance SelR.cons {rs rs' l:List Rs} {r:Rs} [i:DtI rs r rs'] [j:SelR rs' l]:SelR rs (r :: l):=⟨fun k=>by
 obtain ⟨fp,k1,k2,k3⟩:=i.dt.sep k;exact ⟨fp,k1,k2,j.sel k3⟩⟩
instance (priority:=500) SelR.there {rs l:List Rs} {r:Rs} [j:SelR rs l]:SelR (r :: rs) l:=⟨fun ⟨_,_,_,k⟩=>j.sel (k.mono fun _ q=>q.1)⟩
theorem Hs.pick {h0 h:AH} {rs l:List Rs} [i:SelR rs l] (S:Hs h0 h rs):Hs h0 h l:=⟨S.ext,i.sel S.sep⟩
abbrev RdS {α:Type} (h0:AH) (rs:List Rs) (v:Value) (z:Nat) (enc:α→List Value) (l:List α):Prop:=∀ h,Hs h0 h rs→Qk h v z enc l
theorem RdS.base {α:Type} {h0:AH} {rs:List Rs} {v:Value} {z:Nat} {enc:α→List Value} {l:List α} (w:WfH h0) (r:Qk h0 v z enc l):RdS h0 rs v z enc l:=fun h S=>r.ext w S.ext
structure Ti where
 a:List UInt8
 b:List UInt8
 k:Int
instance:Inhabited Ti:=⟨⟨[],[],0⟩⟩
def Qm (t:Ti):List Value:=[str t.a,str t.b,.int .u8 t.k]
def tiV (t:Ti):Value:=.agg #[str t.a,str t.b,.int .u8 t.k]
def gat:List Gu→List UInt8→Option Nat
 | [],_=>none
 | g :: r,n=>if g.name=n then some 0 else (gat r n).map (· + 1)
structure Rl where
 us:List Gu
 ts:List Ti
instance:Inhabited Rl:=⟨⟨[],[]⟩⟩
open Classical in
noncomputable def J9 (r:Rl) (g:Gu):Rl×Int :=
 if Qg g≠0 then (r,Qg g) else if gat r.us g.name≠none then (r,5) else if 64≤r.us.length then (r,7) else (⟨r.us ++ [g],r.ts⟩,0)
theorem qca {r:Rl} {g:Gu} (h:Qg g≠0):J9 r g=(r,Qg g):=by unfold J9;rw [if_pos h]
theorem qcc {r:Rl} {g:Gu} (h:Qg g=0) (h2:gat r.us g.name≠none):J9 r g=(r,5):=by unfold J9;rw [if_neg (by simpa using h),if_pos h2]
theorem qcb {r:Rl} {g:Gu} (h:Qg g=0) (h2:gat r.us g.name=none) (h3:64≤r.us.length):J9 r g=(r,7):=by unfold J9;rw [if_neg (by simpa using h),if_neg (by simpa using h2),if_pos h3]
theorem wX {r:Rl} {g:Gu} (h:Qg g=0) (h2:gat r.us g.name=none) (h3:¬ 64≤r.us.length):J9 r g=(⟨r.us ++ [g],r.ts⟩,0):=by unfold J9;rw [if_neg (by simpa using h),if_neg (by simpa using h2),if_neg h3]
def AtOk (m:List (List UInt8×Int)) (us:List Gu):Prop:=∀ n,zW m n=(gat us n).map Int.ofNat
theorem qcT {us:List Gu} {g:Gu} (n:List UInt8):gat (us ++ [g]) n=match gat us n with|some i=>some i|none=>if g.name=n then some us.length else none:=by
 induction us with
 | nil=>simp [gat]
 | cons x r ih =>
  simp only [zC6,gat];by_cases h:x.name=n
  ·simp [h]
  ·simp only [if_neg h,ih];cases gat r n<;>simp<;>split<;>simp
theorem AtOk.app {m:List (List UInt8×Int)} {us:List Gu} {g:Gu} (a:AtOk m us) (hn:gat us g.name=none):AtOk (Jd m g.name us.length) (us ++ [g]):=fun n=>by
 rw [Jt,qcT];by_cases h:n=g.name
 ·subst h;simp [hn]
 ·rw [if_neg h,a n];cases gat us n with
  | none=>simp;exact fun q=>h q.symm
  | some i=>simp
def TgsOk (gs:List ZL) (h:AH) (fp:Fp):Prop:=∀ g∈gs,(Rs.rd g.tv.val 1 eS g.tg).ok h fp
abbrev vJ (gs:List ZL):Rs:=.any (TgsOk gs)
structure BkS where
 vg:SlV
 vt:SlV
 m:Nat
 mp:List (List UInt8×Int)
 gs:List ZL
abbrev bkL (b:Nat) (ts:List Ti) (s:BkS):List Rs:=[.blk b [s.vg.val,s.vt.val,.map (some s.m)] 86,.sl s.vg.val 24 9 eG s.gs,.sl s.vt.val 111 3 Qm ts,.mp s.m (.int .i64) s.mp,vJ s.gs]
abbrev jU (b:Nat) (r:Rl):Rs:=qbp (fun s:BkS=>s.gs.map (·.toGu)=r.us∧AtOk s.mp r.us) (bkL b r.ts)
theorem Hs.bk {h0 h:AH} {rs0 rs:List Rs} {b:Nat} {r:Rl} (S:Hs h0 h rs0) (vg vt:SlV) (m:Nat) (mp:List (List UInt8×Int)) (gs:List ZL) (q1:gs.map (·.toGu)=r.us) (q2:AtOk mp r.us)
 [i:SelR rs0 (.blk b [vg.val,vt.val,.map (some m)] 86 :: .sl vg.val 24 9 eG gs :: .sl vt.val 111 3 Qm r.ts :: .mp m (.int .i64) mp :: vJ gs :: rs)]:Hs h0 h (jU b r :: rs) :=
 Hs.pack (s:=⟨vg,vt,m,mp,gs⟩) ⟨q1,q2⟩ (show Hs h0 h (.blk b [vg.val,vt.val,.map (some m)] 86 :: .sl vg.val 24 9 eG gs :: .sl vt.val 111 3 Qm r.ts :: .mp m (.int .i64) mp :: vJ gs :: rs) from S.pick)
theorem TgsOk.rd {h:AH} {fp:Fp} {gs:List ZL} (k:TgsOk gs h fp) {i:Nat} (hi:i<gs.length):Qk h (gs.getD i default).tv.val 1 eS (gs.getD i default).tg:=by
 have q:=k _ (List.getElem_mem hi);rw [show gs.getD i default=gs[i] by rw [zA2,zA4 hi];rfl];rcases q with ⟨q1,q2⟩|⟨b,o,cap,cc,e,s,r,q1,q2,q3,q4⟩
 ·exact .inl ⟨q1,by rw [q2];rfl,by rw [q2];rfl⟩
 ·exact .inr ⟨b,o,cap,cc,e,s,r,q1,q2,q4⟩
theorem PM {α:Type} {v:Value} {z:Nat} {enc:α→List Value} {l:List α} {h:AH} {fp fp':Fp} (k:(Rs.rd v z enc l).ok h fp) (hf:∀ b,fp b→fp' b):(Rs.rd v z enc l).ok h fp':=by
 rcases k with k|⟨b,o,cap,cc,e,s,r,q1,q2,q3,q4⟩
 ·exact .inl k
 ·exact .inr ⟨b,o,cap,cc,e,s,r,q1,q2,hf b q3,q4⟩
theorem qeJ {α:Type} {v:Value} {e:TypeId} {z:Nat} {enc:α→List Value} {l:List α} {h:AH} {fp:Fp} (k:(Rs.sl v e z enc l).ok h fp):(Rs.rd v z enc l).ok h fp:=by
 rcases k with k|⟨b,o,cc,slk,cap,h1,h2,h3,h4,-⟩
 ·exact .inl k
 ·exact .inr ⟨b,o,_,cc,e,slk,false,h1,h2,h3,h4⟩
theorem Hs.qdx {h0 h:AH} {rs:List Rs} {gs:List ZL} {g:ZL} {e:TypeId} (S:Hs h0 h (.sl g.tv.val e 1 eS g.tg :: vJ gs :: rs)):Hs h0 h (vJ (gs ++ [g]) :: rs):=by
 obtain ⟨f1,k1,k2,f2,k3,k4,k5⟩:=S.sep;refine ⟨S.ext,fun b=>f1 b∨f2 b,fun h' q g' hg=>?_,fun b hb=>?_,k5.mono fun b hb=>⟨trivial,fun q=>?_⟩⟩
 ·rcases zB8.1 hg with hg|hg
  ·exact PM (k3 h' (fun b hb=>q b (.inr hb)) g' hg) fun b hb=>.inr hb
  ·obtain rfl:=zB5.1 hg;exact PM (qeJ (k1.local fun b hb=>q b (.inl hb))) fun b hb=>.inl hb
 ·rcases hb with hb|hb
  ·exact k2 b hb
  ·exact ⟨(k4 b hb).1,(k4 b hb).2.1,trivial⟩
 ·rcases q with q|q
  ·exact hb.1.2 q
  ·exact hb.2 q
theorem ZZ {g:Gu} (h:Qg g=0):Y0 g∧(0≤g.since∧g.since≤9999)∧(0≤g.side∧g.side≤2)∧g.tg.length≤4∧TgOk g.tg:=by
 unfold Qg at h;split at h
 ·cases h
 ·split at h
  ·cases h
  ·split at h
   ·cases h
   ·split at h
    ·cases h
    ·rename_i a b c d
     exact ⟨zF3.1 a,zF3.1 b,zF3.1 c,(zF3.1 d).1,(zF3.1 d).2⟩
variable [Flag]
theorem xA {h0:AH} (w:WfH h0) {b m:Nat} {vg vt:Value} (hb:h0.get b=some (.cells [vg,vt,.map (some m)] 86 none false)):Fn Tryz.prog Xh 71 [.pointer (some ⟨b,0,none⟩)] h0 (fun v h'=>v = .bool false∧Hs h0 h' []):=by
 have S:=Hs.start w;refine zF rfl Tryz.func71 rfl rfl ?_;all_goals (repeat' (first|refine qx ?_|(refine qf 0 ?_;refine mv ?_;refine qg ?_)|(refine qf 1 ?_;refine mv ?_;refine vl ?_;refine mv ?_;refine mv ?_;refine vl ?_;(first|(refine vl ?_));(first|(refine lH S ?_));refine vl ?_;refine vl ?_;refine mv ?_;refine qg ?_)))
 refine qF ⟨_,rfl,?_⟩;exact ⟨rfl,S⟩
theorem qaS {h0:AH} (w:WfH h0) (v:Value) (a:List (List UInt8)) (r:Qk h0 v 1 eS a) (hl:a.length≤1000000):Fn Tryz.prog Xh 127 [v] h0 (fun u h'=>Hs h0 h' [.sl u 9 1 eS a]):=by
 have S:=Hs.start w;have r0:=r;rcases r with ⟨rfl,h1,-⟩|⟨b,o,cap,cc,e,s,q,rfl,h1,h2⟩
 ·obtain rfl:a=[]:=zE9.1 h1;refine zF rfl Tryz.func127 rfl rfl ?_;all_goals (repeat' (first|refine qx ?_|refine qi rfl ?_|(refine qf 0 ?_;refine mv ?_;refine qg ?_)|(refine qf 1 ?_;refine mv ?_;refine vl ?_;refine qg ?_)|(refine qf 2 ?_;refine mv ?_;refine qg ?_)))
  refine qF ⟨_,rfl,?_⟩;exact S.x8
 ·refine zF rfl Tryz.func127 rfl rfl ?_;all_goals (repeat' (first|refine qx ?_|refine qi rfl ?_|refine qw ?_|(refine qf 0 ?_;refine mv ?_;refine qg ?_)|(refine qf 1 ?_;refine mv ?_;refine vl ?_;refine qg ?_)|(refine qf 3 ?_;skip)))
  refine nw 1 eS S ?_;clear S;intro u h S;(refine mv ?_);refine apd S rfl rfl (r0.ext w S.ext) ?_;clear S;intro v' h S;(refine mv ?_;refine qg ?_);all_goals (repeat' (fail))
  refine qF ⟨_,rfl,?_⟩;exact S
theorem qaT {h0:AH} (w:WfH h0) (v:Value) (a:List Ti) (r:Qk h0 v 3 Qm a) (hl:a.length≤1000000):Fn Tryz.prog Xh 94 [v] h0 (fun u h'=>Hs h0 h' [.sl u 111 3 Qm a]):=by
 have S:=Hs.start w;have r0:=r;rcases r with ⟨rfl,h1,-⟩|⟨b,o,cap,cc,e,s,q,rfl,h1,h2⟩
 ·obtain rfl:a=[]:=zE9.1 h1;refine zF rfl Tryz.func94 rfl rfl ?_;all_goals (repeat' (first|refine qx ?_|refine qi rfl ?_|(refine qf 0 ?_;refine mv ?_;refine qg ?_)|(refine qf 1 ?_;refine mv ?_;refine vl ?_;refine qg ?_)|(refine qf 2 ?_;refine mv ?_;refine qg ?_)))
  refine qF ⟨_,rfl,?_⟩;exact S.x8
 ·refine zF rfl Tryz.func94 rfl rfl ?_;all_goals (repeat' (first|refine qx ?_|refine qi rfl ?_|refine qw ?_|(refine qf 0 ?_;refine mv ?_;refine qg ?_)|(refine qf 1 ?_;refine mv ?_;refine vl ?_;refine qg ?_)|(refine qf 3 ?_;skip)))
  refine nw 3 Qm S ?_;clear S;intro u h S;(refine mv ?_);refine apd S rfl rfl (r0.ext w S.ext) ?_;clear S;intro v' h S;(refine mv ?_;refine qg ?_);all_goals (repeat' (fail))
  refine qF ⟨_,rfl,?_⟩;exact S
theorem ve {h0:AH} (w:WfH h0) (g:ZL) (r:Qk h0 g.tv.val 1 eS g.tg) (hl:g.tg.length≤1000000):Fn Tryz.prog Xh 75 [gV g] h0 (fun v h'=>∃ tv:SlV,v=gV { g with tv:=tv }∧Hs h0 h' [.sl tv.val 9 1 eS g.tg]):=by
 have S:=Hs.start w;unfold gV;refine zF rfl Tryz.func75 rfl rfl ?_;all_goals (repeat' (first|refine qx ?_|(refine qf 0 ?_;(refine bx S ?_;clear S;intro b h S);(refine al S ?_;clear S;intro b h S);refine qg ?_)|(refine qf 1 ?_;refine vl ?_;refine lB S rfl rfl ?_)))
 (refine qH rfl rfl rfl rfl rfl ((qaS S.wf g.tv.val g.tg (r.ext w S.ext) hl).mono ?_);rintro v h x)<;>(replace S:=S.Xo x;clear x;obtain ⟨tv,rfl⟩:=S.qfD.sV v;refine vl ?_;(first|(refine sB S rfl rfl ?_;clear S;intro h S));refine qg ?_)
 all_goals (repeat' (first|refine qx ?_|(refine qf 2 ?_;refine lB S rfl rfl ?_;(first|(refine sB S rfl rfl ?_;clear S;intro h S));refine qg ?_)))
 refine qF ⟨_,zJ S rfl (by first|exact .there .here) (by exact rfl) (by exact rfl),?_⟩;exact ⟨tv,rfl,S.only .here⟩
theorem qbw {h0:AH} (w:WfH h0):Fn Tryz.prog Xh 47 [] h0 (fun v h'=>∃ b,v = .pointer (some ⟨b,0,none⟩)∧Hs h0 h' [jU b ⟨[],[]⟩]):=by
 have S:=Hs.start w;refine zF rfl Tryz.func47 rfl rfl ?_;all_goals (repeat' (first|refine qx ?_|(refine qf 0 ?_;refine mv ?_;refine qg ?_)))
 refine qf 1 ?_;refine mkm (α:=Int) (.int .i64) S ?_;clear S;intro m h S;(refine vl ?_;(refine bx S ?_;clear S;intro b h S);refine mv ?_;refine qg ?_);all_goals (repeat' (fail))
 refine qF ⟨_,rfl,?_⟩;refine ⟨_,rfl,?_⟩;have S:=((S.x8 (e:=24) (z:=9) (enc:=eG)).x8 (e:=111) (z:=3) (enc:=Qm)).anyS (p:=TgsOk []) fun h' g hg=>by cases hg
 replace S:Hs h0 _ [vJ [],.sl (SlV.val ⟨none,0,0⟩) 111 3 Qm [],.sl (SlV.val ⟨none,0,0⟩) 24 9 eG [],.blk b [SlV.val ⟨none,0,0⟩,SlV.val ⟨none,0,0⟩,.map (some m)] 86,.mp m (.int .i64) []]:=S;exact S.bk (r:=⟨[],[]⟩) ⟨none,0,0⟩ ⟨none,0,0⟩ m [] [] rfl fun n=>rfl
theorem qb9 {h0 h:AH} {rs:List Rs} {p:Nat} {r:Rl} (S:Hs h0 h (jU p r :: rs)) (g:ZL) (hr:RdS h0 rs g.tv.val 1 eS g.tg) (hl:g.tg.length≤9223372036854775807) (hu:r.us.length≤64) :
 Fn Tryz.prog Xh 35 [.pointer (some ⟨p,0,none⟩),gV g] h (fun v h'=>v = .int .i64 (J9 r g.toGu).2∧Hs h0 h' (jU p (J9 r g.toGu).1 :: rs)):=by
 obtain ⟨⟨vg,vt,m,mp,gs⟩,⟨q1,q2⟩,S⟩:=S.unpack;have e1:gs.length=r.us.length:=by rw [← q1];simp
 dsimp only [bkL,List.cons_append,List.nil_append] at q1 q2 S;unfold gV;refine zF rfl Tryz.func35 rfl rfl ?_;all_goals (repeat' (first|refine qx ?_|(refine qf 0 ?_;(refine bx S ?_;clear S;intro b h S);refine mv ?_;refine qg ?_)|(refine qf 1 ?_;refine mv ?_)))
 (refine qH rfl rfl rfl rfl rfl ((xA S.wf (XI S (.there .here))).mono ?_);rintro _ h ⟨rfl,x⟩)<;>(replace S:=S.zn x;clear x;refine qg ?_)
 all_goals (repeat' (first|refine qx ?_|refine qi rfl ?_|refine qw ?_|(refine qf 3 ?_;refine lB S rfl rfl ?_)))
 (refine qH rfl rfl rfl rfl rfl ((qbZ S.wf g ⟨hr _ S.sub,hl⟩).mono ?_);rintro _ h ⟨rfl,x⟩)<;>(replace S:=S.zn x;clear x;refine mv ?_;refine qg ?_)
 all_goals (repeat' (first|refine qx ?_|refine qi rfl ?_|refine qw ?_|(refine qf 4 ?_;refine mv ?_;(first|(refine cS ?_ ?_<;>intro hc))<;>(refine qg ?_))|(refine qf 5 ?_;refine mv ?_;refine mv ?_;refine qg ?_)|(refine ji 6 ?_;refine mv ?_;refine vl ?_;refine vl ?_;refine lB S rfl rfl ?_;refine vl ?_;refine lB S rfl rfl ?_)))
 ·refine qF ⟨_,rfl,?_⟩;rw [qca hc];exact ⟨rfl,S.bk vg vt m mp gs q1 q2⟩
 ·have hc0:Qg g.toGu=0:=by simpa using hc
  replace S:Hs h0 h (.blk b (eG g) 24 :: .blk p [vg.val,vt.val,.map (some m)] 86 :: .sl vg.val 24 9 eG gs :: .sl vt.val 111 3 Qm r.ts :: .mp m (.int .i64) mp :: vJ gs :: rs):=S;refine lk S (.there (.there (.there (.there .here)))) (fun i hi=>?_) (fun hi=>?_)
  ·simp only [okV];(refine mv ?_;refine vl ?_;refine vl ?_;refine mv ?_;refine mv ?_;refine qg ?_);all_goals (repeat' (first|refine qx ?_|refine qi rfl ?_|(refine qf 7 ?_;refine mv ?_;refine qg ?_)|(refine qf 8 ?_;refine mv ?_;refine qg ?_)))
   refine qF ⟨_,rfl,?_⟩;rw [qcc hc0 (by rw [q2] at hi;intro q;rw [q] at hi;cases hi)];exact ⟨rfl,S.bk vg vt m mp gs q1 q2⟩
  ·simp only [okV];(refine mv ?_;refine vl ?_;refine vl ?_;refine mv ?_;refine mv ?_;refine qg ?_);all_goals (repeat' (first|refine qx ?_|refine qi rfl ?_|refine qw ?_|(refine qf 7 ?_;refine mv ?_;refine qg ?_)|(refine qf 9 ?_;refine mv ?_;refine vl ?_;refine vl ?_;refine vl ?_;refine lB S rfl rfl ?_;refine J5 S rfl rfl ?_;(first|(refine cS ?_ ?_<;>intro hc))<;>(refine qg ?_))|(refine qf 10 ?_;refine mv ?_;refine qg ?_)|(refine ji 11 ?_;refine mv ?_;refine vl ?_;refine vl ?_;refine lB S rfl rfl ?_;refine vl ?_;refine lB S rfl rfl ?_;refine mv ?_;refine vl ?_;refine vl ?_;refine vl ?_;refine lB S rfl rfl ?_;refine J5 S rfl rfl ?_)))
   ·refine qF ⟨_,rfl,?_⟩;rw [qcb hc0 (by rw [q2] at hi;cases hq:gat r.us g.name with|none=>rfl|some i=>rw [hq] at hi;cases hi) (by omega)];exact ⟨rfl,S.bk vg vt m mp gs q1 q2⟩
   ·have hn:gat r.us g.name=none:=by rw [q2] at hi;cases hq:gat r.us g.name with|none=>rfl|some i=>rw [hq] at hi;cases hi
    have hn64:¬ 64≤r.us.length:=by omega
    refine up (x:=(gs.length:Int)) (key:=g.name) S (.there (.there (.there (.there .here)))) (.there (.there (.there (.there .here)))) (fun h S=>?_) (.inl rfl);(refine qg ?_);have ht4:=(ZZ hc0).2.2.2.1;(repeat (refine qx ?_));refine Z9 (id:=12) [(5,(0,2))] [some (p)] ?_;refine qB ?_;(first|(refine mv ?_<;>refine qg ⟨⟨by (first|exact True.intro),rfl⟩,?_⟩));refine qB ?_;(first|(refine mv ?_<;>refine qg ⟨⟨by (first|exact True.intro),rfl⟩,?_⟩));refine qB ?_;(first|(refine vl ?_<;>refine qg ⟨⟨by (first|exact True.intro),rfl⟩,?_⟩));refine qB ?_;(first|(refine vl ?_<;>refine qg ⟨⟨by (first|exact True.intro),rfl⟩,?_⟩));refine qB ?_;(first|(refine vl ?_<;>refine qg ⟨⟨by (first|exact True.intro),rfl⟩,?_⟩));refine qB ?_;(first|(refine lB S rfl rfl ?_<;>refine qg ⟨⟨by (first|exact Or.inr rfl),rfl⟩,?_⟩));refine qB ?_;(first|(refine lB S rfl rfl ?_<;>refine qg ⟨⟨by (first|exact True.intro),rfl⟩,?_⟩));((refine qB ?_;first|refine qH rfl rfl rfl rfl rfl ((ve S.wf g (hr _ S.sub) (by omega)).mono ?_));rintro _ h ⟨tv,rfl,x⟩)<;>((refine qg ⟨⟨True.intro,?_⟩,?_⟩;(focus ((show keepsX _ _ _ _ _;simp only [keepsX];(repeat' (first|exact True.intro|refine And.intro ?_ ?_));all_goals (intro hw;first|exact x.ext.old _ S.bB)))));replace S:=S.Xo x;clear x;refine qB ?_;(first|((refine one 9 S ?_;have S0:=S;clear S;intro u h S);refine qg ⟨⟨True.intro,?_⟩,?_⟩;(focus ((show keepsX _ _ _ _ _;simp only [keepsX];(repeat' (first|exact True.intro|refine And.intro ?_ ?_));all_goals (intro hw;first|exact (S.gB).trans (S0.gB).symm))));clear S0)))
    refine qB ?_;refine app (y0:={ g with tv:=tv }) S rfl rfl ?_;have S0:=S;clear S;intro v h S;obtain ⟨vg',rfl⟩:=S.sV v;refine qg ⟨⟨True.intro,?_⟩,?_⟩;(focus ((show keepsX _ _ _ _ _;simp only [keepsX];(repeat' (first|exact True.intro|refine And.intro ?_ ?_));all_goals (intro hw;first|exact (S.gB).trans (S0.gB).symm))));clear S0;(refine qB ?_;(first|(refine vl ?_<;>refine qg ⟨⟨by (first|exact True.intro),rfl⟩,?_⟩));refine qB ?_;(first|(refine vl ?_<;>refine qg ⟨⟨by (first|exact True.intro),rfl⟩,?_⟩));refine qB ?_;(first|(refine vl ?_<;>refine qg ⟨⟨by (first|exact True.intro),rfl⟩,?_⟩));refine qB ?_;(first|((refine sB S rfl rfl ?_;have S0:=S;clear S;intro h S);refine qg ⟨⟨True.intro,?_⟩,?_⟩;(focus ((show keepsX _ _ _ _ _;simp only [keepsX];(repeat' (first|exact True.intro|refine And.intro ?_ ?_));all_goals (intro hw;first|exact absurd hw (by decide +kernel)))));clear S0));refine Xz ?_);all_goals (repeat' (first|refine qx ?_|(refine qf 13 ?_;refine mv ?_;refine qg ?_)))
    refine qF ⟨_,rfl,?_⟩;rw [wX hc0 hn hn64];replace S:Hs h0 h (.sl vg'.val 24 9 eG (gs ++ [{ g with tv:=tv }]) :: .sl tv.val 9 1 eS g.tg :: .blk b (eG g) 24 :: .blk p [vg'.val,vt.val,.map (some m)] 86 :: .sl vt.val 111 3 Qm r.ts :: .mp m (.int .i64) (Jd mp g.name gs.length) :: vJ gs :: rs):=S;have S:=(show Hs h0 h (.sl tv.val 9 1 eS g.tg :: vJ gs :: .sl vg'.val 24 9 eG (gs ++ [{ g with tv:=tv }]) :: .blk p [vg'.val,vt.val,.map (some m)] 86 :: .sl vt.val 111 3 Qm r.ts :: .mp m (.int .i64) (Jd mp g.name gs.length) :: rs) from S.pick)
    have S:=Hs.qdx (g:={ g with tv:=tv }) S;refine ⟨rfl,S.bk vg' vt m (Jd mp g.name gs.length) (gs ++ [{ g with tv:=tv }]) (by simp [q1]) ?_⟩;rw [e1];exact q2.app hn
end Go.Proofs.Xx
namespace Go.Proofs.Xx
open Go Go.Proofs
theorem qfR (a b:List UInt8):(Lib.compareBytes a b<0↔jk a b)∧(Lib.compareBytes a b=0↔a=b):=by
 induction a generalizing b with
 | nil =>
  cases b with
  | nil=>exact ⟨⟨fun h=>by simp [Lib.compareBytes] at h,fun h=>absurd h (YC _)⟩,by simp [Lib.compareBytes]⟩
  | cons y b=>exact ⟨⟨fun _=>Wl _ _,fun _=>by simp [Lib.compareBytes]⟩,by simp [Lib.compareBytes]⟩
 | cons x a ih =>
  cases b with
  | nil=>exact ⟨⟨fun h=>by simp [Lib.compareBytes] at h,fun h=>absurd h (YC _)⟩,by simp [Lib.compareBytes]⟩
  | cons y b =>
   obtain ⟨i1,i2⟩:=ih b;have hc:Lib.compareBytes (x :: a) (y :: b)=if x<y then -1 else if y<x then 1 else Lib.compareBytes a b:=rfl
   rw [Zz,hc];by_cases h1:x<y
   ·rw [if_pos h1];refine ⟨⟨fun _=>.inl h1,fun _=>by omega⟩,fun q=>by omega,fun q=>?_⟩;injection q with q _;subst q;exact absurd h1 (UInt8.lt_irrefl _)
   ·rw [if_neg h1];by_cases h2:y<x
    ·rw [if_pos h2];refine ⟨⟨fun q=>by omega,fun q=>?_⟩,fun q=>by omega,fun q=>?_⟩
     ·rcases q with q|⟨rfl,-⟩
      ·exact absurd q h1
      ·exact absurd h2 (UInt8.lt_irrefl _)
     ·injection q with q _;subst q;exact absurd h2 (UInt8.lt_irrefl _)
    ·rw [if_neg h2];have e:x=y:=UInt8.le_antisymm (UInt8.not_lt.1 h2) (UInt8.not_lt.1 h1);subst e;refine ⟨⟨fun q=>.inr ⟨rfl,i1.1 q⟩,fun q=>?_⟩,⟨fun q=>by rw [i2.1 q],fun q=>i2.2 (by injection q)⟩⟩;rcases q with q|q
     ·exact absurd q h1
     ·exact i1.2 q.2
def Z4 (x y:Ti):Prop:=jk x.a y.a∨(x.a=y.a∧jk x.b y.b)
theorem wW (x:Ti):¬ Z4 x x:=fun h=>by rcases h with h|h;exact zA _ h;exact zA _ h.2
theorem Qv {x y z:Ti} (h1:Z4 x y) (h2:Z4 y z):Z4 x z:=by
 rcases h1 with h1|⟨e1,h1⟩
 ·rcases h2 with h2|⟨e2,h2⟩
  ·exact .inl (jY h1 h2)
  ·exact .inl (e2 ▸ h1)
 ·rcases h2 with h2|⟨e2,h2⟩
  ·exact .inl (e1 ▸ h2)
  ·exact .inr ⟨e1.trans e2,jY h1 h2⟩
theorem Wp (x y:Ti):Z4 x y∨(x.a=y.a∧x.b=y.b)∨Z4 y x:=by
 rcases ZN x.a y.a with h|h|h
 ·exact .inl (.inl h)
 ·rcases ZN x.b y.b with g|g|g
  ·exact .inl (.inr ⟨h,g⟩)
  ·exact .inr (.inl ⟨h,g⟩)
  ·exact .inr (.inr (.inr ⟨h.symm,g⟩))
 ·exact .inr (.inr (.inl h))
def TS (ts:List Ti):Prop:=ts.Pairwise Z4
theorem TS.lt {ts:List Ti} (h:TS ts) {i j:Nat} (hij:i<j) (hj:j<ts.length):Z4 (ts.getD i default) (ts.getD j default):=by
 have:=zD2.1 h i j (by omega) hj hij;rw [zA2,zA2,zA4 hj,zA4 (show i<ts.length by omega)];exact this
def Plc (l:List Ti) (y:Ti) (i:Nat):Prop:=i≤l.length∧(∀ j,j<i→Z4 (l.getD j default) y)∧∀ j,i≤j→j<l.length→¬ Z4 (l.getD j default) y
variable [Flag]
theorem qc7 {h:AH} (a b:List UInt8):Fn Tryz.prog Xh 163 [str a,str b] h (fun v h'=>(∃ c,v = .int .i64 c∧(c<0↔jk a b)∧(c=0↔a=b))∧h'=h):=by
 refine zF rfl Tryz.func163 rfl rfl ?_;all_goals (repeat' (first|refine qx ?_|(refine qf 0 ?_;refine mv ?_;refine qg ?_)|(refine qf 1 ?_;refine mv ?_;refine mv ?_)))
 (refine qH rfl rfl rfl rfl rfl (((QJ (R:=fun v h'=>v = .int .i64 (Lib.compareBytes a b)∧h'=h) rfl ⟨rfl,rfl⟩)).mono ?_);rintro _ _ ⟨rfl,rfl⟩)<;>(refine mv ?_;refine qg ?_)
 all_goals (repeat' (fail))
 refine qF ⟨_,rfl,?_⟩;exact ⟨⟨_,rfl,qfR a b⟩,rfl⟩
theorem qbW {h:AH} (a b:List UInt8):Fn Tryz.prog Xh 130 [str a,str b] h (fun v h'=>(∃ c,v = .int .i64 c∧(c<0↔jk a b)∧(c=0↔a=b))∧h'=h):=by
 refine zF rfl Tryz.func130 rfl rfl ?_;all_goals (repeat' (first|refine qx ?_|(refine qf 0 ?_;refine mv ?_;refine qg ?_)|(refine qf 1 ?_;refine mv ?_;refine mv ?_)))
 (refine qH rfl rfl rfl rfl rfl ((qc7 a b).mono ?_);rintro _ _ ⟨⟨c,rfl,q⟩,rfl⟩)<;>(refine mv ?_;refine qg ?_)
 all_goals (repeat' (fail))
 refine qF ⟨_,rfl,?_⟩;exact ⟨⟨c,rfl,q⟩,rfl⟩
theorem WM {h0:AH} (w:WfH h0) (x y:Ti):Fn Tryz.prog Xh 82 [tiV x,tiV y] h0 (fun v h'=>(∃ c,v = .int .i64 c∧(c<0↔Z4 x y)∧(c=0↔x.a=y.a∧x.b=y.b))∧Hs h0 h' []):=by
 have S:=Hs.start w;unfold tiV;refine zF rfl Tryz.func82 rfl rfl ?_;all_goals (repeat' (first|refine qx ?_|(refine qf 0 ?_;(refine bx S ?_;clear S;intro b h S);(refine bx S ?_;clear S;intro b h S);refine mv ?_;refine qg ?_)|(refine qf 1 ?_;refine vl ?_;refine lB S rfl rfl ?_;refine vl ?_;refine lB S rfl rfl ?_)))
 (refine qH rfl rfl rfl rfl rfl ((qbW x.a y.a).mono ?_);rintro _ _ ⟨⟨c,rfl,q1,q2⟩,rfl⟩)<;>(refine mv ?_;refine qg ?_)
 all_goals (repeat' (first|refine qx ?_|refine qi rfl ?_|refine qw ?_|(refine qf 2 ?_;refine mv ?_;(first|(refine cS ?_ ?_<;>intro hc))<;>(refine qg ?_))|(refine qf 3 ?_;refine mv ?_;refine mv ?_;refine qg ?_)|(refine qf 4 ?_;refine vl ?_;refine lB S rfl rfl ?_;refine vl ?_;refine lB S rfl rfl ?_)))
 ·refine qF ⟨_,rfl,?_⟩;refine ⟨⟨c,rfl,?_,?_⟩,S.drop⟩
  ·unfold Z4;rw [q1];exact ⟨.inl,fun h=>h.elim id fun h=>absurd (q2.2 h.1) hc⟩
  ·exact ⟨fun h=>absurd h hc,fun h=>q2.2 h.1⟩
 ·(refine qH rfl rfl rfl rfl rfl ((qbW x.b y.b).mono ?_);rintro _ _ ⟨⟨d,rfl,q3,q4⟩,rfl⟩)<;>(refine mv ?_;refine qg ?_)
  all_goals (repeat' (fail))
  refine qF ⟨_,rfl,?_⟩;have e:=q2.1 (by omega);refine ⟨⟨d,rfl,?_,?_⟩,S.drop⟩
  ·unfold Z4;rw [q3];exact ⟨fun h=>.inr ⟨e,h⟩,fun h=>h.elim (fun h=>absurd (e ▸ h) (zA _)) (·.2)⟩
  ·rw [q4];exact ⟨fun h=>⟨e,h⟩,(·.2)⟩
theorem PO {h0:AH} (w:WfH h0) (a b:List UInt8) (k:Int):Fn Tryz.prog Xh 89 [str a,str b,.int .u8 k] h0 (fun v h'=>v=tiV ⟨Q3 a b,Q4 a b,k⟩∧Hs h0 h' []):=by
 have S:=Hs.start w;refine zF rfl Tryz.func89 rfl rfl ?_;all_goals (repeat' (first|refine qx ?_|(refine qf 0 ?_;(refine al S ?_;clear S;intro b h S);refine qg ?_)|(refine qf 1 ?_;refine mv ?_;refine mv ?_;refine mnS ?_;refine mv ?_;refine mv ?_;refine mxS ?_;refine mv ?_;refine vl ?_;(first|(refine sB S rfl rfl ?_;clear S;intro h S));refine qg ?_)))
 refine qF ⟨_,zJ S rfl (by first|exact .here) (by exact rfl) (by exact rfl),?_⟩;exact ⟨rfl,S.drop⟩
theorem Pg {h0:AH} (w:WfH h0) {v:Value} {l:List Ti} (hr:Qk h0 v 3 Qm l) (hl:l.length≤1000000) (hs:TS l) (y:Ti) :
 Fn Tryz.prog Xh 134 [v,tiV y,.func (.func 82) #[] #[]] h0 (fun u h'=>(∃ (i:Nat) (f:Bool),u = .tuple #[.int .i64 i,.bool f]∧Plc l y i∧(f=true↔i<l.length∧(l.getD i default).a=y.a∧(l.getD i default).b=y.b))∧Hs h0 h' []):=by
 have S:=Hs.start w;unfold tiV;refine zF rfl Tryz.func134 rfl rfl ?_;all_goals (repeat' (first|refine qx ?_|refine qh ?_|(refine qf 0 ?_;(refine bx S ?_;clear S;intro b h S);refine mv ?_;refine mv ?_;refine qg ?_)|(refine qf 1 ?_;refine mv ?_;refine Zg S ?_;refine mv ?_;refine qg ?_)|(refine qf 2 ?_;(iterate 3 refine mv ?_);refine qg ?_)))
 replace S:Hs h0 h [.blk b (Qm y) 111]:=S;refine zK (σ:=Nat×Nat) (fun (lo,hi) h'=>Hs h0 h' [.blk b (Qm y) 111]∧lo≤hi∧hi≤l.length∧(∀ j,j<lo→Z4 (l.getD j default) y)∧(∀ j,hi≤j→j<l.length→¬ Z4 (l.getD j default) y)) (fun (lo,hi)=>hi - lo) (fun (lo,hi)=>[(0,v),(2,.func (.func 82) #[] #[]),(4,.pointer (some ⟨b,0,none⟩)),(8,.int .i64 l.length),(9,.int .i64 lo),(10,.int .i64 hi)]) (0,l.length) zf ?_ ?_
 ·exact ⟨S,zB0 _,zA3 _,fun j hj=>absurd hj (zB7 _),fun j h1 h2=>absurd h2 (by omega)⟩
 clear S;rintro ⟨lo,hi⟩ h ⟨S,g1,g2,g3,g4⟩;all_goals (repeat' (first|refine qx ?_|refine qi rfl ?_|refine qw ?_|refine qA ?_|refine qh ?_|(refine qf 3 ?_;refine mv ?_;refine mv ?_;(first|(refine cS ?_ ?_<;>intro hc))<;>(refine qg ?_))|(refine qf 4 ?_;refine mv ?_;refine mv ?_;refine ad ?_;refine cW ?_;refine sR1 ?_;refine cI ?_;refine mv ?_;refine qg ?_)|(refine ji 5 ?_;(iterate 3 refine mv ?_);refine Za S ?_;refine zU S ?_;refine lB S rfl rfl ?_)|(refine ji 8 ?_;(iterate 3 refine mv ?_);(first|(refine cS ?_ ?_<;>intro hc))<;>(refine mv ?_;(first|refine off ?_|refine mv ?_);(first|refine off ?_|refine mv ?_);(first|refine off ?_|refine mv ?_);(first|refine off ?_|(refine Za S ?_));(first|refine off ?_|(refine zU S ?_));(first|refine off ?_|(refine lB S rfl rfl ?_));(first|(refine off ?_;(refine off ?_)<;>(refine vl ?_;refine mv ?_;refine mv ?_;refine qg ?_))|skip)))))
 ·obtain ⟨mid,hm,hm2,hm3⟩:∃ mid:Nat,((lo:Int)+hi) / 2=mid∧lo≤mid∧mid<hi:=⟨(lo+hi) / 2,by omega,by omega,by omega⟩
  simp only [hm,zA0];(refine kK rfl rfl rfl rfl ((WM S.wf (l.getD mid default) y).mono ?_);rintro _ h ⟨⟨c,rfl,e1,e2⟩,x⟩)<;>(replace S:=S.zn x;clear x;(first|(refine cS ?_ ?_<;>intro hc))<;>(refine qg ?_))
  all_goals (repeat' (first|refine qi rfl ?_|(refine qf 6 ?_;refine mv ?_;refine ad ?_;refine mv ?_;refine qg ?_)|(refine qf 7 ?_;refine mv ?_;refine mv ?_;refine qg ?_)))
  ·refine ⟨(mid+1,hi),?_,?_,zf⟩
   ·show hi - (mid+1)<hi - lo;omega
   ·refine ⟨S,by omega,g2,fun j hj=>?_,g4⟩;rcases zA7 j mid with q|q
    ·exact Qv (hs.lt q (by omega)) (e1.1 hc)
    ·obtain rfl:j=mid:=by omega
     exact e1.1 hc
  ·refine ⟨(lo,mid),?_,?_,zf⟩
   ·show mid - lo<hi - lo;omega
   ·refine ⟨S,hm2,by omega,g3,fun j h1 h2 q=>?_⟩;rcases zA7 mid j with q2|q2
    ·exact hc (e1.2 (Qv (hs.lt q2 h2) q))
    ·obtain rfl:j=mid:=by omega
     exact hc (e1.2 q)
 ·obtain rfl:hi=lo:=by omega
  simp only [zA0];(refine kK rfl rfl rfl rfl ((WM S.wf (l.getD hi default) y).mono ?_);rintro _ h ⟨⟨c,rfl,e1,e2⟩,x⟩)<;>(replace S:=S.zn x;clear x;(first|(first|(refine cS ?_ ?_<;>intro hc)))<;>(refine vl ?_;refine mv ?_;refine mv ?_;refine qg ?_))
  all_goals (all_goals (repeat' (fail)))
  all_goals (refine qF ⟨_,rfl,?_⟩)
  ·exact ⟨⟨hi,true,rfl,⟨g2,g3,g4⟩,fun _=>⟨by omega,e2.1 hc⟩,fun _=>rfl⟩,S.drop⟩
  ·exact ⟨⟨hi,false,rfl,⟨g2,g3,g4⟩,fun q=>(by cases q),fun q=>absurd (e2.2 q.2) hc⟩,S.drop⟩
 ·obtain rfl:hi=lo:=by omega
  all_goals (repeat' (fail))
  refine qF ⟨_,rfl,?_⟩;exact ⟨⟨hi,false,rfl,⟨g2,g3,g4⟩,fun q=>(by cases q),fun q=>absurd q.1 (by omega)⟩,S.drop⟩
theorem qbn {h0:AH} (w:WfH h0) {p m:Nat} {vg vt:Value} {ts:List Ti} (hb:h0.get p=some (.cells [vg,vt,.map (some m)] 86 none false)) (hr:Qk h0 vt 3 Qm ts) (hl:ts.length≤1000000) (hs:TS ts) (a b:List UInt8) :
 Fn Tryz.prog Xh 87 [.pointer (some ⟨p,0,none⟩),str a,str b] h0 (fun u h'=>(∃ (i:Nat) (f:Bool),u = .tuple #[.int .i64 i,.bool f]∧Plc ts ⟨Q3 a b,Q4 a b,0⟩ i∧(f=true↔i<ts.length∧(ts.getD i default).a=Q3 a b∧(ts.getD i default).b=Q4 a b))∧Hs h0 h' []):=by
 have S:=Hs.start w;refine zF rfl Tryz.func87 rfl rfl ?_;all_goals (repeat' (first|refine qx ?_|(refine qf 0 ?_;refine mv ?_;refine mv ?_;refine qg ?_)))
 (repeat (refine qx ?_));refine Z9 (id:=1) [(4,(0,1))] [some (p)] ?_;refine qB ?_;(first|(refine mv ?_<;>refine qg ⟨⟨by (first|exact True.intro),rfl⟩,?_⟩));refine qB ?_;(first|(refine vl ?_<;>refine qg ⟨⟨by (first|exact True.intro),rfl⟩,?_⟩));refine qB ?_;(first|(refine vl ?_<;>refine qg ⟨⟨by (first|exact True.intro),rfl⟩,?_⟩));refine qB ?_;(first|(refine vl ?_<;>refine qg ⟨⟨by (first|exact True.intro),rfl⟩,?_⟩));refine qB ?_;(first|(refine lH S ?_<;>refine qg ⟨⟨by (first|exact Or.inr rfl),rfl⟩,?_⟩));refine qB ?_;(first|(refine mv ?_<;>refine qg ⟨⟨by (first|exact True.intro),rfl⟩,?_⟩));refine qB ?_;(first|(refine mv ?_<;>refine qg ⟨⟨by (first|exact True.intro),rfl⟩,?_⟩));((refine qB ?_;first|refine qH rfl rfl rfl rfl rfl ((PO S.wf a b 0).mono ?_));rintro _ h ⟨rfl,x⟩)<;>((refine qg ⟨⟨True.intro,?_⟩,?_⟩;(focus ((show keepsX _ _ _ _ _;simp only [keepsX];(repeat' (first|exact True.intro|refine And.intro ?_ ?_));all_goals (intro hw;first|exact x.ext.old _ (S.bY (by assumption) (by assumption)))))));replace S:=S.zn x;clear x)
 ((refine qB ?_;first|refine qH rfl rfl rfl rfl rfl ((Pg S.wf (hr.ext w S.ext) hl hs ⟨Q3 a b,Q4 a b,0⟩).mono ?_));rintro _ h ⟨⟨i,f,rfl,q1,q2⟩,x⟩)<;>((refine qg ⟨⟨True.intro,?_⟩,?_⟩;(focus ((show keepsX _ _ _ _ _;simp only [keepsX];(repeat' (first|exact True.intro|refine And.intro ?_ ?_));all_goals (intro hw;first|exact x.ext.old _ (S.bY (by assumption) (by assumption)))))));replace S:=S.zn x;clear x;refine qB ?_;(first|(refine vl ?_<;>refine qg ⟨⟨by (first|exact True.intro),rfl⟩,?_⟩));refine qB ?_;(first|(refine vl ?_<;>refine qg ⟨⟨by (first|exact True.intro),rfl⟩,?_⟩));refine qB ?_;(first|(refine mv ?_<;>refine qg ⟨⟨by (first|exact True.intro),rfl⟩,?_⟩));refine qB ?_;(first|(refine mv ?_<;>refine qg ⟨⟨by (first|exact True.intro),rfl⟩,?_⟩));refine Xz ?_)
 all_goals (repeat' (fail))
 refine qF ⟨_,rfl,?_⟩;exact ⟨⟨i,f,rfl,q1,q2⟩,S.drop⟩
end Go.Proofs.Xx
namespace Go.Proofs.Xx
open Go Go.Proofs
instance (x y:Ti):Decidable (Z4 x y):=inferInstanceAs (Decidable (_∨_))
def Qc (a b:List UInt8) (k:Int):Ti:=⟨Q3 a b,Q4 a b,k⟩
def tied (ts:List Ti) (a b:List UInt8):Prop:=∃ t∈ts,t.a=Q3 a b∧t.b=Q4 a b
def xX:List Ti→Ti→List Ti
 | [],t=>[t]
 | x :: r,t=>if Z4 x t then x :: xX r t else t :: x :: r
open Classical in
noncomputable def QZ (r:Rl) (a b:List UInt8) (k:Int):Rl×Int :=
 if (k≠1∧k≠2)∨a=b then (r,23) else if gat r.us a=none∨gat r.us b=none then (r,6) else if tied r.ts a b then (r,5) else if 256≤r.ts.length then (r,7) else (⟨r.us,xX r.ts (Qc a b k)⟩,0)
theorem Xj {t:Ti}:∀ {l:List Ti} {i:Nat},Plc l t i→xX l t=l.take i ++ t :: l.drop i
 | [],i,h=>by simp [xX]
 | x :: r,0,h=>by
  have:=h.2.2 0 (zA3 _) (by simp);show (if Z4 x t then _ else _)=_
  rw [if_neg (show ¬ Z4 x t from this)];rfl
 | x :: r,i+1,h=>by
  have h0:=h.2.1 0 (Nat.succ_pos _);show (if Z4 x t then _ else _)=_
  rw [if_pos (show Z4 x t from h0),Xj (l:=r) (i:=i) ⟨by have:=h.1;simp at this;omega,fun j hj=>h.2.1 (j+1) (by omega),fun j h1 h2=>h.2.2 (j+1) (by omega) (by simp;omega)⟩];rfl
theorem Plc.tied {l:List Ti} {a b:List UInt8} {i:Nat} (hs:TS l) (h:Plc l ⟨Q3 a b,Q4 a b,0⟩ i):tied l a b↔i<l.length∧(l.getD i default).a=Q3 a b∧(l.getD i default).b=Q4 a b:=by
 constructor
 ·rintro ⟨t,ht,e1,e2⟩;obtain ⟨j,hj,rfl⟩:=List.mem_iff_getElem.1 ht;have eg:l.getD j default=l[j]:=by rw [zA2,zA4 hj];rfl
  have hji:i≤j:=by
   rcases zA7 j i with q|q
   ·have:=h.2.1 j q;rw [eg] at this;rcases this with q|q
    ·rw [e1] at q;exact absurd q (zA _)
    ·rw [e2] at q;exact absurd q.2 (zA _)
   ·exact q
  rcases zA7 i j with q|q
  ·have q1:=hs.lt q hj;rw [eg] at q1;refine absurd ?_ (h.2.2 i (zA3 _) (by omega));unfold Z4 at q1 ⊢;rw [e1,e2] at q1;exact q1
  ·obtain rfl:i=j:=by omega
   rw [eg];exact ⟨hj,e1,e2⟩
 ·rintro ⟨h1,h2,h3⟩;refine ⟨_,List.getElem_mem h1,?_⟩;rw [show l[i]=l.getD i default by rw [zA2,zA4 h1];rfl];exact ⟨h2,h3⟩
theorem PG {r:Rl} {a b:List UInt8} {k:Int} (h:(k≠1∧k≠2)∨a=b):QZ r a b k=(r,23):=by unfold QZ;rw [if_pos h]
theorem vI {r:Rl} {a b:List UInt8} {k:Int} (h:¬ ((k≠1∧k≠2)∨a=b)) (h2:gat r.us a=none∨gat r.us b=none):QZ r a b k=(r,6):=by unfold QZ;rw [if_neg h,if_pos h2]
theorem GG {r:Rl} {a b:List UInt8} {k:Int} (h:¬ ((k≠1∧k≠2)∨a=b)) (h2:¬ (gat r.us a=none∨gat r.us b=none)) (h3:tied r.ts a b):QZ r a b k=(r,5):=by unfold QZ;rw [if_neg h,if_neg h2,if_pos h3]
theorem Gz {r:Rl} {a b:List UInt8} {k:Int} (h:¬ ((k≠1∧k≠2)∨a=b)) (h2:¬ (gat r.us a=none∨gat r.us b=none)) (h3:¬ tied r.ts a b) (h4:256≤r.ts.length):QZ r a b k=(r,7):=by unfold QZ;rw [if_neg h,if_neg h2,if_neg h3,if_pos h4]
theorem Wq {r:Rl} {a b:List UInt8} {k:Int} (h:¬ ((k≠1∧k≠2)∨a=b)) (h2:¬ (gat r.us a=none∨gat r.us b=none)) (h3:¬ tied r.ts a b) (h4:¬ 256≤r.ts.length):QZ r a b k=(⟨r.us,xX r.ts (Qc a b k)⟩,0):=by unfold QZ;rw [if_neg h,if_neg h2,if_neg h3,if_neg h4]
variable [Flag]
theorem qcS {h0 h:AH} {rs:List Rs} {vt:SlV} {v1:Value} {l:List Ti} {t:Ti} (i:Nat) (hi:i≤l.length) (hl:l.length≤1000000) (S:Hs h0 h (.sl v1 111 3 YS [Qm t] :: .sl vt.val 111 3 Qm l :: rs)) :
 Fn Tryz.prog Xh 88 [vt.val,.int .i64 i,v1] h (fun u h'=>Hs h0 h' (.sl u 111 3 Qm (l.take i ++ t :: l.drop i) :: rs)):=by
 have hfl:=qQ (enc:=Qm) (z:=3) (by intro _;rfl) l;obtain ⟨f1,k1,k2,f2,k3,k4,k5⟩:=S.sep;rcases k1 with ⟨-,k⟩|⟨vb,vo,vcc,vslk,vcap,rfl,g1,fv,t1,c1,s1⟩
 ·cases k
 replace S:Hs h0 h (.sl (.slice (some ⟨vb,vo,none⟩) 1 vcap) 111 3 YS [Qm t] :: .sl vt.val 111 3 Qm l :: rs):=S;show Fn Tryz.prog Xh 88 [vt.val,.int .i64 i,.slice (some ⟨vb,vo,none⟩) 1 vcap] h _
 by_cases hlt:i<l.length
 ·rcases k3 with ⟨-,rfl⟩|⟨b,o,cc,slk,cap,e2,g2,fb,t2,c2,s2⟩
  ·exact absurd hlt (by simp)
  rw [e2];have hne:(!Nat.beq b vb)=true:=by
   cases hq:Nat.beq b vb with
   | false=>rfl
   | true=>have:=zA6 hq;subst this;exact absurd fv (k4 b fb).2.2.2
  have hone:((l.flatMap Qm).all one?)=true:=by
   rw [zC8];intro x hx;obtain ⟨y,-,hy⟩:=zH0.1 hx;simp [Qm] at hy
   rcases hy with rfl|rfl|rfl<;>rfl
  refine QJ (v:=.slice (some ⟨h.next,0,none⟩) (l.length+1) (l.length+1)) (h':=(h.put b .dead).add (.cells ((l.flatMap Qm).take (i*3) ++ (Qm t ++ (l.flatMap Qm).drop (i*3))) 111 (some 3) false)) ?_ ?_
  ·show ZM X0 88 88 [.slice (some ⟨b,o,none⟩) l.length cap,.int .i64 (.ofNat i),.slice (some ⟨vb,vo,none⟩) 1 vcap] h=_
   unfold ZM;have hb1:Nat.blt i l.length=true:=by rw [Nat.blt_eq];exact hlt
   have t1':zo vcc vo 3=some (Qm t):=by simpa [YS] using t1
   have hc2:Nat.ble (o+cap*3) cc.length=true:=zB3 c2.2;have hsz:Nat.ble ((l.length+1)*40) 140737488355328=true:=zB3 (by omega);have hot:((Qm t).all one?)=true:=rfl;simp only [show Nat.beq 88 88=true from rfl,hb1,g2,g1,t2,t1',hc2,hsz,hone,hot,hne,Bool.and_true,show Nat.beq 111 111=true from rfl];rcases s2 with rfl|rfl<;>rfl
  ·have W:=(S.wf.put (k4 b fb).2.1 .dead)
   have S2:Hs h0 ((h.put b .dead).add (.cells ((l.flatMap Qm).take (i*3) ++ (Qm t ++ (l.flatMap Qm).drop (i*3))) 111 (some 3) false)) (.sl (.slice (some ⟨vb,vo,none⟩) 1 vcap) 111 3 YS [Qm t] :: .sl (.slice (some ⟨h.next,0,none⟩) (l.length+1) (l.length+1)) 111 3 Qm (l.take i ++ t :: l.drop i) :: rs):=by
    refine S.turn (.there .here) (Nat.le_succ _) (W.add _) fun fp q1 q2=>?_;rcases q1 with ⟨q1,-⟩|⟨b2,o2,cc2,sl2,cap2,q1,-,q3,-⟩
    ·rw [q1] at e2;cases e2
    obtain rfl:b2=b:=by rw [q1] at e2;cases e2;rfl
    refine ⟨fun j hj hf=>?_,fun j=>j=h.next,.inr ⟨h.next,0,(l.flatMap Qm).take (i*3) ++ (Qm t ++ (l.flatMap Qm).drop (i*3)),some 3,l.length+1,?_,?_,rfl,?_,⟨?_,?_⟩,.inr rfl⟩,fun j hj=>?_⟩
    ·rw [AH.qW,if_neg (by show j≠h.next;omega),AH.get_put,if_neg];intro q;subst q;exact hf q3
    ·simp;omega
    ·rw [AH.qW];exact if_pos rfl
    ·have e:((l.flatMap Qm).take (i*3) ++ (Qm t ++ (l.flatMap Qm).drop (i*3)))=(l.take i ++ t :: l.drop i).flatMap Qm:=by
      rw [List.flatMap_append,zG2,QI (z:=3) (by intro _;rfl),Qa (z:=3) (by intro _;rfl)]
     rw [e];rw [← qQ (enc:=Qm) (z:=3) (by intro _;rfl)];exact ja _
    ·simp;omega
    ·simp [hfl,Qm];omega
    ·subst hj;exact ⟨zG0 _,.inr (zA3 _)⟩
   exact S2.tail
 ·obtain rfl:i=l.length:=by omega
  have hX:Xh 88 [vt.val,.int .i64 l.length,.slice (some ⟨vb,vo,none⟩) 1 vcap] h=none:=by
   rcases k3 with ⟨e2,rfl⟩|⟨b,o,cc,slk,cap,e2,-⟩
   ·rw [e2];rfl
   ·rw [e2];show ZM X0 88 88 [.slice (some ⟨b,o,none⟩) l.length cap,.int .i64 (.ofNat l.length),.slice (some ⟨vb,vo,none⟩) 1 vcap] h=_
    unfold ZM;have hb1:Nat.blt l.length l.length=false:=by rw [← Bool.not_eq_true,Nat.blt_eq];omega
    simp only [show Nat.beq 88 88=true from rfl,hb1];rfl
  have hr:=Rd.Zf S (.there .here);have hcap:=S.qfa (.there .here);refine zF (hX) Tryz.func88 rfl rfl ?_;all_goals (repeat' (first|refine qx ?_|(refine qf 0 ?_;refine mv ?_;refine qg ?_)))
  (repeat (refine qx ?_));refine qf 1 ?_;refine mv ?_;refine mv ?_;refine su l.length l.length hr hcap (fun v' _ _=>?_);(refine qg ?_);all_goals (repeat' (first|refine qx ?_|refine qi rfl ?_|refine qw ?_|(refine qf 2 ?_;refine mv ?_;refine J5 S rfl rfl ?_;refine mv ?_;refine qg ?_)|(refine qf 3 ?_;refine mv ?_;(first|(refine cS ?_ ?_<;>intro hc))<;>(refine qg ?_))|(refine qf 4 ?_;refine mv ?_;refine mv ?_;refine qg ?_)|(refine qf 5 ?_;refine mv ?_;refine J5 S rfl rfl ?_;refine mv ?_;refine qg ?_)|(refine qf 6 ?_;refine mv ?_;refine mv ?_;(refine cT ?_)<;>(refine qg ?_))|(refine qf 7 ?_;refine mv ?_;refine mv ?_)))
  ·simp at hc
  ·refine app (y0:=t) S rfl rfl ?_;clear S;intro v h S;(refine mv ?_;refine qg ?_);all_goals (repeat' (fail))
   refine qF ⟨_,rfl,?_⟩;simp only [zD4,List.drop_length];exact S
  all_goals exact absurd rfl (by assumption)
theorem vH {h0 h:AH} {rs:List Rs} {p:Nat} {r:Rl} (S:Hs h0 h (jU p r :: rs)) (a b:List UInt8) (k:Int) (hl:r.ts.length≤256) (hs:TS r.ts) :
 Fn Tryz.prog Xh 37 [.pointer (some ⟨p,0,none⟩),str a,str b,.int .u8 k] h (fun v h'=>v = .int .i64 (QZ r a b k).2∧Hs h0 h' (jU p (QZ r a b k).1 :: rs)):=by
 obtain ⟨⟨vg,vt,m,mp,gs⟩,⟨q1,q2⟩,S⟩:=S.unpack;have e1:gs.length=r.us.length:=by rw [← q1];simp
 dsimp only [bkL,List.cons_append,List.nil_append] at q1 q2 S;refine zF rfl Tryz.func37 rfl rfl ?_;all_goals (repeat' (first|refine qx ?_|(refine qf 0 ?_;refine mv ?_;refine qg ?_)|(refine qf 1 ?_;refine mv ?_)))
 (refine qH rfl rfl rfl rfl rfl ((xA S.wf (XI S .here)).mono ?_);rintro _ h ⟨rfl,x⟩)<;>(replace S:=S.zn x;clear x;refine qg ?_)
 all_goals (repeat' (first|refine qx ?_|refine qi rfl ?_|refine qw ?_))
 (repeat (refine qx ?_));first|refine Yo (σ:=Unit) (fun _ h'=>¬ ((k≠1∧k≠2)∨a=b)∧Hs h0 h' (.blk p [vg.val,vt.val,.map (some m)] 86 :: .sl vg.val 24 9 eG gs :: .sl vt.val 111 3 Qm r.ts :: .mp m (.int .i64) mp :: vJ gs :: rs)) (fun _=>[(0,.pointer (some ⟨p,0,none⟩)),(1,str a),(2,str b),(3,.int .u8 k)]) ?_ ?_
 ·all_goals (repeat' (first|refine qx ?_|refine qi rfl ?_|refine qw ?_|(refine qf 3 ?_;refine mv ?_;(first|(refine cS ?_ ?_<;>intro hc))<;>(refine mv ?_;(first|refine off ?_|refine mv ?_);(first|refine off ?_|(first|(refine cS ?_ ?_<;>intro hc)))<;>(refine vl ?_;refine mv ?_;(first|refine off ?_|refine mv ?_);(first|refine off ?_|refine mv ?_);(first|refine off ?_|(refine tS ?_ ?_<;>intro hc))<;>(refine vl ?_;refine qg ?_))))|(refine qf 4 ?_;refine mv ?_;refine qg ?_)))
  all_goals first
   | exact ⟨(),⟨by omega,S⟩,((by repeat (fail)))⟩
   | exact ⟨(),⟨by grind,S⟩,(zf)⟩
   | ((refine qF ⟨_,rfl,?_⟩);rw [PG (by first|omega|grind)];exact ⟨rfl,S.bk vg vt m mp gs q1 q2⟩)
 clear S;rintro - h ⟨hk,S⟩;all_goals (repeat' (first|refine qx ?_|(refine qf 5 ?_;refine mv ?_;refine mv ?_)))
 refine bsn (α:=List UInt8) (z:=1) eS [a,b] S ?_;clear S;intro u h S;((refine J5 S rfl rfl ?_);refine mv ?_;refine qg ?_);all_goals (repeat' (refine qh ?_))
 refine zK (σ:=Nat) (fun i h'=>Hs h0 h' (.sl u 9 1 eS [a,b] :: .blk p [vg.val,vt.val,.map (some m)] 86 :: .sl vg.val 24 9 eG gs :: .sl vt.val 111 3 Qm r.ts :: .mp m (.int .i64) mp :: vJ gs :: rs)∧i≤2∧∀ j,j<i→gat r.us ([a,b].getD j default)≠none) (fun i=>2 - i) (fun i=>[(0,.pointer (some ⟨p,0,none⟩)),(1,str a),(2,str b),(3,.int .u8 k),(30,u),(31,.int .i64 ([a,b].length:Nat)),(32,.int .i64 i)]) 0 zf ?_ ?_
 ·exact ⟨S,zB0 _,fun j hj=>absurd hj (zB7 _)⟩
 clear S;rintro i h ⟨S,g1,g2⟩;all_goals (repeat' (first|refine qx ?_|refine qi rfl ?_|refine qw ?_|refine qA ?_|refine qh ?_|(refine qf 6 ?_;(first|(refine cS ?_ ?_<;>intro hc))<;>(refine qg ?_))|(refine qf 7 ?_;refine jQ S rfl rfl ?_;refine zh S rfl rfl ?_;refine mv ?_;refine qg ?_)|(refine qf 8 ?_;refine mv ?_;refine vl ?_;refine vl ?_;refine lB S rfl rfl ?_;refine mv ?_)|(refine qf 12 ?_;(iterate 3 refine mv ?_);skip)))
 ·have hi2:i<2:=by simp at hc;omega
  simp only [zA0];refine lk S (.there (.there (.there (.there .here)))) (fun y hy=>?_) (fun hy=>?_)
  ·simp only [okV];(refine mv ?_;refine vl ?_;refine vl ?_;refine mv ?_;refine mv ?_;refine qg ?_);all_goals (repeat' (first|refine qx ?_|refine qi rfl ?_|refine qw ?_|(refine qf 9 ?_;refine mv ?_;refine vl ?_;refine qg ?_)|(refine qf 11 ?_;refine ad ?_;refine mv ?_;refine qg ?_)))
   refine ⟨i+1,?_,?_,zf⟩
   ·show 2 - (i+1)<2 - i;omega
   ·refine ⟨S,by omega,Vd g2 fun q=>?_⟩;rw [q2,q] at hy;cases hy
  ·simp only [okV];(refine mv ?_;refine vl ?_;refine vl ?_;refine mv ?_;refine mv ?_;refine qg ?_);all_goals (repeat' (first|refine qx ?_|refine qi rfl ?_|(refine qf 9 ?_;refine mv ?_;refine vl ?_;refine qg ?_)|(refine qf 10 ?_;refine mv ?_;refine qg ?_)))
   refine qF ⟨_,rfl,?_⟩;rw [q2] at hy;have hn:gat r.us ([a,b].getD i default)=none:=by
    cases hq:gat r.us ([a,b].getD i default) with
    | none=>rfl
    | some z=>rw [hq] at hy;cases hy
   rw [vI hk (by
    rcases (show i=0∨i=1 by omega) with rfl|rfl
    ·exact .inl hn
    ·exact .inr hn)]
   exact ⟨rfl,S.bk vg vt m mp gs q1 q2⟩
 ·have hi2:i=2:=by simp at hc;omega
  have hk2:¬ (gat r.us a=none∨gat r.us b=none):=fun q=>by
   rcases q with q|q
   ·exact g2 0 (by omega) q
   ·exact g2 1 (by omega) q
  (refine qH rfl rfl rfl rfl rfl ((qbn S.wf (XI S (.there .here)) (Rd.Zf S (.there (.there (.there .here)))) (by omega) hs a b).mono ?_);rintro _ h ⟨⟨j,_ | _,rfl,p1,p2⟩,x⟩)<;>(replace S:=S.zn x;clear x;refine mv ?_;refine vl ?_;refine vl ?_;refine mv ?_;refine mv ?_;refine qg ?_)
  ·have hk3:¬ tied r.ts a b:=fun q=>by have:=p2.2 ((p1.tied hs).1 q);cases this
   all_goals (repeat' (first|refine qx ?_|refine qi rfl ?_|refine qw ?_|(refine qf 13 ?_;refine mv ?_;refine qg ?_)|(refine qf 15 ?_;refine mv ?_;refine vl ?_;refine vl ?_;refine vl ?_;refine lB S rfl rfl ?_;refine J5 S rfl rfl ?_;(first|(refine cS ?_ ?_<;>intro hc))<;>(refine qg ?_))|(refine qf 16 ?_;refine mv ?_;refine qg ?_)))
   ·refine qF ⟨_,rfl,?_⟩;rw [Gz hk hk2 hk3 (by omega)];exact ⟨rfl,S.bk vg vt m mp gs q1 q2⟩
   ·have hk4:¬ 256≤r.ts.length:=by omega
    (repeat (refine qx ?_));refine Z9 (id:=17) [(5,(0,2))] [some (p)] ?_;refine qB ?_;(first|(refine mv ?_<;>refine qg ⟨⟨by (first|exact True.intro),rfl⟩,?_⟩));refine qB ?_;(first|(refine mv ?_<;>refine qg ⟨⟨by (first|exact True.intro),rfl⟩,?_⟩));refine qB ?_;(first|(refine vl ?_<;>refine qg ⟨⟨by (first|exact True.intro),rfl⟩,?_⟩));refine qB ?_;(first|(refine vl ?_<;>refine qg ⟨⟨by (first|exact True.intro),rfl⟩,?_⟩));refine qB ?_;(first|(refine vl ?_<;>refine qg ⟨⟨by (first|exact True.intro),rfl⟩,?_⟩));refine qB ?_;(first|(refine lB S rfl rfl ?_<;>refine qg ⟨⟨by (first|exact Or.inr rfl),rfl⟩,?_⟩));refine qB ?_;(first|(refine mv ?_<;>refine qg ⟨⟨by (first|exact True.intro),rfl⟩,?_⟩));refine qB ?_;(first|(refine mv ?_<;>refine qg ⟨⟨by (first|exact True.intro),rfl⟩,?_⟩));refine qB ?_;(first|(refine mv ?_<;>refine qg ⟨⟨by (first|exact True.intro),rfl⟩,?_⟩));refine qB ?_;(first|(refine mv ?_<;>refine qg ⟨⟨by (first|exact True.intro),rfl⟩,?_⟩));((refine qB ?_;first|refine qH rfl rfl rfl rfl rfl ((PO S.wf a b k).mono ?_));rintro _ h ⟨rfl,x⟩)<;>((refine qg ⟨⟨True.intro,?_⟩,?_⟩;(focus ((show keepsX _ _ _ _ _;simp only [keepsX];(repeat' (first|exact True.intro|refine And.intro ?_ ?_));all_goals (intro hw;first|exact x.ext.old _ S.bB)))));replace S:=S.zn x;clear x;refine qB ?_;(first|((refine one 3 S ?_;have S0:=S;clear S;intro u h S);refine qg ⟨⟨True.intro,?_⟩,?_⟩;(focus ((show keepsX _ _ _ _ _;simp only [keepsX];(repeat' (first|exact True.intro|refine And.intro ?_ ?_));all_goals (intro hw;first|exact (S.gB).trans (S0.gB).symm))));clear S0)))
    replace S:Hs h0 _ (.sl u 111 3 YS [Qm (Qc a b k)] :: _):=S;have S:=(show Hs h0 _ (.sl u 111 3 YS [Qm (Qc a b k)] :: .sl vt.val 111 3 Qm r.ts :: .blk p [vg.val,vt.val,.map (some m)] 86 :: .sl vg.val 24 9 eG gs :: .mp m (.int .i64) mp :: vJ gs :: rs) from S.pick)
    refine qB ?_;refine qH rfl rfl rfl rfl rfl ((qcS j p1.1 (by omega) S).mono ?_);have S0:=S;clear S;rintro v h S;obtain ⟨vt',rfl⟩:=S.sV v;refine qg ⟨⟨True.intro,?_⟩,?_⟩;(focus ((show keepsX _ _ _ _ _;simp only [keepsX];(repeat' (first|exact True.intro|refine And.intro ?_ ?_));all_goals (intro hw;first|exact (S.gB).trans (S0.gB).symm))));clear S0;(refine qB ?_;(first|(refine vl ?_<;>refine qg ⟨⟨by (first|exact True.intro),rfl⟩,?_⟩));refine qB ?_;(first|(refine vl ?_<;>refine qg ⟨⟨by (first|exact True.intro),rfl⟩,?_⟩));refine qB ?_;(first|(refine vl ?_<;>refine qg ⟨⟨by (first|exact True.intro),rfl⟩,?_⟩));refine qB ?_;(first|((refine sB S rfl rfl ?_;have S0:=S;clear S;intro h S);refine qg ⟨⟨True.intro,?_⟩,?_⟩;(focus ((show keepsX _ _ _ _ _;simp only [keepsX];(repeat' (first|exact True.intro|refine And.intro ?_ ?_));all_goals (intro hw;first|exact absurd hw (by decide +kernel)))));clear S0));refine Xz ?_);all_goals (repeat' (first|refine qx ?_|(refine qf 18 ?_;refine mv ?_;refine qg ?_)))
    refine qF ⟨_,rfl,?_⟩;rw [Wq hk hk2 hk3 hk4,Xj (t:=Qc a b k) p1];replace S:Hs h0 h (.sl vt'.val 111 3 Qm (r.ts.take j ++ Qc a b k :: r.ts.drop j) :: .blk p [vg.val,vt'.val,.map (some m)] 86 :: _):=S;exact ⟨rfl,S.bk vg vt' m mp gs q1 q2⟩
  ·have hk3:tied r.ts a b:=(p1.tied hs).2 (p2.1 rfl);all_goals (repeat' (first|refine qx ?_|refine qi rfl ?_|(refine qf 13 ?_;refine mv ?_;refine qg ?_)|(refine qf 14 ?_;refine mv ?_;refine qg ?_)))
   refine qF ⟨_,rfl,?_⟩;rw [GG hk hk2 hk3];exact ⟨rfl,S.bk vg vt m mp gs q1 q2⟩
end Go.Proofs.Xx
namespace Go.Proofs.Xx
open Go Go.Proofs
structure RlV where
 vg:SlV
 vt:SlV
 gs:List ZL
def RlV.val (v:RlV):Value:=.agg #[v.vg.val,v.vt.val]
structure RlOk (h:AH) (v:RlV) (r:Rl):Prop where
 rg:Qk h v.vg.val 9 eG v.gs
 rt:Qk h v.vt.val 3 Qm r.ts
 tg:∀ i,i<v.gs.length→Qk h (v.gs.getD i default).tv.val 1 eS (v.gs.getD i default).tg∧(v.gs.getD i default).tg.length≤9223372036854775807
 us:v.gs.map (·.toGu)=r.us
 lg:r.us.length≤9223372036854775807
 lt:r.ts.length≤9223372036854775807
theorem RlOk.ext {h h':AH} {v:RlV} {r:Rl} (a:RlOk h v r) (w:WfH h) (x:Ext h h'):RlOk h' v r:=⟨a.rg.ext w x,a.rt.ext w x,fun i hi=>⟨(a.tg i hi).1.ext w x,(a.tg i hi).2⟩,a.us,a.lg,a.lt⟩
theorem RlOk.len {h:AH} {v:RlV} {r:Rl} (a:RlOk h v r):v.gs.length=r.us.length:=by rw [← a.us];simp
theorem zB {α β:Type} [Inhabited α] [Inhabited β] {f:α→β} {l:List α} {i:Nat} (hi:i<l.length):(l.map f).getD i default=f (l.getD i default):=by
 rw [zA2,zA2,zH9,zA4 hi];rfl
theorem RlOk.at_ {h:AH} {v:RlV} {r:Rl} (a:RlOk h v r) {i:Nat} (hi:i<v.gs.length):(v.gs.getD i default).toGu=r.us.getD i default:=by rw [← a.us,zB hi]
noncomputable def gE0 (us:List Gu) (i:Nat):Int:=(J9 ⟨us.take i,[]⟩ (us.getD i default)).2
open Classical in
noncomputable def Yy (r:Rl) (i:Nat):Int :=
 if jk (r.ts.getD i default).a (r.ts.getD i default).b∧(i=0∨¬ Z4 (r.ts.getD i default) (r.ts.getD (i - 1) default)) then (QZ ⟨r.us,r.ts.take i⟩ (r.ts.getD i default).a (r.ts.getD i default).b (r.ts.getD i default).k).2 else 23
def VRl (r:Rl):Prop:=(∀ i,i<r.us.length→gE0 r.us i=0)∧∀ i,i<r.ts.length→Yy r i=0
def Bad (r:Rl) (i e:Int):Prop:=e≠0∧((∃ j:Nat,j<r.us.length∧(∀ k,k<j→gE0 r.us k=0)∧gE0 r.us j=e∧i=j)∨((∀ k,k<r.us.length→gE0 r.us k=0)∧∃ j:Nat,j<r.ts.length∧(∀ k,k<j→Yy r k=0)∧Yy r j=e∧i=r.us.length+j))
theorem Bad.not {r:Rl} {i e:Int} (a:Bad r i e):¬ VRl r:=fun v=>by
 obtain ⟨h1,⟨j,a1,a2,a3,a4⟩|⟨a0,j,a1,a2,a3,a4⟩⟩:=a
 ·exact h1 (a3 ▸ v.1 j a1)
 ·exact h1 (a3 ▸ v.2 j a1)
theorem XL {r:Rl} {g:Gu} (h:(J9 r g).2=0):Qg g=0∧gat r.us g.name=none∧r.us.length<64∧(J9 r g).1=⟨r.us ++ [g],r.ts⟩:=by
 by_cases h1:Qg g=0
 ·by_cases h2:gat r.us g.name=none
  ·by_cases h3:64≤r.us.length
   ·rw [qcb h1 h2 h3] at h;cases h
   ·rw [wX h1 h2 h3];exact ⟨h1,h2,by omega,rfl⟩
  ·rw [qcc h1 h2] at h;cases h
 ·rw [qca h1] at h;exact absurd h h1
theorem Ji {r:Rl} {a b:List UInt8} {k:Int} (h:(QZ r a b k).2=0):(k=1∨k=2)∧a≠b∧gat r.us a≠none∧gat r.us b≠none∧¬ tied r.ts a b∧r.ts.length<256∧(QZ r a b k).1=⟨r.us,xX r.ts (Qc a b k)⟩:=by
 by_cases h1:(k≠1∧k≠2)∨a=b
 ·rw [PG h1] at h;cases h
 ·by_cases h2:gat r.us a=none∨gat r.us b=none
  ·rw [vI h1 h2] at h;cases h
  ·by_cases h3:tied r.ts a b
   ·rw [GG h1 h2 h3] at h;cases h
   ·by_cases h4:256≤r.ts.length
    ·rw [Gz h1 h2 h3 h4] at h;cases h
    ·rw [Wq h1 h2 h3 h4];exact ⟨by omega,fun q=>h1 (.inr q),fun q=>h2 (.inl q),fun q=>h2 (.inr q),h3,by omega,rfl⟩
theorem zq {α:Type} [Inhabited α] {l:List α} {i:Nat} (hi:i<l.length):l.take (i+1)=l.take i ++ [l.getD i default]:=by
 rw [List.take_add_one,zA2,zA4 hi];rfl
theorem PZ {us:List Gu} {i:Nat} (hi:i≤us.length) (h:∀ k,k<i→gE0 us k=0):i≤64:=by
 cases i with
 | zero=>omega
 | succ i =>
  have:=(XL (h i (zG0 i))).2.2.1;simp at this;omega
theorem getD_take {α:Type} [Inhabited α] {l:List α} {i j:Nat} (h:j<i):(l.take i).getD j default=l.getD j default:=by
 rw [zA2,zA2,zC7,if_pos h]
theorem TS.mk_ {ts:List Ti} (h:∀ i j,i<j→j<ts.length→Z4 (ts.getD i default) (ts.getD j default)):TS ts:=by
 rw [TS,zD2];intro i j hi hj hij;have:=h i j hij hj;rw [zA2,zA2,zA4 hj,zA4 hi] at this;exact this
theorem TS.app {ts:List Ti} {t:Ti} (h:TS ts) (h2:∀ j,j<ts.length→Z4 (ts.getD j default) t):TS (ts ++ [t]):=TS.mk_ fun i j hij hj=>by
 simp at hj;rw [YL (show i<ts.length by omega)];rcases zA7 j ts.length with q|q
 ·rw [YL q];exact h.lt hij q
 ·obtain rfl:j=ts.length:=by omega
  rw [Gt (zA3 _),zG6];exact h2 i (by omega)
theorem Yx {r:Rl} {i:Nat} (h:Yy r i=0):jk (r.ts.getD i default).a (r.ts.getD i default).b∧(i=0∨¬ Z4 (r.ts.getD i default) (r.ts.getD (i - 1) default))∧(QZ ⟨r.us,r.ts.take i⟩ (r.ts.getD i default).a (r.ts.getD i default).b (r.ts.getD i default).k).2=0:=by
 unfold Yy at h;split at h
 ·rename_i q;exact ⟨q.1,q.2,h⟩
 ·cases h
theorem Zl {a b:List UInt8} (h:jk a b):Q3 a b=a:=by unfold Q3;rw [if_neg (jF h)]
theorem Zm {a b:List UInt8} (h:jk a b):Q4 a b=b:=by unfold Q4;rw [if_pos h]
theorem GK {r:Rl}:∀ {i:Nat},i≤r.ts.length→(∀ k,k<i→Yy r k=0)→TS (r.ts.take i)∧(i<r.ts.length→Yy r i=0→∀ j,j<i→Z4 (r.ts.getD j default) (r.ts.getD i default))
 | i,hi,h=>by
  have key:∀ i,i≤r.ts.length→(∀ k,k<i→Yy r k=0)→TS (r.ts.take i)→i<r.ts.length→Yy r i=0→∀ j,j<i→Z4 (r.ts.getD j default) (r.ts.getD i default):=by
   intro i hi h hs hl h0 j hj;obtain ⟨z1,z2,z3⟩:=Yx h0;have z4:=(Ji z3).2.2.2.2.1;have hp:Z4 (r.ts.getD (i - 1) default) (r.ts.getD i default):=by
    rcases Wp (r.ts.getD (i - 1) default) (r.ts.getD i default) with q|⟨e1,e2⟩|q
    ·exact q
    ·refine absurd ⟨r.ts.getD (i - 1) default,?_,?_⟩ z4
     ·rw [← getD_take (show i - 1<i by omega)];have hl2:i - 1<(r.ts.take i).length:=by simp;omega
      rw [zA2,zA4 hl2];exact List.getElem_mem hl2
     ·rw [Zl z1,Zm z1];exact ⟨e1,e2⟩
    ·rcases z2 with z2|z2
     ·omega
     ·exact absurd q z2
   rcases zA7 j (i - 1) with q|q
   ·have hl2:i - 1<(r.ts.take i).length:=by simp;omega
    have:=hs.lt q hl2;rw [getD_take (by omega),getD_take (by omega)] at this;exact Qv this hp
   ·obtain rfl:j=i - 1:=by omega
    exact hp
  have all:∀ i,i≤r.ts.length→(∀ k,k<i→Yy r k=0)→TS (r.ts.take i):=by
   intro i;induction i with
   | zero=>intro _ _;simp [TS]
   | succ i ih =>
    intro hi h;have hs:=ih (by omega) fun k hk=>h k (by omega);rw [zq (by omega)];refine hs.app fun j hj=>?_;simp at hj;rw [getD_take (by omega)];exact key i (by omega) (fun k hk=>h k (by omega)) hs (by omega) (h i (by omega)) j (by omega)
  exact ⟨all i hi h,key i hi h (all i hi h)⟩
theorem PI {r:Rl} {i:Nat} (hi:i≤r.ts.length) (h:∀ k,k<i→Yy r k=0):i≤256:=by
 cases i with
 | zero=>omega
 | succ i =>
  have:=(Ji (Yx (h i (zG0 i))).2.2).2.2.2.2.2.1;simp at this;omega
theorem qcv {r:Rl} {i:Nat} (hi:i<r.ts.length) (h:∀ k,k<i→Yy r k=0) (h0:Yy r i=0):(QZ ⟨r.us,r.ts.take i⟩ (r.ts.getD i default).a (r.ts.getD i default).b (r.ts.getD i default).k).1=⟨r.us,r.ts.take (i+1)⟩:=by
 obtain ⟨z1,z2,z3⟩:=Yx h0;rw [(Ji z3).2.2.2.2.2.2];have e:Qc (r.ts.getD i default).a (r.ts.getD i default).b (r.ts.getD i default).k=r.ts.getD i default:=by unfold Qc;rw [Zl z1,Zm z1]
 have hl:(r.ts.take i).length=i:=by simp;omega
 show (⟨r.us,xX (r.ts.take i) _⟩:Rl)=_
 rw [e,Xj (i:=i) ⟨by omega,fun j hj=>by rw [getD_take hj];exact (GK (by omega) h).2 hi h0 j hj,fun j h1 h2=>by omega⟩,zq hi];simp [List.take_take]
theorem qed {c:Int} {x t:Ti} (e1:c<0↔Z4 x t) (e2:c=0↔x.a=t.a∧x.b=t.b):c≤0↔¬ Z4 t x:=by
 constructor
 ·intro z q;rcases Int.lt_or_eq_of_le z with z|z
  ·exact wW _ (Qv (e1.1 z) q)
  ·have:=e2.1 z;rcases q with q|q
   ·rw [this.1] at q;exact zA _ q
   ·rw [this.2] at q;exact zA _ q.2
 ·intro z;rcases Wp x t with q|q|q
  ·have:=e1.2 q;omega
  ·have:=e2.2 q;omega
  ·exact absurd q z
variable [Flag]
theorem qcM {h0:AH} (w:WfH h0) (v:RlV) (r:Rl) (H:RlOk h0 v r) :
 Fn Tryz.prog Xh 33 [v.val] h0 (fun u h'=>(∃ p,u = .tuple #[.pointer (some ⟨p,0,none⟩),.int .i64 0,.int .i64 0]∧VRl r∧Hs h0 h' [jU p r])∨(∃ i e,u = .tuple #[.pointer none,.int .i64 i,.int .i64 e]∧Bad r i e∧Hs h0 h' [])):=by
 have S:=Hs.start w;have hgl:=H.len;have hrg:=H.rg;have hrt:=H.rt;have hlg:=H.lg;have hlt:=H.lt;unfold RlV.val;refine zF rfl Tryz.func33 rfl rfl ?_;all_goals (repeat' (first|refine qx ?_|(refine qf 0 ?_;(refine bx S ?_;clear S;intro b h S);(iterate 3 refine mv ?_);refine qg ?_)|(refine qf 1 ?_;skip)))
 (refine qH rfl rfl rfl rfl rfl ((qbw S.wf).mono ?_);rintro _ h ⟨p,rfl,x⟩)<;>(replace S:=S.Xo x;clear x;refine mv ?_;refine qg ?_)
 all_goals (repeat' (first|refine qx ?_|refine qh ?_|(refine qf 2 ?_;refine vl ?_;refine lB S rfl rfl ?_;refine Zg S ?_;refine mv ?_;refine qg ?_)))
 obtain ⟨q,hnm⟩:∃ x,x=b:=⟨_,rfl⟩;subst hnm;replace S:Hs h0 h [jU p ⟨[],[]⟩,.blk q [v.vg.val,v.vt.val] 32]:=S;refine zK (σ:=Nat) (fun i h'=>Hs h0 h' [jU p ⟨r.us.take i,[]⟩,.blk q [v.vg.val,v.vt.val] 32]∧i≤r.us.length∧∀ k,k<i→gE0 r.us k=0) (fun i=>r.us.length - i) (fun i=>[(1,.pointer (some ⟨q,0,none⟩)),(5,.pointer (some ⟨p,0,none⟩)),(14,v.vg.val),(15,.int .i64 v.gs.length),(16,.int .i64 i)]) 0 zf ?_ ?_
 ·exact ⟨S,zB0 _,fun j hj=>absurd hj (zB7 _)⟩
 clear S;rintro i h ⟨S,g1,g2⟩;have hi64:=PZ g1 g2;all_goals (repeat' (first|refine qx ?_|refine qi rfl ?_|refine qw ?_|refine qA ?_|refine qh ?_|(refine qf 3 ?_;(first|(refine cS ?_ ?_<;>intro hc))<;>(refine qg ?_))|(refine qf 4 ?_;refine mv ?_;refine Za S ?_;refine zU S ?_;(refine al S ?_;clear S;intro b h S);refine mv ?_;(first|(refine sB S rfl rfl ?_;clear S;intro h S));refine qg ?_)|(refine qf 5 ?_;refine mv ?_;refine lB S rfl rfl ?_)|(refine qf 9 ?_;refine vl ?_;refine lB S rfl rfl ?_;refine Zg S ?_;refine mv ?_;refine qg ?_)))
 ·have hil:i<v.gs.length:=by omega
  have hat:=H.at_ hil;simp only [zA0] at S;simp only [zA0];have htl:(r.us.take i).length≤64:=by simp;omega
  (refine qH rfl rfl rfl rfl rfl ((qb9 (S.front (.there .here)) (v.gs.getD i default) (RdS.base w (H.tg i hil).1) (H.tg i hil).2 htl).mono ?_);rintro _ h ⟨rfl,S⟩)<;>(refine mv ?_;refine qg ?_)
  rw [hat] at S;simp only [hat];all_goals (repeat' (first|refine qx ?_|refine qi rfl ?_|refine qw ?_|(refine qf 6 ?_;refine mv ?_;(first|(refine cS ?_ ?_<;>intro hc))<;>(refine qg ?_))|(refine qf 7 ?_;(iterate 5 refine mv ?_);refine qg ?_)|(refine qf 8 ?_;refine ad ?_;refine mv ?_;refine qg ?_)))
  ·refine qF ⟨_,rfl,?_⟩;exact .inr ⟨i,_,rfl,⟨hc,.inl ⟨i,by omega,g2,rfl,rfl⟩⟩,S.drop⟩
  ·have hz:gE0 r.us i=0:=zF3.1 hc;rw [(XL hz).2.2.2] at S;refine ⟨i+1,?_,?_,zf⟩
   ·show r.us.length - (i+1)<r.us.length - i;omega
   ·refine ⟨?_,by omega,Vd g2 hz⟩;rw [zq (by omega)];exact S.pick
 ·obtain rfl:i=r.us.length:=by omega
  rw [zD4] at S;refine zK (σ:=Nat) (fun i h'=>Hs h0 h' [jU p ⟨r.us,r.ts.take i⟩,.blk q [v.vg.val,v.vt.val] 32]∧i≤r.ts.length∧∀ k,k<i→Yy r k=0) (fun i=>r.ts.length - i) (fun i=>[(1,.pointer (some ⟨q,0,none⟩)),(5,.pointer (some ⟨p,0,none⟩)),(30,v.vt.val),(31,.int .i64 r.ts.length),(32,.int .i64 i)]) 0 zf ?_ ?_
  ·exact ⟨S,zB0 _,fun j hj=>absurd hj (zB7 _)⟩
  clear S;rintro i h ⟨S,k1,k2⟩;have hi256:=PI k1 k2;have hTS:=(GK k1 k2).1;have htl:(r.ts.take i).length≤256:=by simp;omega
  all_goals (repeat' (first|refine qx ?_|refine qi rfl ?_|refine qw ?_|refine qA ?_|refine qh ?_|(refine qf 10 ?_;(first|(refine cS ?_ ?_<;>intro hc))<;>(refine qg ?_))|(refine qf 11 ?_;refine mv ?_;refine Za S ?_;refine zU S ?_;(refine al S ?_;clear S;intro b h S);refine mv ?_;(first|(refine sB S rfl rfl ?_;clear S;intro h S));refine qg ?_)|(refine qf 12 ?_;refine mv ?_;refine qg ?_)|(refine qf 18 ?_;(iterate 4 refine mv ?_);refine qg ?_)))
  ·obtain ⟨t,ht⟩:∃ t,t=r.ts.getD i default:=⟨_,rfl⟩
   simp only [zA0] at S;simp only [zA0];replace S:Hs h0 h [.blk b (Qm t) 111,jU p ⟨r.us,r.ts.take i⟩,.blk q [v.vg.val,v.vt.val] 32]:=by rw [ht];exact S
   (repeat (refine qx ?_));first|refine Yo (σ:=Rl) (fun r' h'=>Hs h0 h' [jU p r',.blk q [v.vg.val,v.vt.val] 32]∧(Yy r i=0→r'=⟨r.us,r.ts.take (i+1)⟩)) (fun r'=>[(1,.pointer (some ⟨q,0,none⟩)),(5,.pointer (some ⟨p,0,none⟩)),(9,.int .i64 i),(11,.int .i64 (Yy r i)),(30,v.vt.val),(31,.int .i64 r.ts.length),(32,.int .i64 i)]) ?_ ?_
   ·have he1:jk t.a t.b→(i=0∨¬ Z4 t (r.ts.getD (i - 1) default))→Yy r i=(QZ ⟨r.us,r.ts.take i⟩ t.a t.b t.k).2:=fun z1 z2=>by rw [ht] at z1 z2 ⊢;unfold Yy;rw [if_pos ⟨z1,z2⟩]
    have he2:¬ (jk t.a t.b∧(i=0∨¬ Z4 t (r.ts.getD (i - 1) default)))→Yy r i=23:=fun z=>by rw [ht] at z;unfold Yy;rw [if_neg z]
    have he3:Yy r i=0→(QZ ⟨r.us,r.ts.take i⟩ t.a t.b t.k).1=⟨r.us,r.ts.take (i+1)⟩:=fun z=>by rw [ht];exact qcv (by omega) k2 z
    all_goals (repeat' (first|refine qi rfl ?_|refine qw ?_|(refine ji 13 ?_;refine vl ?_;refine lB S rfl rfl ?_;refine vl ?_;refine lB S rfl rfl ?_;(refine tO ?_ ?_<;>intro hc)<;>(refine mv ?_;(first|refine off ?_|refine mv ?_);(first|refine off ?_|(first|(refine cS ?_ ?_<;>intro hc)))<;>((first|refine off ?_|refine mv ?_);(first|refine off ?_|(refine vl ?_));(first|refine off ?_|(refine lB S rfl rfl ?_));(first|refine off ?_|refine mv ?_);(first|refine off ?_|(refine sb ?_));(first|refine off ?_|(refine Za S ?_));(first|refine off ?_|(refine zU S ?_));(first|refine off ?_|(refine lB S rfl rfl ?_));(first|(refine off ?_;(refine off ?_)<;>((first|refine off ?_|refine vl ?_);refine vl ?_;refine qg ?_))|skip))))))
    ·all_goals (repeat' (first|(refine qf 14 ?_;refine mv ?_;refine vl ?_;refine lB S rfl rfl ?_;refine vl ?_;refine lB S rfl rfl ?_;refine vl ?_;refine lB S rfl rfl ?_)))
     (refine qH rfl rfl rfl rfl rfl ((vH (S.front (.there .here)) t.a t.b t.k htl hTS).mono ?_);rintro _ h ⟨rfl,S⟩)<;>(refine mv ?_;refine qg ?_)
     have he:=he1 (by assumption) (.inl (by omega));refine ⟨_,⟨S.pick,he3⟩,?_⟩;rw [he];exact zf
    ·(refine qH rfl rfl rfl rfl rfl ((WM S.wf (r.ts.getD ((i:Int) - 1).toNat default) t).mono ?_);rintro _ h ⟨⟨c,rfl,e1,e2⟩,x⟩)<;>(replace S:=S.zn x;clear x;(first|(first|(refine cS ?_ ?_<;>intro hc)))<;>((refine vl ?_);refine vl ?_;refine qg ?_))
     all_goals rw [show ((i:Int) - 1).toNat=i - 1 by omega] at e1 e2
     all_goals have ec:=qed e1 e2
     all_goals (repeat' (first|refine qi rfl ?_|refine qw ?_))
     ·all_goals (repeat' (first|(refine qf 14 ?_;refine mv ?_;refine vl ?_;refine lB S rfl rfl ?_;refine vl ?_;refine lB S rfl rfl ?_;refine vl ?_;refine lB S rfl rfl ?_)))
      (refine qH rfl rfl rfl rfl rfl ((vH (S.front (.there .here)) t.a t.b t.k htl hTS).mono ?_);rintro _ h ⟨rfl,S⟩)<;>(refine mv ?_;refine qg ?_)
      have he:=he1 (by assumption) (.inr (ec.1 (by assumption)));refine ⟨_,⟨S.pick,he3⟩,?_⟩;rw [he];exact zf
     ·have he:=he2 (fun z=>z.2.elim (fun q=>by omega) (fun q=>absurd (ec.2 q) (by assumption)));refine ⟨⟨r.us,r.ts.take i⟩,⟨S.pick,fun q=>by rw [he] at q;cases q⟩,?_⟩;rw [he];exact zf
    ·have he:=he2 (fun z=>absurd z.1 (by assumption));refine ⟨⟨r.us,r.ts.take i⟩,⟨S.pick,fun q=>by rw [he] at q;cases q⟩,?_⟩;rw [he];exact zf
   ·clear S;rintro r' h ⟨S,hr'⟩;all_goals (repeat' (first|refine qx ?_|refine qi rfl ?_|refine qw ?_|(refine qf 15 ?_;refine mv ?_;(first|(refine cS ?_ ?_<;>intro hc))<;>(refine qg ?_))|(refine ji 16 ?_;refine vl ?_;refine lB S rfl rfl ?_;refine Zg S ?_;refine mv ?_;refine ad ?_;(iterate 4 refine mv ?_);refine qg ?_)|(refine qf 17 ?_;refine ad ?_;refine mv ?_;refine qg ?_)))
    ·refine qF ⟨_,rfl,?_⟩;exact .inr ⟨_,_,rfl,⟨hc,.inr ⟨g2,i,by omega,k2,rfl,by rw [hgl]⟩⟩,S.drop⟩
    ·have hz:Yy r i=0:=zF3.1 hc;obtain rfl:=hr' hz;refine ⟨i+1,?_,?_,zf⟩
     ·show r.ts.length - (i+1)<r.ts.length - i;omega
     ·exact ⟨S,by omega,Vd k2 hz⟩
  ·refine qF ⟨_,rfl,?_⟩;obtain rfl:i=r.ts.length:=by omega
   rw [zD4] at S;exact .inl ⟨p,rfl,⟨g2,k2⟩,S.pick⟩
end Go.Proofs.Xx
namespace Go.Proofs.Xx
open Go Go.Proofs
theorem Q5 {us:List Gu} {n:List UInt8}:gat us n=none↔∀ g∈us,g.name≠n:=by
 induction us with
 | nil=>simp [gat]
 | cons x r ih =>
  simp only [gat];by_cases h:x.name=n
  ·simp [h]
  ·simp only [if_neg h,Option.map_eq_none_iff,ih,zE8];constructor
   ·rintro q g (rfl|hg)
    ·exact h
    ·exact q g hg
   ·exact fun q g hg=>q g (.inr hg)
theorem xh {us:List Gu} {n:List UInt8} {i:Nat} (h:gat us n=some i):i<us.length∧(us.getD i default).name=n∧∀ j,j<i→(us.getD j default).name≠n:=by
 induction us generalizing i with
 | nil=>cases h
 | cons x r ih =>
  simp only [gat] at h;by_cases hx:x.name=n
  ·rw [if_pos hx] at h;cases h
   exact ⟨by simp,hx,fun j hj=>absurd hj (zB7 _)⟩
  ·rw [if_neg hx] at h;cases hr:gat r n with
   | none=>rw [hr] at h;cases h
   | some k =>
    rw [hr] at h;cases h
    obtain ⟨h1,h2,h3⟩:=ih hr;refine ⟨by simp;omega,h2,fun j hj=>?_⟩;cases j with
    | zero=>exact hx
    | succ j=>exact h3 j (by simp only at hj;omega)
theorem JM {us:List Gu} {n:List UInt8}:gat us n≠none↔∃ g∈us,g.name=n:=by
 rw [Ne,Q5];constructor
 ·intro h;apply zG8
  intro q;exact h fun g hg e=>q ⟨g,hg,e⟩
 ·rintro ⟨g,hg,e⟩ q;exact q g hg e
theorem qJ {α:Type} [Inhabited α] {l:List α} {i:Nat} (h:i<l.length):l.getD i default∈l:=by
 rw [zA2,zA4 h];exact List.getElem_mem h
theorem qM {α:Type} [Inhabited α] {l:List α} {x:α}:x∈l↔∃ i,i<l.length∧l.getD i default=x:=by
 constructor
 ·intro h;obtain ⟨i,hi,rfl⟩:=List.mem_iff_getElem.1 h;exact ⟨i,hi,by rw [zA2,zA4 hi];rfl⟩
 ·rintro ⟨i,hi,rfl⟩;exact qJ hi
structure RO (r:Rl):Prop where
 chk:∀ g∈r.us,Qg g=0
 nd:∀ i j,i<j→j<r.us.length→(r.us.getD i default).name≠(r.us.getD j default).name
 l64:r.us.length≤64
 ts:TS r.ts
 tt:∀ t∈r.ts,jk t.a t.b∧(t.k=1∨t.k=2)∧gat r.us t.a≠none∧gat r.us t.b≠none
 l256:r.ts.length≤256
theorem RO.gat {r:Rl} (h:RO r) {i:Nat} (hi:i<r.us.length):gat r.us (r.us.getD i default).name=some i:=by
 cases hq:Xx.gat r.us (r.us.getD i default).name with
 | none=>exact absurd rfl (Q5.1 hq _ (qJ hi))
 | some j =>
  obtain ⟨h1,h2,h3⟩:=xh hq;rcases zE7 i j with q|q|q
  ·exact absurd rfl (h3 i q)
  ·rw [q]
  ·exact absurd h2 (h.nd j i q hi)
theorem wJ {us:List Gu} {i:Nat} (hi:i<us.length):gE0 us i=0↔Qg (us.getD i default)=0∧(∀ j,j<i→(us.getD j default).name≠(us.getD i default).name)∧i<64:=by
 unfold gE0;have hl:(us.take i).length=i:=by simp;omega
 have hg:Xx.gat (us.take i) (us.getD i default).name=none↔∀ j,j<i→(us.getD j default).name≠(us.getD i default).name:=by
  rw [Q5];constructor
  ·intro h j hj;have:=h _ (qJ (show j<(us.take i).length by omega));rwa [getD_take hj] at this
  ·intro h g hg;obtain ⟨j,hj,rfl⟩:=qM.1 hg;rw [getD_take (by omega)];exact h j (by omega)
 constructor
 ·intro h;obtain ⟨h1,h2,h3,-⟩:=XL h;exact ⟨h1,hg.1 h2,by simpa [hl] using h3⟩
 ·rintro ⟨h1,h2,h3⟩;rw [wX h1 (hg.2 h2) (by show ¬ 64≤(us.take i).length;omega)]
theorem kV {ts:List Ti} {a b:List UInt8} (h:jk a b):tied ts a b↔∃ t∈ts,t.a=a∧t.b=b:=by unfold tied;rw [Zl h,Zm h]
theorem qae {r:Rl}:VRl r↔RO r:=by
 constructor
 ·rintro ⟨h1,h2⟩;refine ⟨fun g hg=>?_,fun i j hij hj=>((wJ hj).1 (h1 j hj)).2.1 i hij,PZ (zA3 _) h1,?_,fun t ht=>?_,PI (zA3 _) h2⟩
  ·obtain ⟨i,hi,rfl⟩:=qM.1 hg;exact ((wJ hi).1 (h1 i hi)).1
  ·have:=(GK (zA3 _) h2).1;rwa [zD4] at this
  ·obtain ⟨i,hi,rfl⟩:=qM.1 ht;obtain ⟨z1,z2,z3⟩:=Yx (h2 i hi);obtain ⟨y1,y2,y3,y4,y5,y6,y7⟩:=Ji z3;exact ⟨z1,y1,y3,y4⟩
 ·intro h;refine ⟨fun i hi=>(wJ hi).2 ⟨h.chk _ (qJ hi),fun j hj=>h.nd j i hj hi,by have:=h.l64;omega⟩,fun i hi=>?_⟩;obtain ⟨z1,z2,z3,z4⟩:=h.tt _ (qJ hi);have hb:∀ j,j<i→Z4 (r.ts.getD j default) (r.ts.getD i default):=fun j hj=>h.ts.lt hj hi;have hz:i=0∨¬ Z4 (r.ts.getD i default) (r.ts.getD (i - 1) default):=by
   rcases zF4 i with q|q
   ·exact .inl q
   ·exact .inr fun q2=>wW _ (Qv (hb (i - 1) (by omega)) q2)
  unfold Yy;rw [if_pos ⟨z1,hz⟩,Wq]
  ·rintro (q|q)
   ·omega
   ·rw [q] at z1;exact zA _ z1
  ·rintro (q|q)
   ·exact z3 q
   ·exact z4 q
  ·rw [kV z1];rintro ⟨t,ht,e1,e2⟩;obtain ⟨j,hj,rfl⟩:=qM.1 ht;have hl:(r.ts.take i).length=i:=by simp;omega
   replace hj:j<i:=by rw [← hl];exact hj
   rw [getD_take (by omega)] at e1 e2;rcases hb j (by omega) with q|q
   ·rw [e1] at q;exact zA _ q
   ·rw [e2] at q;exact zA _ q.2
  ·have:=h.l256;simp;omega
def num (j:Nat):List UInt8:=[UInt8.ofNat (97+j / 26 % 26),UInt8.ofNat (97+j % 26)]
theorem qeE {a b:Nat} (ha:a<256) (hb:b<256):UInt8.ofNat a<UInt8.ofNat b↔a<b:=by
 rw [UInt8.lt_iff_toNat_lt];simp [UInt8.toNat_ofNat,Nat.mod_eq_of_lt ha,Nat.mod_eq_of_lt hb]
theorem qfC {a b:Nat} (ha:a<256) (hb:b<256):UInt8.ofNat a=UInt8.ofNat b↔a=b:=by
 constructor
 ·intro h;have:=congrArg UInt8.toNat h;simpa [UInt8.toNat_ofNat,Nat.mod_eq_of_lt ha,Nat.mod_eq_of_lt hb] using this
 ·rintro rfl;rfl
theorem Yf {i j:Nat} (hi:i<676) (hj:j<676):jk (num i) (num j)↔i<j:=by
 unfold num;rw [Zz,Zz,qeE (by omega) (by omega),qfC (by omega) (by omega),qeE (by omega) (by omega)];constructor
 ·rintro (h|⟨h1,h2|⟨h2,h3⟩⟩)
  ·omega
  ·omega
  ·exact absurd h3 (zA _)
 ·intro h;rcases zA7 (i / 26) (j / 26) with q|q
  ·exact .inl (by omega)
  ·exact .inr ⟨by omega,.inl (by omega)⟩
theorem PP {i j:Nat} (hi:i<676) (hj:j<676) (h:num i=num j):i=j:=by
 rcases zE7 i j with q|q|q
 ·have:=(Yf hi hj).2 q;rw [h] at this;exact absurd this (zA _)
 ·exact q
 ·have:=(Yf hj hi).2 q;rw [h] at this;exact absurd this (zA _)
theorem Xl (j:Nat):nameP (num j):=by
 refine ⟨by simp [num],by simp [num],fun i hi=>?_⟩;have h1:j / 26 % 26<26:=Nat.mod_lt _ (by decide);have h2:j % 26<26:=Nat.mod_lt _ (by decide);have hi:i<2:=by simpa [num] using hi
 rcases (show i=0∨i=1 by omega) with rfl|rfl
 ·show VZ (UInt8.ofNat (97+j / 26 % 26))
  unfold VZ;rw [UInt8.toNat_ofNat',Nat.mod_eq_of_lt (by omega)];omega
 ·show VZ (UInt8.ofNat (97+j % 26))
  unfold VZ;rw [UInt8.toNat_ofNat',Nat.mod_eq_of_lt (by omega)];omega
variable [Flag]
theorem Jr {h0:AH} (w:WfH h0) (j:Nat) (hj:j≤1000000):Fn Tryz.prog Xh 69 [.int .i64 j] h0 (fun v h'=>v=str (num j)∧Hs h0 h' []):=by
 have S:=Hs.start w;refine zF rfl Tryz.func69 rfl rfl ?_;all_goals (repeat' (first|refine qx ?_|(refine qf 0 ?_;refine mv ?_;refine qg ?_)|(refine qf 1 ?_;refine mv ?_;refine qu ?_;refine rm ?_;refine ad ?_;refine cU ?_;refine mv ?_;refine rm ?_;refine ad ?_;refine cU ?_)))
 refine bsn (α:=Nat) (z:=1) eU [97+j / 26 % 26,97+j % 26] S ?_;clear S;intro u h S;refine bS (Rd.Zf S .here) ?_;(refine mv ?_;refine qg ?_);all_goals (repeat' (fail))
 refine qF ⟨_,rfl,?_⟩;exact ⟨rfl,S.drop⟩
theorem JI {h0:AH} (w:WfH h0) {z:Int} (j:Nat) (hz:z=j) (hj:j≤1000000):Fn Tryz.prog Xh 69 [.int .i64 z] h0 (fun v h'=>v=str (num j)∧Hs h0 h' []):=by
 subst hz;exact Jr w j hj
theorem kW {h0:AH} (w:WfH h0) (vg vt:SlV) (gs:List ZL) (hrg:Qk h0 vg.val 9 eG gs) (hl:gs.length≤1000000) (j:Nat) (hj:j≤1000000) :
 Fn Tryz.prog Xh 70 [.agg #[vg.val,vt.val],.int .i64 j] h0 (fun v h'=>JW v (∃ i,i<gs.length∧(gs.getD i default).name=num j)∧Hs h0 h' []):=by
 have S:=Hs.start w;refine zF rfl Tryz.func70 rfl rfl ?_;all_goals (repeat' (first|refine qx ?_|refine qh ?_|(refine qf 0 ?_;(refine bx S ?_;clear S;intro b h S);refine mv ?_;refine qg ?_)|(refine qf 1 ?_;refine mv ?_;refine qg ?_)))
 replace S:Hs h0 h [.blk b [vg.val,vt.val] 32]:=S;obtain ⟨q,hnm⟩:∃ x,x=b:=⟨_,rfl⟩;subst hnm;refine zK (σ:=Nat) (fun i h'=>Hs h0 h' [.blk q [vg.val,vt.val] 32]∧i≤gs.length∧∀ k,k<i→(gs.getD k default).name≠num j) (fun i=>gs.length - i) (fun i=>[(1,.int .i64 j),(2,.pointer (some ⟨q,0,none⟩)),(5,.int .i64 i)]) 0 zf ?_ ?_
 ·exact ⟨S,zB0 _,fun j hj=>absurd hj (zB7 _)⟩
 clear S;rintro i h ⟨S,g1,g2⟩;all_goals (repeat' (first|refine qx ?_|refine qi rfl ?_|refine qw ?_|refine qA ?_|refine qh ?_|(refine qf 2 ?_;refine mv ?_;refine vl ?_;refine lB S rfl rfl ?_;refine Zg S ?_;(first|(refine cS ?_ ?_<;>intro hc))<;>(refine qg ?_))|(refine qf 6 ?_;refine mv ?_;refine qg ?_)))
 ·(repeat (refine qx ?_));refine Z9 (id:=4) [(1,(0,1)),(5,(0,1))] [some (q),some (ZK vg.val)] ?_;refine qB ?_;(first|(refine vl ?_<;>refine qg ⟨⟨by (first|exact True.intro),rfl⟩,?_⟩));refine qB ?_;(first|(refine lB S rfl rfl ?_<;>refine qg ⟨⟨by (first|exact Or.inr rfl),rfl⟩,?_⟩));refine qB ?_;(first|(refine mv ?_<;>refine qg ⟨⟨by (first|exact True.intro),rfl⟩,?_⟩));refine qB ?_;(first|(refine Za S ?_<;>refine qg ⟨⟨by (first|exact True.intro),rfl⟩,?_⟩));refine qB ?_;(first|(refine fB S ?_<;>refine qg ⟨⟨by (first|exact True.intro),rfl⟩,?_⟩));refine qB ?_;(first|(refine zU S ?_<;>refine qg ⟨⟨by (first|exact Or.inr (congrArg some (qy _ _ _ _))),rfl⟩,?_⟩));refine qB ?_;(first|(refine mv ?_<;>refine qg ⟨⟨by (first|exact True.intro),rfl⟩,?_⟩));((refine qB ?_;first|refine qH rfl rfl rfl rfl rfl ((Jr S.wf j hj).mono ?_));rintro _ h ⟨rfl,x⟩)<;>((refine qg ⟨⟨True.intro,?_⟩,?_⟩;(focus ((show keepsX _ _ _ _ _;simp only [keepsX];(repeat' (first|exact True.intro|refine And.intro ?_ ?_));all_goals (intro hw;first|exact x.ext.old _ S.bB|exact x.ext.old _ (S.bX (by assumption) (by assumption) (by first|omega)))))));replace S:=S.zn x;clear x;refine qB ?_;(first|((refine tS ?_ ?_<;>intro hc)<;>refine qg ⟨⟨by (first|exact True.intro),rfl⟩,?_⟩))<;>(refine Xz ?_))
  ·all_goals (repeat' (first|refine qx ?_|refine qi rfl ?_|(refine qf 5 ?_;refine mv ?_;refine qg ?_)))
   refine qF ⟨_,rfl,?_⟩;exact ⟨.inl ⟨rfl,i,by omega,by simpa using hc⟩,S.drop⟩
  ·all_goals (repeat' (first|refine qi rfl ?_|refine qw ?_|(refine qf 3 ?_;refine mv ?_;refine ad ?_;refine mv ?_;refine qg ?_)))
   refine ⟨i+1,?_,?_,zf⟩
   ·show gs.length - (i+1)<gs.length - i;omega
   ·exact ⟨S,by omega,Vd g2 (by simpa using hc)⟩
 ·refine qF ⟨_,rfl,?_⟩;exact ⟨.inr ⟨rfl,fun ⟨k,h1,h2⟩=>g2 k (by omega) h2⟩,S.drop⟩
end Go.Proofs.Xx
