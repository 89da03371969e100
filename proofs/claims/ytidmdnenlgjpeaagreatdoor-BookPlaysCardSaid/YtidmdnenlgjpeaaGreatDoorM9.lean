/-
  Names;guests and the checks of a guest,the program's and the reference's.
-/
import Derived.Test.YtidmdnenlgjpeaaGreatDoorM7
import Derived.Test.YtidmdnenlgjpeaaGreatDoorM8
import Derived.KernelRfl
set_option linter.unusedSimpArgs false
set_option linter.unusedVariables false
set_option maxRecDepth 100000
set_option linter.unusedSectionVars false
namespace Go.Proofs.Xx
open Go Go.Proofs
def Zm (v:Value) (p:Prop):Prop:=(v = .bool true∧p)∨(v = .bool false∧¬ p)
def kV (x:UInt8):Prop:=97≤x.toNat∧x.toNat≤122
def Jo (s:List UInt8):Prop:=1≤s.length∧s.length≤12∧∀ i,i<s.length→kV (s.getD i default)
def YW (s:List UInt8):Prop:=s=[]∨Jo s
theorem vG:(default:UInt8)=0:=rfl
theorem Ze {p:Nat→Prop} {i:Nat} (h:∀ j,j<i→p j) (hi:p i):∀ j,j<i+1→p j:=fun j hj=>by
 rcases zA7 j i with q|q
 ·exact h j q
 ·obtain rfl:j=i:=by omega
  exact hi
variable [Flag]
theorem qba {h0:AH} (w:WfH h0):Fn Tryz.prog Xh 19 [] h0 (fun v h'=>v = .bool true∧Hs h0 h' []):=yL rfl ⟨rfl,Hs.start w⟩
theorem WT {h:AH} (s:List UInt8):Fn Tryz.prog Xh 56 [str s] h (fun v h'=>Zm v (Jo s)∧h'=h):=by
 refine qZ rfl Tryz.func56 rfl rfl ?_;all_goals (repeat' (first|refine qg ?_|refine qh rfl ?_|refine qj ?_|refine qw ?_|refine qi ?_|refine zo ?_|refine zq ?_|(refine qc 0 ?_;refine qK ?_)|(refine qc 1 ?_;refine mv ?_;refine tl ?_;(first|refine cT ?_|refine cF ?_|(refine cS ?_ ?_<;>intro hc))<;>(refine mv ?_;(first|refine off ?_|refine mv ?_);(first|refine off ?_|refine tl ?_);(first|refine off ?_|(first|refine cT ?_|refine cF ?_|(refine cS ?_ ?_<;>intro hc)))<;>(refine zU ?_)))|(refine qc 2 ?_;refine qK ?_)))
 ·refine qC ⟨_,rfl,?_⟩;exact ⟨.inr ⟨rfl,fun q=>by have:=q.1;omega⟩,rfl⟩
 ·refine qC ⟨_,rfl,?_⟩;exact ⟨.inr ⟨rfl,fun q=>by have:=q.2.1;omega⟩,rfl⟩
 all_goals (repeat' (first|refine qg ?_|refine qh rfl ?_|refine qj ?_|refine qw ?_|refine qi ?_|refine zo ?_|refine zq ?_|(refine qc 3 ?_;refine mv ?_;refine tl ?_;refine qK ?_)))
 refine qH (σ:=Nat) (fun i h'=>h'=h∧i≤s.length∧∀ j,j<i→kV (s.getD j default)) (fun i=>s.length - i) (fun i=>[(0,str s),(13,.int .i64 s.length),(14,.int .i64 i)]) 0 qo ?_ ?_
 ·exact ⟨rfl,zB0 _,fun j hj=>absurd hj (zB7 _)⟩
 rintro i h ⟨rfl,h1,h2⟩;all_goals (repeat' (first|refine qg ?_|refine qh rfl ?_|refine qj ?_|refine qw ?_|refine qi ?_|refine zo ?_|refine zq ?_|(refine qc 4 ?_;(first|refine cT ?_|refine cF ?_|(refine cS ?_ ?_<;>intro hc))<;>(refine qf ?_))|(refine qc 5 ?_;refine qX ?_)|(refine qc 6 ?_;refine qE ?_;(first|refine ti ?_|refine vl ?_);(first|refine cT ?_|refine cF ?_|(refine cS ?_ ?_<;>intro hc))<;>(refine mv ?_;(first|refine off ?_|refine mv ?_);(first|refine off ?_|refine mv ?_);(first|refine off ?_|(first|refine ti ?_|refine vl ?_));(first|refine off ?_|(first|refine cT ?_|refine cF ?_|(refine cS ?_ ?_<;>intro hc)))<;>(refine zU ?_)))|(refine qc 7 ?_;refine qK ?_)|(refine qc 8 ?_;(first|refine ad ?_|refine vl ?_);refine qK ?_)|(refine qc 9 ?_;refine qK ?_)))
 all_goals (try simp only [zA0] at *)
 ·refine qC ⟨_,rfl,?_⟩;exact ⟨.inr ⟨rfl,fun q=>by have:=q.2.2 i (by omega);unfold kV at this;simp only [vG] at this;omega⟩,rfl⟩
 ·refine qC ⟨_,rfl,?_⟩;exact ⟨.inr ⟨rfl,fun q=>by have:=q.2.2 i (by omega);unfold kV at this;simp only [vG] at this;omega⟩,rfl⟩
 ·refine ⟨i+1,?_,?_,qo⟩
  ·show s.length - (i+1)<s.length - i;omega
  ·refine ⟨rfl,by omega,Ze h2 ?_⟩;unfold kV;simp only [vG];omega
 ·refine qC ⟨_,rfl,?_⟩;exact ⟨.inl ⟨rfl,by omega,by omega,fun j hj=>h2 j (by omega)⟩,rfl⟩
theorem kH {h:AH} (s:List UInt8):Fn Tryz.prog Xh 57 [str s] h (fun v h'=>Zm v (YW s)∧h'=h):=by
 refine qZ rfl Tryz.func57 rfl rfl ?_;all_goals (repeat' (first|refine qg ?_|refine qh rfl ?_|refine qj ?_|refine qw ?_|refine qi ?_|refine zo ?_|refine zq ?_|(refine qc 0 ?_;refine qK ?_)|(refine qc 1 ?_;refine mv ?_;(refine tS ?_ ?_<;>intro hc)<;>(refine mv ?_;(first|refine off ?_|refine mv ?_);(first|(refine off ?_;refine Jb ?_)|skip)))))
 ·refine qC ⟨_,rfl,?_⟩;exact ⟨.inl ⟨rfl,.inl hc⟩,rfl⟩
 (refine qx rfl rfl rfl rfl rfl ((WT s).mono ?_);rintro _ _ ⟨⟨rfl,hq⟩|⟨rfl,hq⟩,rfl⟩)<;>(refine Jb ?_)
 all_goals (all_goals (repeat' (first|refine qg ?_|refine qh rfl ?_|refine qj ?_|refine qw ?_|refine qi ?_|refine zo ?_|refine zq ?_)))
 all_goals (refine qC ⟨_,rfl,?_⟩)
 ·exact ⟨.inl ⟨rfl,.inr hq⟩,rfl⟩
 ·exact ⟨.inr ⟨rfl,fun q=>by rcases q with q|q;exact hc q;exact hq q⟩,rfl⟩
theorem Zt {h:AH} (s:List UInt8):Fn Tryz.prog Xh 58 [str s] h (fun v h'=>Zm v (Jo s)∧h'=h):=by
 refine qZ rfl Tryz.func58 rfl rfl ?_;all_goals (repeat' (first|refine qg ?_|refine qh rfl ?_|refine qj ?_|refine qw ?_|refine qi ?_|refine zo ?_|refine zq ?_|(refine qc 0 ?_;refine qK ?_)|(refine qc 1 ?_;refine mv ?_;refine tl ?_;(first|refine cT ?_|refine cF ?_|(refine cS ?_ ?_<;>intro hc))<;>(refine mv ?_;(first|refine off ?_|refine mv ?_);(first|refine off ?_|refine tl ?_);(first|refine off ?_|(first|refine cT ?_|refine cF ?_|(refine cS ?_ ?_<;>intro hc)))<;>(refine zU ?_)))|(refine qc 2 ?_;refine qK ?_)))
 ·refine qC ⟨_,rfl,?_⟩;exact ⟨.inr ⟨rfl,fun q=>by have:=q.1;omega⟩,rfl⟩
 ·refine qC ⟨_,rfl,?_⟩;exact ⟨.inr ⟨rfl,fun q=>by have:=q.2.1;omega⟩,rfl⟩
 all_goals (repeat' (first|refine qg ?_|refine qh rfl ?_|refine qj ?_|refine qw ?_|refine qi ?_|refine zo ?_|refine zq ?_|(refine qc 3 ?_;refine qK ?_)))
 refine qH (σ:=Nat) (fun i h'=>h'=h∧i≤s.length∧∀ j,j<i→kV (s.getD j default)) (fun i=>s.length - i) (fun i=>[(0,str s),(3,.int .i64 i)]) 0 qo ?_ ?_
 ·exact ⟨rfl,zB0 _,fun j hj=>absurd hj (zB7 _)⟩
 rintro i h ⟨rfl,h1,h2⟩;all_goals (repeat' (first|refine qg ?_|refine qh rfl ?_|refine qj ?_|refine qw ?_|refine qi ?_|refine zo ?_|refine zq ?_|(refine qc 4 ?_;refine qE ?_;refine tl ?_;(first|refine cT ?_|refine cF ?_|(refine cS ?_ ?_<;>intro hc))<;>(refine qf ?_))|(refine qc 5 ?_;refine mv ?_;(first|refine ad ?_|refine vl ?_);refine qK ?_)|(refine qc 6 ?_;refine qE ?_;(first|refine ti ?_|refine vl ?_);(first|refine cT ?_|refine cF ?_|(refine cS ?_ ?_<;>intro hc))<;>(refine mv ?_;(first|refine off ?_|refine mv ?_);(first|refine off ?_|refine mv ?_);(first|refine off ?_|(first|refine ti ?_|refine vl ?_));(first|refine off ?_|(first|refine cT ?_|refine cF ?_|(refine cS ?_ ?_<;>intro hc)))<;>(refine zU ?_)))|(refine qc 7 ?_;refine qK ?_)|(refine qc 8 ?_;refine qK ?_)))
 all_goals (try simp only [zA0] at *)
 ·refine qC ⟨_,rfl,?_⟩;exact ⟨.inr ⟨rfl,fun q=>by have:=q.2.2 i (by omega);unfold kV at this;simp only [vG] at this;omega⟩,rfl⟩
 ·refine qC ⟨_,rfl,?_⟩;exact ⟨.inr ⟨rfl,fun q=>by have:=q.2.2 i (by omega);unfold kV at this;simp only [vG] at this;omega⟩,rfl⟩
 ·refine ⟨i+1,?_,?_,qo⟩
  ·show s.length - (i+1)<s.length - i;omega
  ·refine ⟨rfl,by omega,Ze h2 ?_⟩;unfold kV;simp only [vG];omega
 ·refine qC ⟨_,rfl,?_⟩;exact ⟨.inl ⟨rfl,by omega,by omega,fun j hj=>h2 j (by omega)⟩,rfl⟩
end Go.Proofs.Xx
namespace Go.Proofs.Xx
open Go Go.Proofs
structure Gu where
 name:List UInt8
 rank:List UInt8
 court:List UInt8
 since:Int
 side:Int
 diet:List UInt8
 host:Bool
 access:Bool
 tg:List (List UInt8)
instance:Inhabited Gu:=⟨⟨[],[],[],0,0,[],false,false,[]⟩⟩
structure Qi extends Gu where
 tv:SlV
instance:Inhabited Qi:=⟨⟨default,⟨none,0,0⟩⟩⟩
def gV (g:Qi):Value:=.agg #[str g.name,str g.rank,str g.court,.int .i64 g.since,.int .i64 g.side,str g.diet,.bool g.host,.bool g.access,g.tv.val]
def eG (g:Qi):List Value:=[str g.name,str g.rank,str g.court,.int .i64 g.since,.int .i64 g.side,str g.diet,.bool g.host,.bool g.access,g.tv.val]
def qdK (h:AH) (g:Qi):Prop:=Qh h g.tv.val 1 eS g.tg∧g.tg.length≤9223372036854775807
def TgOk (l:List (List UInt8)):Prop:=∀ i,i<l.length→Jo (l.getD i default)∧(0<i→zG (l.getD (i - 1) default) (l.getD i default))
def XD (g:Gu):Prop:=Jo g.name∧YW g.rank∧YW g.court∧YW g.diet
open Classical in
noncomputable def Zj (g:Gu):Int :=
 if ¬ XD g then 4
 else if ¬ (0≤g.since∧g.since≤9999) then 21
 else if ¬ (0≤g.side∧g.side≤2) then 20
 else if ¬ (g.tg.length≤4∧TgOk g.tg) then 22
 else 0
theorem qcd {g:Gu} (h:¬ XD g):Zj g=4:=by unfold Zj;rw [if_pos h]
theorem qat {g:Gu} (h:XD g) (h2:¬ (0≤g.since∧g.since≤9999)):Zj g=21:=by unfold Zj;rw [if_neg (by simpa using h),if_pos h2]
theorem qau {g:Gu} (h:XD g) (h2:0≤g.since∧g.since≤9999) (h3:¬ (0≤g.side∧g.side≤2)):Zj g=20:=by
 unfold Zj;rw [if_neg (by simpa using h),if_neg (by simpa using h2),if_pos h3]
theorem Yc {g:Gu} (h:XD g) (h2:0≤g.since∧g.since≤9999) (h3:0≤g.side∧g.side≤2) (h4:¬ (g.tg.length≤4∧TgOk g.tg)):Zj g=22:=by
 unfold Zj;rw [if_neg (by simpa using h),if_neg (by simpa using h2),if_neg (by simpa using h3),if_pos h4]
theorem qce {g:Gu} (h:XD g) (h2:0≤g.since∧g.since≤9999) (h3:0≤g.side∧g.side≤2) (h4:g.tg.length≤4∧TgOk g.tg):Zj g=0:=by
 unfold Zj;rw [if_neg (by simpa using h),if_neg (by simpa using h2),if_neg (by simpa using h3),if_neg (by simpa using h4)]
variable [Flag]
theorem qcf {h0:AH} (w:WfH h0) (g:Qi) (r:qdK h0 g):Fn Tryz.prog Xh 17 [gV g] h0 (fun v h'=>v = .int .i64 (Zj g.toGu)∧Hs h0 h' []):=by
 have S:=Hs.start w;have hr:Qh h0 g.tv.val 1 eS g.tg:=r.1;have hbig:=r.2;unfold gV;refine qZ rfl Tryz.func17 rfl rfl ?_;all_goals (repeat' (first|refine qg ?_|refine qi ?_|(refine qc 0 ?_;(refine bx S ?_;clear S;intro b h S);refine qK ?_)))
 all_goals (repeat' (first|(refine qc 1 ?_;refine vl ?_;refine lB S rfl rfl ?_)))
 (refine qx rfl rfl rfl rfl rfl ((WT g.name).mono ?_);rintro _ _ ⟨⟨rfl,q1⟩|⟨rfl,q1⟩,rfl⟩)<;>(refine vl ?_;refine mv ?_;(first|refine off ?_|(refine vl ?_));(first|refine off ?_|(refine lB S rfl rfl ?_));(first|(refine off ?_;refine off ?_;refine vl ?_;refine mv ?_;refine off ?_;refine off ?_;(first|(refine off ?_;refine off ?_;refine vl ?_;refine mv ?_;refine off ?_;refine off ?_;(first|(refine off ?_;refine off ?_;refine Jb ?_)))))|skip))
 any_goals ((refine qx rfl rfl rfl rfl rfl ((kH g.rank).mono ?_);rintro _ _ ⟨⟨rfl,q2⟩|⟨rfl,q2⟩,rfl⟩)<;>((refine vl ?_);refine vl ?_;refine mv ?_;(first|refine off ?_|(refine vl ?_));(first|refine off ?_|(refine lB S rfl rfl ?_));(first|(refine off ?_;refine off ?_;refine vl ?_;refine mv ?_;refine off ?_;refine off ?_;(first|(refine off ?_;refine off ?_;refine Jb ?_)))|skip)))
 any_goals ((refine qx rfl rfl rfl rfl rfl ((kH g.court).mono ?_);rintro _ _ ⟨⟨rfl,q3⟩|⟨rfl,q3⟩,rfl⟩)<;>((refine vl ?_);refine vl ?_;refine mv ?_;(first|refine off ?_|(refine vl ?_));(first|refine off ?_|(refine lB S rfl rfl ?_));(first|(refine off ?_;refine off ?_;refine Jb ?_)|skip)))
 any_goals ((refine qx rfl rfl rfl rfl rfl ((kH g.diet).mono ?_);rintro _ _ ⟨⟨rfl,q4⟩|⟨rfl,q4⟩,rfl⟩)<;>((refine vl ?_);refine Jb ?_))
 all_goals (repeat' (first|refine qg ?_|refine qh rfl ?_|refine qj ?_|refine qi ?_|(refine qc 2 ?_;refine qK ?_)|(refine qc 3 ?_;refine vl ?_;refine lB S rfl rfl ?_;(first|(refine cS ?_ ?_<;>intro hc))<;>(refine mv ?_;(first|refine off ?_|(refine vl ?_));(first|refine off ?_|(refine lB S rfl rfl ?_));(first|refine off ?_|(first|(refine cS ?_ ?_<;>intro hc)))<;>(refine Jb ?_)))|(refine qc 4 ?_;refine qK ?_)|(refine qc 5 ?_;refine vl ?_;refine lB S rfl rfl ?_;(first|(refine cS ?_ ?_<;>intro hc))<;>(refine mv ?_;(first|refine off ?_|(refine vl ?_));(first|refine off ?_|(refine lB S rfl rfl ?_));(first|refine off ?_|(first|(refine cS ?_ ?_<;>intro hc)))<;>(refine Jb ?_)))|(refine qc 6 ?_;refine qK ?_)|(refine qc 7 ?_;refine vl ?_;refine lB S rfl rfl ?_;refine Zx S ?_;(first|(refine cS ?_ ?_<;>intro hc))<;>(refine qK ?_))|(refine qc 8 ?_;refine qK ?_)|(refine qc 9 ?_;refine vl ?_;refine lB S rfl rfl ?_;refine Zx S ?_;refine qK ?_)))
 any_goals
  refine qC ⟨_,rfl,?_⟩;refine ⟨?_,S.drop⟩;first
   | (rw [qcd (fun q=>by unfold XD at q;grind)];rfl)
   | (rw [qat ⟨q1,q2,q3,q4⟩ (by omega)];rfl)
   | (rw [qau ⟨q1,q2,q3,q4⟩ (by omega) (by omega)];rfl)
   | (rw [Yc ⟨q1,q2,q3,q4⟩ (by omega) (by omega) (fun q=>by have:=q.1;omega)];rfl)
 have h1:0≤g.since∧g.since≤9999:=by omega
 have h2:0≤g.side∧g.side≤2:=by omega
 have h3:g.tg.length≤4:=by omega
 refine qH (σ:=Nat) (fun i h'=>Hs h0 h' [.blk b (eG g) 24]∧i≤g.tg.length∧∀ j,j<i→Jo (g.tg.getD j default)∧(0<j→zG (g.tg.getD (j - 1) default) (g.tg.getD j default))) (fun i=>g.tg.length - i) (fun i=>[(1,.pointer (some ⟨b,0,none⟩)),(52,g.tv.val),(53,.int .i64 g.tg.length),(54,.int .i64 i)]) 0 qo ?_ ?_
 ·exact ⟨S,zB0 _,fun j hj=>absurd hj (zB7 _)⟩
 clear S;rintro i h ⟨S,g1,g2⟩;all_goals (repeat' (first|refine qg ?_|refine qh rfl ?_|refine qj ?_|refine qw ?_|refine qi ?_|(refine qc 10 ?_;(first|(refine cS ?_ ?_<;>intro hc))<;>(refine qf ?_))|(refine qc 11 ?_;refine mv ?_;refine QN S ?_;refine jQ S ?_;refine qX ?_)|(refine qc 12 ?_;refine mv ?_)|(refine qc 15 ?_;refine qK ?_)))
 ·(try simp only [zA0] at *)
  (refine qx rfl rfl rfl rfl rfl ((WT _).mono ?_);rintro _ _ ⟨⟨rfl,q5⟩|⟨rfl,q5⟩,rfl⟩)<;>(refine vl ?_;refine mv ?_;(first|refine off ?_|refine mv ?_);(first|refine off ?_|(first|(refine cS ?_ ?_<;>intro hc)))<;>((first|refine off ?_|refine mv ?_);(first|refine off ?_|(refine vl ?_));(first|refine off ?_|(refine lB S rfl rfl ?_));(first|refine off ?_|refine mv ?_);(first|refine off ?_|(refine sb ?_));(first|refine off ?_|(refine QN S ?_));(first|refine off ?_|(refine jQ S ?_));(first|refine off ?_|refine mv ?_);(first|refine off ?_|(refine tO ?_ ?_<;>intro hc))<;>((first|refine off ?_|refine vl ?_);refine zU ?_)))
  all_goals (all_goals (repeat' (first|refine qg ?_|refine qh rfl ?_|refine qj ?_|(refine qc 13 ?_;refine qK ?_)|(refine qc 14 ?_;refine jR ?_))))
  ·refine qC ⟨_,rfl,?_⟩;rw [show ((i:Int) - 1).toNat=i - 1 by omega] at hc;exact ⟨by rw [Yc ⟨q1,q2,q3,q4⟩ h1 h2 (fun q=>hc ((q.2 i (by omega)).2 (by omega)))];rfl,S.drop⟩
  ·rw [show ((i:Int) - 1).toNat=i - 1 by omega] at hc;refine ⟨i+1,?_,?_,qo⟩
   ·show g.tg.length - (i+1)<g.tg.length - i;omega
   ·exact ⟨S,by omega,Ze g2 ⟨q5,fun _=>zF4.1 hc⟩⟩
  ·refine ⟨i+1,?_,?_,qo⟩
   ·show g.tg.length - (i+1)<g.tg.length - i;omega
   ·exact ⟨S,by omega,Ze g2 ⟨q5,fun q=>by omega⟩⟩
  ·refine qC ⟨_,rfl,?_⟩;exact ⟨by rw [Yc ⟨q1,q2,q3,q4⟩ h1 h2 (fun q=>q5 (q.2 i (by omega)).1)];rfl,S.drop⟩
 ·refine qC ⟨_,rfl,?_⟩;exact ⟨by rw [qce ⟨q1,q2,q3,q4⟩ h1 h2 ⟨h3,fun j hj=>g2 j (by omega)⟩];rfl,S.drop⟩
theorem Gg {h0:AH} (w:WfH h0) (g:Qi) (r:qdK h0 g):Fn Tryz.prog Xh 18 [gV g] h0 (fun v h'=>v = .int .i64 (Zj g.toGu)∧Hs h0 h' []):=by
 have S:=Hs.start w;have hr:Qh h0 g.tv.val 1 eS g.tg:=r.1;have hbig:=r.2;unfold gV;refine qZ rfl Tryz.func18 rfl rfl ?_;all_goals (repeat' (first|refine qg ?_|(refine qc 0 ?_;(refine bx S ?_;clear S;intro b h S);refine qK ?_)))
 (repeat (refine qg ?_));first|refine QD (σ:=Unit) (fun _ h'=>XD g.toGu∧Hs h0 h' [.blk b (eG g) 24]) (fun _=>[(1,.pointer (some ⟨b,0,none⟩))]) ?_ ?_
 ·all_goals (repeat' (first|(refine qc 1 ?_;refine vl ?_;refine lB S rfl rfl ?_)))
  (refine qx rfl rfl rfl rfl rfl ((Zt g.name).mono ?_);rintro _ _ ⟨⟨rfl,q1⟩|⟨rfl,q1⟩,rfl⟩)<;>(refine vl ?_;refine mv ?_;(first|refine off ?_|(refine vl ?_));(first|refine off ?_|(refine lB S rfl rfl ?_));(first|refine off ?_|(refine tS ?_ ?_<;>intro hc))<;>((first|refine off ?_|refine mv ?_);(first|refine off ?_|(refine vl ?_));(first|refine off ?_|(refine lB S rfl rfl ?_));(first|(refine off ?_;refine off ?_;(first|refine off ?_|refine vl ?_);refine vl ?_;refine mv ?_;(first|refine off ?_|(refine vl ?_));(first|refine off ?_|(refine lB S rfl rfl ?_));(first|refine off ?_|(refine tS ?_ ?_<;>intro hc))<;>((first|refine off ?_|refine mv ?_);(first|refine off ?_|(refine vl ?_));(first|refine off ?_|(refine lB S rfl rfl ?_));(first|(refine off ?_;refine off ?_;(first|refine off ?_|refine vl ?_);refine vl ?_;refine mv ?_;(first|refine off ?_|(refine vl ?_));(first|refine off ?_|(refine lB S rfl rfl ?_));(first|refine off ?_|(refine tS ?_ ?_<;>intro hc))<;>((first|refine off ?_|refine mv ?_);(first|refine off ?_|(refine vl ?_));(first|refine off ?_|(refine lB S rfl rfl ?_));(first|(refine off ?_;refine off ?_;(first|refine off ?_|refine vl ?_);refine zU ?_)|skip)))|skip)))|skip)))
  any_goals ((refine qx rfl rfl rfl rfl rfl ((Zt g.rank).mono ?_);rintro _ _ ⟨⟨rfl,q2⟩|⟨rfl,q2⟩,rfl⟩)<;>((refine vl ?_);refine vl ?_;refine vl ?_;refine mv ?_;(first|refine off ?_|(refine vl ?_));(first|refine off ?_|(refine lB S rfl rfl ?_));(first|refine off ?_|(refine tS ?_ ?_<;>intro hc))<;>((first|refine off ?_|refine mv ?_);(first|refine off ?_|(refine vl ?_));(first|refine off ?_|(refine lB S rfl rfl ?_));(first|(refine off ?_;refine off ?_;(first|refine off ?_|refine vl ?_);refine vl ?_;refine mv ?_;(first|refine off ?_|(refine vl ?_));(first|refine off ?_|(refine lB S rfl rfl ?_));(first|refine off ?_|(refine tS ?_ ?_<;>intro hc))<;>((first|refine off ?_|refine mv ?_);(first|refine off ?_|(refine vl ?_));(first|refine off ?_|(refine lB S rfl rfl ?_));(first|(refine off ?_;refine off ?_;(first|refine off ?_|refine vl ?_);refine zU ?_)|skip)))|skip))))
  any_goals ((refine qx rfl rfl rfl rfl rfl ((Zt g.court).mono ?_);rintro _ _ ⟨⟨rfl,q3⟩|⟨rfl,q3⟩,rfl⟩)<;>((refine vl ?_);refine vl ?_;refine vl ?_;refine mv ?_;(first|refine off ?_|(refine vl ?_));(first|refine off ?_|(refine lB S rfl rfl ?_));(first|refine off ?_|(refine tS ?_ ?_<;>intro hc))<;>((first|refine off ?_|refine mv ?_);(first|refine off ?_|(refine vl ?_));(first|refine off ?_|(refine lB S rfl rfl ?_));(first|(refine off ?_;refine off ?_;(first|refine off ?_|refine vl ?_);refine zU ?_)|skip))))
  any_goals ((refine qx rfl rfl rfl rfl rfl ((Zt g.diet).mono ?_);rintro _ _ ⟨⟨rfl,q4⟩|⟨rfl,q4⟩,rfl⟩)<;>((refine vl ?_);refine vl ?_;refine zU ?_))
  all_goals (all_goals (repeat' (first|refine qg ?_|refine qh rfl ?_|refine qj ?_|(refine qc 2 ?_;refine qK ?_))))
  any_goals
   refine qC ⟨_,rfl,?_⟩;refine ⟨?_,S.drop⟩;rw [qcd (fun q=>by unfold XD YW at q;grind)];rfl
  all_goals exact ⟨(),⟨by unfold XD YW;grind,S⟩,(qo)⟩
 clear S;rintro - h ⟨hN,S⟩;all_goals (repeat' (first|refine qg ?_|refine qh rfl ?_|refine qj ?_|(refine qc 3 ?_;refine vl ?_;refine lB S rfl rfl ?_;(first|(refine cS ?_ ?_<;>intro hc))<;>(refine mv ?_;(first|refine off ?_|(refine vl ?_));(first|refine off ?_|(refine lB S rfl rfl ?_));(first|refine off ?_|(first|(refine cS ?_ ?_<;>intro hc)))<;>(refine zU ?_)))|(refine qc 4 ?_;refine qK ?_)))
 any_goals
  refine qC ⟨_,rfl,?_⟩;refine ⟨?_,S.drop⟩;rw [qat hN (by omega)];rfl
 have h1:0≤g.since∧g.since≤9999:=by omega
 (repeat (refine qg ?_));first|refine QD (σ:=Unit) (fun _ h'=>(0≤g.side∧g.side≤2)∧Hs h0 h' [.blk b (eG g) 24]) (fun _=>[(1,.pointer (some ⟨b,0,none⟩))]) ?_ ?_
 ·all_goals (repeat' (first|refine qg ?_|refine qh rfl ?_|refine qj ?_|(refine qc 5 ?_;refine vl ?_;refine lB S rfl rfl ?_;(first|(refine cS ?_ ?_<;>intro hc))<;>(refine mv ?_;(first|refine off ?_|(refine vl ?_));(first|refine off ?_|(refine lB S rfl rfl ?_));(first|refine off ?_|(first|(refine cS ?_ ?_<;>intro hc)))<;>(refine vl ?_;refine mv ?_;(first|refine off ?_|(refine vl ?_));(first|refine off ?_|(refine lB S rfl rfl ?_));(first|refine off ?_|(first|(refine cS ?_ ?_<;>intro hc)))<;>(refine zU ?_))))|(refine qc 6 ?_;refine qK ?_)))
  any_goals
   refine qC ⟨_,rfl,?_⟩;refine ⟨?_,S.drop⟩;rw [qau hN h1 (by omega)];rfl
  all_goals exact ⟨(),⟨by omega,S⟩,(qo)⟩
 clear S;rintro - h ⟨h2,S⟩;all_goals (repeat' (first|refine qg ?_|refine qh rfl ?_|refine qj ?_|refine qi ?_|(refine qc 7 ?_;refine vl ?_;refine lB S rfl rfl ?_;refine Zx S ?_;(first|(refine cS ?_ ?_<;>intro hc))<;>(refine qf ?_))|(refine qc 8 ?_;refine qK ?_)|(refine qc 9 ?_;refine qK ?_)))
 ·refine qC ⟨_,rfl,?_⟩;refine ⟨?_,S.drop⟩;rw [Yc hN h1 h2 (fun q=>by have:=q.1;omega)];rfl
 have h3:g.tg.length≤4:=by omega
 refine qH (σ:=Nat) (fun i h'=>Hs h0 h' [.blk b (eG g) 24]∧i≤g.tg.length∧∀ j,j<i→Jo (g.tg.getD j default)∧(0<j→zG (g.tg.getD (j - 1) default) (g.tg.getD j default))) (fun i=>g.tg.length - i) (fun i=>[(1,.pointer (some ⟨b,0,none⟩)),(3,.int .i64 i)]) 0 qo ?_ ?_
 ·exact ⟨S,zB0 _,fun j hj=>absurd hj (zB7 _)⟩
 clear S;rintro i h ⟨S,g1,g2⟩;all_goals (repeat' (first|refine qg ?_|refine qh rfl ?_|refine qj ?_|refine qw ?_|refine qi ?_|(refine qc 10 ?_;refine mv ?_;refine vl ?_;refine lB S rfl rfl ?_;refine Zx S ?_;(first|(refine cS ?_ ?_<;>intro hc))<;>(refine qf ?_))|(refine qJ 12 ?_;refine vl ?_;refine lB S rfl rfl ?_;refine mv ?_;refine QN S ?_;refine jQ S ?_)|(refine qc 14 ?_;refine qK ?_)))
 ·(try simp only [zA0] at *)
  (refine qx rfl rfl rfl rfl rfl ((Zt _).mono ?_);rintro _ _ ⟨⟨rfl,q5⟩|⟨rfl,q5⟩,rfl⟩)<;>(refine vl ?_;refine mv ?_;(first|refine off ?_|refine mv ?_);(first|refine off ?_|(first|(refine cS ?_ ?_<;>intro hc)))<;>((first|refine off ?_|refine mv ?_);(first|refine off ?_|(refine vl ?_));(first|refine off ?_|(refine lB S rfl rfl ?_));(first|refine off ?_|refine mv ?_);(first|refine off ?_|(refine QN S ?_));(first|refine off ?_|(refine jQ S ?_));(first|refine off ?_|(refine vl ?_));(first|refine off ?_|(refine lB S rfl rfl ?_));(first|refine off ?_|refine mv ?_);(first|refine off ?_|(refine sb ?_));(first|refine off ?_|(refine QN S ?_));(first|refine off ?_|(refine jQ S ?_));(first|refine off ?_|(refine tO ?_ ?_<;>intro hc))<;>((first|refine off ?_|refine vl ?_);refine zU ?_)))
  all_goals (all_goals (repeat' (first|refine qg ?_|refine qh rfl ?_|refine qj ?_|(refine qc 11 ?_;refine qO ?_)|(refine qc 13 ?_;refine qK ?_))))
  ·refine qC ⟨_,rfl,?_⟩;rw [show ((i:Int) - 1).toNat=i - 1 by omega] at hc;exact ⟨by rw [Yc hN h1 h2 (fun q=>hc ((q.2 i (by omega)).2 (by omega)))];rfl,S.drop⟩
  ·rw [show ((i:Int) - 1).toNat=i - 1 by omega] at hc;refine ⟨i+1,?_,?_,qo⟩
   ·show g.tg.length - (i+1)<g.tg.length - i;omega
   ·exact ⟨S,by omega,Ze g2 ⟨q5,fun _=>zF4.1 hc⟩⟩
  ·refine ⟨i+1,?_,?_,qo⟩
   ·show g.tg.length - (i+1)<g.tg.length - i;omega
   ·exact ⟨S,by omega,Ze g2 ⟨q5,fun q=>by omega⟩⟩
  ·refine qC ⟨_,rfl,?_⟩;exact ⟨by rw [Yc hN h1 h2 (fun q=>q5 (q.2 i (by omega)).1)];rfl,S.drop⟩
 ·refine qC ⟨_,rfl,?_⟩;exact ⟨by rw [qce hN h1 h2 ⟨h3,fun j hj=>g2 j (by omega)⟩];rfl,S.drop⟩
end Go.Proofs.Xx
namespace Go.Proofs.Xx
open Go Go.Proofs
class SubR (rs rs':List Rs):Prop where
 sub:∀ {h0 h:AH},Hs h0 h rs→Hs h0 h rs'
instance (priority:=2000) SubR.here {rs:List Rs}:SubR rs rs:=⟨id⟩
instance SubR.there {r:Rs} {rs rs':List Rs} [i:SubR rs rs']:SubR (r :: rs) rs':=⟨fun S=>i.sub S.tail⟩
theorem Hs.sub {h0 h:AH} {rs rs':List Rs} [i:SubR rs rs'] (S:Hs h0 h rs):Hs h0 h rs':=i.sub S
class DtI (rs:List Rs) (r:Rs) (rs':outParam (List Rs)):Prop where
 dt:Dt rs r rs'
instance (priority:=2000) DtI.here {r:Rs} {rs:List Rs}:DtI (r :: rs) r rs:=⟨.here⟩
instance DtI.there {r s:Rs} {rs rs':List Rs} [i:DtI rs r rs']:DtI (s :: rs) r (s :: rs'):=⟨.there i.dt⟩
class SelR (rs l:List Rs):Prop where
 sel:∀ {lo:Nat} {h:AH} {U:Fp},Sep lo h rs U→Sep lo h l U
instance (priority:=2000) SelR.here {rs:List Rs}:SelR rs rs:=⟨id⟩
instance SelR.nil {rs:List Rs}:SelR rs []:=⟨fun _=>trivial⟩
instance SelR.cons {rs rs' l:List Rs} {r:Rs} [i:DtI rs r rs'] [j:SelR rs' l]:SelR rs (r :: l):=⟨fun k=>by
 obtain ⟨fp,k1,k2,k3⟩:=i.dt.sep k;exact ⟨fp,k1,k2,j.sel k3⟩⟩
instance (priority:=500) SelR.there {rs l:List Rs} {r:Rs} [j:SelR rs l]:SelR (r :: rs) l:=⟨fun ⟨_,_,_,k⟩=>j.sel (k.mono fun _ q=>q.1)⟩
theorem Hs.pick {h0 h:AH} {rs l:List Rs} [i:SelR rs l] (S:Hs h0 h rs):Hs h0 h l:=⟨S.ext,i.sel S.sep⟩
abbrev RdS {α:Type} (h0:AH) (rs:List Rs) (v:Value) (z:Nat) (enc:α→List Value) (l:List α):Prop:=∀ h,Hs h0 h rs→Qh h v z enc l
theorem RdS.base {α:Type} {h0:AH} {rs:List Rs} {v:Value} {z:Nat} {enc:α→List Value} {l:List α} (w:WfH h0) (r:Qh h0 v z enc l):RdS h0 rs v z enc l:=fun h S=>r.ext w S.ext
structure Ti where
 a:List UInt8
 b:List UInt8
 k:Int
instance:Inhabited Ti:=⟨⟨[],[],0⟩⟩
def zh (t:Ti):List Value:=[str t.a,str t.b,.int .u8 t.k]
def pq (t:Ti):Value:=.agg #[str t.a,str t.b,.int .u8 t.k]
def gat:List Gu→List UInt8→Option Nat
 | [],_=>none
 | g :: r,n=>if g.name=n then some 0 else (gat r n).map (· + 1)
structure Rl where
 us:List Gu
 ts:List Ti
instance:Inhabited Rl:=⟨⟨[],[]⟩⟩
open Classical in
noncomputable def ZP (r:Rl) (g:Gu):Rl×Int :=
 if Zj g≠0 then (r,Zj g) else if gat r.us g.name≠none then (r,5) else if 64≤r.us.length then (r,7) else (⟨r.us ++ [g],r.ts⟩,0)
theorem PR {r:Rl} {g:Gu} (h:Zj g≠0):ZP r g=(r,Zj g):=by unfold ZP;rw [if_pos h]
theorem PT {r:Rl} {g:Gu} (h:Zj g=0) (h2:gat r.us g.name≠none):ZP r g=(r,5):=by unfold ZP;rw [if_neg (by simpa using h),if_pos h2]
theorem PS {r:Rl} {g:Gu} (h:Zj g=0) (h2:gat r.us g.name=none) (h3:64≤r.us.length):ZP r g=(r,7):=by unfold ZP;rw [if_neg (by simpa using h),if_neg (by simpa using h2),if_pos h3]
theorem PU {r:Rl} {g:Gu} (h:Zj g=0) (h2:gat r.us g.name=none) (h3:¬ 64≤r.us.length):ZP r g=(⟨r.us ++ [g],r.ts⟩,0):=by unfold ZP;rw [if_neg (by simpa using h),if_neg (by simpa using h2),if_neg h3]
def AtOk (m:List (List UInt8×Int)) (us:List Gu):Prop:=∀ n,zK m n=(gat us n).map Int.ofNat
theorem qdf {us:List Gu} {g:Gu} (n:List UInt8):gat (us ++ [g]) n=match gat us n with|some i=>some i|none=>if g.name=n then some us.length else none:=by
 induction us with
 | nil=>simp [gat]
 | cons x r ih =>
  simp only [zC6,gat];by_cases h:x.name=n
  ·simp [h]
  ·simp only [if_neg h,ih];cases gat r n<;>simp<;>split<;>simp
theorem AtOk.app {m:List (List UInt8×Int)} {us:List Gu} {g:Gu} (a:AtOk m us) (hn:gat us g.name=none):AtOk (Ql m g.name us.length) (us ++ [g]):=fun n=>by
 rw [J5,qdf];by_cases h:n=g.name
 ·subst h;simp [hn]
 ·rw [if_neg h,a n];cases gat us n with
  | none=>simp;exact fun q=>h q.symm
  | some i=>simp
def TgsOk (gs:List Qi) (h:AH) (fp:Fp):Prop:=∀ g∈gs,(Rs.rd g.tv.val 1 eS g.tg).ok h fp
abbrev X5 (gs:List Qi):Rs:=.any (TgsOk gs)
structure BkS where
 vg:SlV
 vt:SlV
 m:Nat
 mp:List (List UInt8×Int)
 gs:List Qi
abbrev bkL (b:Nat) (ts:List Ti) (s:BkS):List Rs:=[.blk b [s.vg.val,s.vt.val,.map (some s.m)] 86,.sl s.vg.val 24 9 eG s.gs,.sl s.vt.val 111 3 zh ts,.mp s.m (.int .i64) s.mp,X5 s.gs]
abbrev zN (b:Nat) (r:Rl):Rs:=qbI (fun s:BkS=>s.gs.map (·.toGu)=r.us∧AtOk s.mp r.us) (bkL b r.ts)
theorem Hs.bk {h0 h:AH} {rs0 rs:List Rs} {b:Nat} {r:Rl} (S:Hs h0 h rs0) (vg vt:SlV) (m:Nat) (mp:List (List UInt8×Int)) (gs:List Qi) (q1:gs.map (·.toGu)=r.us) (q2:AtOk mp r.us)
 [i:SelR rs0 (.blk b [vg.val,vt.val,.map (some m)] 86 :: .sl vg.val 24 9 eG gs :: .sl vt.val 111 3 zh r.ts :: .mp m (.int .i64) mp :: X5 gs :: rs)]:Hs h0 h (zN b r :: rs) :=
 Hs.pack (s:=⟨vg,vt,m,mp,gs⟩) ⟨q1,q2⟩ (show Hs h0 h (.blk b [vg.val,vt.val,.map (some m)] 86 :: .sl vg.val 24 9 eG gs :: .sl vt.val 111 3 zh r.ts :: .mp m (.int .i64) mp :: X5 gs :: rs) from S.pick)
theorem TgsOk.rd {h:AH} {fp:Fp} {gs:List Qi} (k:TgsOk gs h fp) {i:Nat} (hi:i<gs.length):Qh h (gs.getD i default).tv.val 1 eS (gs.getD i default).tg:=by
 have q:=k _ (List.getElem_mem hi);rw [show gs.getD i default=gs[i] by rw [zA2,zA4 hi];rfl];rcases q with ⟨q1,q2⟩|⟨b,o,cap,cc,e,s,r,q1,q2,q3,q4⟩
 ·exact .inl ⟨q1,by rw [q2];rfl,by rw [q2];rfl⟩
 ·exact .inr ⟨b,o,cap,cc,e,s,r,q1,q2,q4⟩
theorem WP {α:Type} {v:Value} {z:Nat} {enc:α→List Value} {l:List α} {h:AH} {fp fp':Fp} (k:(Rs.rd v z enc l).ok h fp) (hf:∀ b,fp b→fp' b):(Rs.rd v z enc l).ok h fp':=by
 rcases k with k|⟨b,o,cap,cc,e,s,r,q1,q2,q3,q4⟩
 ·exact .inl k
 ·exact .inr ⟨b,o,cap,cc,e,s,r,q1,q2,hf b q3,q4⟩
theorem qdO {α:Type} {v:Value} {e:TypeId} {z:Nat} {enc:α→List Value} {l:List α} {h:AH} {fp:Fp} (k:(Rs.sl v e z enc l).ok h fp):(Rs.rd v z enc l).ok h fp:=by
 rcases k with k|⟨b,o,cc,slk,cap,h1,h2,h3,h4,-⟩
 ·exact .inl k
 ·exact .inr ⟨b,o,_,cc,e,slk,false,h1,h2,h3,h4⟩
theorem Hs.qe7 {h0 h:AH} {rs:List Rs} {gs:List Qi} {g:Qi} {e:TypeId} (S:Hs h0 h (.sl g.tv.val e 1 eS g.tg :: X5 gs :: rs)):Hs h0 h (X5 (gs ++ [g]) :: rs):=by
 obtain ⟨f1,k1,k2,f2,k3,k4,k5⟩:=S.sep;refine ⟨S.ext,fun b=>f1 b∨f2 b,fun h' q g' hg=>?_,fun b hb=>?_,k5.mono fun b hb=>⟨trivial,fun q=>?_⟩⟩
 ·rcases zB8.1 hg with hg|hg
  ·exact WP (k3 h' (fun b hb=>q b (.inr hb)) g' hg) fun b hb=>.inr hb
  ·obtain rfl:=zB5.1 hg;exact WP (qdO (k1.local fun b hb=>q b (.inl hb))) fun b hb=>.inl hb
 ·rcases hb with hb|hb
  ·exact k2 b hb
  ·exact ⟨(k4 b hb).1,(k4 b hb).2.1,trivial⟩
 ·rcases q with q|q
  ·exact hb.1.2 q
  ·exact hb.2 q
theorem QI {g:Gu} (h:Zj g=0):XD g∧(0≤g.since∧g.since≤9999)∧(0≤g.side∧g.side≤2)∧g.tg.length≤4∧TgOk g.tg:=by
 unfold Zj at h;split at h
 ·cases h
 ·split at h
  ·cases h
  ·split at h
   ·cases h
   ·split at h
    ·cases h
    ·rename_i a b c d
     exact ⟨zF4.1 a,zF4.1 b,zF4.1 c,(zF4.1 d).1,(zF4.1 d).2⟩
variable [Flag]
theorem jD {h0:AH} (w:WfH h0) {b m:Nat} {vg vt:Value} (hb:h0.get b=some (.cells [vg,vt,.map (some m)] 86 none false)):Fn Tryz.prog Xh 71 [.pointer (some ⟨b,0,none⟩)] h0 (fun v h'=>v = .bool false∧Hs h0 h' []):=by
 have S:=Hs.start w;refine qZ rfl Tryz.func71 rfl rfl ?_;all_goals (repeat' (first|refine qg ?_|(refine qc 0 ?_;refine qK ?_)|(refine qc 1 ?_;refine mv ?_;refine vl ?_;refine qE ?_;refine vl ?_;(first|(refine vl ?_));(first|(refine lH S ?_));refine vl ?_;refine Jb ?_)))
 refine qC ⟨_,rfl,?_⟩;exact ⟨rfl,S⟩
theorem qa4 {h0:AH} (w:WfH h0) (v:Value) (a:List (List UInt8)) (r:Qh h0 v 1 eS a) (hl:a.length≤1000000):Fn Tryz.prog Xh 127 [v] h0 (fun u h'=>Hs h0 h' [.sl u 9 1 eS a]):=by
 have S:=Hs.start w;have r0:=r;rcases r with ⟨rfl,h1,-⟩|⟨b,o,cap,cc,e,s,q,rfl,h1,h2⟩
 ·obtain rfl:a=[]:=zE9.1 h1;refine qZ rfl Tryz.func127 rfl rfl ?_;all_goals (repeat' (first|refine qg ?_|refine qh rfl ?_|(refine qc 0 ?_;refine qK ?_)|(refine qc 1 ?_;refine ZU ?_)|(refine qc 2 ?_;refine qK ?_)))
  refine qC ⟨_,rfl,?_⟩;exact S.Qb
 ·refine qZ rfl Tryz.func127 rfl rfl ?_;all_goals (repeat' (first|refine qg ?_|refine qh rfl ?_|refine qj ?_|(refine qc 0 ?_;refine qK ?_)|(refine qc 1 ?_;refine ZU ?_)|(refine qc 3 ?_;skip)))
  refine nw 1 eS S ?_;clear S;intro u h S;(refine mv ?_);refine apd S rfl rfl (r0.ext w S.ext) ?_;clear S;intro v' h S;(refine qK ?_);all_goals (repeat' (fail))
  refine qC ⟨_,rfl,?_⟩;exact S
theorem qa5 {h0:AH} (w:WfH h0) (v:Value) (a:List Ti) (r:Qh h0 v 3 zh a) (hl:a.length≤1000000):Fn Tryz.prog Xh 94 [v] h0 (fun u h'=>Hs h0 h' [.sl u 111 3 zh a]):=by
 have S:=Hs.start w;have r0:=r;rcases r with ⟨rfl,h1,-⟩|⟨b,o,cap,cc,e,s,q,rfl,h1,h2⟩
 ·obtain rfl:a=[]:=zE9.1 h1;refine qZ rfl Tryz.func94 rfl rfl ?_;all_goals (repeat' (first|refine qg ?_|refine qh rfl ?_|(refine qc 0 ?_;refine qK ?_)|(refine qc 1 ?_;refine ZU ?_)|(refine qc 2 ?_;refine qK ?_)))
  refine qC ⟨_,rfl,?_⟩;exact S.Qb
 ·refine qZ rfl Tryz.func94 rfl rfl ?_;all_goals (repeat' (first|refine qg ?_|refine qh rfl ?_|refine qj ?_|(refine qc 0 ?_;refine qK ?_)|(refine qc 1 ?_;refine ZU ?_)|(refine qc 3 ?_;skip)))
  refine nw 3 zh S ?_;clear S;intro u h S;(refine mv ?_);refine apd S rfl rfl (r0.ext w S.ext) ?_;clear S;intro v' h S;(refine qK ?_);all_goals (repeat' (fail))
  refine qC ⟨_,rfl,?_⟩;exact S
theorem VK {h0:AH} (w:WfH h0) (g:Qi) (r:Qh h0 g.tv.val 1 eS g.tg) (hl:g.tg.length≤1000000):Fn Tryz.prog Xh 75 [gV g] h0 (fun v h'=>∃ tv:SlV,v=gV { g with tv:=tv }∧Hs h0 h' [.sl tv.val 9 1 eS g.tg]):=by
 have S:=Hs.start w;unfold gV;refine qZ rfl Tryz.func75 rfl rfl ?_;all_goals (repeat' (first|refine qg ?_|(refine qc 0 ?_;(refine bx S ?_;clear S;intro b h S);(refine al S ?_;clear S;intro b h S);refine qf ?_)|(refine qc 1 ?_;refine vl ?_;refine lB S rfl rfl ?_)))
 (refine qx rfl rfl rfl rfl rfl ((qa4 S.wf g.tv.val g.tg (r.ext w S.ext) hl).mono ?_);rintro v h x)<;>(replace S:=S.zQ x;clear x;obtain ⟨tv,rfl⟩:=S.qf3.sV v;refine vl ?_;(first|(refine sB S rfl rfl ?_;clear S;intro h S));refine qf ?_)
 all_goals (repeat' (first|refine qg ?_|(refine qc 2 ?_;refine lB S rfl rfl ?_;(first|(refine sB S rfl rfl ?_;clear S;intro h S));refine qf ?_)))
 refine qC ⟨_,zD S rfl (by first|exact .there .here) (by exact rfl) (by exact rfl),?_⟩;exact ⟨tv,rfl,S.only .here⟩
theorem qeu {h0:AH} (w:WfH h0):Fn Tryz.prog Xh 47 [] h0 (fun v h'=>∃ b,v = .pointer (some ⟨b,0,none⟩)∧Hs h0 h' [zN b ⟨[],[]⟩]):=by
 have S:=Hs.start w;refine qZ rfl Tryz.func47 rfl rfl ?_;all_goals (repeat' (first|refine qg ?_|(refine qc 0 ?_;refine qK ?_)))
 refine qc 1 ?_;refine mkm (α:=Int) (.int .i64) S ?_;clear S;intro m h S;(refine vl ?_;(refine bx S ?_;clear S;intro b h S);refine qK ?_);all_goals (repeat' (fail))
 refine qC ⟨_,rfl,?_⟩;refine ⟨_,rfl,?_⟩;have S:=((S.Qb (e:=24) (z:=9) (enc:=eG)).Qb (e:=111) (z:=3) (enc:=zh)).anyS (p:=TgsOk []) fun h' g hg=>by cases hg
 replace S:Hs h0 _ [X5 [],.sl (SlV.val ⟨none,0,0⟩) 111 3 zh [],.sl (SlV.val ⟨none,0,0⟩) 24 9 eG [],.blk b [SlV.val ⟨none,0,0⟩,SlV.val ⟨none,0,0⟩,.map (some m)] 86,.mp m (.int .i64) []]:=S;exact S.bk (r:=⟨[],[]⟩) ⟨none,0,0⟩ ⟨none,0,0⟩ m [] [] rfl fun n=>rfl
theorem qeL {h0 h:AH} {rs:List Rs} {p:Nat} {r:Rl} (S:Hs h0 h (zN p r :: rs)) (g:Qi) (hr:RdS h0 rs g.tv.val 1 eS g.tg) (hl:g.tg.length≤9223372036854775807) (hu:r.us.length≤64) :
 Fn Tryz.prog Xh 35 [.pointer (some ⟨p,0,none⟩),gV g] h (fun v h'=>v = .int .i64 (ZP r g.toGu).2∧Hs h0 h' (zN p (ZP r g.toGu).1 :: rs)):=by
 obtain ⟨⟨vg,vt,m,mp,gs⟩,⟨q1,q2⟩,S⟩:=S.unpack;have e1:gs.length=r.us.length:=by rw [← q1];simp
 dsimp only [bkL,List.cons_append,List.nil_append] at q1 q2 S;unfold gV;refine qZ rfl Tryz.func35 rfl rfl ?_;all_goals (repeat' (first|refine qg ?_|(refine qc 0 ?_;(refine bx S ?_;clear S;intro b h S);refine qK ?_)|(refine qc 1 ?_;refine mv ?_)))
 (refine qx rfl rfl rfl rfl rfl ((jD S.wf (jV S (.there .here))).mono ?_);rintro _ h ⟨rfl,x⟩)<;>(replace S:=S.qN x;clear x;refine qf ?_)
 all_goals (repeat' (first|refine qg ?_|refine qh rfl ?_|refine qj ?_|(refine qc 3 ?_;refine lB S rfl rfl ?_)))
 (refine qx rfl rfl rfl rfl rfl ((qcf S.wf g ⟨hr _ S.sub,hl⟩).mono ?_);rintro _ h ⟨rfl,x⟩)<;>(replace S:=S.qN x;clear x;refine qK ?_)
 all_goals (repeat' (first|refine qg ?_|refine qh rfl ?_|refine qj ?_|(refine qc 4 ?_;refine mv ?_;(first|(refine cS ?_ ?_<;>intro hc))<;>(refine qf ?_))|(refine qc 5 ?_;refine qX ?_)|(refine qJ 6 ?_;refine Jc ?_;refine lB S rfl rfl ?_;refine vl ?_;refine lB S rfl rfl ?_)))
 ·refine qC ⟨_,rfl,?_⟩;rw [PR hc];exact ⟨rfl,S.bk vg vt m mp gs q1 q2⟩
 ·have hc0:Zj g.toGu=0:=by simpa using hc
  replace S:Hs h0 h (.blk b (eG g) 24 :: .blk p [vg.val,vt.val,.map (some m)] 86 :: .sl vg.val 24 9 eG gs :: .sl vt.val 111 3 zh r.ts :: .mp m (.int .i64) mp :: X5 gs :: rs):=S;refine lk S (.there (.there (.there (.there .here)))) (fun i hi=>?_) (fun hi=>?_)
  ·simp only [okV];(refine zk ?_);all_goals (repeat' (first|refine qg ?_|refine qh rfl ?_|(refine qc 7 ?_;refine qK ?_)|(refine qc 8 ?_;refine qK ?_)))
   refine qC ⟨_,rfl,?_⟩;rw [PT hc0 (by rw [q2] at hi;intro q;rw [q] at hi;cases hi)];exact ⟨rfl,S.bk vg vt m mp gs q1 q2⟩
  ·simp only [okV];(refine zk ?_);all_goals (repeat' (first|refine qg ?_|refine qh rfl ?_|refine qj ?_|(refine qc 7 ?_;refine qK ?_)|(refine qc 9 ?_;refine Qz ?_;refine lB S rfl rfl ?_;refine ZJ S rfl rfl ?_;(first|(refine cS ?_ ?_<;>intro hc))<;>(refine qf ?_))|(refine qc 10 ?_;refine qK ?_)|(refine qJ 11 ?_;refine Jc ?_;refine lB S rfl rfl ?_;refine vl ?_;refine lB S rfl rfl ?_;refine Qz ?_;refine lB S rfl rfl ?_;refine ZJ S rfl rfl ?_)))
   ·refine qC ⟨_,rfl,?_⟩;rw [PS hc0 (by rw [q2] at hi;cases hq:gat r.us g.name with|none=>rfl|some i=>rw [hq] at hi;cases hi) (by omega)];exact ⟨rfl,S.bk vg vt m mp gs q1 q2⟩
   ·have hn:gat r.us g.name=none:=by rw [q2] at hi;cases hq:gat r.us g.name with|none=>rfl|some i=>rw [hq] at hi;cases hi
    have hn64:¬ 64≤r.us.length:=by omega
    refine up (x:=(gs.length:Int)) (key:=g.name) S (.there (.there (.there (.there .here)))) (.there (.there (.there (.there .here)))) (fun h S=>?_) (.inl rfl);(refine qf ?_);have ht4:=(QI hc0).2.2.2.1;(repeat (refine qg ?_));refine Qu (id:=12) [(5,(0,2))] [some (p)] ?_;refine qp ?_;(first|(refine mv ?_<;>refine qf ⟨⟨by (first|exact True.intro),rfl⟩,?_⟩));refine qp ?_;(first|(refine mv ?_<;>refine qf ⟨⟨by (first|exact True.intro),rfl⟩,?_⟩));refine qp ?_;(first|(refine vl ?_<;>refine qf ⟨⟨by (first|exact True.intro),rfl⟩,?_⟩));refine qp ?_;(first|(refine vl ?_<;>refine qf ⟨⟨by (first|exact True.intro),rfl⟩,?_⟩));refine qp ?_;(first|(refine vl ?_<;>refine qf ⟨⟨by (first|exact True.intro),rfl⟩,?_⟩));refine qp ?_;(first|(refine lB S rfl rfl ?_<;>refine qf ⟨⟨by (first|exact Or.inr rfl),rfl⟩,?_⟩));refine qp ?_;(first|(refine lB S rfl rfl ?_<;>refine qf ⟨⟨by (first|exact True.intro),rfl⟩,?_⟩));((refine qp ?_;first|refine qx rfl rfl rfl rfl rfl ((VK S.wf g (hr _ S.sub) (by omega)).mono ?_));rintro _ h ⟨tv,rfl,x⟩)<;>((refine qf ⟨⟨True.intro,?_⟩,?_⟩;(focus ((show keepsX _ _ _ _ _;simp only [keepsX];(repeat' (first|exact True.intro|refine And.intro ?_ ?_));all_goals (intro hw;first|exact x.ext.old _ S.bB)))));replace S:=S.zQ x;clear x;refine qp ?_;(first|((refine one 9 S ?_;have S0:=S;clear S;intro u h S);refine qf ⟨⟨True.intro,?_⟩,?_⟩;(focus ((show keepsX _ _ _ _ _;simp only [keepsX];(repeat' (first|exact True.intro|refine And.intro ?_ ?_));all_goals (intro hw;first|exact (S.gB).trans (S0.gB).symm))));clear S0)))
    refine qp ?_;refine app (y0:={ g with tv:=tv }) S rfl rfl ?_;have S0:=S;clear S;intro v h S;obtain ⟨vg',rfl⟩:=S.sV v;refine qf ⟨⟨True.intro,?_⟩,?_⟩;(focus ((show keepsX _ _ _ _ _;simp only [keepsX];(repeat' (first|exact True.intro|refine And.intro ?_ ?_));all_goals (intro hw;first|exact (S.gB).trans (S0.gB).symm))));clear S0;(refine qp ?_;(first|(refine vl ?_<;>refine qf ⟨⟨by (first|exact True.intro),rfl⟩,?_⟩));refine qp ?_;(first|(refine vl ?_<;>refine qf ⟨⟨by (first|exact True.intro),rfl⟩,?_⟩));refine qp ?_;(first|(refine vl ?_<;>refine qf ⟨⟨by (first|exact True.intro),rfl⟩,?_⟩));refine qp ?_;(first|((refine sB S rfl rfl ?_;have S0:=S;clear S;intro h S);refine qf ⟨⟨True.intro,?_⟩,?_⟩;(focus ((show keepsX _ _ _ _ _;simp only [keepsX];(repeat' (first|exact True.intro|refine And.intro ?_ ?_));all_goals (intro hw;first|exact absurd hw (by decide +kernel)))));clear S0));refine QL ?_);all_goals (repeat' (first|refine qg ?_|(refine qc 13 ?_;refine qK ?_)))
    refine qC ⟨_,rfl,?_⟩;rw [PU hc0 hn hn64];replace S:Hs h0 h (.sl vg'.val 24 9 eG (gs ++ [{ g with tv:=tv }]) :: .sl tv.val 9 1 eS g.tg :: .blk b (eG g) 24 :: .blk p [vg'.val,vt.val,.map (some m)] 86 :: .sl vt.val 111 3 zh r.ts :: .mp m (.int .i64) (Ql mp g.name gs.length) :: X5 gs :: rs):=S;have S:=(show Hs h0 h (.sl tv.val 9 1 eS g.tg :: X5 gs :: .sl vg'.val 24 9 eG (gs ++ [{ g with tv:=tv }]) :: .blk p [vg'.val,vt.val,.map (some m)] 86 :: .sl vt.val 111 3 zh r.ts :: .mp m (.int .i64) (Ql mp g.name gs.length) :: rs) from S.pick)
    have S:=Hs.qe7 (g:={ g with tv:=tv }) S;refine ⟨rfl,S.bk vg' vt m (Ql mp g.name gs.length) (gs ++ [{ g with tv:=tv }]) (by simp [q1]) ?_⟩;rw [e1];exact q2.app hn
end Go.Proofs.Xx
namespace Go.Proofs.Xx
open Go Go.Proofs
theorem qge (a b:List UInt8):(Lib.compareBytes a b<0↔zG a b)∧(Lib.compareBytes a b=0↔a=b):=by
 induction a generalizing b with
 | nil =>
  cases b with
  | nil=>exact ⟨⟨fun h=>by simp [Lib.compareBytes] at h,fun h=>absurd h (YY _)⟩,by simp [Lib.compareBytes]⟩
  | cons y b=>exact ⟨⟨fun _=>WS _ _,fun _=>by simp [Lib.compareBytes]⟩,by simp [Lib.compareBytes]⟩
 | cons x a ih =>
  cases b with
  | nil=>exact ⟨⟨fun h=>by simp [Lib.compareBytes] at h,fun h=>absurd h (YY _)⟩,by simp [Lib.compareBytes]⟩
  | cons y b =>
   obtain ⟨i1,i2⟩:=ih b;have hc:Lib.compareBytes (x :: a) (y :: b)=if x<y then -1 else if y<x then 1 else Lib.compareBytes a b:=rfl
   rw [Jk,hc];by_cases h1:x<y
   ·rw [if_pos h1];refine ⟨⟨fun _=>.inl h1,fun _=>by omega⟩,fun q=>by omega,fun q=>?_⟩;injection q with q _;subst q;exact absurd h1 (UInt8.lt_irrefl _)
   ·rw [if_neg h1];by_cases h2:y<x
    ·rw [if_pos h2];refine ⟨⟨fun q=>by omega,fun q=>?_⟩,fun q=>by omega,fun q=>?_⟩
     ·rcases q with q|⟨rfl,-⟩
      ·exact absurd q h1
      ·exact absurd h2 (UInt8.lt_irrefl _)
     ·injection q with q _;subst q;exact absurd h2 (UInt8.lt_irrefl _)
    ·rw [if_neg h2];have e:x=y:=UInt8.le_antisymm (UInt8.not_lt.1 h2) (UInt8.not_lt.1 h1);subst e;refine ⟨⟨fun q=>.inr ⟨rfl,i1.1 q⟩,fun q=>?_⟩,⟨fun q=>by rw [i2.1 q],fun q=>i2.2 (by injection q)⟩⟩;rcases q with q|q
     ·exact absurd q h1
     ·exact i1.2 q.2
def zW (x y:Ti):Prop:=zG x.a y.a∨(x.a=y.a∧zG x.b y.b)
theorem WX (x:Ti):¬ zW x x:=fun h=>by rcases h with h|h;exact zA _ h;exact zA _ h.2
theorem Qg {x y z:Ti} (h1:zW x y) (h2:zW y z):zW x z:=by
 rcases h1 with h1|⟨e1,h1⟩
 ·rcases h2 with h2|⟨e2,h2⟩
  ·exact .inl (jv h1 h2)
  ·exact .inl (e2 ▸ h1)
 ·rcases h2 with h2|⟨e2,h2⟩
  ·exact .inl (e1 ▸ h2)
  ·exact .inr ⟨e1.trans e2,jv h1 h2⟩
theorem Ye (x y:Ti):zW x y∨(x.a=y.a∧x.b=y.b)∨zW y x:=by
 rcases Jy x.a y.a with h|h|h
 ·exact .inl (.inl h)
 ·rcases Jy x.b y.b with g|g|g
  ·exact .inl (.inr ⟨h,g⟩)
  ·exact .inr (.inl ⟨h,g⟩)
  ·exact .inr (.inr (.inr ⟨h.symm,g⟩))
 ·exact .inr (.inr (.inl h))
def TS (ts:List Ti):Prop:=ts.Pairwise zW
theorem TS.lt {ts:List Ti} (h:TS ts) {i j:Nat} (hij:i<j) (hj:j<ts.length):zW (ts.getD i default) (ts.getD j default):=by
 have:=zD2.1 h i j (by omega) hj hij;rw [zA2,zA2,zA4 hj,zA4 (show i<ts.length by omega)];exact this
def Plc (l:List Ti) (y:Ti) (i:Nat):Prop:=i≤l.length∧(∀ j,j<i→zW (l.getD j default) y)∧∀ j,i≤j→j<l.length→¬ zW (l.getD j default) y
variable [Flag]
theorem qdo {h:AH} (a b:List UInt8):Fn Tryz.prog Xh 163 [str a,str b] h (fun v h'=>(∃ c,v = .int .i64 c∧(c<0↔zG a b)∧(c=0↔a=b))∧h'=h):=by
 refine qZ rfl Tryz.func163 rfl rfl ?_;all_goals (repeat' (first|refine qg ?_|(refine qc 0 ?_;refine qK ?_)|(refine qc 1 ?_;refine qE ?_)))
 (refine qx rfl rfl rfl rfl rfl (((yL (R:=fun v h'=>v = .int .i64 (Lib.compareBytes a b)∧h'=h) rfl ⟨rfl,rfl⟩)).mono ?_);rintro _ _ ⟨rfl,rfl⟩)<;>(refine qK ?_)
 all_goals (repeat' (fail))
 refine qC ⟨_,rfl,?_⟩;exact ⟨⟨_,rfl,qge a b⟩,rfl⟩
theorem qb9 {h:AH} (a b:List UInt8):Fn Tryz.prog Xh 130 [str a,str b] h (fun v h'=>(∃ c,v = .int .i64 c∧(c<0↔zG a b)∧(c=0↔a=b))∧h'=h):=by
 refine qZ rfl Tryz.func130 rfl rfl ?_;all_goals (repeat' (first|refine qg ?_|(refine qc 0 ?_;refine qK ?_)|(refine qc 1 ?_;refine qE ?_)))
 (refine qx rfl rfl rfl rfl rfl ((qdo a b).mono ?_);rintro _ _ ⟨⟨c,rfl,q⟩,rfl⟩)<;>(refine qK ?_)
 all_goals (repeat' (fail))
 refine qC ⟨_,rfl,?_⟩;exact ⟨⟨c,rfl,q⟩,rfl⟩
theorem xO {h0:AH} (w:WfH h0) (x y:Ti):Fn Tryz.prog Xh 82 [pq x,pq y] h0 (fun v h'=>(∃ c,v = .int .i64 c∧(c<0↔zW x y)∧(c=0↔x.a=y.a∧x.b=y.b))∧Hs h0 h' []):=by
 have S:=Hs.start w;unfold pq;refine qZ rfl Tryz.func82 rfl rfl ?_;all_goals (repeat' (first|refine qg ?_|(refine qc 0 ?_;(refine bx S ?_;clear S;intro b h S);(refine bx S ?_;clear S;intro b h S);refine qK ?_)|(refine qc 1 ?_;refine vl ?_;refine lB S rfl rfl ?_;refine vl ?_;refine lB S rfl rfl ?_)))
 (refine qx rfl rfl rfl rfl rfl ((qb9 x.a y.a).mono ?_);rintro _ _ ⟨⟨c,rfl,q1,q2⟩,rfl⟩)<;>(refine qK ?_)
 all_goals (repeat' (first|refine qg ?_|refine qh rfl ?_|refine qj ?_|(refine qc 2 ?_;refine mv ?_;(first|(refine cS ?_ ?_<;>intro hc))<;>(refine qf ?_))|(refine qc 3 ?_;refine qX ?_)|(refine qc 4 ?_;refine vl ?_;refine lB S rfl rfl ?_;refine vl ?_;refine lB S rfl rfl ?_)))
 ·refine qC ⟨_,rfl,?_⟩;refine ⟨⟨c,rfl,?_,?_⟩,S.drop⟩
  ·unfold zW;rw [q1];exact ⟨.inl,fun h=>h.elim id fun h=>absurd (q2.2 h.1) hc⟩
  ·exact ⟨fun h=>absurd h hc,fun h=>q2.2 h.1⟩
 ·(refine qx rfl rfl rfl rfl rfl ((qb9 x.b y.b).mono ?_);rintro _ _ ⟨⟨d,rfl,q3,q4⟩,rfl⟩)<;>(refine qK ?_)
  all_goals (repeat' (fail))
  refine qC ⟨_,rfl,?_⟩;have e:=q2.1 (by omega);refine ⟨⟨d,rfl,?_,?_⟩,S.drop⟩
  ·unfold zW;rw [q3];exact ⟨fun h=>.inr ⟨e,h⟩,fun h=>h.elim (fun h=>absurd (e ▸ h) (zA _)) (·.2)⟩
  ·rw [q4];exact ⟨fun h=>⟨e,h⟩,(·.2)⟩
theorem kN {h0:AH} (w:WfH h0) (a b:List UInt8) (k:Int):Fn Tryz.prog Xh 89 [str a,str b,.int .u8 k] h0 (fun v h'=>v=pq ⟨jY a b,jZ a b,k⟩∧Hs h0 h' []):=by
 have S:=Hs.start w;refine qZ rfl Tryz.func89 rfl rfl ?_;all_goals (repeat' (first|refine qg ?_|(refine qc 0 ?_;(refine al S ?_;clear S;intro b h S);refine qf ?_)|(refine qc 1 ?_;refine qE ?_;refine mnS ?_;refine qE ?_;refine mxS ?_;refine mv ?_;refine vl ?_;(first|(refine sB S rfl rfl ?_;clear S;intro h S));refine qf ?_)))
 refine qC ⟨_,zD S rfl (by first|exact .here) (by exact rfl) (by exact rfl),?_⟩;exact ⟨rfl,S.drop⟩
theorem PN {h0:AH} (w:WfH h0) {v:Value} {l:List Ti} (hr:Qh h0 v 3 zh l) (hl:l.length≤1000000) (hs:TS l) (y:Ti) :
 Fn Tryz.prog Xh 134 [v,pq y,.func (.func 82) #[] #[]] h0 (fun u h'=>(∃ (i:Nat) (f:Bool),u = .tuple #[.int .i64 i,.bool f]∧Plc l y i∧(f=true↔i<l.length∧(l.getD i default).a=y.a∧(l.getD i default).b=y.b))∧Hs h0 h' []):=by
 have S:=Hs.start w;unfold pq;refine qZ rfl Tryz.func134 rfl rfl ?_;all_goals (repeat' (first|refine qg ?_|refine qi ?_|(refine qc 0 ?_;(refine bx S ?_;clear S;intro b h S);refine qX ?_)|(refine qc 1 ?_;refine mv ?_;refine Zx S ?_;refine qK ?_)|(refine qc 2 ?_;refine mv ?_;refine qX ?_)))
 replace S:Hs h0 h [.blk b (zh y) 111]:=S;refine qH (σ:=Nat×Nat) (fun (lo,hi) h'=>Hs h0 h' [.blk b (zh y) 111]∧lo≤hi∧hi≤l.length∧(∀ j,j<lo→zW (l.getD j default) y)∧(∀ j,hi≤j→j<l.length→¬ zW (l.getD j default) y)) (fun (lo,hi)=>hi - lo) (fun (lo,hi)=>[(0,v),(2,.func (.func 82) #[] #[]),(4,.pointer (some ⟨b,0,none⟩)),(8,.int .i64 l.length),(9,.int .i64 lo),(10,.int .i64 hi)]) (0,l.length) qo ?_ ?_
 ·exact ⟨S,zB0 _,zA3 _,fun j hj=>absurd hj (zB7 _),fun j h1 h2=>absurd h2 (by omega)⟩
 clear S;rintro ⟨lo,hi⟩ h ⟨S,g1,g2,g3,g4⟩;all_goals (repeat' (first|refine qg ?_|refine qh rfl ?_|refine qj ?_|refine qw ?_|refine qi ?_|(refine qc 3 ?_;refine qE ?_;(first|(refine cS ?_ ?_<;>intro hc))<;>(refine qf ?_))|(refine qc 4 ?_;refine qE ?_;refine ad ?_;refine cW ?_;refine sR1 ?_;refine cI ?_;refine qK ?_)|(refine qJ 5 ?_;refine qE ?_;refine mv ?_;refine QN S ?_;refine jQ S ?_;refine lB S rfl rfl ?_)|(refine qJ 8 ?_;refine qE ?_;refine mv ?_;(first|(refine cS ?_ ?_<;>intro hc))<;>(refine mv ?_;(first|refine off ?_|refine mv ?_);(first|refine off ?_|refine mv ?_);(first|refine off ?_|refine mv ?_);(first|refine off ?_|(refine QN S ?_));(first|refine off ?_|(refine jQ S ?_));(first|refine off ?_|(refine lB S rfl rfl ?_));(first|(refine off ?_;(refine off ?_)<;>(refine vl ?_;refine qX ?_))|skip)))))
 ·obtain ⟨mid,hm,hm2,hm3⟩:∃ mid:Nat,((lo:Int)+hi) / 2=mid∧lo≤mid∧mid<hi:=⟨(lo+hi) / 2,by omega,by omega,by omega⟩
  simp only [hm,zA0];(refine zx rfl rfl rfl rfl ((xO S.wf (l.getD mid default) y).mono ?_);rintro _ h ⟨⟨c,rfl,e1,e2⟩,x⟩)<;>(replace S:=S.qN x;clear x;(first|(refine cS ?_ ?_<;>intro hc))<;>(refine qf ?_))
  all_goals (repeat' (first|refine qh rfl ?_|(refine qc 6 ?_;refine qO ?_)|(refine qc 7 ?_;refine qX ?_)))
  ·refine ⟨(mid+1,hi),?_,?_,qo⟩
   ·show hi - (mid+1)<hi - lo;omega
   ·refine ⟨S,by omega,g2,fun j hj=>?_,g4⟩;rcases zA7 j mid with q|q
    ·exact Qg (hs.lt q (by omega)) (e1.1 hc)
    ·obtain rfl:j=mid:=by omega
     exact e1.1 hc
  ·refine ⟨(lo,mid),?_,?_,qo⟩
   ·show mid - lo<hi - lo;omega
   ·refine ⟨S,hm2,by omega,g3,fun j h1 h2 q=>?_⟩;rcases zA7 mid j with q2|q2
    ·exact hc (e1.2 (Qg (hs.lt q2 h2) q))
    ·obtain rfl:j=mid:=by omega
     exact hc (e1.2 q)
 ·obtain rfl:hi=lo:=by omega
  simp only [zA0];(refine zx rfl rfl rfl rfl ((xO S.wf (l.getD hi default) y).mono ?_);rintro _ h ⟨⟨c,rfl,e1,e2⟩,x⟩)<;>(replace S:=S.qN x;clear x;(first|(first|(refine cS ?_ ?_<;>intro hc)))<;>(refine vl ?_;refine qX ?_))
  all_goals (all_goals (repeat' (fail)))
  all_goals (refine qC ⟨_,rfl,?_⟩)
  ·exact ⟨⟨hi,true,rfl,⟨g2,g3,g4⟩,fun _=>⟨by omega,e2.1 hc⟩,fun _=>rfl⟩,S.drop⟩
  ·exact ⟨⟨hi,false,rfl,⟨g2,g3,g4⟩,fun q=>(by cases q),fun q=>absurd (e2.2 q.2) hc⟩,S.drop⟩
 ·obtain rfl:hi=lo:=by omega
  all_goals (repeat' (fail))
  refine qC ⟨_,rfl,?_⟩;exact ⟨⟨hi,false,rfl,⟨g2,g3,g4⟩,fun q=>(by cases q),fun q=>absurd q.1 (by omega)⟩,S.drop⟩
theorem xN {h0:AH} (w:WfH h0) {p m:Nat} {vg vt:Value} {ts:List Ti} (hb:h0.get p=some (.cells [vg,vt,.map (some m)] 86 none false)) (hr:Qh h0 vt 3 zh ts) (hl:ts.length≤1000000) (hs:TS ts) (a b:List UInt8) :
 Fn Tryz.prog Xh 87 [.pointer (some ⟨p,0,none⟩),str a,str b] h0 (fun u h'=>(∃ (i:Nat) (f:Bool),u = .tuple #[.int .i64 i,.bool f]∧Plc ts ⟨jY a b,jZ a b,0⟩ i∧(f=true↔i<ts.length∧(ts.getD i default).a=jY a b∧(ts.getD i default).b=jZ a b))∧Hs h0 h' []):=by
 have S:=Hs.start w;refine qZ rfl Tryz.func87 rfl rfl ?_;all_goals (repeat' (first|refine qg ?_|(refine qc 0 ?_;refine qX ?_)))
 (repeat (refine qg ?_));refine Qu (id:=1) [(4,(0,1))] [some (p)] ?_;refine qp ?_;(first|(refine mv ?_<;>refine qf ⟨⟨by (first|exact True.intro),rfl⟩,?_⟩));refine qp ?_;(first|(refine vl ?_<;>refine qf ⟨⟨by (first|exact True.intro),rfl⟩,?_⟩));refine qp ?_;(first|(refine vl ?_<;>refine qf ⟨⟨by (first|exact True.intro),rfl⟩,?_⟩));refine qp ?_;(first|(refine vl ?_<;>refine qf ⟨⟨by (first|exact True.intro),rfl⟩,?_⟩));refine qp ?_;(first|(refine lH S ?_<;>refine qf ⟨⟨by (first|exact Or.inr rfl),rfl⟩,?_⟩));refine qp ?_;(first|(refine mv ?_<;>refine qf ⟨⟨by (first|exact True.intro),rfl⟩,?_⟩));refine qp ?_;(first|(refine mv ?_<;>refine qf ⟨⟨by (first|exact True.intro),rfl⟩,?_⟩));((refine qp ?_;first|refine qx rfl rfl rfl rfl rfl ((kN S.wf a b 0).mono ?_));rintro _ h ⟨rfl,x⟩)<;>((refine qf ⟨⟨True.intro,?_⟩,?_⟩;(focus ((show keepsX _ _ _ _ _;simp only [keepsX];(repeat' (first|exact True.intro|refine And.intro ?_ ?_));all_goals (intro hw;first|exact x.ext.old _ (S.bY (by assumption) (by assumption)))))));replace S:=S.qN x;clear x)
 ((refine qp ?_;first|refine qx rfl rfl rfl rfl rfl ((PN S.wf (hr.ext w S.ext) hl hs ⟨jY a b,jZ a b,0⟩).mono ?_));rintro _ h ⟨⟨i,f,rfl,q1,q2⟩,x⟩)<;>((refine qf ⟨⟨True.intro,?_⟩,?_⟩;(focus ((show keepsX _ _ _ _ _;simp only [keepsX];(repeat' (first|exact True.intro|refine And.intro ?_ ?_));all_goals (intro hw;first|exact x.ext.old _ (S.bY (by assumption) (by assumption)))))));replace S:=S.qN x;clear x;refine qp ?_;(first|(refine vl ?_<;>refine qf ⟨⟨by (first|exact True.intro),rfl⟩,?_⟩));refine qp ?_;(first|(refine vl ?_<;>refine qf ⟨⟨by (first|exact True.intro),rfl⟩,?_⟩));refine qp ?_;(first|(refine mv ?_<;>refine qf ⟨⟨by (first|exact True.intro),rfl⟩,?_⟩));refine qp ?_;(first|(refine mv ?_<;>refine qf ⟨⟨by (first|exact True.intro),rfl⟩,?_⟩));refine QL ?_)
 all_goals (repeat' (fail))
 refine qC ⟨_,rfl,?_⟩;exact ⟨⟨i,f,rfl,q1,q2⟩,S.drop⟩
end Go.Proofs.Xx
namespace Go.Proofs.Xx
open Go Go.Proofs
instance (x y:Ti):Decidable (zW x y):=inferInstanceAs (Decidable (_∨_))
def jW (a b:List UInt8) (k:Int):Ti:=⟨jY a b,jZ a b,k⟩
def tied (ts:List Ti) (a b:List UInt8):Prop:=∃ t∈ts,t.a=jY a b∧t.b=jZ a b
def kL:List Ti→Ti→List Ti
 | [],t=>[t]
 | x :: r,t=>if zW x t then x :: kL r t else t :: x :: r
open Classical in
noncomputable def ZH (r:Rl) (a b:List UInt8) (k:Int):Rl×Int :=
 if (k≠1∧k≠2)∨a=b then (r,23) else if gat r.us a=none∨gat r.us b=none then (r,6) else if tied r.ts a b then (r,5) else if 256≤r.ts.length then (r,7) else (⟨r.us,kL r.ts (jW a b k)⟩,0)
theorem xG {t:Ti}:∀ {l:List Ti} {i:Nat},Plc l t i→kL l t=l.take i ++ t :: l.drop i
 | [],i,h=>by simp [kL]
 | x :: r,0,h=>by
  have:=h.2.2 0 (zA3 _) (by simp);show (if zW x t then _ else _)=_
  rw [if_neg (show ¬ zW x t from this)];rfl
 | x :: r,i+1,h=>by
  have h0:=h.2.1 0 (Nat.succ_pos _);show (if zW x t then _ else _)=_
  rw [if_pos (show zW x t from h0),xG (l:=r) (i:=i) ⟨by have:=h.1;simp at this;omega,fun j hj=>h.2.1 (j+1) (by omega),fun j h1 h2=>h.2.2 (j+1) (by omega) (by simp;omega)⟩];rfl
theorem Plc.tied {l:List Ti} {a b:List UInt8} {i:Nat} (hs:TS l) (h:Plc l ⟨jY a b,jZ a b,0⟩ i):tied l a b↔i<l.length∧(l.getD i default).a=jY a b∧(l.getD i default).b=jZ a b:=by
 constructor
 ·rintro ⟨t,ht,e1,e2⟩;obtain ⟨j,hj,rfl⟩:=List.mem_iff_getElem.1 ht;have eg:l.getD j default=l[j]:=by rw [zA2,zA4 hj];rfl
  have hji:i≤j:=by
   rcases zA7 j i with q|q
   ·have:=h.2.1 j q;rw [eg] at this;rcases this with q|q
    ·rw [e1] at q;exact absurd q (zA _)
    ·rw [e2] at q;exact absurd q.2 (zA _)
   ·exact q
  rcases zA7 i j with q|q
  ·have q1:=hs.lt q hj;rw [eg] at q1;refine absurd ?_ (h.2.2 i (zA3 _) (by omega));unfold zW at q1 ⊢;rw [e1,e2] at q1;exact q1
  ·obtain rfl:i=j:=by omega
   rw [eg];exact ⟨hj,e1,e2⟩
 ·rintro ⟨h1,h2,h3⟩;refine ⟨_,List.getElem_mem h1,?_⟩;rw [show l[i]=l.getD i default by rw [zA2,zA4 h1];rfl];exact ⟨h2,h3⟩
theorem kw {r:Rl} {a b:List UInt8} {k:Int} (h:(k≠1∧k≠2)∨a=b):ZH r a b k=(r,23):=by unfold ZH;rw [if_pos h]
theorem W9 {r:Rl} {a b:List UInt8} {k:Int} (h:¬ ((k≠1∧k≠2)∨a=b)) (h2:gat r.us a=none∨gat r.us b=none):ZH r a b k=(r,6):=by unfold ZH;rw [if_neg h,if_pos h2]
theorem ku {r:Rl} {a b:List UInt8} {k:Int} (h:¬ ((k≠1∧k≠2)∨a=b)) (h2:¬ (gat r.us a=none∨gat r.us b=none)) (h3:tied r.ts a b):ZH r a b k=(r,5):=by unfold ZH;rw [if_neg h,if_neg h2,if_pos h3]
theorem wZ {r:Rl} {a b:List UInt8} {k:Int} (h:¬ ((k≠1∧k≠2)∨a=b)) (h2:¬ (gat r.us a=none∨gat r.us b=none)) (h3:¬ tied r.ts a b) (h4:256≤r.ts.length):ZH r a b k=(r,7):=by unfold ZH;rw [if_neg h,if_neg h2,if_neg h3,if_pos h4]
theorem kz {r:Rl} {a b:List UInt8} {k:Int} (h:¬ ((k≠1∧k≠2)∨a=b)) (h2:¬ (gat r.us a=none∨gat r.us b=none)) (h3:¬ tied r.ts a b) (h4:¬ 256≤r.ts.length):ZH r a b k=(⟨r.us,kL r.ts (jW a b k)⟩,0):=by unfold ZH;rw [if_neg h,if_neg h2,if_neg h3,if_neg h4]
variable [Flag]
theorem qdb {h0 h:AH} {rs:List Rs} {vt:SlV} {v1:Value} {l:List Ti} {t:Ti} (i:Nat) (hi:i≤l.length) (hl:l.length≤1000000) (S:Hs h0 h (.sl v1 111 3 Yo [zh t] :: .sl vt.val 111 3 zh l :: rs)) :
 Fn Tryz.prog Xh 88 [vt.val,.int .i64 i,v1] h (fun u h'=>Hs h0 h' (.sl u 111 3 zh (l.take i ++ t :: l.drop i) :: rs)):=by
 have hfl:=zl (enc:=zh) (z:=3) (by intro _;rfl) l;obtain ⟨f1,k1,k2,f2,k3,k4,k5⟩:=S.sep;rcases k1 with ⟨-,k⟩|⟨vb,vo,vcc,vslk,vcap,rfl,g1,fv,t1,c1,s1⟩
 ·cases k
 replace S:Hs h0 h (.sl (.slice (some ⟨vb,vo,none⟩) 1 vcap) 111 3 Yo [zh t] :: .sl vt.val 111 3 zh l :: rs):=S;show Fn Tryz.prog Xh 88 [vt.val,.int .i64 i,.slice (some ⟨vb,vo,none⟩) 1 vcap] h _
 by_cases hlt:i<l.length
 ·rcases k3 with ⟨-,rfl⟩|⟨b,o,cc,slk,cap,e2,g2,fb,t2,c2,s2⟩
  ·exact absurd hlt (by simp)
  rw [e2];have hne:(!Nat.beq b vb)=true:=by
   cases hq:Nat.beq b vb with
   | false=>rfl
   | true=>have:=zA6 hq;subst this;exact absurd fv (k4 b fb).2.2.2
  have hone:((l.flatMap zh).all one?)=true:=by
   rw [zC8];intro x hx;obtain ⟨y,-,hy⟩:=zH1.1 hx;simp [zh] at hy
   rcases hy with rfl|rfl|rfl<;>rfl
  refine yL (v:=.slice (some ⟨h.next,0,none⟩) (l.length+1) (l.length+1)) (h':=(h.put b .dead).add (.cells ((l.flatMap zh).take (i*3) ++ (zh t ++ (l.flatMap zh).drop (i*3))) 111 (some 3) false)) ?_ ?_
  ·show Jw X0 88 88 [.slice (some ⟨b,o,none⟩) l.length cap,.int .i64 (.ofNat i),.slice (some ⟨vb,vo,none⟩) 1 vcap] h=_
   unfold Jw;have hb1:Nat.blt i l.length=true:=by rw [Nat.blt_eq];exact hlt
   have t1':zI vcc vo 3=some (zh t):=by simpa [Yo] using t1
   have hc2:Nat.ble (o+cap*3) cc.length=true:=zB3 c2.2;have hsz:Nat.ble ((l.length+1)*40) 140737488355328=true:=zB3 (by omega);have hot:((zh t).all one?)=true:=rfl;simp only [show Nat.beq 88 88=true from rfl,hb1,g2,g1,t2,t1',hc2,hsz,hone,hot,hne,Bool.and_true,show Nat.beq 111 111=true from rfl];rcases s2 with rfl|rfl<;>rfl
  ·have W:=(S.wf.put (k4 b fb).2.1 .dead)
   have S2:Hs h0 ((h.put b .dead).add (.cells ((l.flatMap zh).take (i*3) ++ (zh t ++ (l.flatMap zh).drop (i*3))) 111 (some 3) false)) (.sl (.slice (some ⟨vb,vo,none⟩) 1 vcap) 111 3 Yo [zh t] :: .sl (.slice (some ⟨h.next,0,none⟩) (l.length+1) (l.length+1)) 111 3 zh (l.take i ++ t :: l.drop i) :: rs):=by
    refine S.turn (.there .here) (Nat.le_succ _) (W.add _) fun fp q1 q2=>?_;rcases q1 with ⟨q1,-⟩|⟨b2,o2,cc2,sl2,cap2,q1,-,q3,-⟩
    ·rw [q1] at e2;cases e2
    obtain rfl:b2=b:=by rw [q1] at e2;cases e2;rfl
    refine ⟨fun j hj hf=>?_,fun j=>j=h.next,.inr ⟨h.next,0,(l.flatMap zh).take (i*3) ++ (zh t ++ (l.flatMap zh).drop (i*3)),some 3,l.length+1,?_,?_,rfl,?_,⟨?_,?_⟩,.inr rfl⟩,fun j hj=>?_⟩
    ·rw [AH.zF,if_neg (by show j≠h.next;omega),AH.get_put,if_neg];intro q;subst q;exact hf q3
    ·simp;omega
    ·rw [AH.zF];exact if_pos rfl
    ·have e:((l.flatMap zh).take (i*3) ++ (zh t ++ (l.flatMap zh).drop (i*3)))=(l.take i ++ t :: l.drop i).flatMap zh:=by
      rw [List.flatMap_append,zG3,jk (z:=3) (by intro _;rfl),jl (z:=3) (by intro _;rfl)]
     rw [e];rw [← zl (enc:=zh) (z:=3) (by intro _;rfl)];exact Qx _
    ·simp;omega
    ·simp [hfl,zh];omega
    ·subst hj;exact ⟨zG1 _,.inr (zA3 _)⟩
   exact S2.tail
 ·obtain rfl:i=l.length:=by omega
  have hX:Xh 88 [vt.val,.int .i64 l.length,.slice (some ⟨vb,vo,none⟩) 1 vcap] h=none:=by
   rcases k3 with ⟨e2,rfl⟩|⟨b,o,cc,slk,cap,e2,-⟩
   ·rw [e2];rfl
   ·rw [e2];show Jw X0 88 88 [.slice (some ⟨b,o,none⟩) l.length cap,.int .i64 (.ofNat l.length),.slice (some ⟨vb,vo,none⟩) 1 vcap] h=_
    unfold Jw;have hb1:Nat.blt l.length l.length=false:=by rw [← Bool.not_eq_true,Nat.blt_eq];omega
    simp only [show Nat.beq 88 88=true from rfl,hb1];rfl
  have hr:=Rd.jm S (.there .here);have hcap:=S.qgg (.there .here);refine qZ (hX) Tryz.func88 rfl rfl ?_;all_goals (repeat' (first|refine qg ?_|(refine qc 0 ?_;refine qK ?_)))
  (repeat (refine qg ?_));refine qc 1 ?_;refine qE ?_;refine su l.length l.length hr hcap (fun v' _ _=>?_);(refine qf ?_);all_goals (repeat' (first|refine qg ?_|refine qh rfl ?_|refine qj ?_|(refine qc 2 ?_;refine mv ?_;refine ZJ S rfl rfl ?_;refine qK ?_)|(refine qc 3 ?_;refine mv ?_;(first|(refine cS ?_ ?_<;>intro hc))<;>(refine qf ?_))|(refine qc 4 ?_;refine qX ?_)|(refine qc 5 ?_;refine mv ?_;refine ZJ S rfl rfl ?_;refine qK ?_)|(refine qc 6 ?_;refine qE ?_;(refine cT ?_)<;>(refine qf ?_))|(refine qc 7 ?_;refine qE ?_)))
  ·simp at hc
  ·refine app (y0:=t) S rfl rfl ?_;clear S;intro v h S;(refine qK ?_);all_goals (repeat' (fail))
   refine qC ⟨_,rfl,?_⟩;simp only [zD4,List.drop_length];exact S
  all_goals exact absurd rfl (by assumption)
theorem qd5 {h0 h:AH} {rs:List Rs} {p:Nat} {r:Rl} (S:Hs h0 h (zN p r :: rs)) (a b:List UInt8) (k:Int) (hl:r.ts.length≤256) (hs:TS r.ts) :
 Fn Tryz.prog Xh 37 [.pointer (some ⟨p,0,none⟩),str a,str b,.int .u8 k] h (fun v h'=>v = .int .i64 (ZH r a b k).2∧Hs h0 h' (zN p (ZH r a b k).1 :: rs)):=by
 obtain ⟨⟨vg,vt,m,mp,gs⟩,⟨q1,q2⟩,S⟩:=S.unpack;have e1:gs.length=r.us.length:=by rw [← q1];simp
 dsimp only [bkL,List.cons_append,List.nil_append] at q1 q2 S;refine qZ rfl Tryz.func37 rfl rfl ?_;all_goals (repeat' (first|refine qg ?_|(refine qc 0 ?_;refine qK ?_)|(refine qc 1 ?_;refine mv ?_)))
 (refine qx rfl rfl rfl rfl rfl ((jD S.wf (jV S .here)).mono ?_);rintro _ h ⟨rfl,x⟩)<;>(replace S:=S.qN x;clear x;refine qf ?_)
 all_goals (repeat' (first|refine qg ?_|refine qh rfl ?_|refine qj ?_))
 (repeat (refine qg ?_));first|refine QD (σ:=Unit) (fun _ h'=>¬ ((k≠1∧k≠2)∨a=b)∧Hs h0 h' (.blk p [vg.val,vt.val,.map (some m)] 86 :: .sl vg.val 24 9 eG gs :: .sl vt.val 111 3 zh r.ts :: .mp m (.int .i64) mp :: X5 gs :: rs)) (fun _=>[(0,.pointer (some ⟨p,0,none⟩)),(1,str a),(2,str b),(3,.int .u8 k)]) ?_ ?_
 ·all_goals (repeat' (first|refine qg ?_|refine qh rfl ?_|refine qj ?_|(refine qc 3 ?_;refine mv ?_;(first|(refine cS ?_ ?_<;>intro hc))<;>(refine mv ?_;(first|refine off ?_|refine mv ?_);(first|refine off ?_|(first|(refine cS ?_ ?_<;>intro hc)))<;>(refine vl ?_;refine mv ?_;(first|refine off ?_|refine mv ?_);(first|refine off ?_|refine mv ?_);(first|refine off ?_|(refine tS ?_ ?_<;>intro hc))<;>(refine zU ?_))))|(refine qc 4 ?_;refine qK ?_)))
  all_goals first
   | exact ⟨(),⟨by omega,S⟩,((by repeat (fail)))⟩
   | exact ⟨(),⟨by grind,S⟩,(qo)⟩
   | ((refine qC ⟨_,rfl,?_⟩);rw [kw (by first|omega|grind)];exact ⟨rfl,S.bk vg vt m mp gs q1 q2⟩)
 clear S;rintro - h ⟨hk,S⟩;all_goals (repeat' (first|refine qg ?_|(refine qc 5 ?_;refine qE ?_)))
 refine bsn (α:=List UInt8) (z:=1) eS [a,b] S ?_;clear S;intro u h S;((refine ZJ S rfl rfl ?_);refine qK ?_);all_goals (repeat' (refine qi ?_))
 refine qH (σ:=Nat) (fun i h'=>Hs h0 h' (.sl u 9 1 eS [a,b] :: .blk p [vg.val,vt.val,.map (some m)] 86 :: .sl vg.val 24 9 eG gs :: .sl vt.val 111 3 zh r.ts :: .mp m (.int .i64) mp :: X5 gs :: rs)∧i≤2∧∀ j,j<i→gat r.us ([a,b].getD j default)≠none) (fun i=>2 - i) (fun i=>[(0,.pointer (some ⟨p,0,none⟩)),(1,str a),(2,str b),(3,.int .u8 k),(30,u),(31,.int .i64 ([a,b].length:Nat)),(32,.int .i64 i)]) 0 qo ?_ ?_
 ·exact ⟨S,zB0 _,fun j hj=>absurd hj (zB7 _)⟩
 clear S;rintro i h ⟨S,g1,g2⟩;all_goals (repeat' (first|refine qg ?_|refine qh rfl ?_|refine qj ?_|refine qw ?_|refine qi ?_|(refine qc 6 ?_;(first|(refine cS ?_ ?_<;>intro hc))<;>(refine qf ?_))|(refine qc 7 ?_;refine qy S rfl rfl ?_;refine qI S rfl rfl ?_;refine qK ?_)|(refine qc 8 ?_;refine Jc ?_;refine lB S rfl rfl ?_;refine mv ?_)|(refine qc 12 ?_;refine qE ?_;refine mv ?_;skip)))
 ·have hi2:i<2:=by simp at hc;omega
  simp only [zA0];refine lk S (.there (.there (.there (.there .here)))) (fun y hy=>?_) (fun hy=>?_)
  ·simp only [okV];(refine zk ?_);all_goals (repeat' (first|refine qg ?_|refine qh rfl ?_|refine qj ?_|(refine qc 9 ?_;refine ZU ?_)|(refine qc 11 ?_;refine jR ?_)))
   refine ⟨i+1,?_,?_,qo⟩
   ·show 2 - (i+1)<2 - i;omega
   ·refine ⟨S,by omega,Ze g2 fun q=>?_⟩;rw [q2,q] at hy;cases hy
  ·simp only [okV];(refine zk ?_);all_goals (repeat' (first|refine qg ?_|refine qh rfl ?_|(refine qc 9 ?_;refine ZU ?_)|(refine qc 10 ?_;refine qK ?_)))
   refine qC ⟨_,rfl,?_⟩;rw [q2] at hy;have hn:gat r.us ([a,b].getD i default)=none:=by
    cases hq:gat r.us ([a,b].getD i default) with
    | none=>rfl
    | some z=>rw [hq] at hy;cases hy
   rw [W9 hk (by
    rcases (show i=0∨i=1 by omega) with rfl|rfl
    ·exact .inl hn
    ·exact .inr hn)]
   exact ⟨rfl,S.bk vg vt m mp gs q1 q2⟩
 ·have hi2:i=2:=by simp at hc;omega
  have hk2:¬ (gat r.us a=none∨gat r.us b=none):=fun q=>by
   rcases q with q|q
   ·exact g2 0 (by omega) q
   ·exact g2 1 (by omega) q
  (refine qx rfl rfl rfl rfl rfl ((xN S.wf (jV S (.there .here)) (Rd.jm S (.there (.there (.there .here)))) (by omega) hs a b).mono ?_);rintro _ h ⟨⟨j,_ | _,rfl,p1,p2⟩,x⟩)<;>(replace S:=S.qN x;clear x;refine zk ?_)
  ·have hk3:¬ tied r.ts a b:=fun q=>by have:=p2.2 ((p1.tied hs).1 q);cases this
   all_goals (repeat' (first|refine qg ?_|refine qh rfl ?_|refine qj ?_|(refine qc 13 ?_;refine qK ?_)|(refine qc 15 ?_;refine Qz ?_;refine lB S rfl rfl ?_;refine ZJ S rfl rfl ?_;(first|(refine cS ?_ ?_<;>intro hc))<;>(refine qf ?_))|(refine qc 16 ?_;refine qK ?_)))
   ·refine qC ⟨_,rfl,?_⟩;rw [wZ hk hk2 hk3 (by omega)];exact ⟨rfl,S.bk vg vt m mp gs q1 q2⟩
   ·have hk4:¬ 256≤r.ts.length:=by omega
    (repeat (refine qg ?_));refine Qu (id:=17) [(5,(0,2))] [some (p)] ?_;refine qp ?_;(first|(refine mv ?_<;>refine qf ⟨⟨by (first|exact True.intro),rfl⟩,?_⟩));refine qp ?_;(first|(refine mv ?_<;>refine qf ⟨⟨by (first|exact True.intro),rfl⟩,?_⟩));refine qp ?_;(first|(refine vl ?_<;>refine qf ⟨⟨by (first|exact True.intro),rfl⟩,?_⟩));refine qp ?_;(first|(refine vl ?_<;>refine qf ⟨⟨by (first|exact True.intro),rfl⟩,?_⟩));refine qp ?_;(first|(refine vl ?_<;>refine qf ⟨⟨by (first|exact True.intro),rfl⟩,?_⟩));refine qp ?_;(first|(refine lB S rfl rfl ?_<;>refine qf ⟨⟨by (first|exact Or.inr rfl),rfl⟩,?_⟩));refine qp ?_;(first|(refine mv ?_<;>refine qf ⟨⟨by (first|exact True.intro),rfl⟩,?_⟩));refine qp ?_;(first|(refine mv ?_<;>refine qf ⟨⟨by (first|exact True.intro),rfl⟩,?_⟩));refine qp ?_;(first|(refine mv ?_<;>refine qf ⟨⟨by (first|exact True.intro),rfl⟩,?_⟩));refine qp ?_;(first|(refine mv ?_<;>refine qf ⟨⟨by (first|exact True.intro),rfl⟩,?_⟩));((refine qp ?_;first|refine qx rfl rfl rfl rfl rfl ((kN S.wf a b k).mono ?_));rintro _ h ⟨rfl,x⟩)<;>((refine qf ⟨⟨True.intro,?_⟩,?_⟩;(focus ((show keepsX _ _ _ _ _;simp only [keepsX];(repeat' (first|exact True.intro|refine And.intro ?_ ?_));all_goals (intro hw;first|exact x.ext.old _ S.bB)))));replace S:=S.qN x;clear x;refine qp ?_;(first|((refine one 3 S ?_;have S0:=S;clear S;intro u h S);refine qf ⟨⟨True.intro,?_⟩,?_⟩;(focus ((show keepsX _ _ _ _ _;simp only [keepsX];(repeat' (first|exact True.intro|refine And.intro ?_ ?_));all_goals (intro hw;first|exact (S.gB).trans (S0.gB).symm))));clear S0)))
    replace S:Hs h0 _ (.sl u 111 3 Yo [zh (jW a b k)] :: _):=S;have S:=(show Hs h0 _ (.sl u 111 3 Yo [zh (jW a b k)] :: .sl vt.val 111 3 zh r.ts :: .blk p [vg.val,vt.val,.map (some m)] 86 :: .sl vg.val 24 9 eG gs :: .mp m (.int .i64) mp :: X5 gs :: rs) from S.pick)
    refine qp ?_;refine qx rfl rfl rfl rfl rfl ((qdb j p1.1 (by omega) S).mono ?_);have S0:=S;clear S;rintro v h S;obtain ⟨vt',rfl⟩:=S.sV v;refine qf ⟨⟨True.intro,?_⟩,?_⟩;(focus ((show keepsX _ _ _ _ _;simp only [keepsX];(repeat' (first|exact True.intro|refine And.intro ?_ ?_));all_goals (intro hw;first|exact (S.gB).trans (S0.gB).symm))));clear S0;(refine qp ?_;(first|(refine vl ?_<;>refine qf ⟨⟨by (first|exact True.intro),rfl⟩,?_⟩));refine qp ?_;(first|(refine vl ?_<;>refine qf ⟨⟨by (first|exact True.intro),rfl⟩,?_⟩));refine qp ?_;(first|(refine vl ?_<;>refine qf ⟨⟨by (first|exact True.intro),rfl⟩,?_⟩));refine qp ?_;(first|((refine sB S rfl rfl ?_;have S0:=S;clear S;intro h S);refine qf ⟨⟨True.intro,?_⟩,?_⟩;(focus ((show keepsX _ _ _ _ _;simp only [keepsX];(repeat' (first|exact True.intro|refine And.intro ?_ ?_));all_goals (intro hw;first|exact absurd hw (by decide +kernel)))));clear S0));refine QL ?_);all_goals (repeat' (first|refine qg ?_|(refine qc 18 ?_;refine qK ?_)))
    refine qC ⟨_,rfl,?_⟩;rw [kz hk hk2 hk3 hk4,xG (t:=jW a b k) p1];replace S:Hs h0 h (.sl vt'.val 111 3 zh (r.ts.take j ++ jW a b k :: r.ts.drop j) :: .blk p [vg.val,vt'.val,.map (some m)] 86 :: _):=S;exact ⟨rfl,S.bk vg vt' m mp gs q1 q2⟩
  ·have hk3:tied r.ts a b:=(p1.tied hs).2 (p2.1 rfl);all_goals (repeat' (first|refine qg ?_|refine qh rfl ?_|(refine qc 13 ?_;refine qK ?_)|(refine qc 14 ?_;refine qK ?_)))
   refine qC ⟨_,rfl,?_⟩;rw [ku hk hk2 hk3];exact ⟨rfl,S.bk vg vt m mp gs q1 q2⟩
end Go.Proofs.Xx
namespace Go.Proofs.Xx
open Go Go.Proofs
structure RlV where
 vg:SlV
 vt:SlV
 gs:List Qi
def RlV.val (v:RlV):Value:=.agg #[v.vg.val,v.vt.val]
structure RlOk (h:AH) (v:RlV) (r:Rl):Prop where
 rg:Qh h v.vg.val 9 eG v.gs
 rt:Qh h v.vt.val 3 zh r.ts
 tg:∀ i,i<v.gs.length→Qh h (v.gs.getD i default).tv.val 1 eS (v.gs.getD i default).tg∧(v.gs.getD i default).tg.length≤9223372036854775807
 us:v.gs.map (·.toGu)=r.us
 lg:r.us.length≤9223372036854775807
 lt:r.ts.length≤9223372036854775807
theorem RlOk.ext {h h':AH} {v:RlV} {r:Rl} (a:RlOk h v r) (w:WfH h) (x:Ext h h'):RlOk h' v r:=⟨a.rg.ext w x,a.rt.ext w x,fun i hi=>⟨(a.tg i hi).1.ext w x,(a.tg i hi).2⟩,a.us,a.lg,a.lt⟩
theorem RlOk.len {h:AH} {v:RlV} {r:Rl} (a:RlOk h v r):v.gs.length=r.us.length:=by rw [← a.us];simp
theorem zf {α β:Type} [Inhabited α] [Inhabited β] {f:α→β} {l:List α} {i:Nat} (hi:i<l.length):(l.map f).getD i default=f (l.getD i default):=by
 rw [zA2,zA2,zI1,zA4 hi];rfl
theorem RlOk.at_ {h:AH} {v:RlV} {r:Rl} (a:RlOk h v r) {i:Nat} (hi:i<v.gs.length):(v.gs.getD i default).toGu=r.us.getD i default:=by rw [← a.us,zf hi]
noncomputable def gE0 (us:List Gu) (i:Nat):Int:=(ZP ⟨us.take i,[]⟩ (us.getD i default)).2
open Classical in
noncomputable def tE0 (r:Rl) (i:Nat):Int :=
 if zG (r.ts.getD i default).a (r.ts.getD i default).b∧(i=0∨¬ zW (r.ts.getD i default) (r.ts.getD (i - 1) default)) then (ZH ⟨r.us,r.ts.take i⟩ (r.ts.getD i default).a (r.ts.getD i default).b (r.ts.getD i default).k).2 else 23
def VRl (r:Rl):Prop:=(∀ i,i<r.us.length→gE0 r.us i=0)∧∀ i,i<r.ts.length→tE0 r i=0
def Bad (r:Rl) (i e:Int):Prop:=e≠0∧((∃ j:Nat,j<r.us.length∧(∀ k,k<j→gE0 r.us k=0)∧gE0 r.us j=e∧i=j)∨((∀ k,k<r.us.length→gE0 r.us k=0)∧∃ j:Nat,j<r.ts.length∧(∀ k,k<j→tE0 r k=0)∧tE0 r j=e∧i=r.us.length+j))
theorem yt {p:Nat→Int} {j k:Nat} (h1:∀ i,i<j→p i=0) (h2:p j≠0) (h3:∀ i,i<k→p i=0) (h4:p k≠0):j=k:=by
 rcases zE7 j k with q|q|q
 ·exact absurd (h3 j q) h2
 ·exact q
 ·exact absurd (h1 k q) h4
theorem Bad.uniq {r:Rl} {i e i' e':Int} (a:Bad r i e) (b:Bad r i' e'):i=i'∧e=e':=by
 obtain ⟨h1,a⟩:=a;obtain ⟨h2,b⟩:=b;rcases a with ⟨j,a1,a2,a3,a4⟩|⟨a0,j,a1,a2,a3,a4⟩<;>rcases b with ⟨k,b1,b2,b3,b4⟩|⟨b0,k,b1,b2,b3,b4⟩
 ·obtain rfl:=yt a2 (a3 ▸ h1) b2 (b3 ▸ h2);exact ⟨a4.trans b4.symm,a3.symm.trans b3⟩
 ·exact absurd (b0 j a1) (a3 ▸ h1)
 ·exact absurd (a0 k b1) (b3 ▸ h2)
 ·obtain rfl:=yt a2 (a3 ▸ h1) b2 (b3 ▸ h2);exact ⟨a4.trans b4.symm,a3.symm.trans b3⟩
theorem Bad.not {r:Rl} {i e:Int} (a:Bad r i e):¬ VRl r:=fun v=>by
 obtain ⟨h1,⟨j,a1,a2,a3,a4⟩|⟨a0,j,a1,a2,a3,a4⟩⟩:=a
 ·exact h1 (a3 ▸ v.1 j a1)
 ·exact h1 (a3 ▸ v.2 j a1)
theorem qbb {r:Rl} {g:Gu} (h:(ZP r g).2=0):Zj g=0∧gat r.us g.name=none∧r.us.length<64∧(ZP r g).1=⟨r.us ++ [g],r.ts⟩:=by
 by_cases h1:Zj g=0
 ·by_cases h2:gat r.us g.name=none
  ·by_cases h3:64≤r.us.length
   ·rw [PS h1 h2 h3] at h;cases h
   ·rw [PU h1 h2 h3];exact ⟨h1,h2,by omega,rfl⟩
  ·rw [PT h1 h2] at h;cases h
 ·rw [PR h1] at h;exact absurd h h1
theorem qaF {r:Rl} {a b:List UInt8} {k:Int} (h:(ZH r a b k).2=0):(k=1∨k=2)∧a≠b∧gat r.us a≠none∧gat r.us b≠none∧¬ tied r.ts a b∧r.ts.length<256∧(ZH r a b k).1=⟨r.us,kL r.ts (jW a b k)⟩:=by
 by_cases h1:(k≠1∧k≠2)∨a=b
 ·rw [kw h1] at h;cases h
 ·by_cases h2:gat r.us a=none∨gat r.us b=none
  ·rw [W9 h1 h2] at h;cases h
  ·by_cases h3:tied r.ts a b
   ·rw [ku h1 h2 h3] at h;cases h
   ·by_cases h4:256≤r.ts.length
    ·rw [wZ h1 h2 h3 h4] at h;cases h
    ·rw [kz h1 h2 h3 h4];exact ⟨by omega,fun q=>h1 (.inr q),fun q=>h2 (.inl q),fun q=>h2 (.inr q),h3,by omega,rfl⟩
theorem qQ {α:Type} [Inhabited α] {l:List α} {i:Nat} (hi:i<l.length):l.take (i+1)=l.take i ++ [l.getD i default]:=by
 rw [List.take_add_one,zA2,zA4 hi];rfl
theorem getD_take {α:Type} [Inhabited α] {l:List α} {i j:Nat} (h:j<i):(l.take i).getD j default=l.getD j default:=by
 rw [zA2,zA2,zC7,if_pos h]
theorem TS.mk_ {ts:List Ti} (h:∀ i j,i<j→j<ts.length→zW (ts.getD i default) (ts.getD j default)):TS ts:=by
 rw [TS,zD2];intro i j hi hj hij;have:=h i j hij hj;rw [zA2,zA2,zA4 hj,zA4 hi] at this;exact this
theorem TS.app {ts:List Ti} {t:Ti} (h:TS ts) (h2:∀ j,j<ts.length→zW (ts.getD j default) t):TS (ts ++ [t]):=TS.mk_ fun i j hij hj=>by
 simp at hj;rw [Ym (show i<ts.length by omega)];rcases zA7 j ts.length with q|q
 ·rw [Ym q];exact h.lt hij q
 ·obtain rfl:j=ts.length:=by omega
  rw [KF (zA3 _),zG7];exact h2 i (by omega)
theorem Z7 {a b:List UInt8} (h:zG a b):jY a b=a:=by unfold jY;rw [if_neg (zZ h)]
theorem Z8 {a b:List UInt8} (h:zG a b):jZ a b=b:=by unfold jZ;rw [if_pos h]
variable [Flag]
end Go.Proofs.Xx
namespace Go.Proofs.Xx
open Go Go.Proofs
theorem Zi {us:List Gu} {n:List UInt8}:gat us n=none↔∀ g∈us,g.name≠n:=by
 induction us with
 | nil=>simp [gat]
 | cons x r ih =>
  simp only [gat];by_cases h:x.name=n
  ·simp [h]
  ·simp only [if_neg h,Option.map_eq_none_iff,ih,zE8];constructor
   ·rintro q g (rfl|hg)
    ·exact h
    ·exact q g hg
   ·exact fun q g hg=>q g (.inr hg)
theorem jo {us:List Gu} {n:List UInt8} {i:Nat} (h:gat us n=some i):i<us.length∧(us.getD i default).name=n∧∀ j,j<i→(us.getD j default).name≠n:=by
 induction us generalizing i with
 | nil=>cases h
 | cons x r ih =>
  simp only [gat] at h;by_cases hx:x.name=n
  ·rw [if_pos hx] at h;cases h
   exact ⟨by simp,hx,fun j hj=>absurd hj (zB7 _)⟩
  ·rw [if_neg hx] at h;cases hr:gat r n with
   | none=>rw [hr] at h;cases h
   | some k =>
    rw [hr] at h;cases h
    obtain ⟨h1,h2,h3⟩:=ih hr;refine ⟨by simp;omega,h2,fun j hj=>?_⟩;cases j with
    | zero=>exact hx
    | succ j=>exact h3 j (by simp only at hj;omega)
theorem Je {us:List Gu} {n:List UInt8}:gat us n≠none↔∃ g∈us,g.name=n:=by
 rw [Ne,Zi];constructor
 ·intro h;apply zG9
  intro q;exact h fun g hg e=>q ⟨g,hg,e⟩
 ·rintro ⟨g,hg,e⟩ q;exact q g hg e
theorem qM {α:Type} [Inhabited α] {l:List α} {i:Nat} (h:i<l.length):l.getD i default∈l:=by
 rw [zA2,zA4 h];exact List.getElem_mem h
theorem qL {α:Type} [Inhabited α] {l:List α} {x:α}:x∈l↔∃ i,i<l.length∧l.getD i default=x:=by
 constructor
 ·intro h;obtain ⟨i,hi,rfl⟩:=List.mem_iff_getElem.1 h;exact ⟨i,hi,by rw [zA2,zA4 hi];rfl⟩
 ·rintro ⟨i,hi,rfl⟩;exact qM hi
structure RO (r:Rl):Prop where
 chk:∀ g∈r.us,Zj g=0
 nd:∀ i j,i<j→j<r.us.length→(r.us.getD i default).name≠(r.us.getD j default).name
 l64:r.us.length≤64
 ts:TS r.ts
 tt:∀ t∈r.ts,zG t.a t.b∧(t.k=1∨t.k=2)∧gat r.us t.a≠none∧gat r.us t.b≠none
 l256:r.ts.length≤256
theorem RO.gat {r:Rl} (h:RO r) {i:Nat} (hi:i<r.us.length):gat r.us (r.us.getD i default).name=some i:=by
 cases hq:Xx.gat r.us (r.us.getD i default).name with
 | none=>exact absurd rfl (Zi.1 hq _ (qM hi))
 | some j =>
  obtain ⟨h1,h2,h3⟩:=jo hq;rcases zE7 i j with q|q|q
  ·exact absurd rfl (h3 i q)
  ·rw [q]
  ·exact absurd h2 (h.nd j i q hi)
def num (j:Nat):List UInt8:=[UInt8.ofNat (97+j / 26 % 26),UInt8.ofNat (97+j % 26)]
theorem qe2 {a b:Nat} (ha:a<256) (hb:b<256):UInt8.ofNat a<UInt8.ofNat b↔a<b:=by
 rw [UInt8.lt_iff_toNat_lt];simp [UInt8.toNat_ofNat,Nat.mod_eq_of_lt ha,Nat.mod_eq_of_lt hb]
theorem qf2 {a b:Nat} (ha:a<256) (hb:b<256):UInt8.ofNat a=UInt8.ofNat b↔a=b:=by
 constructor
 ·intro h;have:=congrArg UInt8.toNat h;simpa [UInt8.toNat_ofNat,Nat.mod_eq_of_lt ha,Nat.mod_eq_of_lt hb] using this
 ·rintro rfl;rfl
theorem xQ {i j:Nat} (hi:i<676) (hj:j<676):zG (num i) (num j)↔i<j:=by
 unfold num;rw [Jk,Jk,qe2 (by omega) (by omega),qf2 (by omega) (by omega),qe2 (by omega) (by omega)];constructor
 ·rintro (h|⟨h1,h2|⟨h2,h3⟩⟩)
  ·omega
  ·omega
  ·exact absurd h3 (zA _)
 ·intro h;rcases zA7 (i / 26) (j / 26) with q|q
  ·exact .inl (by omega)
  ·exact .inr ⟨by omega,.inl (by omega)⟩
variable [Flag]
end Go.Proofs.Xx
