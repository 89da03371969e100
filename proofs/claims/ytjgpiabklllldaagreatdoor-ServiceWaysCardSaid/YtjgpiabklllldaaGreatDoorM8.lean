/-
  Guests;the check of a guest,the program's and the reference's.
-/
import Derived.Test.YtjgpiabklllldaaGreatDoorM7
import Derived.Test.YtjgpiabklllldaaGreatDoorM6
set_option linter.unusedSectionVars false
set_option linter.unusedSimpArgs false
set_option linter.unusedVariables false
set_option maxRecDepth 100000
namespace Go.Proofs.Xx
open Go Go.Proofs
structure Gu where
 name:List UInt8
 rank:List UInt8
 court:List UInt8
 since:Int
 side:Int
 diet:List UInt8
 host:Bool
 access:Bool
 tg:List (List UInt8)
instance:Inhabited Gu:=⟨⟨[],[],[],0,0,[],false,false,[]⟩⟩
structure Zh extends Gu where
 tv:SlV
instance:Inhabited Zh:=⟨⟨default,⟨none,0,0⟩⟩⟩
def gV (g:Zh):Value:=.agg #[str g.name,str g.rank,str g.court,.int .i64 g.since,.int .i64 g.side,str g.diet,.bool g.host,.bool g.access,g.tv.val]
def eG (g:Zh):List Value:=[str g.name,str g.rank,str g.court,.int .i64 g.since,.int .i64 g.side,str g.diet,.bool g.host,.bool g.access,g.tv.val]
def qeH (h:AH) (g:Zh):Prop:=qY h g.tv.val 1 eS g.tg∧g.tg.length≤9223372036854775807
def qdw (l:List (List UInt8)):Prop:=∀ i,i<l.length→Ql (l.getD i default)∧(0<i→jV (l.getD (i - 1) default) (l.getD i default))
def J6 (g:Gu):Prop:=Ql g.name∧X9 g.rank∧X9 g.court∧X9 g.diet
open Classical in
noncomputable def Qv (g:Gu):Int :=
 if ¬ J6 g then 4
 else if ¬ (0≤g.since∧g.since≤9999) then 21
 else if ¬ (0≤g.side∧g.side≤2) then 20
 else if ¬ (g.tg.length≤4∧qdw g.tg) then 22
 else 0
theorem qcb {g:Gu} (h:¬ J6 g):Qv g=4:=by unfold Qv;rw [if_pos h]
theorem PN {g:Gu} (h:J6 g) (h2:¬ (0≤g.since∧g.since≤9999)):Qv g=21:=by unfold Qv;rw [if_neg (by simpa using h),if_pos h2]
theorem PP {g:Gu} (h:J6 g) (h2:0≤g.since∧g.since≤9999) (h3:¬ (0≤g.side∧g.side≤2)):Qv g=20:=by
 unfold Qv;rw [if_neg (by simpa using h),if_neg (by simpa using h2),if_pos h3]
theorem Xk {g:Gu} (h:J6 g) (h2:0≤g.since∧g.since≤9999) (h3:0≤g.side∧g.side≤2) (h4:¬ (g.tg.length≤4∧qdw g.tg)):Qv g=22:=by
 unfold Qv;rw [if_neg (by simpa using h),if_neg (by simpa using h2),if_neg (by simpa using h3),if_pos h4]
theorem qcc {g:Gu} (h:J6 g) (h2:0≤g.since∧g.since≤9999) (h3:0≤g.side∧g.side≤2) (h4:g.tg.length≤4∧qdw g.tg):Qv g=0:=by
 unfold Qv;rw [if_neg (by simpa using h),if_neg (by simpa using h2),if_neg (by simpa using h3),if_neg (by simpa using h4)]
variable [Flag]
theorem qce {h0:AH} (w:WfH h0) (g:Zh) (r:qeH h0 g):Fn Tryz.prog Xh 280 [gV g] h0 (fun v h'=>v = .int .i64 (Qv g.toGu)∧Hs h0 h' []):=by
 have S:=Hs.start w;have hr:qY h0 g.tv.val 1 eS g.tg:=r.1;have hbig:=r.2;unfold gV;refine qJ (by first|rfl) Tryz.func280 rfl rfl ?_;all_goals (repeat' (first|refine qg ?_|refine qo ?_|(refine qc 0 ?_;(refine bx S ?_;clear S;intro b h S);refine mv ?_;refine qf ?_)))
 all_goals (repeat' (first|(refine qc 1 ?_;refine vl ?_;refine lB S rfl rfl ?_)))
 (refine qx rfl rfl rfl rfl rfl ((wz g.name).mono ?_);rintro _ _ ⟨⟨rfl,q1⟩|⟨rfl,q1⟩,rfl⟩)<;>(refine vl ?_;refine mv ?_;(first|refine off ?_|(refine vl ?_));(first|refine off ?_|(refine lB S rfl rfl ?_));(first|(refine off ?_;refine off ?_;refine vl ?_;refine mv ?_;refine off ?_;refine off ?_;(first|(refine off ?_;refine off ?_;refine vl ?_;refine mv ?_;refine off ?_;refine off ?_;(first|(refine off ?_;refine off ?_;refine vl ?_;refine mv ?_;refine qf ?_)))))|skip))
 any_goals ((refine qx rfl rfl rfl rfl rfl ((vT g.rank).mono ?_);rintro _ _ ⟨⟨rfl,q2⟩|⟨rfl,q2⟩,rfl⟩)<;>((refine vl ?_);refine vl ?_;refine mv ?_;(first|refine off ?_|(refine vl ?_));(first|refine off ?_|(refine lB S rfl rfl ?_));(first|(refine off ?_;refine off ?_;refine vl ?_;refine mv ?_;refine off ?_;refine off ?_;(first|(refine off ?_;refine off ?_;refine vl ?_;refine mv ?_;refine qf ?_)))|skip)))
 any_goals ((refine qx rfl rfl rfl rfl rfl ((vT g.court).mono ?_);rintro _ _ ⟨⟨rfl,q3⟩|⟨rfl,q3⟩,rfl⟩)<;>((refine vl ?_);refine vl ?_;refine mv ?_;(first|refine off ?_|(refine vl ?_));(first|refine off ?_|(refine lB S rfl rfl ?_));(first|(refine off ?_;refine off ?_;refine vl ?_;refine mv ?_;refine qf ?_)|skip)))
 any_goals ((refine qx rfl rfl rfl rfl rfl ((vT g.diet).mono ?_);rintro _ _ ⟨⟨rfl,q4⟩|⟨rfl,q4⟩,rfl⟩)<;>((refine vl ?_);refine vl ?_;refine mv ?_;refine qf ?_))
 all_goals (repeat' (first|refine qg ?_|refine qh rfl ?_|refine qi ?_|refine qo ?_|(refine qc 2 ?_;refine mv ?_;refine qf ?_)|(refine qc 3 ?_;refine vl ?_;refine lB S rfl rfl ?_;(first|(refine cS ?_ ?_<;>intro hc))<;>(refine mv ?_;(first|refine off ?_|(refine vl ?_));(first|refine off ?_|(refine lB S rfl rfl ?_));(first|refine off ?_|(first|(refine cS ?_ ?_<;>intro hc)))<;>(refine vl ?_;refine mv ?_;refine qf ?_)))|(refine qc 4 ?_;refine mv ?_;refine qf ?_)|(refine qc 5 ?_;refine vl ?_;refine lB S rfl rfl ?_;(first|(refine cS ?_ ?_<;>intro hc))<;>(refine mv ?_;(first|refine off ?_|(refine vl ?_));(first|refine off ?_|(refine lB S rfl rfl ?_));(first|refine off ?_|(first|(refine cS ?_ ?_<;>intro hc)))<;>(refine vl ?_;refine mv ?_;refine qf ?_)))|(refine qc 6 ?_;refine mv ?_;refine qf ?_)|(refine qc 7 ?_;refine vl ?_;refine lB S rfl rfl ?_;refine zC S ?_;(first|(refine cS ?_ ?_<;>intro hc))<;>(refine mv ?_;refine qf ?_))|(refine qc 8 ?_;refine mv ?_;refine qf ?_)|(refine qc 9 ?_;refine vl ?_;refine lB S rfl rfl ?_;refine zC S ?_;refine mv ?_;refine qf ?_)))
 any_goals
  refine qj ⟨_,rfl,?_⟩;refine ⟨?_,S.drop⟩;first
   | (rw [qcb (fun q=>by unfold J6 at q;grind)];rfl)
   | (rw [PN ⟨q1,q2,q3,q4⟩ (by omega)];rfl)
   | (rw [PP ⟨q1,q2,q3,q4⟩ (by omega) (by omega)];rfl)
   | (rw [Xk ⟨q1,q2,q3,q4⟩ (by omega) (by omega) (fun q=>by have:=q.1;omega)];rfl)
 have h1:0≤g.since∧g.since≤9999:=by omega
 have h2:0≤g.side∧g.side≤2:=by omega
 have h3:g.tg.length≤4:=by omega
 refine qH (σ:=Nat) (fun i h'=>Hs h0 h' [.blk b (eG g) 98]∧i≤g.tg.length∧∀ j,j<i→Ql (g.tg.getD j default)∧(0<j→jV (g.tg.getD (j - 1) default) (g.tg.getD j default))) (fun i=>g.tg.length - i) (fun i=>[(1,.pointer (some ⟨b,0,none⟩)),(52,g.tv.val),(53,.int .i64 g.tg.length),(54,.int .i64 i)]) 0 qy ?_ ?_
 ·exact ⟨S,zB0 _,fun j hj=>absurd hj (zB7 _)⟩
 clear S;rintro i h ⟨S,g1,g2⟩;all_goals (repeat' (first|refine qg ?_|refine qh rfl ?_|refine qi ?_|refine qB ?_|refine qo ?_|(refine qc 10 ?_;(first|(refine cS ?_ ?_<;>intro hc))<;>(refine qf ?_))|(refine qc 11 ?_;refine mv ?_;refine zW S ?_;refine zV S ?_;refine mv ?_;refine mv ?_;refine qf ?_)|(refine qc 12 ?_;refine mv ?_)|(refine qc 15 ?_;refine mv ?_;refine qf ?_)))
 ·(try simp only [zA0] at *)
  (refine qx rfl rfl rfl rfl rfl ((wz _).mono ?_);rintro _ _ ⟨⟨rfl,q5⟩|⟨rfl,q5⟩,rfl⟩)<;>(refine vl ?_;refine mv ?_;(first|refine off ?_|refine mv ?_);(first|refine off ?_|(first|(refine cS ?_ ?_<;>intro hc)))<;>((first|refine off ?_|refine mv ?_);(first|refine off ?_|(refine vl ?_));(first|refine off ?_|(refine lB S rfl rfl ?_));(first|refine off ?_|refine mv ?_);(first|refine off ?_|(refine sb ?_));(first|refine off ?_|(refine zW S ?_));(first|refine off ?_|(refine zV S ?_));(first|refine off ?_|refine mv ?_);(first|refine off ?_|(refine tO ?_ ?_<;>intro hc))<;>((first|refine off ?_|refine vl ?_);refine vl ?_;refine qf ?_)))
  all_goals (all_goals (repeat' (first|refine qg ?_|refine qh rfl ?_|refine qi ?_|(refine qc 13 ?_;refine mv ?_;refine qf ?_)|(refine qc 14 ?_;refine ad ?_;refine mv ?_;refine qf ?_))))
  ·refine qj ⟨_,rfl,?_⟩;rw [show ((i:Int) - 1).toNat=i - 1 by omega] at hc;exact ⟨by rw [Xk ⟨q1,q2,q3,q4⟩ h1 h2 (fun q=>hc ((q.2 i (by omega)).2 (by omega)))];rfl,S.drop⟩
  ·rw [show ((i:Int) - 1).toNat=i - 1 by omega] at hc;refine ⟨i+1,?_,?_,qy⟩
   ·show g.tg.length - (i+1)<g.tg.length - i;omega
   ·exact ⟨S,by omega,jy g2 ⟨q5,fun _=>zF3.1 hc⟩⟩
  ·refine ⟨i+1,?_,?_,qy⟩
   ·show g.tg.length - (i+1)<g.tg.length - i;omega
   ·exact ⟨S,by omega,jy g2 ⟨q5,fun q=>by omega⟩⟩
  ·refine qj ⟨_,rfl,?_⟩;exact ⟨by rw [Xk ⟨q1,q2,q3,q4⟩ h1 h2 (fun q=>q5 (q.2 i (by omega)).1)];rfl,S.drop⟩
 ·refine qj ⟨_,rfl,?_⟩;exact ⟨by rw [qcc ⟨q1,q2,q3,q4⟩ h1 h2 ⟨h3,fun j hj=>g2 j (by omega)⟩];rfl,S.drop⟩
theorem gG {h0:AH} (w:WfH h0) (g:Zh) (r:qeH h0 g):Fn Tryz.prog Xh 148 [gV g] h0 (fun v h'=>v = .int .i64 (Qv g.toGu)∧Hs h0 h' []):=by
 have S:=Hs.start w;have hr:qY h0 g.tv.val 1 eS g.tg:=r.1;have hbig:=r.2;unfold gV;refine qJ (by first|rfl) Tryz.func148 rfl rfl ?_;all_goals (repeat' (first|refine qg ?_|(refine qc 0 ?_;(refine bx S ?_;clear S;intro b h S);refine mv ?_;refine qf ?_)))
 (repeat (refine qg ?_));first|refine zB (σ:=Unit) (fun _ h'=>J6 g.toGu∧Hs h0 h' [.blk b (eG g) 98]) (fun _=>[(1,.pointer (some ⟨b,0,none⟩))]) ?_ ?_
 ·all_goals (repeat' (first|(refine qc 1 ?_;refine vl ?_;refine lB S rfl rfl ?_)))
  (refine qx rfl rfl rfl rfl rfl ((Qz g.name).mono ?_);rintro _ _ ⟨⟨rfl,q1⟩|⟨rfl,q1⟩,rfl⟩)<;>(refine vl ?_;refine mv ?_;(first|refine off ?_|(refine vl ?_));(first|refine off ?_|(refine lB S rfl rfl ?_));(first|refine off ?_|(refine tS ?_ ?_<;>intro hc))<;>((first|refine off ?_|refine mv ?_);(first|refine off ?_|(refine vl ?_));(first|refine off ?_|(refine lB S rfl rfl ?_));(first|(refine off ?_;refine off ?_;(first|refine off ?_|refine vl ?_);refine vl ?_;refine mv ?_;(first|refine off ?_|(refine vl ?_));(first|refine off ?_|(refine lB S rfl rfl ?_));(first|refine off ?_|(refine tS ?_ ?_<;>intro hc))<;>((first|refine off ?_|refine mv ?_);(first|refine off ?_|(refine vl ?_));(first|refine off ?_|(refine lB S rfl rfl ?_));(first|(refine off ?_;refine off ?_;(first|refine off ?_|refine vl ?_);refine vl ?_;refine mv ?_;(first|refine off ?_|(refine vl ?_));(first|refine off ?_|(refine lB S rfl rfl ?_));(first|refine off ?_|(refine tS ?_ ?_<;>intro hc))<;>((first|refine off ?_|refine mv ?_);(first|refine off ?_|(refine vl ?_));(first|refine off ?_|(refine lB S rfl rfl ?_));(first|(refine off ?_;refine off ?_;(first|refine off ?_|refine vl ?_);refine vl ?_;refine qf ?_)|skip)))|skip)))|skip)))
  any_goals ((refine qx rfl rfl rfl rfl rfl ((Qz g.rank).mono ?_);rintro _ _ ⟨⟨rfl,q2⟩|⟨rfl,q2⟩,rfl⟩)<;>((refine vl ?_);refine vl ?_;refine vl ?_;refine mv ?_;(first|refine off ?_|(refine vl ?_));(first|refine off ?_|(refine lB S rfl rfl ?_));(first|refine off ?_|(refine tS ?_ ?_<;>intro hc))<;>((first|refine off ?_|refine mv ?_);(first|refine off ?_|(refine vl ?_));(first|refine off ?_|(refine lB S rfl rfl ?_));(first|(refine off ?_;refine off ?_;(first|refine off ?_|refine vl ?_);refine vl ?_;refine mv ?_;(first|refine off ?_|(refine vl ?_));(first|refine off ?_|(refine lB S rfl rfl ?_));(first|refine off ?_|(refine tS ?_ ?_<;>intro hc))<;>((first|refine off ?_|refine mv ?_);(first|refine off ?_|(refine vl ?_));(first|refine off ?_|(refine lB S rfl rfl ?_));(first|(refine off ?_;refine off ?_;(first|refine off ?_|refine vl ?_);refine vl ?_;refine qf ?_)|skip)))|skip))))
  any_goals ((refine qx rfl rfl rfl rfl rfl ((Qz g.court).mono ?_);rintro _ _ ⟨⟨rfl,q3⟩|⟨rfl,q3⟩,rfl⟩)<;>((refine vl ?_);refine vl ?_;refine vl ?_;refine mv ?_;(first|refine off ?_|(refine vl ?_));(first|refine off ?_|(refine lB S rfl rfl ?_));(first|refine off ?_|(refine tS ?_ ?_<;>intro hc))<;>((first|refine off ?_|refine mv ?_);(first|refine off ?_|(refine vl ?_));(first|refine off ?_|(refine lB S rfl rfl ?_));(first|(refine off ?_;refine off ?_;(first|refine off ?_|refine vl ?_);refine vl ?_;refine qf ?_)|skip))))
  any_goals ((refine qx rfl rfl rfl rfl rfl ((Qz g.diet).mono ?_);rintro _ _ ⟨⟨rfl,q4⟩|⟨rfl,q4⟩,rfl⟩)<;>((refine vl ?_);refine vl ?_;refine vl ?_;refine qf ?_))
  all_goals (all_goals (repeat' (first|refine qg ?_|refine qh rfl ?_|refine qi ?_|(refine qc 2 ?_;refine mv ?_;refine qf ?_))))
  any_goals
   refine qj ⟨_,rfl,?_⟩;refine ⟨?_,S.drop⟩;rw [qcb (fun q=>by unfold J6 X9 at q;grind)];rfl
  all_goals exact ⟨(),⟨by unfold J6 X9;grind,S⟩,(qy)⟩
 clear S;rintro - h ⟨hN,S⟩;all_goals (repeat' (first|refine qg ?_|refine qh rfl ?_|refine qi ?_|(refine qc 3 ?_;refine vl ?_;refine lB S rfl rfl ?_;(first|(refine cS ?_ ?_<;>intro hc))<;>(refine mv ?_;(first|refine off ?_|(refine vl ?_));(first|refine off ?_|(refine lB S rfl rfl ?_));(first|refine off ?_|(first|(refine cS ?_ ?_<;>intro hc)))<;>(refine vl ?_;refine qf ?_)))|(refine qc 4 ?_;refine mv ?_;refine qf ?_)))
 any_goals
  refine qj ⟨_,rfl,?_⟩;refine ⟨?_,S.drop⟩;rw [PN hN (by omega)];rfl
 have h1:0≤g.since∧g.since≤9999:=by omega
 (repeat (refine qg ?_));first|refine zB (σ:=Unit) (fun _ h'=>(0≤g.side∧g.side≤2)∧Hs h0 h' [.blk b (eG g) 98]) (fun _=>[(1,.pointer (some ⟨b,0,none⟩))]) ?_ ?_
 ·all_goals (repeat' (first|refine qg ?_|refine qh rfl ?_|refine qi ?_|(refine qc 5 ?_;refine vl ?_;refine lB S rfl rfl ?_;(first|(refine cS ?_ ?_<;>intro hc))<;>(refine mv ?_;(first|refine off ?_|(refine vl ?_));(first|refine off ?_|(refine lB S rfl rfl ?_));(first|refine off ?_|(first|(refine cS ?_ ?_<;>intro hc)))<;>(refine vl ?_;refine mv ?_;(first|refine off ?_|(refine vl ?_));(first|refine off ?_|(refine lB S rfl rfl ?_));(first|refine off ?_|(first|(refine cS ?_ ?_<;>intro hc)))<;>(refine vl ?_;refine qf ?_))))|(refine qc 6 ?_;refine mv ?_;refine qf ?_)))
  any_goals
   refine qj ⟨_,rfl,?_⟩;refine ⟨?_,S.drop⟩;rw [PP hN h1 (by omega)];rfl
  all_goals exact ⟨(),⟨by omega,S⟩,(qy)⟩
 clear S;rintro - h ⟨h2,S⟩;all_goals (repeat' (first|refine qg ?_|refine qh rfl ?_|refine qi ?_|refine qo ?_|(refine qc 7 ?_;refine vl ?_;refine lB S rfl rfl ?_;refine zC S ?_;(first|(refine cS ?_ ?_<;>intro hc))<;>(refine qf ?_))|(refine qc 8 ?_;refine mv ?_;refine qf ?_)|(refine qc 9 ?_;refine mv ?_;refine qf ?_)))
 ·refine qj ⟨_,rfl,?_⟩;refine ⟨?_,S.drop⟩;rw [Xk hN h1 h2 (fun q=>by have:=q.1;omega)];rfl
 have h3:g.tg.length≤4:=by omega
 refine qH (σ:=Nat) (fun i h'=>Hs h0 h' [.blk b (eG g) 98]∧i≤g.tg.length∧∀ j,j<i→Ql (g.tg.getD j default)∧(0<j→jV (g.tg.getD (j - 1) default) (g.tg.getD j default))) (fun i=>g.tg.length - i) (fun i=>[(1,.pointer (some ⟨b,0,none⟩)),(3,.int .i64 i)]) 0 qy ?_ ?_
 ·exact ⟨S,zB0 _,fun j hj=>absurd hj (zB7 _)⟩
 clear S;rintro i h ⟨S,g1,g2⟩;all_goals (repeat' (first|refine qg ?_|refine qh rfl ?_|refine qi ?_|refine qB ?_|refine qo ?_|(refine qc 10 ?_;refine mv ?_;refine vl ?_;refine lB S rfl rfl ?_;refine zC S ?_;(first|(refine cS ?_ ?_<;>intro hc))<;>(refine qf ?_))|(refine zx 12 ?_;refine vl ?_;refine lB S rfl rfl ?_;refine mv ?_;refine zW S ?_;refine zV S ?_)|(refine qc 14 ?_;refine mv ?_;refine qf ?_)))
 ·(try simp only [zA0] at *)
  (refine qx rfl rfl rfl rfl rfl ((Qz _).mono ?_);rintro _ _ ⟨⟨rfl,q5⟩|⟨rfl,q5⟩,rfl⟩)<;>(refine vl ?_;refine mv ?_;(first|refine off ?_|refine mv ?_);(first|refine off ?_|(first|(refine cS ?_ ?_<;>intro hc)))<;>((first|refine off ?_|refine mv ?_);(first|refine off ?_|(refine vl ?_));(first|refine off ?_|(refine lB S rfl rfl ?_));(first|refine off ?_|refine mv ?_);(first|refine off ?_|(refine zW S ?_));(first|refine off ?_|(refine zV S ?_));(first|refine off ?_|(refine vl ?_));(first|refine off ?_|(refine lB S rfl rfl ?_));(first|refine off ?_|refine mv ?_);(first|refine off ?_|(refine sb ?_));(first|refine off ?_|(refine zW S ?_));(first|refine off ?_|(refine zV S ?_));(first|refine off ?_|(refine tO ?_ ?_<;>intro hc))<;>((first|refine off ?_|refine vl ?_);refine vl ?_;refine qf ?_)))
  all_goals (all_goals (repeat' (first|refine qg ?_|refine qh rfl ?_|refine qi ?_|(refine qc 11 ?_;refine mv ?_;refine ad ?_;refine mv ?_;refine qf ?_)|(refine qc 13 ?_;refine mv ?_;refine qf ?_))))
  ·refine qj ⟨_,rfl,?_⟩;rw [show ((i:Int) - 1).toNat=i - 1 by omega] at hc;exact ⟨by rw [Xk hN h1 h2 (fun q=>hc ((q.2 i (by omega)).2 (by omega)))];rfl,S.drop⟩
  ·rw [show ((i:Int) - 1).toNat=i - 1 by omega] at hc;refine ⟨i+1,?_,?_,qy⟩
   ·show g.tg.length - (i+1)<g.tg.length - i;omega
   ·exact ⟨S,by omega,jy g2 ⟨q5,fun _=>zF3.1 hc⟩⟩
  ·refine ⟨i+1,?_,?_,qy⟩
   ·show g.tg.length - (i+1)<g.tg.length - i;omega
   ·exact ⟨S,by omega,jy g2 ⟨q5,fun q=>by omega⟩⟩
  ·refine qj ⟨_,rfl,?_⟩;exact ⟨by rw [Xk hN h1 h2 (fun q=>q5 (q.2 i (by omega)).1)];rfl,S.drop⟩
 ·refine qj ⟨_,rfl,?_⟩;exact ⟨by rw [qcc hN h1 h2 ⟨h3,fun j hj=>g2 j (by omega)⟩];rfl,S.drop⟩
end Go.Proofs.Xx
namespace Go.Proofs.Xx
open Go
def Star (h:AH):List Rs→Fp→Prop
 | [],_=>True
 | r :: rs,U=>∃ fp:Fp,r.ok h fp∧(∀ b,fp b→U b)∧Star h rs (fun b=>U b∧¬ fp b)
theorem Star.mono {h:AH}:∀ {rs:List Rs} {U U':Fp},(∀ b,U b→U' b)→Star h rs U→Star h rs U'
 | [],_,_,_,_=>trivial
 | r :: rs,U,U',hu,⟨fp,h1,h2,h3⟩=>⟨fp,h1,fun b hb=>hu b (h2 b hb),h3.mono fun b hb=>⟨hu b hb.1,hb.2⟩⟩
theorem Star.local {h h':AH}:∀ {rs:List Rs} {U:Fp},Star h rs U→(∀ b,U b→h'.get b=h.get b)→Star h' rs U
 | [],_,_,_=>trivial
 | r :: rs,U,⟨fp,h1,h2,h3⟩,hs=>⟨fp,h1.local fun b hb=>hs b (h2 b hb),h2,h3.local fun b hb=>hs b hb.1⟩
theorem Star.sep {lo:Nat} {h:AH} {rs:List Rs}:∀ {l:List Rs} {U V:Fp},Star h l U→(∀ b,U b→lo≤b∧b<h.next∧V b)→Sep lo h rs (fun b=>V b∧¬ U b)→Sep lo h (l ++ rs) V
 | [],U,V,_,_,k=>k.mono fun b hb=>hb.1
 | r :: l,U,V,⟨fp,h1,h2,h3⟩,hu,k=>⟨fp,h1,fun b hb=>hu b (h2 b hb),h3.sep (fun b hb=>⟨(hu b hb.1).1,(hu b hb.1).2.1,(hu b hb.1).2.2,hb.2⟩) (k.mono fun b hb=>⟨⟨hb.1,fun q=>hb.2 (h2 b q)⟩,fun q=>hb.2 q.1⟩)⟩
theorem Sep.star {lo:Nat} {h:AH} {rs:List Rs}:∀ {l:List Rs} {V:Fp},Sep lo h (l ++ rs) V→∃ U:Fp,Star h l U∧(∀ b,U b→lo≤b∧b<h.next∧V b)∧Sep lo h rs (fun b=>V b∧¬ U b)
 | [],V,k=>⟨fun _=>False,trivial,fun b hb=>hb.elim,k.mono fun b hb=>⟨hb,id⟩⟩
 | r :: l,V,⟨fp,h1,h2,h3⟩=>by
  obtain ⟨U,k1,k2,k3⟩:=h3.star;refine ⟨fun b=>fp b∨U b,⟨fp,h1,fun b hb=>.inl hb,k1.mono fun b hb=>⟨.inr hb,(k2 b hb).2.2.2⟩⟩,fun b hb=>?_,k3.mono fun b hb=>⟨hb.1.1,fun q=>?_⟩⟩
  ·rcases hb with hb|hb
   ·exact h2 b hb
   ·exact ⟨(k2 b hb).1,(k2 b hb).2.1,(k2 b hb).2.2.1⟩
  ·rcases q with q|q
   ·exact hb.1.2 q
   ·exact hb.2 q
abbrev qbu {σ:Type} (φ:σ→Prop) (f:σ→List Rs):Rs:=.any (fun h fp=>∃ s,φ s∧Star h (f s) fp)
theorem Hs.unpack {σ:Type} {φ:σ→Prop} {f:σ→List Rs} {h0 h:AH} {rs:List Rs} (S:Hs h0 h (qbu φ f :: rs)):∃ s,φ s∧Hs h0 h (f s ++ rs):=by
 obtain ⟨fp,k1,k2,k3⟩:=S.sep;obtain ⟨s,hs,hst⟩:=k1 h fun _ _=>rfl;exact ⟨s,hs,S.ext,hst.sep k2 k3⟩
theorem Hs.pack {σ:Type} {φ:σ→Prop} {f:σ→List Rs} {h0 h:AH} {rs:List Rs} (s:σ) (hs:φ s) (S:Hs h0 h (f s ++ rs)):Hs h0 h (qbu φ f :: rs):=by
 obtain ⟨U,k1,k2,k3⟩:=S.sep.star;exact ⟨S.ext,U,fun h' q=>⟨s,hs,k1.local q⟩,k2,k3⟩
section
variable {P:Program} {X:Extern} {sz:Nat} {L:Ks} {h h0:AH} {rs:List Rs} {ops:Array Oper} {os:List Oper} {o:Oper} {R:Ks→AH→Prop}
theorem tk {α:Type} {x hi:Operand} {ty e:TypeId} {v vh:Value} {z:Nat} {enc:α→List Value} {l:List α} {f:Rs→List Rs} {dd:List Rs} {d:Tmp} (b:Nat) (S:Hs h0 h rs) (ho:o.op = .slice ty x none (some hi) none) (hx:kA L x=some v) [i:HasS rs v α e z enc l f dd]
 (w:∀ v',Hs h0 h (f (.sl v' e z enc (l.take b)))→KO P X sz ops os (L.put d v') h R) (hg:qw ops L.tree o.guard=some true:=by exact rfl) (hhi:kA L hi=some vh:=by exact rfl) (hbo:qU (some vh) l.length=some b:=by exact rfl) (hb:b≤l.length:=by first|omega|grind)
 (hz:∀ x,(enc x).length=z:=by intro _;rfl) (hu:Zv P ty=some z:=by exact rfl) (hdst:o.dst=some d:=by exact rfl) (hds:Nat.blt d sz=true:=by exact rfl):KO P X sz ops (o :: os) L h R:=by
 obtain ⟨fp,k1,k2,-⟩:=(i.ut (.sl v e z enc l)).ok (h':=h) S.ext.next (zA3 _) S.sep
 have hue:∃ e',P.underlying ty=some (.slice e')∧zy P e'=some z:=by
  unfold Zv at hu;split at hu
  ·exact ⟨_,by assumption,hu⟩
  ·cases hu
 obtain ⟨e',hu1,hu2⟩:=hue;have hhi':zD L.tree hi=some vh:=qE hhi;have go:∀ v',zu P ty v none (some vh) none h=some v'→(∀ fq,(Rs.sl v e z enc l).ok h fq→(Rs.sl v' e z enc (l.take b)).ok h fq)→KO P X sz ops (o :: os) L h R:=fun v' q1 q2=>by
  refine zh (v:=v') (h':=h) hg ?_ (by simp only [qG,hdst,hds]) (w v' (S.same (i.ut _) q2));rw [ho];simp only [zF,qE hx,zL,hhi',q1,qN,zO]
 have h0b:qU none 0=some 0:=rfl;rcases k1 with ⟨rfl,rfl⟩|⟨bb,o',cc,slk,cap,g1,g2,g3,g4,g5,g6⟩
 ·obtain rfl:b=0:=by simpa using hb
  refine go (.slice none 0 0) ?_ fun fq q=>.inl ⟨rfl,by simp⟩;have:qU (some vh) 0=some 0:=hbo;simp only [zu,hu1,hu2,this,h0b]
 ·subst g1;have t1:Nat.ble 0 b=true:=by simp
  have t2:Nat.ble b cap=true:=zB3 (zD0 hb g5.1);have hlen:(l.take b).length=b:=by simp;omega
  have sub:=jF (i:=0) (m:=b*z) g4 (by rw [zG1];exact zD3 z hb);rw [List.drop_zero,← jP hz,Nat.add_zero] at sub;have key:∀ fq,(Rs.sl (.slice (some ⟨bb,o',none⟩) l.length cap) e z enc l).ok h fq→(Rs.sl (.slice (some ⟨bb,o',none⟩) (b - 0) (cap - 0)) e z enc (l.take b)).ok h fq:=fun fq q=>by
   rcases q with ⟨q1,-⟩|⟨b2,o2,cc2,sl2,cap2,q1,q2,q3,q4,q5,q6⟩
   ·cases q1
   ·cases q1
    exact .inr ⟨bb,o',cc,slk,cap,by rw [hlen,Nat.sub_zero,Nat.sub_zero],g2,q3,by rw [hlen];exact sub,⟨by rw [hlen];exact zD0 hb g5.1,g5.2⟩,g6⟩
  cases hk:(slk.isNone && Nat.beq 0 cap) with
  | false =>
   refine go (.slice (some ⟨bb,o',none⟩) (b - 0) (cap - 0)) ?_ key;simp only [zu,hu1,hu2,g2,h0b,hbo,t1,t2,hk,zF9,Nat.zero_mul,Nat.add_zero]
  | true =>
   refine go (.slice (some ⟨bb,o',none⟩) (b - 0) (cap - 0)) ?_ key;simp only [zu,hu1,hu2,g2,h0b,hbo,t1,t2,hk,zF9]
theorem bsn {ty:TypeId} {n:Nat} {ps:Array (Nat×Operand)} {vs:List (Nat×Value)} {c:List Value} {e:TypeId} {α:Type} {z:Nat} {d:Tmp} (enc:α→List Value) (l:List α) (S:Hs h0 h rs) (w:∀ u h',Hs h0 h' (.sl u e z enc l :: rs)→KO P X sz ops os (L.put d u) h' R) (ho:o.op = .buildSlice ty n ps:=by exact rfl) (hg:qw ops L.tree o.guard=some true:=by exact rfl)
 (hx:JO L ps.toList=some vs:=by exact rfl) (hv:zS P ty n vs h=some (.slice (some ⟨h.next,0,none⟩) n n,h.add (.cells c e none false)):=by exact rfl) (hl:l.length=n:=by exact rfl) (hc:c=l.flatMap enc:=by exact rfl) (hz:c.length=l.length*z:=by exact rfl) (hdst:o.dst=some d:=by exact rfl) (hds:Nat.blt d sz=true:=by exact rfl):KO P X sz ops (o :: os) L h R:=by
 subst hl;exact Vb ho hg hx hv (by simp only [qG,hdst,hds]) (w _ _ ((S.add c e).asSl (z:=z) enc l hc hz))
end
class SubR (rs rs':List Rs):Prop where
 sub:∀ {h0 h:AH},Hs h0 h rs→Hs h0 h rs'
instance (priority:=2000) SubR.here {rs:List Rs}:SubR rs rs:=⟨id⟩
instance SubR.there {r:Rs} {rs rs':List Rs} [i:SubR rs rs']:SubR (r :: rs) rs':=⟨fun S=>i.sub S.tail⟩
theorem Hs.sub {h0 h:AH} {rs rs':List Rs} [i:SubR rs rs'] (S:Hs h0 h rs):Hs h0 h rs':=i.sub S
class DtI (rs:List Rs) (r:Rs) (rs':outParam (List Rs)):Prop where
 dt:Dt rs r rs'
instance (priority:=2000) DtI.here {r:Rs} {rs:List Rs}:DtI (r :: rs) r rs:=⟨.here⟩
instance DtI.there {r s:Rs} {rs rs':List Rs} [i:DtI rs r rs']:DtI (s :: rs) r (s :: rs'):=⟨.there i.dt⟩
class SelR (rs l:List Rs):Prop where
 sel:∀ {lo:Nat} {h:AH} {U:Fp},Sep lo h rs U→Sep lo h l U
instance (priority:=2000) SelR.here {rs:List Rs}:SelR rs rs:=⟨id⟩
instance SelR.nil {rs:List Rs}:SelR rs []:=⟨fun _=>trivial⟩
instance SelR.cons {rs rs' l:List Rs} {r:Rs} [i:DtI rs r rs'] [j:SelR rs' l]:SelR rs (r :: l):=⟨fun k=>by
 obtain ⟨fp,k1,k2,k3⟩:=i.dt.sep k;exact ⟨fp,k1,k2,j.sel k3⟩⟩
instance (priority:=500) SelR.there {rs l:List Rs} {r:Rs} [j:SelR rs l]:SelR (r :: rs) l:=⟨fun ⟨_,_,_,k⟩=>j.sel (k.mono fun _ q=>q.1)⟩
theorem Hs.pick {h0 h:AH} {rs l:List Rs} [i:SelR rs l] (S:Hs h0 h rs):Hs h0 h l:=⟨S.ext,i.sel S.sep⟩
abbrev RdS {α:Type} (h0:AH) (rs:List Rs) (v:Value) (z:Nat) (enc:α→List Value) (l:List α):Prop:=∀ h,Hs h0 h rs→qY h v z enc l
theorem RdS.base {α:Type} {h0:AH} {rs:List Rs} {v:Value} {z:Nat} {enc:α→List Value} {l:List α} (w:WfH h0) (r:qY h0 v z enc l):RdS h0 rs v z enc l:=fun h S=>r.ext w S.ext
structure Ti where
 a:List UInt8
 b:List UInt8
 k:Int
instance:Inhabited Ti:=⟨⟨[],[],0⟩⟩
def jY (t:Ti):List Value:=[str t.a,str t.b,.int .u8 t.k]
def tiV (t:Ti):Value:=.agg #[str t.a,str t.b,.int .u8 t.k]
def gat:List Gu→List UInt8→Option Nat
 | [],_=>none
 | g :: r,n=>if g.name=n then some 0 else (gat r n).map (· + 1)
structure Rl where
 us:List Gu
 ts:List Ti
instance:Inhabited Rl:=⟨⟨[],[]⟩⟩
open Classical in
noncomputable def Yx (r:Rl) (g:Gu):Rl×Int :=
 if Qv g≠0 then (r,Qv g) else if gat r.us g.name≠none then (r,5) else if 64≤r.us.length then (r,7) else (⟨r.us ++ [g],r.ts⟩,0)
theorem pU {r:Rl} {g:Gu} (h:Qv g≠0):Yx r g=(r,Qv g):=by unfold Yx;rw [if_pos h]
theorem pW {r:Rl} {g:Gu} (h:Qv g=0) (h2:gat r.us g.name≠none):Yx r g=(r,5):=by unfold Yx;rw [if_neg (by simpa using h),if_pos h2]
theorem pV {r:Rl} {g:Gu} (h:Qv g=0) (h2:gat r.us g.name=none) (h3:64≤r.us.length):Yx r g=(r,7):=by unfold Yx;rw [if_neg (by simpa using h),if_neg (by simpa using h2),if_pos h3]
theorem wW {r:Rl} {g:Gu} (h:Qv g=0) (h2:gat r.us g.name=none) (h3:¬ 64≤r.us.length):Yx r g=(⟨r.us ++ [g],r.ts⟩,0):=by unfold Yx;rw [if_neg (by simpa using h),if_neg (by simpa using h2),if_neg h3]
def AtOk (m:List (List UInt8×Int)) (us:List Gu):Prop:=∀ n,YV m n=(gat us n).map Int.ofNat
theorem qcZ {us:List Gu} {g:Gu} (n:List UInt8):gat (us ++ [g]) n=match gat us n with|some i=>some i|none=>if g.name=n then some us.length else none:=by
 induction us with
 | nil=>simp [gat]
 | cons x r ih =>
  simp only [zC6,gat];by_cases h:x.name=n
  ·simp [h]
  ·simp only [if_neg h,ih];cases gat r n<;>simp<;>split<;>simp
theorem AtOk.app {m:List (List UInt8×Int)} {us:List Gu} {g:Gu} (a:AtOk m us) (hn:gat us g.name=none):AtOk (wF m g.name us.length) (us ++ [g]):=fun n=>by
 rw [qbF,qcZ];by_cases h:n=g.name
 ·subst h;simp [hn]
 ·rw [if_neg h,a n];cases gat us n with
  | none=>simp;exact fun q=>h q.symm
  | some i=>simp
def TgsOk (gs:List Zh) (h:AH) (fp:Fp):Prop:=∀ g∈gs,(Rs.rd g.tv.val 1 eS g.tg).ok h fp
abbrev Gv (gs:List Zh):Rs:=.any (TgsOk gs)
structure BkS where
 vg:SlV
 vt:SlV
 m:Nat
 mp:List (List UInt8×Int)
 gs:List Zh
abbrev bkL (b:Nat) (ts:List Ti) (s:BkS):List Rs:=[.blk b [s.vg.val,s.vt.val,.map (some s.m)] 278,.sl s.vg.val 98 9 eG s.gs,.sl s.vt.val 137 3 jY ts,.mp s.m (.int .i64) s.mp,Gv s.gs]
abbrev Jz (b:Nat) (r:Rl):Rs:=qbu (fun s:BkS=>s.gs.map (·.toGu)=r.us∧AtOk s.mp r.us) (bkL b r.ts)
theorem Hs.bk {h0 h:AH} {rs0 rs:List Rs} {b:Nat} {r:Rl} (S:Hs h0 h rs0) (vg vt:SlV) (m:Nat) (mp:List (List UInt8×Int)) (gs:List Zh) (q1:gs.map (·.toGu)=r.us) (q2:AtOk mp r.us)
 [i:SelR rs0 (.blk b [vg.val,vt.val,.map (some m)] 278 :: .sl vg.val 98 9 eG gs :: .sl vt.val 137 3 jY r.ts :: .mp m (.int .i64) mp :: Gv gs :: rs)]:Hs h0 h (Jz b r :: rs) :=
 Hs.pack (s:=⟨vg,vt,m,mp,gs⟩) ⟨q1,q2⟩ (show Hs h0 h (.blk b [vg.val,vt.val,.map (some m)] 278 :: .sl vg.val 98 9 eG gs :: .sl vt.val 137 3 jY r.ts :: .mp m (.int .i64) mp :: Gv gs :: rs) from S.pick)
theorem TgsOk.rd {h:AH} {fp:Fp} {gs:List Zh} (k:TgsOk gs h fp) {i:Nat} (hi:i<gs.length):qY h (gs.getD i default).tv.val 1 eS (gs.getD i default).tg:=by
 have q:=k _ (List.getElem_mem hi);rw [show gs.getD i default=gs[i] by rw [zA2,zA4 hi];rfl];rcases q with ⟨q1,q2⟩|⟨b,o,cap,cc,e,s,r,q1,q2,q3,q4⟩
 ·exact .inl ⟨q1,by rw [q2];rfl,by rw [q2];rfl⟩
 ·exact .inr ⟨b,o,cap,cc,e,s,r,q1,q2,q4⟩
theorem VS {α:Type} {v:Value} {z:Nat} {enc:α→List Value} {l:List α} {h:AH} {fp fp':Fp} (k:(Rs.rd v z enc l).ok h fp) (hf:∀ b,fp b→fp' b):(Rs.rd v z enc l).ok h fp':=by
 rcases k with k|⟨b,o,cap,cc,e,s,r,q1,q2,q3,q4⟩
 ·exact .inl k
 ·exact .inr ⟨b,o,cap,cc,e,s,r,q1,q2,hf b q3,q4⟩
theorem qdD {α:Type} {v:Value} {e:TypeId} {z:Nat} {enc:α→List Value} {l:List α} {h:AH} {fp:Fp} (k:(Rs.sl v e z enc l).ok h fp):(Rs.rd v z enc l).ok h fp:=by
 rcases k with k|⟨b,o,cc,slk,cap,h1,h2,h3,h4,-⟩
 ·exact .inl k
 ·exact .inr ⟨b,o,_,cc,e,slk,false,h1,h2,h3,h4⟩
theorem Hs.tgApp {h0 h:AH} {rs:List Rs} {gs:List Zh} {g:Zh} {e:TypeId} (S:Hs h0 h (.sl g.tv.val e 1 eS g.tg :: Gv gs :: rs)):Hs h0 h (Gv (gs ++ [g]) :: rs):=by
 obtain ⟨f1,k1,k2,f2,k3,k4,k5⟩:=S.sep;refine ⟨S.ext,fun b=>f1 b∨f2 b,fun h' q g' hg=>?_,fun b hb=>?_,k5.mono fun b hb=>⟨trivial,fun q=>?_⟩⟩
 ·rcases zB8.1 hg with hg|hg
  ·exact VS (k3 h' (fun b hb=>q b (.inr hb)) g' hg) fun b hb=>.inr hb
  ·obtain rfl:=zB5.1 hg;exact VS (qdD (k1.local fun b hb=>q b (.inl hb))) fun b hb=>.inl hb
 ·rcases hb with hb|hb
  ·exact k2 b hb
  ·exact ⟨(k4 b hb).1,(k4 b hb).2.1,trivial⟩
 ·rcases q with q|q
  ·exact hb.1.2 q
  ·exact hb.2 q
theorem qdh {g:Gu} (h:Qv g=0):J6 g∧(0≤g.since∧g.since≤9999)∧(0≤g.side∧g.side≤2)∧g.tg.length≤4∧qdw g.tg:=by
 unfold Qv at h;split at h
 ·cases h
 ·split at h
  ·cases h
  ·split at h
   ·cases h
   ·split at h
    ·cases h
    ·rename_i a b c d
     exact ⟨zF3.1 a,zF3.1 b,zF3.1 c,(zF3.1 d).1,(zF3.1 d).2⟩
variable [Flag]
theorem KU {h0:AH} (w:WfH h0) {b m:Nat} {vg vt:Value} (hb:h0.get b=some (.cells [vg,vt,.map (some m)] 278 none false)):Fn Tryz.prog Xh 279 [.pointer (some ⟨b,0,none⟩)] h0 (fun v h'=>v = .bool false∧Hs h0 h' []):=by
 have S:=Hs.start w;refine qJ (by first|rfl) Tryz.func279 rfl rfl ?_;all_goals (repeat' (first|refine qg ?_|(refine qc 0 ?_;refine mv ?_;refine qf ?_)|(refine qc 1 ?_;refine mv ?_;refine vl ?_;refine mv ?_;refine mv ?_;refine vl ?_;(first|(refine vl ?_));(first|(refine lH S ?_));refine vl ?_;refine vl ?_;refine mv ?_;refine qf ?_)))
 refine qj ⟨_,rfl,?_⟩;exact ⟨rfl,S⟩
theorem qaC {h0:AH} (w:WfH h0) (v:Value) (a:List (List UInt8)) (r:qY h0 v 1 eS a) (hl:a.length≤1000000):Fn Tryz.prog Xh 290 [v] h0 (fun u h'=>Hs h0 h' [.sl u 9 1 eS a]):=by
 have S:=Hs.start w;have r0:=r;rcases r with ⟨rfl,h1,-⟩|⟨b,o,cap,cc,e,s,q,rfl,h1,h2⟩
 ·obtain rfl:a=[]:=zE9.1 h1;refine qJ (by first|rfl) Tryz.func290 rfl rfl ?_;all_goals (repeat' (first|refine qg ?_|refine qh rfl ?_|(refine qc 0 ?_;refine mv ?_;refine qf ?_)|(refine qc 1 ?_;refine mv ?_;refine vl ?_;refine qf ?_)|(refine qc 2 ?_;refine mv ?_;refine qf ?_)))
  refine qj ⟨_,rfl,?_⟩;exact S.nilS
 ·refine qJ (by first|rfl) Tryz.func290 rfl rfl ?_;all_goals (repeat' (first|refine qg ?_|refine qh rfl ?_|refine qi ?_|(refine qc 0 ?_;refine mv ?_;refine qf ?_)|(refine qc 1 ?_;refine mv ?_;refine vl ?_;refine qf ?_)|(refine qc 3 ?_;skip)))
  refine nw 1 eS S ?_;clear S;intro u h S;(refine mv ?_);refine apd S rfl rfl (r0.ext w S.ext) ?_;clear S;intro v' h S;(refine mv ?_;refine qf ?_);all_goals (repeat' (fail))
  refine qj ⟨_,rfl,?_⟩;exact S
theorem qaB {h0:AH} (w:WfH h0) (g:Zh) (r:qY h0 g.tv.val 1 eS g.tg) (hl:g.tg.length≤1000000):Fn Tryz.prog Xh 281 [gV g] h0 (fun v h'=>∃ tv:SlV,v=gV { g with tv:=tv }∧Hs h0 h' [.sl tv.val 9 1 eS g.tg]):=by
 have S:=Hs.start w;unfold gV;refine qJ (by first|rfl) Tryz.func281 rfl rfl ?_;all_goals (repeat' (first|refine qg ?_|(refine qc 0 ?_;(refine bx S ?_;clear S;intro b h S);(refine al S ?_;clear S;intro b h S);refine qf ?_)|(refine qc 1 ?_;refine vl ?_;refine lB S rfl rfl ?_)))
 (refine qx rfl rfl rfl rfl rfl ((qaC S.wf g.tv.val g.tg (r.ext w S.ext) hl).mono ?_);rintro v h x)<;>(replace S:=S.join1 x;clear x;obtain ⟨tv,rfl⟩:=S.slRd.sV v;refine vl ?_;(first|(refine sB S rfl rfl ?_;clear S;intro h S));refine qf ?_)
 all_goals (repeat' (first|refine qg ?_|(refine qc 2 ?_;refine lB S rfl rfl ?_;(first|(refine sB S rfl rfl ?_;clear S;intro h S));refine qf ?_)))
 refine qj ⟨_,jm S rfl (by first|exact .there .here) (by exact rfl) (by exact rfl),?_⟩;exact ⟨tv,rfl,S.only .here⟩
theorem qd7 {h0:AH} (w:WfH h0):Fn Tryz.prog Xh 259 [] h0 (fun v h'=>∃ b,v = .pointer (some ⟨b,0,none⟩)∧Hs h0 h' [Jz b ⟨[],[]⟩]):=by
 have S:=Hs.start w;refine qJ (by first|rfl) Tryz.func259 rfl rfl ?_;all_goals (repeat' (first|refine qg ?_|(refine qc 0 ?_;refine mv ?_;refine qf ?_)))
 refine qc 1 ?_;refine mkm (α:=Int) (.int .i64) S ?_;clear S;intro m h S;(refine vl ?_;(refine bx S ?_;clear S;intro b h S);refine mv ?_;refine qf ?_);all_goals (repeat' (fail))
 refine qj ⟨_,rfl,?_⟩;refine ⟨_,rfl,?_⟩;have S:=((S.nilS (e:=98) (z:=9) (enc:=eG)).nilS (e:=137) (z:=3) (enc:=jY)).anyS (p:=TgsOk []) fun h' g hg=>by cases hg
 replace S:Hs h0 _ [Gv [],.sl (SlV.val ⟨none,0,0⟩) 137 3 jY [],.sl (SlV.val ⟨none,0,0⟩) 98 9 eG [],.blk b [SlV.val ⟨none,0,0⟩,SlV.val ⟨none,0,0⟩,.map (some m)] 278,.mp m (.int .i64) []]:=S;exact S.bk (r:=⟨[],[]⟩) ⟨none,0,0⟩ ⟨none,0,0⟩ m [] [] rfl fun n=>rfl
theorem qet {h0 h:AH} {rs:List Rs} {p:Nat} {r:Rl} (S:Hs h0 h (Jz p r :: rs)) (g:Zh) (hr:RdS h0 rs g.tv.val 1 eS g.tg) (hl:g.tg.length≤9223372036854775807) (hu:r.us.length≤64) :
 Fn Tryz.prog Xh 260 [.pointer (some ⟨p,0,none⟩),gV g] h (fun v h'=>v = .int .i64 (Yx r g.toGu).2∧Hs h0 h' (Jz p (Yx r g.toGu).1 :: rs)):=by
 obtain ⟨⟨vg,vt,m,mp,gs⟩,⟨q1,q2⟩,S⟩:=S.unpack;have e1:gs.length=r.us.length:=by rw [← q1];simp
 dsimp only [bkL,List.cons_append,List.nil_append] at q1 q2 S;unfold gV;refine qJ (by first|rfl) Tryz.func260 rfl rfl ?_;all_goals (repeat' (first|refine qg ?_|(refine qc 0 ?_;(refine bx S ?_;clear S;intro b h S);refine mv ?_;refine qf ?_)|(refine qc 1 ?_;refine mv ?_)))
 (refine qx rfl rfl rfl rfl rfl ((KU S.wf (Yw S (.there .here))).mono ?_);rintro _ h ⟨rfl,x⟩)<;>(replace S:=S.join0 x;clear x;refine qf ?_)
 all_goals (repeat' (first|refine qg ?_|refine qh rfl ?_|refine qi ?_|(refine qc 3 ?_;refine lB S rfl rfl ?_)))
 (refine qx rfl rfl rfl rfl rfl ((qce S.wf g ⟨hr _ S.sub,hl⟩).mono ?_);rintro _ h ⟨rfl,x⟩)<;>(replace S:=S.join0 x;clear x;refine mv ?_;refine qf ?_)
 all_goals (repeat' (first|refine qg ?_|refine qh rfl ?_|refine qi ?_|(refine qc 4 ?_;refine mv ?_;(first|(refine cS ?_ ?_<;>intro hc))<;>(refine qf ?_))|(refine qc 5 ?_;refine mv ?_;refine mv ?_;refine qf ?_)|(refine zx 6 ?_;refine mv ?_;refine vl ?_;refine vl ?_;refine lB S rfl rfl ?_;refine vl ?_;refine lB S rfl rfl ?_)))
 ·refine qj ⟨_,rfl,?_⟩;rw [pU hc];exact ⟨rfl,S.bk vg vt m mp gs q1 q2⟩
 ·have hc0:Qv g.toGu=0:=by simpa using hc
  replace S:Hs h0 h (.blk b (eG g) 98 :: .blk p [vg.val,vt.val,.map (some m)] 278 :: .sl vg.val 98 9 eG gs :: .sl vt.val 137 3 jY r.ts :: .mp m (.int .i64) mp :: Gv gs :: rs):=S;refine lk S (.there (.there (.there (.there .here)))) (fun i hi=>?_) (fun hi=>?_)
  ·simp only [okV];(refine mv ?_;refine vl ?_;refine vl ?_;refine mv ?_;refine mv ?_;refine qf ?_);all_goals (repeat' (first|refine qg ?_|refine qh rfl ?_|(refine qc 7 ?_;refine mv ?_;refine qf ?_)|(refine qc 8 ?_;refine mv ?_;refine qf ?_)))
   refine qj ⟨_,rfl,?_⟩;rw [pW hc0 (by rw [q2] at hi;intro q;rw [q] at hi;cases hi)];exact ⟨rfl,S.bk vg vt m mp gs q1 q2⟩
  ·simp only [okV];(refine mv ?_;refine vl ?_;refine vl ?_;refine mv ?_;refine mv ?_;refine qf ?_);all_goals (repeat' (first|refine qg ?_|refine qh rfl ?_|refine qi ?_|(refine qc 7 ?_;refine mv ?_;refine qf ?_)|(refine qc 9 ?_;refine mv ?_;refine vl ?_;refine vl ?_;refine vl ?_;refine lB S rfl rfl ?_;refine XP S rfl rfl ?_;(first|(refine cS ?_ ?_<;>intro hc))<;>(refine qf ?_))|(refine qc 10 ?_;refine mv ?_;refine qf ?_)|(refine zx 11 ?_;refine mv ?_;refine vl ?_;refine vl ?_;refine lB S rfl rfl ?_;refine vl ?_;refine lB S rfl rfl ?_;refine mv ?_;refine vl ?_;refine vl ?_;refine vl ?_;refine lB S rfl rfl ?_;refine XP S rfl rfl ?_)))
   ·refine qj ⟨_,rfl,?_⟩;rw [pV hc0 (by rw [q2] at hi;cases hq:gat r.us g.name with|none=>rfl|some i=>rw [hq] at hi;cases hi) (by omega)];exact ⟨rfl,S.bk vg vt m mp gs q1 q2⟩
   ·have hn:gat r.us g.name=none:=by rw [q2] at hi;cases hq:gat r.us g.name with|none=>rfl|some i=>rw [hq] at hi;cases hi
    have hn64:¬ 64≤r.us.length:=by omega
    refine up (x:=(gs.length:Int)) (key:=g.name) S (.there (.there (.there (.there .here)))) (.there (.there (.there (.there .here)))) (fun h S=>?_) (.inl rfl);(refine qf ?_);have ht4:=(qdh hc0).2.2.2.1;(repeat (refine qg ?_));refine Qp (id:=12) [(5,(0,2))] [some (p)] ?_;refine qp ?_;(first|(refine mv ?_<;>refine qf ⟨⟨by (first|exact True.intro),rfl⟩,?_⟩));refine qp ?_;(first|(refine mv ?_<;>refine qf ⟨⟨by (first|exact True.intro),rfl⟩,?_⟩));refine qp ?_;(first|(refine vl ?_<;>refine qf ⟨⟨by (first|exact True.intro),rfl⟩,?_⟩));refine qp ?_;(first|(refine vl ?_<;>refine qf ⟨⟨by (first|exact True.intro),rfl⟩,?_⟩));refine qp ?_;(first|(refine vl ?_<;>refine qf ⟨⟨by (first|exact True.intro),rfl⟩,?_⟩));refine qp ?_;(first|(refine lB S rfl rfl ?_<;>refine qf ⟨⟨by (first|exact Or.inr rfl),rfl⟩,?_⟩));refine qp ?_;(first|(refine lB S rfl rfl ?_<;>refine qf ⟨⟨by (first|exact True.intro),rfl⟩,?_⟩));((refine qp ?_;first|refine qx rfl rfl rfl rfl rfl ((qaB S.wf g (hr _ S.sub) (by omega)).mono ?_));rintro _ h ⟨tv,rfl,x⟩)<;>((refine qf ⟨⟨True.intro,?_⟩,?_⟩;(focus ((show keepsX _ _ _ _ _;simp only [keepsX];(repeat' (first|exact True.intro|refine And.intro ?_ ?_));all_goals (intro hw;first|exact x.ext.old _ S.bB)))));replace S:=S.join1 x;clear x;refine qp ?_;(first|((refine one 9 S ?_;have S0:=S;clear S;intro u h S);refine qf ⟨⟨True.intro,?_⟩,?_⟩;(focus ((show keepsX _ _ _ _ _;simp only [keepsX];(repeat' (first|exact True.intro|refine And.intro ?_ ?_));all_goals (intro hw;first|exact (S.gB).trans (S0.gB).symm))));clear S0)))
    refine qp ?_;refine app (y0:={ g with tv:=tv }) S rfl rfl ?_;have S0:=S;clear S;intro v h S;obtain ⟨vg',rfl⟩:=S.sV v;refine qf ⟨⟨True.intro,?_⟩,?_⟩;(focus ((show keepsX _ _ _ _ _;simp only [keepsX];(repeat' (first|exact True.intro|refine And.intro ?_ ?_));all_goals (intro hw;first|exact absurd hw (by decide +kernel)))));clear S0;(refine qp ?_;(first|(refine vl ?_<;>refine qf ⟨⟨by (first|exact True.intro),rfl⟩,?_⟩));refine qp ?_;(first|(refine vl ?_<;>refine qf ⟨⟨by (first|exact True.intro),rfl⟩,?_⟩));refine qp ?_;(first|(refine vl ?_<;>refine qf ⟨⟨by (first|exact True.intro),rfl⟩,?_⟩));refine qp ?_;(first|((refine sB S rfl rfl ?_;have S0:=S;clear S;intro h S);refine qf ⟨⟨True.intro,?_⟩,?_⟩;(focus ((show keepsX _ _ _ _ _;simp only [keepsX];(repeat' (first|exact True.intro|refine And.intro ?_ ?_));all_goals (intro hw;first|exact absurd hw (by decide +kernel)))));clear S0));refine Qq ?_);all_goals (repeat' (first|refine qg ?_|(refine qc 13 ?_;refine mv ?_;refine qf ?_)))
    refine qj ⟨_,rfl,?_⟩;rw [wW hc0 hn hn64];replace S:Hs h0 h (.sl vg'.val 98 9 eG (gs ++ [{ g with tv:=tv }]) :: .sl tv.val 9 1 eS g.tg :: .blk b (eG g) 98 :: .blk p [vg'.val,vt.val,.map (some m)] 278 :: .sl vt.val 137 3 jY r.ts :: .mp m (.int .i64) (wF mp g.name gs.length) :: Gv gs :: rs):=S;have S:=(show Hs h0 h (.sl tv.val 9 1 eS g.tg :: Gv gs :: .sl vg'.val 98 9 eG (gs ++ [{ g with tv:=tv }]) :: .blk p [vg'.val,vt.val,.map (some m)] 278 :: .sl vt.val 137 3 jY r.ts :: .mp m (.int .i64) (wF mp g.name gs.length) :: rs) from S.pick)
    have S:=Hs.tgApp (g:={ g with tv:=tv }) S;refine ⟨rfl,S.bk vg' vt m (wF mp g.name gs.length) (gs ++ [{ g with tv:=tv }]) (by simp [q1]) ?_⟩;rw [e1];exact q2.app hn
end Go.Proofs.Xx
namespace Go.Proofs.Xx
open Go Go.Proofs
theorem qfW (a b:List UInt8):(Lib.compareBytes a b<0↔jV a b)∧(Lib.compareBytes a b=0↔a=b):=by
 induction a generalizing b with
 | nil =>
  cases b with
  | nil=>exact ⟨⟨fun h=>by simp [Lib.compareBytes] at h,fun h=>absurd h (Yf _)⟩,by simp [Lib.compareBytes]⟩
  | cons y b=>exact ⟨⟨fun _=>VW _ _,fun _=>by simp [Lib.compareBytes]⟩,by simp [Lib.compareBytes]⟩
 | cons x a ih =>
  cases b with
  | nil=>exact ⟨⟨fun h=>by simp [Lib.compareBytes] at h,fun h=>absurd h (Yf _)⟩,by simp [Lib.compareBytes]⟩
  | cons y b =>
   obtain ⟨i1,i2⟩:=ih b;have hc:Lib.compareBytes (x :: a) (y :: b)=if x<y then -1 else if y<x then 1 else Lib.compareBytes a b:=rfl
   rw [Q9,hc];by_cases h1:x<y
   ·rw [if_pos h1];refine ⟨⟨fun _=>.inl h1,fun _=>by omega⟩,fun q=>by omega,fun q=>?_⟩;injection q with q _;subst q;exact absurd h1 (UInt8.lt_irrefl _)
   ·rw [if_neg h1];by_cases h2:y<x
    ·rw [if_pos h2];refine ⟨⟨fun q=>by omega,fun q=>?_⟩,fun q=>by omega,fun q=>?_⟩
     ·rcases q with q|⟨rfl,-⟩
      ·exact absurd q h1
      ·exact absurd h2 (UInt8.lt_irrefl _)
     ·injection q with q _;subst q;exact absurd h2 (UInt8.lt_irrefl _)
    ·rw [if_neg h2];have e:x=y:=UInt8.le_antisymm (UInt8.not_lt.1 h2) (UInt8.not_lt.1 h1);subst e;refine ⟨⟨fun q=>.inr ⟨rfl,i1.1 q⟩,fun q=>?_⟩,⟨fun q=>by rw [i2.1 q],fun q=>i2.2 (by injection q)⟩⟩;rcases q with q|q
     ·exact absurd q h1
     ·exact i1.2 q.2
def Zg (x y:Ti):Prop:=jV x.a y.a∨(x.a=y.a∧jV x.b y.b)
theorem PQ (x:Ti):¬ Zg x x:=fun h=>by rcases h with h|h;exact zK _ h;exact zK _ h.2
theorem Q7 {x y z:Ti} (h1:Zg x y) (h2:Zg y z):Zg x z:=by
 rcases h1 with h1|⟨e1,h1⟩
 ·rcases h2 with h2|⟨e2,h2⟩
  ·exact .inl (Q4 h1 h2)
  ·exact .inl (e2 ▸ h1)
 ·rcases h2 with h2|⟨e2,h2⟩
  ·exact .inl (e1 ▸ h2)
  ·exact .inr ⟨e1.trans e2,Q4 h1 h2⟩
theorem wV (x y:Ti):Zg x y∨(x.a=y.a∧x.b=y.b)∨Zg y x:=by
 rcases Ye x.a y.a with h|h|h
 ·exact .inl (.inl h)
 ·rcases Ye x.b y.b with g|g|g
  ·exact .inl (.inr ⟨h,g⟩)
  ·exact .inr (.inl ⟨h,g⟩)
  ·exact .inr (.inr (.inr ⟨h.symm,g⟩))
 ·exact .inr (.inr (.inl h))
def TS (ts:List Ti):Prop:=ts.Pairwise Zg
theorem TS.lt {ts:List Ti} (h:TS ts) {i j:Nat} (hij:i<j) (hj:j<ts.length):Zg (ts.getD i default) (ts.getD j default):=by
 have:=zD2.1 h i j (by omega) hj hij;rw [zA2,zA2,zA4 hj,zA4 (show i<ts.length by omega)];exact this
def Plc (l:List Ti) (y:Ti) (i:Nat):Prop:=i≤l.length∧(∀ j,j<i→Zg (l.getD j default) y)∧∀ j,i≤j→j<l.length→¬ Zg (l.getD j default) y
variable [Flag]
theorem qdf {h:AH} (a b:List UInt8):Fn Tryz.prog Xh 291 [str a,str b] h (fun v h'=>(∃ c,v = .int .i64 c∧(c<0↔jV a b)∧(c=0↔a=b))∧h'=h):=by
 refine qJ (by first|rfl) Tryz.func291 rfl rfl ?_;all_goals (repeat' (first|refine qg ?_|(refine qc 0 ?_;refine mv ?_;refine qf ?_)|(refine qc 1 ?_;refine mv ?_;refine mv ?_)))
 (refine qx rfl rfl rfl rfl rfl (((xG (R:=fun v h'=>v = .int .i64 (Lib.compareBytes a b)∧h'=h) rfl ⟨rfl,rfl⟩)).mono ?_);rintro _ _ ⟨rfl,rfl⟩)<;>(refine mv ?_;refine qf ?_)
 all_goals (repeat' (fail))
 refine qj ⟨_,rfl,?_⟩;exact ⟨⟨_,rfl,qfW a b⟩,rfl⟩
theorem qb9 {h:AH} (a b:List UInt8):Fn Tryz.prog Xh 282 [str a,str b] h (fun v h'=>(∃ c,v = .int .i64 c∧(c<0↔jV a b)∧(c=0↔a=b))∧h'=h):=by
 refine qJ (by first|rfl) Tryz.func282 rfl rfl ?_;all_goals (repeat' (first|refine qg ?_|(refine qc 0 ?_;refine mv ?_;refine qf ?_)|(refine qc 1 ?_;refine mv ?_;refine mv ?_)))
 (refine qx rfl rfl rfl rfl rfl ((qdf a b).mono ?_);rintro _ _ ⟨⟨c,rfl,q⟩,rfl⟩)<;>(refine mv ?_;refine qf ?_)
 all_goals (repeat' (fail))
 refine qj ⟨_,rfl,?_⟩;exact ⟨⟨c,rfl,q⟩,rfl⟩
theorem WC {h0:AH} (w:WfH h0) (x y:Ti):Fn Tryz.prog Xh 261 [tiV x,tiV y] h0 (fun v h'=>(∃ c,v = .int .i64 c∧(c<0↔Zg x y)∧(c=0↔x.a=y.a∧x.b=y.b))∧Hs h0 h' []):=by
 have S:=Hs.start w;unfold tiV;refine qJ (by first|rfl) Tryz.func261 rfl rfl ?_;all_goals (repeat' (first|refine qg ?_|(refine qc 0 ?_;(refine bx S ?_;clear S;intro b h S);(refine bx S ?_;clear S;intro b h S);refine mv ?_;refine qf ?_)|(refine qc 1 ?_;refine vl ?_;refine lB S rfl rfl ?_;refine vl ?_;refine lB S rfl rfl ?_)))
 (refine qx rfl rfl rfl rfl rfl ((qb9 x.a y.a).mono ?_);rintro _ _ ⟨⟨c,rfl,q1,q2⟩,rfl⟩)<;>(refine mv ?_;refine qf ?_)
 all_goals (repeat' (first|refine qg ?_|refine qh rfl ?_|refine qi ?_|(refine qc 2 ?_;refine mv ?_;(first|(refine cS ?_ ?_<;>intro hc))<;>(refine qf ?_))|(refine qc 3 ?_;refine mv ?_;refine mv ?_;refine qf ?_)|(refine qc 4 ?_;refine vl ?_;refine lB S rfl rfl ?_;refine vl ?_;refine lB S rfl rfl ?_)))
 ·refine qj ⟨_,rfl,?_⟩;refine ⟨⟨c,rfl,?_,?_⟩,S.drop⟩
  ·unfold Zg;rw [q1];exact ⟨.inl,fun h=>h.elim id fun h=>absurd (q2.2 h.1) hc⟩
  ·exact ⟨fun h=>absurd h hc,fun h=>q2.2 h.1⟩
 ·(refine qx rfl rfl rfl rfl rfl ((qb9 x.b y.b).mono ?_);rintro _ _ ⟨⟨d,rfl,q3,q4⟩,rfl⟩)<;>(refine mv ?_;refine qf ?_)
  all_goals (repeat' (fail))
  refine qj ⟨_,rfl,?_⟩;have e:=q2.1 (by omega);refine ⟨⟨d,rfl,?_,?_⟩,S.drop⟩
  ·unfold Zg;rw [q3];exact ⟨fun h=>.inr ⟨e,h⟩,fun h=>h.elim (fun h=>absurd (e ▸ h) (zK _)) (·.2)⟩
  ·rw [q4];exact ⟨fun h=>⟨e,h⟩,(·.2)⟩
theorem Pz {h0:AH} (w:WfH h0) (a b:List UInt8) (k:Int):Fn Tryz.prog Xh 285 [str a,str b,.int .u8 k] h0 (fun v h'=>v=tiV ⟨YL a b,YM a b,k⟩∧Hs h0 h' []):=by
 have S:=Hs.start w;refine qJ (by first|rfl) Tryz.func285 rfl rfl ?_;all_goals (repeat' (first|refine qg ?_|(refine qc 0 ?_;(refine al S ?_;clear S;intro b h S);refine qf ?_)|(refine qc 1 ?_;refine mv ?_;refine mv ?_;refine mnS ?_;refine mv ?_;refine mv ?_;refine mxS ?_;refine mv ?_;refine vl ?_;(first|(refine sB S rfl rfl ?_;clear S;intro h S));refine qf ?_)))
 refine qj ⟨_,jm S rfl (by first|exact .here) (by exact rfl) (by exact rfl),?_⟩;exact ⟨rfl,S.drop⟩
theorem pK {h0:AH} (w:WfH h0) {v:Value} {l:List Ti} (hr:qY h0 v 3 jY l) (hl:l.length≤1000000) (hs:TS l) (y:Ti) :
 Fn Tryz.prog Xh 292 [v,tiV y,.func (.func 261) #[] #[]] h0 (fun u h'=>(∃ (i:Nat) (f:Bool),u = .tuple #[.int .i64 i,.bool f]∧Plc l y i∧(f=true↔i<l.length∧(l.getD i default).a=y.a∧(l.getD i default).b=y.b))∧Hs h0 h' []):=by
 have S:=Hs.start w;unfold tiV;refine qJ (by first|rfl) Tryz.func292 rfl rfl ?_;all_goals (repeat' (first|refine qg ?_|refine qo ?_|(refine qc 0 ?_;(refine bx S ?_;clear S;intro b h S);refine mv ?_;refine mv ?_;refine qf ?_)|(refine qc 1 ?_;refine mv ?_;refine zC S ?_;refine mv ?_;refine qf ?_)|(refine qc 2 ?_;(iterate 3 refine mv ?_);refine qf ?_)))
 replace S:Hs h0 h [.blk b (jY y) 137]:=S;refine qH (σ:=Nat×Nat) (fun (lo,hi) h'=>Hs h0 h' [.blk b (jY y) 137]∧lo≤hi∧hi≤l.length∧(∀ j,j<lo→Zg (l.getD j default) y)∧(∀ j,hi≤j→j<l.length→¬ Zg (l.getD j default) y)) (fun (lo,hi)=>hi - lo) (fun (lo,hi)=>[(0,v),(2,.func (.func 261) #[] #[]),(4,.pointer (some ⟨b,0,none⟩)),(8,.int .i64 l.length),(9,.int .i64 lo),(10,.int .i64 hi)]) (0,l.length) qy ?_ ?_
 ·exact ⟨S,zB0 _,zA3 _,fun j hj=>absurd hj (zB7 _),fun j h1 h2=>absurd h2 (by omega)⟩
 clear S;rintro ⟨lo,hi⟩ h ⟨S,g1,g2,g3,g4⟩;all_goals (repeat' (first|refine qg ?_|refine qh rfl ?_|refine qi ?_|refine qB ?_|refine qo ?_|(refine qc 3 ?_;refine mv ?_;refine mv ?_;(first|(refine cS ?_ ?_<;>intro hc))<;>(refine qf ?_))|(refine qc 4 ?_;refine mv ?_;refine mv ?_;refine ad ?_;refine cW ?_;refine sR1 ?_;refine cI ?_;refine mv ?_;refine qf ?_)|(refine zx 5 ?_;(iterate 3 refine mv ?_);refine zW S ?_;refine zV S ?_;refine lB S rfl rfl ?_)|(refine zx 8 ?_;(iterate 3 refine mv ?_);(first|(refine cS ?_ ?_<;>intro hc))<;>(refine mv ?_;(first|refine off ?_|refine mv ?_);(first|refine off ?_|refine mv ?_);(first|refine off ?_|refine mv ?_);(first|refine off ?_|(refine zW S ?_));(first|refine off ?_|(refine zV S ?_));(first|refine off ?_|(refine lB S rfl rfl ?_));(first|(refine off ?_;(refine off ?_)<;>(refine vl ?_;refine mv ?_;refine mv ?_;refine qf ?_))|skip)))))
 ·obtain ⟨mid,hm,hm2,hm3⟩:∃ mid:Nat,((lo:Int)+hi) / 2=mid∧lo≤mid∧mid<hi:=⟨(lo+hi) / 2,by omega,by omega,by omega⟩
  simp only [hm,zA0];(refine jQ rfl rfl rfl rfl ((WC S.wf (l.getD mid default) y).mono ?_);rintro _ h ⟨⟨c,rfl,e1,e2⟩,x⟩)<;>(replace S:=S.join0 x;clear x;(first|(refine cS ?_ ?_<;>intro hc))<;>(refine qf ?_))
  all_goals (repeat' (first|refine qh rfl ?_|(refine qc 6 ?_;refine mv ?_;refine ad ?_;refine mv ?_;refine qf ?_)|(refine qc 7 ?_;refine mv ?_;refine mv ?_;refine qf ?_)))
  ·refine ⟨(mid+1,hi),?_,?_,qy⟩
   ·show hi - (mid+1)<hi - lo;omega
   ·refine ⟨S,by omega,g2,fun j hj=>?_,g4⟩;rcases zA7 j mid with q|q
    ·exact Q7 (hs.lt q (by omega)) (e1.1 hc)
    ·obtain rfl:j=mid:=by omega
     exact e1.1 hc
  ·refine ⟨(lo,mid),?_,?_,qy⟩
   ·show mid - lo<hi - lo;omega
   ·refine ⟨S,hm2,by omega,g3,fun j h1 h2 q=>?_⟩;rcases zA7 mid j with q2|q2
    ·exact hc (e1.2 (Q7 (hs.lt q2 h2) q))
    ·obtain rfl:j=mid:=by omega
     exact hc (e1.2 q)
 ·obtain rfl:hi=lo:=by omega
  simp only [zA0];(refine jQ rfl rfl rfl rfl ((WC S.wf (l.getD hi default) y).mono ?_);rintro _ h ⟨⟨c,rfl,e1,e2⟩,x⟩)<;>(replace S:=S.join0 x;clear x;(first|(first|(refine cS ?_ ?_<;>intro hc)))<;>(refine vl ?_;refine mv ?_;refine mv ?_;refine qf ?_))
  all_goals (all_goals (repeat' (fail)))
  all_goals (refine qj ⟨_,rfl,?_⟩)
  ·exact ⟨⟨hi,true,rfl,⟨g2,g3,g4⟩,fun _=>⟨by omega,e2.1 hc⟩,fun _=>rfl⟩,S.drop⟩
  ·exact ⟨⟨hi,false,rfl,⟨g2,g3,g4⟩,fun q=>(by cases q),fun q=>absurd (e2.2 q.2) hc⟩,S.drop⟩
 ·obtain rfl:hi=lo:=by omega
  all_goals (repeat' (fail))
  refine qj ⟨_,rfl,?_⟩;exact ⟨⟨hi,false,rfl,⟨g2,g3,g4⟩,fun q=>(by cases q),fun q=>absurd q.1 (by omega)⟩,S.drop⟩
theorem qbt {h0:AH} (w:WfH h0) {p m:Nat} {vg vt:Value} {ts:List Ti} (hb:h0.get p=some (.cells [vg,vt,.map (some m)] 278 none false)) (hr:qY h0 vt 3 jY ts) (hl:ts.length≤1000000) (hs:TS ts) (a b:List UInt8) :
 Fn Tryz.prog Xh 283 [.pointer (some ⟨p,0,none⟩),str a,str b] h0 (fun u h'=>(∃ (i:Nat) (f:Bool),u = .tuple #[.int .i64 i,.bool f]∧Plc ts ⟨YL a b,YM a b,0⟩ i∧(f=true↔i<ts.length∧(ts.getD i default).a=YL a b∧(ts.getD i default).b=YM a b))∧Hs h0 h' []):=by
 have S:=Hs.start w;refine qJ (by first|rfl) Tryz.func283 rfl rfl ?_;all_goals (repeat' (first|refine qg ?_|(refine qc 0 ?_;refine mv ?_;refine mv ?_;refine qf ?_)))
 (repeat (refine qg ?_));refine Qp (id:=1) [(4,(0,1))] [some (p)] ?_;refine qp ?_;(first|(refine mv ?_<;>refine qf ⟨⟨by (first|exact True.intro),rfl⟩,?_⟩));refine qp ?_;(first|(refine vl ?_<;>refine qf ⟨⟨by (first|exact True.intro),rfl⟩,?_⟩));refine qp ?_;(first|(refine vl ?_<;>refine qf ⟨⟨by (first|exact True.intro),rfl⟩,?_⟩));refine qp ?_;(first|(refine vl ?_<;>refine qf ⟨⟨by (first|exact True.intro),rfl⟩,?_⟩));refine qp ?_;(first|(refine lH S ?_<;>refine qf ⟨⟨by (first|exact Or.inr rfl),rfl⟩,?_⟩));refine qp ?_;(first|(refine mv ?_<;>refine qf ⟨⟨by (first|exact True.intro),rfl⟩,?_⟩));refine qp ?_;(first|(refine mv ?_<;>refine qf ⟨⟨by (first|exact True.intro),rfl⟩,?_⟩));((refine qp ?_;first|refine qx rfl rfl rfl rfl rfl ((Pz S.wf a b 0).mono ?_));rintro _ h ⟨rfl,x⟩)<;>((refine qf ⟨⟨True.intro,?_⟩,?_⟩;(focus ((show keepsX _ _ _ _ _;simp only [keepsX];(repeat' (first|exact True.intro|refine And.intro ?_ ?_));all_goals (intro hw;first|exact x.ext.old _ (S.bY (by assumption) (by assumption)))))));replace S:=S.join0 x;clear x)
 ((refine qp ?_;first|refine qx rfl rfl rfl rfl rfl ((pK S.wf (hr.ext w S.ext) hl hs ⟨YL a b,YM a b,0⟩).mono ?_));rintro _ h ⟨⟨i,f,rfl,q1,q2⟩,x⟩)<;>((refine qf ⟨⟨True.intro,?_⟩,?_⟩;(focus ((show keepsX _ _ _ _ _;simp only [keepsX];(repeat' (first|exact True.intro|refine And.intro ?_ ?_));all_goals (intro hw;first|exact absurd hw (by decide +kernel))))));replace S:=S.join0 x;clear x;refine qp ?_;(first|(refine vl ?_<;>refine qf ⟨⟨by (first|exact True.intro),rfl⟩,?_⟩));refine qp ?_;(first|(refine vl ?_<;>refine qf ⟨⟨by (first|exact True.intro),rfl⟩,?_⟩));refine qp ?_;(first|(refine mv ?_<;>refine qf ⟨⟨by (first|exact True.intro),rfl⟩,?_⟩));refine qp ?_;(first|(refine mv ?_<;>refine qf ⟨⟨by (first|exact True.intro),rfl⟩,?_⟩));refine Qq ?_)
 all_goals (repeat' (fail))
 refine qj ⟨_,rfl,?_⟩;exact ⟨⟨i,f,rfl,q1,q2⟩,S.drop⟩
end Go.Proofs.Xx
namespace Go.Proofs.Xx
open Go Go.Proofs
instance (x y:Ti):Decidable (Zg x y):=inferInstanceAs (Decidable (_∨_))
def vG (a b:List UInt8) (k:Int):Ti:=⟨YL a b,YM a b,k⟩
def tied (ts:List Ti) (a b:List UInt8):Prop:=∃ t∈ts,t.a=YL a b∧t.b=YM a b
def G6:List Ti→Ti→List Ti
 | [],t=>[t]
 | x :: r,t=>if Zg x t then x :: G6 r t else t :: x :: r
open Classical in
noncomputable def ZB (r:Rl) (a b:List UInt8) (k:Int):Rl×Int :=
 if (k≠1∧k≠2)∨a=b then (r,23) else if gat r.us a=none∨gat r.us b=none then (r,6) else if tied r.ts a b then (r,5) else if 256≤r.ts.length then (r,7) else (⟨r.us,G6 r.ts (vG a b k)⟩,0)
theorem Wv {t:Ti}:∀ {l:List Ti} {i:Nat},Plc l t i→G6 l t=l.take i ++ t :: l.drop i
 | [],i,h=>by simp [G6]
 | x :: r,0,h=>by
  have:=h.2.2 0 (zA3 _) (by simp);show (if Zg x t then _ else _)=_
  rw [if_neg (show ¬ Zg x t from this)];rfl
 | x :: r,i+1,h=>by
  have h0:=h.2.1 0 (Nat.succ_pos _);show (if Zg x t then _ else _)=_
  rw [if_pos (show Zg x t from h0),Wv (l:=r) (i:=i) ⟨by have:=h.1;simp at this;omega,fun j hj=>h.2.1 (j+1) (by omega),fun j h1 h2=>h.2.2 (j+1) (by omega) (by simp;omega)⟩];rfl
theorem Plc.tied {l:List Ti} {a b:List UInt8} {i:Nat} (hs:TS l) (h:Plc l ⟨YL a b,YM a b,0⟩ i):tied l a b↔i<l.length∧(l.getD i default).a=YL a b∧(l.getD i default).b=YM a b:=by
 constructor
 ·rintro ⟨t,ht,e1,e2⟩;obtain ⟨j,hj,rfl⟩:=List.mem_iff_getElem.1 ht;have eg:l.getD j default=l[j]:=by rw [zA2,zA4 hj];rfl
  have hji:i≤j:=by
   rcases zA7 j i with q|q
   ·have:=h.2.1 j q;rw [eg] at this;rcases this with q|q
    ·rw [e1] at q;exact absurd q (zK _)
    ·rw [e2] at q;exact absurd q.2 (zK _)
   ·exact q
  rcases zA7 i j with q|q
  ·have q1:=hs.lt q hj;rw [eg] at q1;refine absurd ?_ (h.2.2 i (zA3 _) (by omega));unfold Zg at q1 ⊢;rw [e1,e2] at q1;exact q1
  ·obtain rfl:i=j:=by omega
   rw [eg];exact ⟨hj,e1,e2⟩
 ·rintro ⟨h1,h2,h3⟩;refine ⟨_,List.getElem_mem h1,?_⟩;rw [show l[i]=l.getD i default by rw [zA2,zA4 h1];rfl];exact ⟨h2,h3⟩
theorem Po {r:Rl} {a b:List UInt8} {k:Int} (h:(k≠1∧k≠2)∨a=b):ZB r a b k=(r,23):=by unfold ZB;rw [if_pos h]
theorem Gq {r:Rl} {a b:List UInt8} {k:Int} (h:¬ ((k≠1∧k≠2)∨a=b)) (h2:gat r.us a=none∨gat r.us b=none):ZB r a b k=(r,6):=by unfold ZB;rw [if_neg h,if_pos h2]
theorem Gt {r:Rl} {a b:List UInt8} {k:Int} (h:¬ ((k≠1∧k≠2)∨a=b)) (h2:¬ (gat r.us a=none∨gat r.us b=none)) (h3:tied r.ts a b):ZB r a b k=(r,5):=by unfold ZB;rw [if_neg h,if_neg h2,if_pos h3]
theorem Gp {r:Rl} {a b:List UInt8} {k:Int} (h:¬ ((k≠1∧k≠2)∨a=b)) (h2:¬ (gat r.us a=none∨gat r.us b=none)) (h3:¬ tied r.ts a b) (h4:256≤r.ts.length):ZB r a b k=(r,7):=by unfold ZB;rw [if_neg h,if_neg h2,if_neg h3,if_pos h4]
theorem vF {r:Rl} {a b:List UInt8} {k:Int} (h:¬ ((k≠1∧k≠2)∨a=b)) (h2:¬ (gat r.us a=none∨gat r.us b=none)) (h3:¬ tied r.ts a b) (h4:¬ 256≤r.ts.length):ZB r a b k=(⟨r.us,G6 r.ts (vG a b k)⟩,0):=by unfold ZB;rw [if_neg h,if_neg h2,if_neg h3,if_neg h4]
variable [Flag]
theorem qcW {h0 h:AH} {rs:List Rs} {vt:SlV} {v1:Value} {l:List Ti} {t:Ti} (i:Nat) (hi:i≤l.length) (hl:l.length≤1000000) (S:Hs h0 h (.sl v1 137 3 XK [jY t] :: .sl vt.val 137 3 jY l :: rs)) :
 Fn Tryz.prog Xh 284 [vt.val,.int .i64 i,v1] h (fun u h'=>Hs h0 h' (.sl u 137 3 jY (l.take i ++ t :: l.drop i) :: rs)):=by
 have hfl:=qR (enc:=jY) (z:=3) (by intro _;rfl) l;obtain ⟨f1,k1,k2,f2,k3,k4,k5⟩:=S.sep;rcases k1 with ⟨-,k⟩|⟨vb,vo,vcc,vslk,vcap,rfl,g1,fv,t1,c1,s1⟩
 ·cases k
 replace S:Hs h0 h (.sl (.slice (some ⟨vb,vo,none⟩) 1 vcap) 137 3 XK [jY t] :: .sl vt.val 137 3 jY l :: rs):=S;show Fn Tryz.prog Xh 284 [vt.val,.int .i64 i,.slice (some ⟨vb,vo,none⟩) 1 vcap] h _
 by_cases hlt:i<l.length
 ·rcases k3 with ⟨-,rfl⟩|⟨b,o,cc,slk,cap,e2,g2,fb,t2,c2,s2⟩
  ·exact absurd hlt (by simp)
  rw [e2];have hne:(!Nat.beq b vb)=true:=by
   cases hq:Nat.beq b vb with
   | false=>rfl
   | true=>have:=zA6 hq;subst this;exact absurd fv (k4 b fb).2.2.2
  have hone:((l.flatMap jY).all one?)=true:=by
   rw [zC8];intro x hx;obtain ⟨y,-,hy⟩:=zG9.1 hx;simp [jY] at hy
   rcases hy with rfl|rfl|rfl<;>rfl
  refine xG (v:=.slice (some ⟨h.next,0,none⟩) (l.length+1) (l.length+1)) (h':=(h.put b .dead).add (.cells ((l.flatMap jY).take (i*3) ++ (jY t ++ (l.flatMap jY).drop (i*3))) 137 (some 3) false)) ?_ ?_
  ·show Zk X0 284 284 [.slice (some ⟨b,o,none⟩) l.length cap,.int .i64 (.ofNat i),.slice (some ⟨vb,vo,none⟩) 1 vcap] h=_
   unfold Zk;have hb1:Nat.blt i l.length=true:=by rw [Nat.blt_eq];exact hlt
   have t1':qV vcc vo 3=some (jY t):=by simpa [XK] using t1
   have hc2:Nat.ble (o+cap*3) cc.length=true:=zB3 c2.2;have hsz:Nat.ble ((l.length+1)*40) 140737488355328=true:=zB3 (by omega);have hot:((jY t).all one?)=true:=rfl;simp only [show Nat.beq 284 284=true from rfl,hb1,g2,g1,t2,t1',hc2,hsz,hone,hot,hne,Bool.and_true,show Nat.beq 137 137=true from rfl];rcases s2 with rfl|rfl<;>rfl
  ·have W:=(S.wf.put (k4 b fb).2.1 .dead)
   have S2:Hs h0 ((h.put b .dead).add (.cells ((l.flatMap jY).take (i*3) ++ (jY t ++ (l.flatMap jY).drop (i*3))) 137 (some 3) false)) (.sl (.slice (some ⟨vb,vo,none⟩) 1 vcap) 137 3 XK [jY t] :: .sl (.slice (some ⟨h.next,0,none⟩) (l.length+1) (l.length+1)) 137 3 jY (l.take i ++ t :: l.drop i) :: rs):=by
    refine S.turn (.there .here) (Nat.le_succ _) (W.add _) fun fp q1 q2=>?_;rcases q1 with ⟨q1,-⟩|⟨b2,o2,cc2,sl2,cap2,q1,-,q3,-⟩
    ·rw [q1] at e2;cases e2
    obtain rfl:b2=b:=by rw [q1] at e2;cases e2;rfl
    refine ⟨fun j hj hf=>?_,fun j=>j=h.next,.inr ⟨h.next,0,(l.flatMap jY).take (i*3) ++ (jY t ++ (l.flatMap jY).drop (i*3)),some 3,l.length+1,?_,?_,rfl,?_,⟨?_,?_⟩,.inr rfl⟩,fun j hj=>?_⟩
    ·rw [AH.get_add,if_neg (by show j≠h.next;omega),AH.get_put,if_neg];intro q;subst q;exact hf q3
    ·simp;omega
    ·rw [AH.get_add];exact if_pos rfl
    ·have e:((l.flatMap jY).take (i*3) ++ (jY t ++ (l.flatMap jY).drop (i*3)))=(l.take i ++ t :: l.drop i).flatMap jY:=by
      rw [List.flatMap_append,zG2,jP (z:=3) (by intro _;rfl),jk (z:=3) (by intro _;rfl)]
     rw [e];rw [← qR (enc:=jY) (z:=3) (by intro _;rfl)];exact jg _
    ·simp;omega
    ·simp [hfl,jY];omega
    ·subst hj;exact ⟨zG0 _,.inr (zA3 _)⟩
   exact S2.tail
 ·obtain rfl:i=l.length:=by omega
  have hX:Xh 284 [vt.val,.int .i64 l.length,.slice (some ⟨vb,vo,none⟩) 1 vcap] h=none:=by
   rcases k3 with ⟨e2,rfl⟩|⟨b,o,cc,slk,cap,e2,-⟩
   ·rw [e2];rfl
   ·rw [e2];show Zk X0 284 284 [.slice (some ⟨b,o,none⟩) l.length cap,.int .i64 (.ofNat l.length),.slice (some ⟨vb,vo,none⟩) 1 vcap] h=_
    unfold Zk;have hb1:Nat.blt l.length l.length=false:=by rw [← Bool.not_eq_true,Nat.blt_eq];omega
    simp only [show Nat.beq 284 284=true from rfl,hb1];rfl
  have hr:=Rd.of_sl S (.there .here);have hcap:=S.capS (.there .here);refine qJ (hX) Tryz.func284 rfl rfl ?_;all_goals (repeat' (first|refine qg ?_|(refine qc 0 ?_;refine mv ?_;refine qf ?_)))
  (repeat (refine qg ?_));refine qc 1 ?_;refine mv ?_;refine mv ?_;refine su l.length l.length hr hcap (fun v' _ _=>?_);(refine qf ?_);all_goals (repeat' (first|refine qg ?_|refine qh rfl ?_|refine qi ?_|(refine qc 2 ?_;refine mv ?_;refine XP S rfl rfl ?_;refine mv ?_;refine qf ?_)|(refine qc 3 ?_;refine mv ?_;(first|(refine cS ?_ ?_<;>intro hc))<;>(refine qf ?_))|(refine qc 4 ?_;refine mv ?_;refine mv ?_;refine qf ?_)|(refine qc 5 ?_;refine mv ?_;refine XP S rfl rfl ?_;refine mv ?_;refine qf ?_)|(refine qc 6 ?_;refine mv ?_;refine mv ?_;(refine cT ?_)<;>(refine qf ?_))|(refine qc 7 ?_;refine mv ?_;refine mv ?_)))
  ·simp at hc
  ·refine app (y0:=t) S rfl rfl ?_;clear S;intro v h S;(refine mv ?_;refine qf ?_);all_goals (repeat' (fail))
   refine qj ⟨_,rfl,?_⟩;simp only [zD4,List.drop_length];exact S
  all_goals exact absurd rfl (by assumption)
theorem qaX {h0 h:AH} {rs:List Rs} {p:Nat} {r:Rl} (S:Hs h0 h (Jz p r :: rs)) (a b:List UInt8) (k:Int) (hl:r.ts.length≤256) (hs:TS r.ts) :
 Fn Tryz.prog Xh 262 [.pointer (some ⟨p,0,none⟩),str a,str b,.int .u8 k] h (fun v h'=>v = .int .i64 (ZB r a b k).2∧Hs h0 h' (Jz p (ZB r a b k).1 :: rs)):=by
 obtain ⟨⟨vg,vt,m,mp,gs⟩,⟨q1,q2⟩,S⟩:=S.unpack;have e1:gs.length=r.us.length:=by rw [← q1];simp
 dsimp only [bkL,List.cons_append,List.nil_append] at q1 q2 S;refine qJ (by first|rfl) Tryz.func262 rfl rfl ?_;all_goals (repeat' (first|refine qg ?_|(refine qc 0 ?_;refine mv ?_;refine qf ?_)|(refine qc 1 ?_;refine mv ?_)))
 (refine qx rfl rfl rfl rfl rfl ((KU S.wf (Yw S .here)).mono ?_);rintro _ h ⟨rfl,x⟩)<;>(replace S:=S.join0 x;clear x;refine qf ?_)
 all_goals (repeat' (first|refine qg ?_|refine qh rfl ?_|refine qi ?_))
 (repeat (refine qg ?_));first|refine zB (σ:=Unit) (fun _ h'=>¬ ((k≠1∧k≠2)∨a=b)∧Hs h0 h' (.blk p [vg.val,vt.val,.map (some m)] 278 :: .sl vg.val 98 9 eG gs :: .sl vt.val 137 3 jY r.ts :: .mp m (.int .i64) mp :: Gv gs :: rs)) (fun _=>[(0,.pointer (some ⟨p,0,none⟩)),(1,str a),(2,str b),(3,.int .u8 k)]) ?_ ?_
 ·all_goals (repeat' (first|refine qg ?_|refine qh rfl ?_|refine qi ?_|(refine qc 3 ?_;refine mv ?_;(first|(refine cS ?_ ?_<;>intro hc))<;>(refine mv ?_;(first|refine off ?_|refine mv ?_);(first|refine off ?_|(first|(refine cS ?_ ?_<;>intro hc)))<;>(refine vl ?_;refine mv ?_;(first|refine off ?_|refine mv ?_);(first|refine off ?_|refine mv ?_);(first|refine off ?_|(refine tS ?_ ?_<;>intro hc))<;>(refine vl ?_;refine qf ?_))))|(refine qc 4 ?_;refine mv ?_;refine qf ?_)))
  all_goals first
   | exact ⟨(),⟨by omega,S⟩,((by repeat (fail)))⟩
   | exact ⟨(),⟨by grind,S⟩,(qy)⟩
   | ((refine qj ⟨_,rfl,?_⟩);rw [Po (by first|omega|grind)];exact ⟨rfl,S.bk vg vt m mp gs q1 q2⟩)
 clear S;rintro - h ⟨hk,S⟩;all_goals (repeat' (first|refine qg ?_|(refine qc 5 ?_;refine mv ?_;refine mv ?_)))
 refine bsn (α:=List UInt8) (z:=1) eS [a,b] S ?_;clear S;intro u h S;((refine XP S rfl rfl ?_);refine mv ?_;refine qf ?_);all_goals (repeat' (refine qo ?_))
 refine qH (σ:=Nat) (fun i h'=>Hs h0 h' (.sl u 9 1 eS [a,b] :: .blk p [vg.val,vt.val,.map (some m)] 278 :: .sl vg.val 98 9 eG gs :: .sl vt.val 137 3 jY r.ts :: .mp m (.int .i64) mp :: Gv gs :: rs)∧i≤2∧∀ j,j<i→gat r.us ([a,b].getD j default)≠none) (fun i=>2 - i) (fun i=>[(0,.pointer (some ⟨p,0,none⟩)),(1,str a),(2,str b),(3,.int .u8 k),(30,u),(31,.int .i64 ([a,b].length:Nat)),(32,.int .i64 i)]) 0 qy ?_ ?_
 ·exact ⟨S,zB0 _,fun j hj=>absurd hj (zB7 _)⟩
 clear S;rintro i h ⟨S,g1,g2⟩;all_goals (repeat' (first|refine qg ?_|refine qh rfl ?_|refine qi ?_|refine qB ?_|refine qo ?_|(refine qc 6 ?_;(first|(refine cS ?_ ?_<;>intro hc))<;>(refine qf ?_))|(refine qc 7 ?_;refine QX S rfl rfl ?_;refine ZF S rfl rfl ?_;refine mv ?_;refine qf ?_)|(refine qc 8 ?_;refine mv ?_;refine vl ?_;refine vl ?_;refine lB S rfl rfl ?_;refine mv ?_)|(refine qc 12 ?_;(iterate 3 refine mv ?_);skip)))
 ·have hi2:i<2:=by simp at hc;omega
  simp only [zA0];refine lk S (.there (.there (.there (.there .here)))) (fun y hy=>?_) (fun hy=>?_)
  ·simp only [okV];(refine mv ?_;refine vl ?_;refine vl ?_;refine mv ?_;refine mv ?_;refine qf ?_);all_goals (repeat' (first|refine qg ?_|refine qh rfl ?_|refine qi ?_|(refine qc 9 ?_;refine mv ?_;refine vl ?_;refine qf ?_)|(refine qc 11 ?_;refine ad ?_;refine mv ?_;refine qf ?_)))
   refine ⟨i+1,?_,?_,qy⟩
   ·show 2 - (i+1)<2 - i;omega
   ·refine ⟨S,by omega,jy g2 fun q=>?_⟩;rw [q2,q] at hy;cases hy
  ·simp only [okV];(refine mv ?_;refine vl ?_;refine vl ?_;refine mv ?_;refine mv ?_;refine qf ?_);all_goals (repeat' (first|refine qg ?_|refine qh rfl ?_|(refine qc 9 ?_;refine mv ?_;refine vl ?_;refine qf ?_)|(refine qc 10 ?_;refine mv ?_;refine qf ?_)))
   refine qj ⟨_,rfl,?_⟩;rw [q2] at hy;have hn:gat r.us ([a,b].getD i default)=none:=by
    cases hq:gat r.us ([a,b].getD i default) with
    | none=>rfl
    | some z=>rw [hq] at hy;cases hy
   rw [Gq hk (by
    rcases (show i=0∨i=1 by omega) with rfl|rfl
    ·exact .inl hn
    ·exact .inr hn)]
   exact ⟨rfl,S.bk vg vt m mp gs q1 q2⟩
 ·have hi2:i=2:=by simp at hc;omega
  have hk2:¬ (gat r.us a=none∨gat r.us b=none):=fun q=>by
   rcases q with q|q
   ·exact g2 0 (by omega) q
   ·exact g2 1 (by omega) q
  (refine qx rfl rfl rfl rfl rfl ((qbt S.wf (Yw S (.there .here)) (Rd.of_sl S (.there (.there (.there .here)))) (by omega) hs a b).mono ?_);rintro _ h ⟨⟨j,_ | _,rfl,p1,p2⟩,x⟩)<;>(replace S:=S.join0 x;clear x;refine mv ?_;refine vl ?_;refine vl ?_;refine mv ?_;refine mv ?_;refine qf ?_)
  ·have hk3:¬ tied r.ts a b:=fun q=>by have:=p2.2 ((p1.tied hs).1 q);cases this
   all_goals (repeat' (first|refine qg ?_|refine qh rfl ?_|refine qi ?_|(refine qc 13 ?_;refine mv ?_;refine qf ?_)|(refine qc 15 ?_;refine mv ?_;refine vl ?_;refine vl ?_;refine vl ?_;refine lB S rfl rfl ?_;refine XP S rfl rfl ?_;(first|(refine cS ?_ ?_<;>intro hc))<;>(refine qf ?_))|(refine qc 16 ?_;refine mv ?_;refine qf ?_)))
   ·refine qj ⟨_,rfl,?_⟩;rw [Gp hk hk2 hk3 (by omega)];exact ⟨rfl,S.bk vg vt m mp gs q1 q2⟩
   ·have hk4:¬ 256≤r.ts.length:=by omega
    (repeat (refine qg ?_));refine Qp (id:=17) [(5,(0,2))] [some (p)] ?_;refine qp ?_;(first|(refine mv ?_<;>refine qf ⟨⟨by (first|exact True.intro),rfl⟩,?_⟩));refine qp ?_;(first|(refine mv ?_<;>refine qf ⟨⟨by (first|exact True.intro),rfl⟩,?_⟩));refine qp ?_;(first|(refine vl ?_<;>refine qf ⟨⟨by (first|exact True.intro),rfl⟩,?_⟩));refine qp ?_;(first|(refine vl ?_<;>refine qf ⟨⟨by (first|exact True.intro),rfl⟩,?_⟩));refine qp ?_;(first|(refine vl ?_<;>refine qf ⟨⟨by (first|exact True.intro),rfl⟩,?_⟩));refine qp ?_;(first|(refine lB S rfl rfl ?_<;>refine qf ⟨⟨by (first|exact Or.inr rfl),rfl⟩,?_⟩));refine qp ?_;(first|(refine mv ?_<;>refine qf ⟨⟨by (first|exact True.intro),rfl⟩,?_⟩));refine qp ?_;(first|(refine mv ?_<;>refine qf ⟨⟨by (first|exact True.intro),rfl⟩,?_⟩));refine qp ?_;(first|(refine mv ?_<;>refine qf ⟨⟨by (first|exact True.intro),rfl⟩,?_⟩));refine qp ?_;(first|(refine mv ?_<;>refine qf ⟨⟨by (first|exact True.intro),rfl⟩,?_⟩));((refine qp ?_;first|refine qx rfl rfl rfl rfl rfl ((Pz S.wf a b k).mono ?_));rintro _ h ⟨rfl,x⟩)<;>((refine qf ⟨⟨True.intro,?_⟩,?_⟩;(focus ((show keepsX _ _ _ _ _;simp only [keepsX];(repeat' (first|exact True.intro|refine And.intro ?_ ?_));all_goals (intro hw;first|exact x.ext.old _ S.bB)))));replace S:=S.join0 x;clear x;refine qp ?_;(first|((refine one 3 S ?_;have S0:=S;clear S;intro u h S);refine qf ⟨⟨True.intro,?_⟩,?_⟩;(focus ((show keepsX _ _ _ _ _;simp only [keepsX];(repeat' (first|exact True.intro|refine And.intro ?_ ?_));all_goals (intro hw;first|exact (S.gB).trans (S0.gB).symm))));clear S0)))
    replace S:Hs h0 _ (.sl u 137 3 XK [jY (vG a b k)] :: _):=S;have S:=(show Hs h0 _ (.sl u 137 3 XK [jY (vG a b k)] :: .sl vt.val 137 3 jY r.ts :: .blk p [vg.val,vt.val,.map (some m)] 278 :: .sl vg.val 98 9 eG gs :: .mp m (.int .i64) mp :: Gv gs :: rs) from S.pick)
    refine qp ?_;refine qx rfl rfl rfl rfl rfl ((qcW j p1.1 (by omega) S).mono ?_);have S0:=S;clear S;rintro v h S;obtain ⟨vt',rfl⟩:=S.sV v;refine qf ⟨⟨True.intro,?_⟩,?_⟩;(focus ((show keepsX _ _ _ _ _;simp only [keepsX];(repeat' (first|exact True.intro|refine And.intro ?_ ?_));all_goals (intro hw;first|exact absurd hw (by decide +kernel)))));clear S0;(refine qp ?_;(first|(refine vl ?_<;>refine qf ⟨⟨by (first|exact True.intro),rfl⟩,?_⟩));refine qp ?_;(first|(refine vl ?_<;>refine qf ⟨⟨by (first|exact True.intro),rfl⟩,?_⟩));refine qp ?_;(first|(refine vl ?_<;>refine qf ⟨⟨by (first|exact True.intro),rfl⟩,?_⟩));refine qp ?_;(first|((refine sB S rfl rfl ?_;have S0:=S;clear S;intro h S);refine qf ⟨⟨True.intro,?_⟩,?_⟩;(focus ((show keepsX _ _ _ _ _;simp only [keepsX];(repeat' (first|exact True.intro|refine And.intro ?_ ?_));all_goals (intro hw;first|exact absurd hw (by decide +kernel)))));clear S0));refine Qq ?_);all_goals (repeat' (first|refine qg ?_|(refine qc 18 ?_;refine mv ?_;refine qf ?_)))
    refine qj ⟨_,rfl,?_⟩;rw [vF hk hk2 hk3 hk4,Wv (t:=vG a b k) p1];replace S:Hs h0 h (.sl vt'.val 137 3 jY (r.ts.take j ++ vG a b k :: r.ts.drop j) :: .blk p [vg.val,vt'.val,.map (some m)] 278 :: _):=S;exact ⟨rfl,S.bk vg vt' m mp gs q1 q2⟩
  ·have hk3:tied r.ts a b:=(p1.tied hs).2 (p2.1 rfl);all_goals (repeat' (first|refine qg ?_|refine qh rfl ?_|(refine qc 13 ?_;refine mv ?_;refine qf ?_)|(refine qc 14 ?_;refine mv ?_;refine qf ?_)))
   refine qj ⟨_,rfl,?_⟩;rw [Gt hk hk2 hk3];exact ⟨rfl,S.bk vg vt m mp gs q1 q2⟩
end Go.Proofs.Xx
namespace Go.Proofs.Xx
open Go Go.Proofs
structure RlV where
 vg:SlV
 vt:SlV
 gs:List Zh
def RlV.val (v:RlV):Value:=.agg #[v.vg.val,v.vt.val]
structure RlOk (h:AH) (v:RlV) (r:Rl):Prop where
 rg:qY h v.vg.val 9 eG v.gs
 rt:qY h v.vt.val 3 jY r.ts
 tg:∀ i,i<v.gs.length→qY h (v.gs.getD i default).tv.val 1 eS (v.gs.getD i default).tg∧(v.gs.getD i default).tg.length≤9223372036854775807
 us:v.gs.map (·.toGu)=r.us
 lg:r.us.length≤9223372036854775807
 lt:r.ts.length≤9223372036854775807
theorem RlOk.ext {h h':AH} {v:RlV} {r:Rl} (a:RlOk h v r) (w:WfH h) (x:Ext h h'):RlOk h' v r:=⟨a.rg.ext w x,a.rt.ext w x,fun i hi=>⟨(a.tg i hi).1.ext w x,(a.tg i hi).2⟩,a.us,a.lg,a.lt⟩
theorem RlOk.len {h:AH} {v:RlV} {r:Rl} (a:RlOk h v r):v.gs.length=r.us.length:=by rw [← a.us];simp
theorem zq {α β:Type} [Inhabited α] [Inhabited β] {f:α→β} {l:List α} {i:Nat} (hi:i<l.length):(l.map f).getD i default=f (l.getD i default):=by
 rw [zA2,zA2,zH7,zA4 hi];rfl
theorem RlOk.at_ {h:AH} {v:RlV} {r:Rl} (a:RlOk h v r) {i:Nat} (hi:i<v.gs.length):(v.gs.getD i default).toGu=r.us.getD i default:=by rw [← a.us,zq hi]
noncomputable def gE0 (us:List Gu) (i:Nat):Int:=(Yx ⟨us.take i,[]⟩ (us.getD i default)).2
open Classical in
noncomputable def Xn (r:Rl) (i:Nat):Int :=
 if jV (r.ts.getD i default).a (r.ts.getD i default).b∧(i=0∨¬ Zg (r.ts.getD i default) (r.ts.getD (i - 1) default)) then (ZB ⟨r.us,r.ts.take i⟩ (r.ts.getD i default).a (r.ts.getD i default).b (r.ts.getD i default).k).2 else 23
def VRl (r:Rl):Prop:=(∀ i,i<r.us.length→gE0 r.us i=0)∧∀ i,i<r.ts.length→Xn r i=0
def Bad (r:Rl) (i e:Int):Prop:=e≠0∧((∃ j:Nat,j<r.us.length∧(∀ k,k<j→gE0 r.us k=0)∧gE0 r.us j=e∧i=j)∨((∀ k,k<r.us.length→gE0 r.us k=0)∧∃ j:Nat,j<r.ts.length∧(∀ k,k<j→Xn r k=0)∧Xn r j=e∧i=r.us.length+j))
theorem WT {p:Nat→Int} {j k:Nat} (h1:∀ i,i<j→p i=0) (h2:p j≠0) (h3:∀ i,i<k→p i=0) (h4:p k≠0):j=k:=by
 rcases zE7 j k with q|q|q
 ·exact absurd (h3 j q) h2
 ·exact q
 ·exact absurd (h1 k q) h4
theorem Bad.uniq {r:Rl} {i e i' e':Int} (a:Bad r i e) (b:Bad r i' e'):i=i'∧e=e':=by
 obtain ⟨h1,a⟩:=a;obtain ⟨h2,b⟩:=b;rcases a with ⟨j,a1,a2,a3,a4⟩|⟨a0,j,a1,a2,a3,a4⟩<;>rcases b with ⟨k,b1,b2,b3,b4⟩|⟨b0,k,b1,b2,b3,b4⟩
 ·obtain rfl:=WT a2 (a3 ▸ h1) b2 (b3 ▸ h2);exact ⟨a4.trans b4.symm,a3.symm.trans b3⟩
 ·exact absurd (b0 j a1) (a3 ▸ h1)
 ·exact absurd (a0 k b1) (b3 ▸ h2)
 ·obtain rfl:=WT a2 (a3 ▸ h1) b2 (b3 ▸ h2);exact ⟨a4.trans b4.symm,a3.symm.trans b3⟩
theorem Bad.not {r:Rl} {i e:Int} (a:Bad r i e):¬ VRl r:=fun v=>by
 obtain ⟨h1,⟨j,a1,a2,a3,a4⟩|⟨a0,j,a1,a2,a3,a4⟩⟩:=a
 ·exact h1 (a3 ▸ v.1 j a1)
 ·exact h1 (a3 ▸ v.2 j a1)
theorem Y2 {r:Rl} {g:Gu} (h:(Yx r g).2=0):Qv g=0∧gat r.us g.name=none∧r.us.length<64∧(Yx r g).1=⟨r.us ++ [g],r.ts⟩:=by
 by_cases h1:Qv g=0
 ·by_cases h2:gat r.us g.name=none
  ·by_cases h3:64≤r.us.length
   ·rw [pV h1 h2 h3] at h;cases h
   ·rw [wW h1 h2 h3];exact ⟨h1,h2,by omega,rfl⟩
  ·rw [pW h1 h2] at h;cases h
 ·rw [pU h1] at h;exact absurd h h1
theorem J7 {r:Rl} {a b:List UInt8} {k:Int} (h:(ZB r a b k).2=0):(k=1∨k=2)∧a≠b∧gat r.us a≠none∧gat r.us b≠none∧¬ tied r.ts a b∧r.ts.length<256∧(ZB r a b k).1=⟨r.us,G6 r.ts (vG a b k)⟩:=by
 by_cases h1:(k≠1∧k≠2)∨a=b
 ·rw [Po h1] at h;cases h
 ·by_cases h2:gat r.us a=none∨gat r.us b=none
  ·rw [Gq h1 h2] at h;cases h
  ·by_cases h3:tied r.ts a b
   ·rw [Gt h1 h2 h3] at h;cases h
   ·by_cases h4:256≤r.ts.length
    ·rw [Gp h1 h2 h3 h4] at h;cases h
    ·rw [vF h1 h2 h3 h4];exact ⟨by omega,fun q=>h1 (.inr q),fun q=>h2 (.inl q),fun q=>h2 (.inr q),h3,by omega,rfl⟩
theorem zn {α:Type} [Inhabited α] {l:List α} {i:Nat} (hi:i<l.length):l.take (i+1)=l.take i ++ [l.getD i default]:=by
 rw [List.take_add_one,zA2,zA4 hi];rfl
theorem PH {us:List Gu} {i:Nat} (hi:i≤us.length) (h:∀ k,k<i→gE0 us k=0):i≤64:=by
 cases i with
 | zero=>omega
 | succ i =>
  have:=(Y2 (h i (zG0 i))).2.2.1;simp at this;omega
theorem getD_take {α:Type} [Inhabited α] {l:List α} {i j:Nat} (h:j<i):(l.take i).getD j default=l.getD j default:=by
 rw [zA2,zA2,zC7,if_pos h]
theorem TS.mk_ {ts:List Ti} (h:∀ i j,i<j→j<ts.length→Zg (ts.getD i default) (ts.getD j default)):TS ts:=by
 rw [TS,zD2];intro i j hi hj hij;have:=h i j hij hj;rw [zA2,zA2,zA4 hj,zA4 hi] at this;exact this
theorem TS.app {ts:List Ti} {t:Ti} (h:TS ts) (h2:∀ j,j<ts.length→Zg (ts.getD j default) t):TS (ts ++ [t]):=TS.mk_ fun i j hij hj=>by
 simp at hj;rw [gA1 (show i<ts.length by omega)];rcases zA7 j ts.length with q|q
 ·rw [gA1 q];exact h.lt hij q
 ·obtain rfl:j=ts.length:=by omega
  rw [gA2 (zA3 _),zG6];exact h2 i (by omega)
theorem X5 {r:Rl} {i:Nat} (h:Xn r i=0):jV (r.ts.getD i default).a (r.ts.getD i default).b∧(i=0∨¬ Zg (r.ts.getD i default) (r.ts.getD (i - 1) default))∧(ZB ⟨r.us,r.ts.take i⟩ (r.ts.getD i default).a (r.ts.getD i default).b (r.ts.getD i default).k).2=0:=by
 unfold Xn at h;split at h
 ·rename_i q;exact ⟨q.1,q.2,h⟩
 ·cases h
theorem VP {a b:List UInt8} (h:jV a b):YL a b=a:=by unfold YL;rw [if_neg (YN h)]
theorem VQ {a b:List UInt8} (h:jV a b):YM a b=b:=by unfold YM;rw [if_pos h]
theorem vI {r:Rl}:∀ {i:Nat},i≤r.ts.length→(∀ k,k<i→Xn r k=0)→TS (r.ts.take i)∧(i<r.ts.length→Xn r i=0→∀ j,j<i→Zg (r.ts.getD j default) (r.ts.getD i default))
 | i,hi,h=>by
  have key:∀ i,i≤r.ts.length→(∀ k,k<i→Xn r k=0)→TS (r.ts.take i)→i<r.ts.length→Xn r i=0→∀ j,j<i→Zg (r.ts.getD j default) (r.ts.getD i default):=by
   intro i hi h hs hl h0 j hj;obtain ⟨z1,z2,z3⟩:=X5 h0;have z4:=(J7 z3).2.2.2.2.1;have hp:Zg (r.ts.getD (i - 1) default) (r.ts.getD i default):=by
    rcases wV (r.ts.getD (i - 1) default) (r.ts.getD i default) with q|⟨e1,e2⟩|q
    ·exact q
    ·refine absurd ⟨r.ts.getD (i - 1) default,?_,?_⟩ z4
     ·rw [← getD_take (show i - 1<i by omega)];have hl2:i - 1<(r.ts.take i).length:=by simp;omega
      rw [zA2,zA4 hl2];exact List.getElem_mem hl2
     ·rw [VP z1,VQ z1];exact ⟨e1,e2⟩
    ·rcases z2 with z2|z2
     ·omega
     ·exact absurd q z2
   rcases zA7 j (i - 1) with q|q
   ·have hl2:i - 1<(r.ts.take i).length:=by simp;omega
    have:=hs.lt q hl2;rw [getD_take (by omega),getD_take (by omega)] at this;exact Q7 this hp
   ·obtain rfl:j=i - 1:=by omega
    exact hp
  have all:∀ i,i≤r.ts.length→(∀ k,k<i→Xn r k=0)→TS (r.ts.take i):=by
   intro i;induction i with
   | zero=>intro _ _;simp [TS]
   | succ i ih =>
    intro hi h;have hs:=ih (by omega) fun k hk=>h k (by omega);rw [zn (by omega)];refine hs.app fun j hj=>?_;simp at hj;rw [getD_take (by omega)];exact key i (by omega) (fun k hk=>h k (by omega)) hs (by omega) (h i (by omega)) j (by omega)
  exact ⟨all i hi h,key i hi h (all i hi h)⟩
theorem Pq {r:Rl} {i:Nat} (hi:i≤r.ts.length) (h:∀ k,k<i→Xn r k=0):i≤256:=by
 cases i with
 | zero=>omega
 | succ i =>
  have:=(J7 (X5 (h i (zG0 i))).2.2).2.2.2.2.2.1;simp at this;omega
theorem qcA {r:Rl} {i:Nat} (hi:i<r.ts.length) (h:∀ k,k<i→Xn r k=0) (h0:Xn r i=0):(ZB ⟨r.us,r.ts.take i⟩ (r.ts.getD i default).a (r.ts.getD i default).b (r.ts.getD i default).k).1=⟨r.us,r.ts.take (i+1)⟩:=by
 obtain ⟨z1,z2,z3⟩:=X5 h0;rw [(J7 z3).2.2.2.2.2.2];have e:vG (r.ts.getD i default).a (r.ts.getD i default).b (r.ts.getD i default).k=r.ts.getD i default:=by unfold vG;rw [VP z1,VQ z1]
 have hl:(r.ts.take i).length=i:=by simp;omega
 show (⟨r.us,G6 (r.ts.take i) _⟩:Rl)=_
 rw [e,Wv (i:=i) ⟨by omega,fun j hj=>by rw [getD_take hj];exact (vI (by omega) h).2 hi h0 j hj,fun j h1 h2=>by omega⟩,zn hi];simp [List.take_take]
theorem qeo {c:Int} {x t:Ti} (e1:c<0↔Zg x t) (e2:c=0↔x.a=t.a∧x.b=t.b):c≤0↔¬ Zg t x:=by
 constructor
 ·intro z q;rcases Int.lt_or_eq_of_le z with z|z
  ·exact PQ _ (Q7 (e1.1 z) q)
  ·have:=e2.1 z;rcases q with q|q
   ·rw [this.1] at q;exact zK _ q
   ·rw [this.2] at q;exact zK _ q.2
 ·intro z;rcases wV x t with q|q|q
  ·have:=e1.2 q;omega
  ·have:=e2.2 q;omega
  ·exact absurd q z
variable [Flag]
theorem qcQ {h0:AH} (w:WfH h0) (v:RlV) (r:Rl) (H:RlOk h0 v r) :
 Fn Tryz.prog Xh 203 [v.val] h0 (fun u h'=>(∃ p,u = .tuple #[.pointer (some ⟨p,0,none⟩),.int .i64 0,.int .i64 0]∧VRl r∧Hs h0 h' [Jz p r])∨(∃ i e,u = .tuple #[.pointer none,.int .i64 i,.int .i64 e]∧Bad r i e∧Hs h0 h' [])):=by
 have S:=Hs.start w;have hgl:=H.len;have hrg:=H.rg;have hrt:=H.rt;have hlg:=H.lg;have hlt:=H.lt;unfold RlV.val;refine qJ (by first|rfl) Tryz.func203 rfl rfl ?_;all_goals (repeat' (first|refine qg ?_|(refine qc 0 ?_;(refine bx S ?_;clear S;intro b h S);(iterate 3 refine mv ?_);refine qf ?_)|(refine qc 1 ?_;skip)))
 (refine qx rfl rfl rfl rfl rfl ((qd7 S.wf).mono ?_);rintro _ h ⟨p,rfl,x⟩)<;>(replace S:=S.join1 x;clear x;refine mv ?_;refine qf ?_)
 all_goals (repeat' (first|refine qg ?_|refine qo ?_|(refine qc 2 ?_;refine vl ?_;refine lB S rfl rfl ?_;refine zC S ?_;refine mv ?_;refine qf ?_)))
 obtain ⟨q,hnm⟩:∃ x,x=b:=⟨_,rfl⟩;subst hnm;replace S:Hs h0 h [Jz p ⟨[],[]⟩,.blk q [v.vg.val,v.vt.val] 158]:=S;refine qH (σ:=Nat) (fun i h'=>Hs h0 h' [Jz p ⟨r.us.take i,[]⟩,.blk q [v.vg.val,v.vt.val] 158]∧i≤r.us.length∧∀ k,k<i→gE0 r.us k=0) (fun i=>r.us.length - i) (fun i=>[(1,.pointer (some ⟨q,0,none⟩)),(5,.pointer (some ⟨p,0,none⟩)),(14,v.vg.val),(15,.int .i64 v.gs.length),(16,.int .i64 i)]) 0 qy ?_ ?_
 ·exact ⟨S,zB0 _,fun j hj=>absurd hj (zB7 _)⟩
 clear S;rintro i h ⟨S,g1,g2⟩;have hi64:=PH g1 g2;all_goals (repeat' (first|refine qg ?_|refine qh rfl ?_|refine qi ?_|refine qB ?_|refine qo ?_|(refine qc 3 ?_;(first|(refine cS ?_ ?_<;>intro hc))<;>(refine qf ?_))|(refine qc 4 ?_;refine mv ?_;refine zW S ?_;refine zV S ?_;(refine al S ?_;clear S;intro b h S);refine mv ?_;(first|(refine sB S rfl rfl ?_;clear S;intro h S));refine qf ?_)|(refine qc 5 ?_;refine mv ?_;refine lB S rfl rfl ?_)|(refine qc 9 ?_;refine vl ?_;refine lB S rfl rfl ?_;refine zC S ?_;refine mv ?_;refine qf ?_)))
 ·have hil:i<v.gs.length:=by omega
  have hat:=H.at_ hil;simp only [zA0] at S;simp only [zA0];have htl:(r.us.take i).length≤64:=by simp;omega
  (refine qx rfl rfl rfl rfl rfl ((qet (S.front (.there .here)) (v.gs.getD i default) (RdS.base w (H.tg i hil).1) (H.tg i hil).2 htl).mono ?_);rintro _ h ⟨rfl,S⟩)<;>(refine mv ?_;refine qf ?_)
  rw [hat] at S;simp only [hat];all_goals (repeat' (first|refine qg ?_|refine qh rfl ?_|refine qi ?_|(refine qc 6 ?_;refine mv ?_;(first|(refine cS ?_ ?_<;>intro hc))<;>(refine qf ?_))|(refine qc 7 ?_;(iterate 5 refine mv ?_);refine qf ?_)|(refine qc 8 ?_;refine ad ?_;refine mv ?_;refine qf ?_)))
  ·refine qj ⟨_,rfl,?_⟩;exact .inr ⟨i,_,rfl,⟨hc,.inl ⟨i,by omega,g2,rfl,rfl⟩⟩,S.drop⟩
  ·have hz:gE0 r.us i=0:=zF3.1 hc;rw [(Y2 hz).2.2.2] at S;refine ⟨i+1,?_,?_,qy⟩
   ·show r.us.length - (i+1)<r.us.length - i;omega
   ·refine ⟨?_,by omega,jy g2 hz⟩;rw [zn (by omega)];exact S.pick
 ·obtain rfl:i=r.us.length:=by omega
  rw [zD4] at S;refine qH (σ:=Nat) (fun i h'=>Hs h0 h' [Jz p ⟨r.us,r.ts.take i⟩,.blk q [v.vg.val,v.vt.val] 158]∧i≤r.ts.length∧∀ k,k<i→Xn r k=0) (fun i=>r.ts.length - i) (fun i=>[(1,.pointer (some ⟨q,0,none⟩)),(5,.pointer (some ⟨p,0,none⟩)),(30,v.vt.val),(31,.int .i64 r.ts.length),(32,.int .i64 i)]) 0 qy ?_ ?_
  ·exact ⟨S,zB0 _,fun j hj=>absurd hj (zB7 _)⟩
  clear S;rintro i h ⟨S,k1,k2⟩;have hi256:=Pq k1 k2;have hTS:=(vI k1 k2).1;have htl:(r.ts.take i).length≤256:=by simp;omega
  all_goals (repeat' (first|refine qg ?_|refine qh rfl ?_|refine qi ?_|refine qB ?_|refine qo ?_|(refine qc 10 ?_;(first|(refine cS ?_ ?_<;>intro hc))<;>(refine qf ?_))|(refine qc 11 ?_;refine mv ?_;refine zW S ?_;refine zV S ?_;(refine al S ?_;clear S;intro b h S);refine mv ?_;(first|(refine sB S rfl rfl ?_;clear S;intro h S));refine qf ?_)|(refine qc 12 ?_;refine mv ?_;refine qf ?_)|(refine qc 18 ?_;(iterate 4 refine mv ?_);refine qf ?_)))
  ·obtain ⟨t,ht⟩:∃ t,t=r.ts.getD i default:=⟨_,rfl⟩
   simp only [zA0] at S;simp only [zA0];replace S:Hs h0 h [.blk b (jY t) 137,Jz p ⟨r.us,r.ts.take i⟩,.blk q [v.vg.val,v.vt.val] 158]:=by rw [ht];exact S
   (repeat (refine qg ?_));first|refine zB (σ:=Rl) (fun r' h'=>Hs h0 h' [Jz p r',.blk q [v.vg.val,v.vt.val] 158]∧(Xn r i=0→r'=⟨r.us,r.ts.take (i+1)⟩)) (fun r'=>[(1,.pointer (some ⟨q,0,none⟩)),(5,.pointer (some ⟨p,0,none⟩)),(9,.int .i64 i),(11,.int .i64 (Xn r i)),(30,v.vt.val),(31,.int .i64 r.ts.length),(32,.int .i64 i)]) ?_ ?_
   ·have he1:jV t.a t.b→(i=0∨¬ Zg t (r.ts.getD (i - 1) default))→Xn r i=(ZB ⟨r.us,r.ts.take i⟩ t.a t.b t.k).2:=fun z1 z2=>by rw [ht] at z1 z2 ⊢;unfold Xn;rw [if_pos ⟨z1,z2⟩]
    have he2:¬ (jV t.a t.b∧(i=0∨¬ Zg t (r.ts.getD (i - 1) default)))→Xn r i=23:=fun z=>by rw [ht] at z;unfold Xn;rw [if_neg z]
    have he3:Xn r i=0→(ZB ⟨r.us,r.ts.take i⟩ t.a t.b t.k).1=⟨r.us,r.ts.take (i+1)⟩:=fun z=>by rw [ht];exact qcA (by omega) k2 z
    all_goals (repeat' (first|refine qh rfl ?_|refine qi ?_|(refine zx 13 ?_;refine vl ?_;refine lB S rfl rfl ?_;refine vl ?_;refine lB S rfl rfl ?_;(refine tO ?_ ?_<;>intro hc)<;>(refine mv ?_;(first|refine off ?_|refine mv ?_);(first|refine off ?_|(first|(refine cS ?_ ?_<;>intro hc)))<;>((first|refine off ?_|refine mv ?_);(first|refine off ?_|(refine vl ?_));(first|refine off ?_|(refine lB S rfl rfl ?_));(first|refine off ?_|refine mv ?_);(first|refine off ?_|(refine sb ?_));(first|refine off ?_|(refine zW S ?_));(first|refine off ?_|(refine zV S ?_));(first|refine off ?_|(refine lB S rfl rfl ?_));(first|(refine off ?_;(refine off ?_)<;>((first|refine off ?_|refine vl ?_);refine vl ?_;refine qf ?_))|skip))))))
    ·all_goals (repeat' (first|(refine qc 14 ?_;refine mv ?_;refine vl ?_;refine lB S rfl rfl ?_;refine vl ?_;refine lB S rfl rfl ?_;refine vl ?_;refine lB S rfl rfl ?_)))
     (refine qx rfl rfl rfl rfl rfl ((qaX (S.front (.there .here)) t.a t.b t.k htl hTS).mono ?_);rintro _ h ⟨rfl,S⟩)<;>(refine mv ?_;refine qf ?_)
     have he:=he1 (by assumption) (.inl (by omega));refine ⟨_,⟨S.pick,he3⟩,?_⟩;rw [he];exact qy
    ·(refine qx rfl rfl rfl rfl rfl ((WC S.wf (r.ts.getD ((i:Int) - 1).toNat default) t).mono ?_);rintro _ h ⟨⟨c,rfl,e1,e2⟩,x⟩)<;>(replace S:=S.join0 x;clear x;(first|(first|(refine cS ?_ ?_<;>intro hc)))<;>((refine vl ?_);refine vl ?_;refine qf ?_))
     all_goals rw [show ((i:Int) - 1).toNat=i - 1 by omega] at e1 e2
     all_goals have ec:=qeo e1 e2
     all_goals (repeat' (first|refine qh rfl ?_|refine qi ?_))
     ·all_goals (repeat' (first|(refine qc 14 ?_;refine mv ?_;refine vl ?_;refine lB S rfl rfl ?_;refine vl ?_;refine lB S rfl rfl ?_;refine vl ?_;refine lB S rfl rfl ?_)))
      (refine qx rfl rfl rfl rfl rfl ((qaX (S.front (.there .here)) t.a t.b t.k htl hTS).mono ?_);rintro _ h ⟨rfl,S⟩)<;>(refine mv ?_;refine qf ?_)
      have he:=he1 (by assumption) (.inr (ec.1 (by assumption)));refine ⟨_,⟨S.pick,he3⟩,?_⟩;rw [he];exact qy
     ·have he:=he2 (fun z=>z.2.elim (fun q=>by omega) (fun q=>absurd (ec.2 q) (by assumption)));refine ⟨⟨r.us,r.ts.take i⟩,⟨S.pick,fun q=>by rw [he] at q;cases q⟩,?_⟩;rw [he];exact qy
    ·have he:=he2 (fun z=>absurd z.1 (by assumption));refine ⟨⟨r.us,r.ts.take i⟩,⟨S.pick,fun q=>by rw [he] at q;cases q⟩,?_⟩;rw [he];exact qy
   ·clear S;rintro r' h ⟨S,hr'⟩;all_goals (repeat' (first|refine qg ?_|refine qh rfl ?_|refine qi ?_|(refine qc 15 ?_;refine mv ?_;(first|(refine cS ?_ ?_<;>intro hc))<;>(refine qf ?_))|(refine zx 16 ?_;refine vl ?_;refine lB S rfl rfl ?_;refine zC S ?_;refine mv ?_;refine ad ?_;(iterate 4 refine mv ?_);refine qf ?_)|(refine qc 17 ?_;refine ad ?_;refine mv ?_;refine qf ?_)))
    ·refine qj ⟨_,rfl,?_⟩;exact .inr ⟨_,_,rfl,⟨hc,.inr ⟨g2,i,by omega,k2,rfl,by rw [hgl]⟩⟩,S.drop⟩
    ·have hz:Xn r i=0:=zF3.1 hc;obtain rfl:=hr' hz;refine ⟨i+1,?_,?_,qy⟩
     ·show r.ts.length - (i+1)<r.ts.length - i;omega
     ·exact ⟨S,by omega,jy k2 hz⟩
  ·refine qj ⟨_,rfl,?_⟩;obtain rfl:i=r.ts.length:=by omega
   rw [zD4] at S;exact .inl ⟨p,rfl,⟨g2,k2⟩,S.pick⟩
end Go.Proofs.Xx
