/-
  A pair is put into the list;Tie.
-/
import Derived.Test.YtnponmgkfkdkaaaGreatDoorM8
set_option linter.unusedSimpArgs false
set_option linter.unusedVariables false
set_option maxRecDepth 100000
set_option linter.unusedSectionVars false
set_option maxHeartbeats 4000000
namespace Go.Proofs.Xx
open Go Go.Proofs
instance (x y:Ti):Decidable (Z7 x y):=inferInstanceAs (Decidable (_∨_))
def gu (a b:List UInt8) (k:Int):Ti:=⟨VA a b,VB a b,k⟩
def tied (ts:List Ti) (a b:List UInt8):Prop:=∃ t∈ts,t.a=VA a b∧t.b=VB a b
def qaW:List Ti→Ti→List Ti
 | [],t=>[t]
 | x :: r,t=>if Z7 x t then x :: qaW r t else t :: x :: r
open Classical in
noncomputable def Z8 (r:Rl) (a b:List UInt8) (k:Int):Rl×Int :=
 if (k≠1∧k≠2)∨a=b then (r,23) else if gat r.us a=none∨gat r.us b=none then (r,6) else if tied r.ts a b then (r,5) else if 256≤r.ts.length then (r,7) else (⟨r.us,qaW r.ts (gu a b k)⟩,0)
theorem xU {t:Ti}:∀ {l:List Ti} {i:Nat},Plc l t i→qaW l t=l.take i ++ t :: l.drop i
 | [],i,h=>by simp [qaW]
 | x :: r,0,h=>by
  have:=h.2.2 0 (zA3 _) (by simp);show (if Z7 x t then _ else _)=_
  rw [if_neg (show ¬ Z7 x t from this)];rfl
 | x :: r,i+1,h=>by
  have h0:=h.2.1 0 (Nat.succ_pos _);show (if Z7 x t then _ else _)=_
  rw [if_pos (show Z7 x t from h0),xU (l:=r) (i:=i) ⟨by have:=h.1;simp at this;omega,fun j hj=>h.2.1 (j+1) (by omega),fun j h1 h2=>h.2.2 (j+1) (by omega) (by simp;omega)⟩];rfl
theorem Plc.tied {l:List Ti} {a b:List UInt8} {i:Nat} (hs:TS l) (h:Plc l ⟨VA a b,VB a b,0⟩ i):tied l a b↔i<l.length∧(l.getD i default).a=VA a b∧(l.getD i default).b=VB a b:=by
 constructor
 ·rintro ⟨t,ht,e1,e2⟩;obtain ⟨j,hj,rfl⟩:=List.mem_iff_getElem.1 ht;have eg:l.getD j default=l[j]:=by rw [zA2,zA4 hj];rfl
  have hji:i≤j:=by
   rcases zA7 j i with q|q
   ·have:=h.2.1 j q;rw [eg] at this;rcases this with q|q
    ·rw [e1] at q;exact absurd q (zL _)
    ·rw [e2] at q;exact absurd q.2 (zL _)
   ·exact q
  rcases zA7 i j with q|q
  ·have q1:=hs.lt q hj;rw [eg] at q1;refine absurd ?_ (h.2.2 i (zA3 _) (by omega));unfold Z7 at q1 ⊢;rw [e1,e2] at q1;exact q1
  ·obtain rfl:i=j:=by omega
   rw [eg];exact ⟨hj,e1,e2⟩
 ·rintro ⟨h1,h2,h3⟩;refine ⟨_,List.getElem_mem h1,?_⟩;rw [show l[i]=l.getD i default by rw [zA2,zA4 h1];rfl];exact ⟨h2,h3⟩
theorem qbA {r:Rl} {a b:List UInt8} {k:Int} (h:(k≠1∧k≠2)∨a=b):Z8 r a b k=(r,23):=by unfold Z8;rw [if_pos h]
theorem qaw {r:Rl} {a b:List UInt8} {k:Int} (h:¬ ((k≠1∧k≠2)∨a=b)) (h2:gat r.us a=none∨gat r.us b=none):Z8 r a b k=(r,6):=by unfold Z8;rw [if_neg h,if_pos h2]
theorem qax {r:Rl} {a b:List UInt8} {k:Int} (h:¬ ((k≠1∧k≠2)∨a=b)) (h2:¬ (gat r.us a=none∨gat r.us b=none)) (h3:tied r.ts a b):Z8 r a b k=(r,5):=by unfold Z8;rw [if_neg h,if_neg h2,if_pos h3]
theorem qav {r:Rl} {a b:List UInt8} {k:Int} (h:¬ ((k≠1∧k≠2)∨a=b)) (h2:¬ (gat r.us a=none∨gat r.us b=none)) (h3:¬ tied r.ts a b) (h4:256≤r.ts.length):Z8 r a b k=(r,7):=by unfold Z8;rw [if_neg h,if_neg h2,if_neg h3,if_pos h4]
theorem gq {r:Rl} {a b:List UInt8} {k:Int} (h:¬ ((k≠1∧k≠2)∨a=b)) (h2:¬ (gat r.us a=none∨gat r.us b=none)) (h3:¬ tied r.ts a b) (h4:¬ 256≤r.ts.length):Z8 r a b k=(⟨r.us,qaW r.ts (gu a b k)⟩,0):=by unfold Z8;rw [if_neg h,if_neg h2,if_neg h3,if_neg h4]
variable [Flag]
theorem qfN {h0 h:AH} {rs:List Rs} {vt:SlV} {v1:Value} {l:List Ti} {t:Ti} (i:Nat) (hi:i≤l.length) (hl:l.length≤1000000) (S:Hs h0 h (.sl v1 198 3 YN [QG t] :: .sl vt.val 198 3 QG l :: rs)) :
 Fn Tryz.prog Xh 364 [vt.val,.int .i64 i,v1] h (fun u h'=>Hs h0 h' (.sl u 198 3 QG (l.take i ++ t :: l.drop i) :: rs)):=by
 have hfl:=zy (enc:=QG) (z:=3) (by intro _;rfl) l;obtain ⟨f1,k1,k2,f2,k3,k4,k5⟩:=S.sep;rcases k1 with ⟨-,k⟩|⟨vb,vo,vcc,vslk,vcap,rfl,g1,fv,t1,c1,s1⟩
 ·cases k
 replace S:Hs h0 h (.sl (.slice (some ⟨vb,vo,none⟩) 1 vcap) 198 3 YN [QG t] :: .sl vt.val 198 3 QG l :: rs):=S;show Fn Tryz.prog Xh 364 [vt.val,.int .i64 i,.slice (some ⟨vb,vo,none⟩) 1 vcap] h _
 by_cases hlt:i<l.length
 ·rcases k3 with ⟨-,rfl⟩|⟨b,o,cc,slk,cap,e2,g2,fb,t2,c2,s2⟩
  ·exact absurd hlt (by simp)
  rw [e2];have hne:(!Nat.beq b vb)=true:=by
   cases hq:Nat.beq b vb with
   | false=>rfl
   | true=>have:=zA6 hq;subst this;exact absurd fv (k4 b fb).2.2.2
  have hone:((l.flatMap QG).all one?)=true:=by
   rw [zC8];intro x hx;obtain ⟨y,-,hy⟩:=zG9.1 hx;simp [QG] at hy
   rcases hy with rfl|rfl|rfl<;>rfl
  refine JW (v:=.slice (some ⟨h.next,0,none⟩) (l.length+1) (l.length+1)) (h':=(h.put b .dead).add (.cells ((l.flatMap QG).take (i*3) ++ (QG t ++ (l.flatMap QG).drop (i*3))) 198 (some 3) false)) ?_ ?_
  ·show J4 X0 364 364 [.slice (some ⟨b,o,none⟩) l.length cap,.int .i64 (.ofNat i),.slice (some ⟨vb,vo,none⟩) 1 vcap] h=_
   unfold J4;have hb1:Nat.blt i l.length=true:=by rw [Nat.blt_eq];exact hlt
   have t1':zq vcc vo 3=some (QG t):=by simpa [YN] using t1
   have hc2:Nat.ble (o+cap*3) cc.length=true:=zB3 c2.2;have hsz:Nat.ble ((l.length+1)*40) 140737488355328=true:=zB3 (by omega);have hot:((QG t).all one?)=true:=rfl;simp only [show Nat.beq 364 364=true from rfl,hb1,g2,g1,t2,t1',hc2,hsz,hone,hot,hne,Bool.and_true,show Nat.beq 198 198=true from rfl];rcases s2 with rfl|rfl<;>rfl
  ·have W:=(S.wf.put (k4 b fb).2.1 .dead)
   have S2:Hs h0 ((h.put b .dead).add (.cells ((l.flatMap QG).take (i*3) ++ (QG t ++ (l.flatMap QG).drop (i*3))) 198 (some 3) false)) (.sl (.slice (some ⟨vb,vo,none⟩) 1 vcap) 198 3 YN [QG t] :: .sl (.slice (some ⟨h.next,0,none⟩) (l.length+1) (l.length+1)) 198 3 QG (l.take i ++ t :: l.drop i) :: rs):=by
    refine S.turn (.there .here) (Nat.le_succ _) (W.add _) fun fp q1 q2=>?_;rcases q1 with ⟨q1,-⟩|⟨b2,o2,cc2,sl2,cap2,q1,-,q3,-⟩
    ·rw [q1] at e2;cases e2
    obtain rfl:b2=b:=by rw [q1] at e2;cases e2;rfl
    refine ⟨fun j hj hf=>?_,fun j=>j=h.next,.inr ⟨h.next,0,(l.flatMap QG).take (i*3) ++ (QG t ++ (l.flatMap QG).drop (i*3)),some 3,l.length+1,?_,?_,rfl,?_,⟨?_,?_⟩,.inr rfl⟩,fun j hj=>?_⟩
    ·rw [AH.zf,if_neg (by show j≠h.next;omega),AH.get_put,if_neg];intro q;subst q;exact hf q3
    ·simp;omega
    ·rw [AH.zf];exact if_pos rfl
    ·have e:((l.flatMap QG).take (i*3) ++ (QG t ++ (l.flatMap QG).drop (i*3)))=(l.take i ++ t :: l.drop i).flatMap QG:=by
      rw [List.flatMap_append,zG2,QX (z:=3) (by intro _;rfl),QY (z:=3) (by intro _;rfl)]
     rw [e];rw [← zy (enc:=QG) (z:=3) (by intro _;rfl)];exact jQ _
    ·simp;omega
    ·simp [hfl,QG];omega
    ·subst hj;exact ⟨zG0 _,.inr (zA3 _)⟩
   exact S2.tail
 ·obtain rfl:i=l.length:=by omega
  have hX:Xh 364 [vt.val,.int .i64 l.length,.slice (some ⟨vb,vo,none⟩) 1 vcap] h=none:=by
   rcases k3 with ⟨e2,rfl⟩|⟨b,o,cc,slk,cap,e2,-⟩
   ·rw [e2];rfl
   ·rw [e2];show J4 X0 364 364 [.slice (some ⟨b,o,none⟩) l.length cap,.int .i64 (.ofNat l.length),.slice (some ⟨vb,vo,none⟩) 1 vcap] h=_
    unfold J4;have hb1:Nat.blt l.length l.length=false:=by rw [← Bool.not_eq_true,Nat.blt_eq];omega
    simp only [show Nat.beq 364 364=true from rfl,hb1];rfl
  have hr:=Rd.QU S (.there .here);have hcap:=S.qjp (.there .here);refine qL (hX) Tryz.func364 rfl rfl ?_;all_goals (repeat' (first|refine qg ?_|(refine qc 0 ?_;refine mv ?_;refine qf ?_)))
  (repeat (refine qg ?_));refine qc 1 ?_;refine mv ?_;refine mv ?_;refine su l.length l.length hr hcap (fun v' _ _=>?_);(refine qf ?_);all_goals (repeat' (first|refine qg ?_|refine qh rfl ?_|refine qi ?_|(refine qc 2 ?_;refine mv ?_;refine xe S rfl rfl ?_;refine mv ?_;refine qf ?_)|(refine qc 3 ?_;refine mv ?_;(first|(refine cS ?_ ?_<;>intro hc))<;>(refine qf ?_))|(refine qc 4 ?_;refine mv ?_;refine mv ?_;refine qf ?_)|(refine qc 5 ?_;refine mv ?_;refine xe S rfl rfl ?_;refine mv ?_;refine qf ?_)|(refine qc 6 ?_;refine mv ?_;refine mv ?_;(refine cT ?_)<;>(refine qf ?_))|(refine qc 7 ?_;refine mv ?_;refine mv ?_)))
  ·simp at hc
  ·refine app (y0:=t) S rfl rfl ?_;clear S;intro v h S;(refine mv ?_;refine qf ?_);all_goals (repeat' (fail))
   refine qo ⟨_,rfl,?_⟩;simp only [zD4,List.drop_length];exact S
  all_goals exact absurd rfl (by assumption)
theorem qdD {h0 h:AH} {rs:List Rs} {p:Nat} {r:Rl} (S:Hs h0 h (Xy p r :: rs)) (a b:List UInt8) (k:Int) (hl:r.ts.length≤256) (hs:TS r.ts) :
 Fn Tryz.prog Xh 343 [.pointer (some ⟨p,0,none⟩),str a,str b,.int .u8 k] h (fun v h'=>v = .int .i64 (Z8 r a b k).2∧Hs h0 h' (Xy p (Z8 r a b k).1 :: rs)):=by
 obtain ⟨⟨vg,vt,m,mp,gs⟩,⟨q1,q2⟩,S⟩:=S.unpack;have e1:gs.length=r.us.length:=by rw [← q1];simp
 dsimp only [bkL,List.cons_append,List.nil_append] at q1 q2 S;refine qL (by first|rfl) Tryz.func343 rfl rfl ?_;all_goals (repeat' (first|refine qg ?_|(refine qc 0 ?_;refine mv ?_;refine qf ?_)|(refine qc 1 ?_;refine mv ?_)))
 (refine qw rfl rfl rfl rfl rfl ((qaj S.wf (Vr S .here)).mono ?_);rintro _ h ⟨rfl,x⟩)<;>(replace S:=S.qE x;clear x;refine qf ?_)
 all_goals (repeat' (first|refine qg ?_|refine qh rfl ?_|refine qi ?_))
 (repeat (refine qg ?_));first|refine jC (σ:=Unit) (fun _ h'=>¬ ((k≠1∧k≠2)∨a=b)∧Hs h0 h' (.blk p [vg.val,vt.val,.map (some m)] 329 :: .sl vg.val 45 9 eG gs :: .sl vt.val 198 3 QG r.ts :: .mp m (.int .i64) mp :: tgR gs :: rs)) (fun _=>[(0,.pointer (some ⟨p,0,none⟩)),(1,str a),(2,str b),(3,.int .u8 k)]) ?_ ?_
 ·all_goals (repeat' (first|refine qg ?_|refine qh rfl ?_|refine qi ?_|(refine qc 3 ?_;refine mv ?_;(first|(refine cS ?_ ?_<;>intro hc))<;>(refine mv ?_;(first|refine off ?_|refine mv ?_);(first|refine off ?_|(first|(refine cS ?_ ?_<;>intro hc)))<;>(refine vl ?_;refine mv ?_;(first|refine off ?_|refine mv ?_);(first|refine off ?_|refine mv ?_);(first|refine off ?_|(refine tS ?_ ?_<;>intro hc))<;>(refine vl ?_;refine qf ?_))))|(refine qc 4 ?_;refine mv ?_;refine qf ?_)))
  all_goals first
   | exact ⟨(),⟨by omega,S⟩,((by repeat (fail)))⟩
   | exact ⟨(),⟨by grind,S⟩,(qx)⟩
   | ((refine qo ⟨_,rfl,?_⟩);rw [qbA (by first|omega|grind)];exact ⟨rfl,S.bk vg vt m mp gs q1 q2⟩)
 clear S;rintro - h ⟨hk,S⟩;all_goals (repeat' (first|refine qg ?_|(refine qc 5 ?_;refine mv ?_;refine mv ?_)))
 refine bsn (α:=List UInt8) (z:=1) eS [a,b] S ?_;clear S;intro u h S;((refine xe S rfl rfl ?_);refine mv ?_;refine qf ?_);all_goals (repeat' (refine qj ?_))
 refine qH (σ:=Nat) (fun i h'=>Hs h0 h' (.sl u 9 1 eS [a,b] :: .blk p [vg.val,vt.val,.map (some m)] 329 :: .sl vg.val 45 9 eG gs :: .sl vt.val 198 3 QG r.ts :: .mp m (.int .i64) mp :: tgR gs :: rs)∧i≤2∧∀ j,j<i→gat r.us ([a,b].getD j default)≠none) (fun i=>2 - i) (fun i=>[(0,.pointer (some ⟨p,0,none⟩)),(1,str a),(2,str b),(3,.int .u8 k),(30,u),(31,.int .i64 ([a,b].length:Nat)),(32,.int .i64 i)]) 0 qx ?_ ?_
 ·exact ⟨S,zB0 _,fun j hj=>absurd hj (zB7 _)⟩
 clear S;rintro i h ⟨S,g1,g2⟩;all_goals (repeat' (first|refine qg ?_|refine qh rfl ?_|refine qi ?_|refine qC ?_|refine qj ?_|(refine qc 6 ?_;(first|(refine cS ?_ ?_<;>intro hc))<;>(refine qf ?_))|(refine qc 7 ?_;refine qO S rfl rfl ?_;refine zk S rfl rfl ?_;refine mv ?_;refine qf ?_)|(refine qc 8 ?_;refine mv ?_;refine vl ?_;refine vl ?_;refine lB S rfl rfl ?_;refine mv ?_)|(refine qc 12 ?_;(iterate 3 refine mv ?_);skip)))
 ·have hi2:i<2:=by simp at hc;omega
  simp only [zA0];refine lk S (.there (.there (.there (.there .here)))) (fun y hy=>?_) (fun hy=>?_)
  ·simp only [okV];(refine mv ?_;refine vl ?_;refine vl ?_;refine mv ?_;refine mv ?_;refine qf ?_);all_goals (repeat' (first|refine qg ?_|refine qh rfl ?_|refine qi ?_|(refine qc 9 ?_;refine mv ?_;refine vl ?_;refine qf ?_)|(refine qc 11 ?_;refine ad ?_;refine mv ?_;refine qf ?_)))
   refine ⟨i+1,?_,?_,qx⟩
   ·show 2 - (i+1)<2 - i;omega
   ·refine ⟨S,by omega,Qj g2 fun q=>?_⟩;rw [q2,q] at hy;cases hy
  ·simp only [okV];(refine mv ?_;refine vl ?_;refine vl ?_;refine mv ?_;refine mv ?_;refine qf ?_);all_goals (repeat' (first|refine qg ?_|refine qh rfl ?_|(refine qc 9 ?_;refine mv ?_;refine vl ?_;refine qf ?_)|(refine qc 10 ?_;refine mv ?_;refine qf ?_)))
   refine qo ⟨_,rfl,?_⟩;rw [q2] at hy;have hn:gat r.us ([a,b].getD i default)=none:=by
    cases hq:gat r.us ([a,b].getD i default) with
    | none=>rfl
    | some z=>rw [hq] at hy;cases hy
   rw [qaw hk (by
    rcases (show i=0∨i=1 by omega) with rfl|rfl
    ·exact .inl hn
    ·exact .inr hn)]
   exact ⟨rfl,S.bk vg vt m mp gs q1 q2⟩
 ·have hi2:i=2:=by simp at hc;omega
  have hk2:¬ (gat r.us a=none∨gat r.us b=none):=fun q=>by
   rcases q with q|q
   ·exact g2 0 (by omega) q
   ·exact g2 1 (by omega) q
  (refine qw rfl rfl rfl rfl rfl ((qd7 S.wf (Vr S (.there .here)) (Rd.QU S (.there (.there (.there .here)))) (by omega) hs a b).mono ?_);rintro _ h ⟨⟨j,_ | _,rfl,p1,p2⟩,x⟩)<;>(replace S:=S.qE x;clear x;refine mv ?_;refine vl ?_;refine vl ?_;refine mv ?_;refine mv ?_;refine qf ?_)
  ·have hk3:¬ tied r.ts a b:=fun q=>by have:=p2.2 ((p1.tied hs).1 q);cases this
   all_goals (repeat' (first|refine qg ?_|refine qh rfl ?_|refine qi ?_|(refine qc 13 ?_;refine mv ?_;refine qf ?_)|(refine qc 15 ?_;refine mv ?_;refine vl ?_;refine vl ?_;refine vl ?_;refine lB S rfl rfl ?_;refine xe S rfl rfl ?_;(first|(refine cS ?_ ?_<;>intro hc))<;>(refine qf ?_))|(refine qc 16 ?_;refine mv ?_;refine qf ?_)))
   ·refine qo ⟨_,rfl,?_⟩;rw [qav hk hk2 hk3 (by omega)];exact ⟨rfl,S.bk vg vt m mp gs q1 q2⟩
   ·have hk4:¬ 256≤r.ts.length:=by omega
    (repeat (refine qg ?_));refine ZJ (id:=17) [(5,(0,2))] [some (p)] ?_;refine qy ?_;(first|(refine mv ?_<;>refine qf ⟨⟨by (first|exact True.intro),rfl⟩,?_⟩));refine qy ?_;(first|(refine mv ?_<;>refine qf ⟨⟨by (first|exact True.intro),rfl⟩,?_⟩));refine qy ?_;(first|(refine vl ?_<;>refine qf ⟨⟨by (first|exact True.intro),rfl⟩,?_⟩));refine qy ?_;(first|(refine vl ?_<;>refine qf ⟨⟨by (first|exact True.intro),rfl⟩,?_⟩));refine qy ?_;(first|(refine vl ?_<;>refine qf ⟨⟨by (first|exact True.intro),rfl⟩,?_⟩));refine qy ?_;(first|(refine lB S rfl rfl ?_<;>refine qf ⟨⟨by (first|exact Or.inr rfl),rfl⟩,?_⟩));refine qy ?_;(first|(refine mv ?_<;>refine qf ⟨⟨by (first|exact True.intro),rfl⟩,?_⟩));refine qy ?_;(first|(refine mv ?_<;>refine qf ⟨⟨by (first|exact True.intro),rfl⟩,?_⟩));refine qy ?_;(first|(refine mv ?_<;>refine qf ⟨⟨by (first|exact True.intro),rfl⟩,?_⟩));refine qy ?_;(first|(refine mv ?_<;>refine qf ⟨⟨by (first|exact True.intro),rfl⟩,?_⟩));((refine qy ?_;first|refine qw rfl rfl rfl rfl rfl ((qbM S.wf a b k).mono ?_));rintro _ h ⟨rfl,x⟩)<;>((refine qf ⟨⟨True.intro,?_⟩,?_⟩;(focus ((show keepsX _ _ _ _ _;simp only [keepsX];(repeat' (first|exact True.intro|refine And.intro ?_ ?_));all_goals (intro hw;first|exact x.ext.old _ S.bB)))));replace S:=S.qE x;clear x;refine qy ?_;(first|((refine one 3 S ?_;have S0:=S;clear S;intro u h S);refine qf ⟨⟨True.intro,?_⟩,?_⟩;(focus ((show keepsX _ _ _ _ _;simp only [keepsX];(repeat' (first|exact True.intro|refine And.intro ?_ ?_));all_goals (intro hw;first|exact (S.gB).trans (S0.gB).symm))));clear S0)))
    replace S:Hs h0 _ (.sl u 198 3 YN [QG (gu a b k)] :: _):=S;have S:=(show Hs h0 _ (.sl u 198 3 YN [QG (gu a b k)] :: .sl vt.val 198 3 QG r.ts :: .blk p [vg.val,vt.val,.map (some m)] 329 :: .sl vg.val 45 9 eG gs :: .mp m (.int .i64) mp :: tgR gs :: rs) from S.pick)
    refine qy ?_;refine qw rfl rfl rfl rfl rfl ((qfN j p1.1 (by omega) S).mono ?_);have S0:=S;clear S;rintro v h S;obtain ⟨vt',rfl⟩:=S.sV v;refine qf ⟨⟨True.intro,?_⟩,?_⟩;(focus ((show keepsX _ _ _ _ _;simp only [keepsX];(repeat' (first|exact True.intro|refine And.intro ?_ ?_));all_goals (intro hw;first|exact absurd hw (by decide +kernel)))));clear S0;(refine qy ?_;(first|(refine vl ?_<;>refine qf ⟨⟨by (first|exact True.intro),rfl⟩,?_⟩));refine qy ?_;(first|(refine vl ?_<;>refine qf ⟨⟨by (first|exact True.intro),rfl⟩,?_⟩));refine qy ?_;(first|(refine vl ?_<;>refine qf ⟨⟨by (first|exact True.intro),rfl⟩,?_⟩));refine qy ?_;(first|((refine sB S rfl rfl ?_;have S0:=S;clear S;intro h S);refine qf ⟨⟨True.intro,?_⟩,?_⟩;(focus ((show keepsX _ _ _ _ _;simp only [keepsX];(repeat' (first|exact True.intro|refine And.intro ?_ ?_));all_goals (intro hw;first|exact absurd hw (by decide +kernel)))));clear S0));refine Xq ?_);all_goals (repeat' (first|refine qg ?_|(refine qc 18 ?_;refine mv ?_;refine qf ?_)))
    refine qo ⟨_,rfl,?_⟩;rw [gq hk hk2 hk3 hk4,xU (t:=gu a b k) p1];replace S:Hs h0 h (.sl vt'.val 198 3 QG (r.ts.take j ++ gu a b k :: r.ts.drop j) :: .blk p [vg.val,vt'.val,.map (some m)] 329 :: _):=S;exact ⟨rfl,S.bk vg vt' m mp gs q1 q2⟩
  ·have hk3:tied r.ts a b:=(p1.tied hs).2 (p2.1 rfl);all_goals (repeat' (first|refine qg ?_|refine qh rfl ?_|(refine qc 13 ?_;refine mv ?_;refine qf ?_)|(refine qc 14 ?_;refine mv ?_;refine qf ?_)))
   refine qo ⟨_,rfl,?_⟩;rw [qax hk hk2 hk3];exact ⟨rfl,S.bk vg vt m mp gs q1 q2⟩
end Go.Proofs.Xx
namespace Go.Proofs.Xx
open Go Go.Proofs
structure RlV where
 vg:SlV
 vt:SlV
 gs:List Z5
def RlV.val (v:RlV):Value:=.agg #[v.vg.val,v.vt.val]
structure RlOk (h:AH) (v:RlV) (r:Rl):Prop where
 rg:zC h v.vg.val 9 eG v.gs
 rt:zC h v.vt.val 3 QG r.ts
 tg:∀ i,i<v.gs.length→zC h (v.gs.getD i default).tv.val 1 eS (v.gs.getD i default).tg∧(v.gs.getD i default).tg.length≤9223372036854775807
 us:v.gs.map (·.toGu)=r.us
 lg:r.us.length≤9223372036854775807
 lt:r.ts.length≤9223372036854775807
theorem RlOk.ext {h h':AH} {v:RlV} {r:Rl} (a:RlOk h v r) (w:WfH h) (x:Ext h h'):RlOk h' v r:=⟨a.rg.ext w x,a.rt.ext w x,fun i hi=>⟨(a.tg i hi).1.ext w x,(a.tg i hi).2⟩,a.us,a.lg,a.lt⟩
theorem RlOk.len {h:AH} {v:RlV} {r:Rl} (a:RlOk h v r):v.gs.length=r.us.length:=by rw [← a.us];simp
theorem jc {α β:Type} [Inhabited α] [Inhabited β] {f:α→β} {l:List α} {i:Nat} (hi:i<l.length):(l.map f).getD i default=f (l.getD i default):=by
 rw [zA2,zA2,zH8,zA4 hi];rfl
theorem RlOk.at_ {h:AH} {v:RlV} {r:Rl} (a:RlOk h v r) {i:Nat} (hi:i<v.gs.length):(v.gs.getD i default).toGu=r.us.getD i default:=by rw [← a.us,jc hi]
noncomputable def gE0 (us:List Gu) (i:Nat):Int:=(YP ⟨us.take i,[]⟩ (us.getD i default)).2
open Classical in
noncomputable def Ym (r:Rl) (i:Nat):Int :=
 if jE (r.ts.getD i default).a (r.ts.getD i default).b∧(i=0∨¬ Z7 (r.ts.getD i default) (r.ts.getD (i - 1) default)) then (Z8 ⟨r.us,r.ts.take i⟩ (r.ts.getD i default).a (r.ts.getD i default).b (r.ts.getD i default).k).2 else 23
def VRl (r:Rl):Prop:=(∀ i,i<r.us.length→gE0 r.us i=0)∧∀ i,i<r.ts.length→Ym r i=0
def Bad (r:Rl) (i e:Int):Prop:=e≠0∧((∃ j:Nat,j<r.us.length∧(∀ k,k<j→gE0 r.us k=0)∧gE0 r.us j=e∧i=j)∨((∀ k,k<r.us.length→gE0 r.us k=0)∧∃ j:Nat,j<r.ts.length∧(∀ k,k<j→Ym r k=0)∧Ym r j=e∧i=r.us.length+j))
theorem yI {p:Nat→Int} {j k:Nat} (h1:∀ i,i<j→p i=0) (h2:p j≠0) (h3:∀ i,i<k→p i=0) (h4:p k≠0):j=k:=by
 rcases zE6 j k with q|q|q
 ·exact absurd (h3 j q) h2
 ·exact q
 ·exact absurd (h1 k q) h4
theorem Bad.uniq {r:Rl} {i e i' e':Int} (a:Bad r i e) (b:Bad r i' e'):i=i'∧e=e':=by
 obtain ⟨h1,a⟩:=a;obtain ⟨h2,b⟩:=b;rcases a with ⟨j,a1,a2,a3,a4⟩|⟨a0,j,a1,a2,a3,a4⟩<;>rcases b with ⟨k,b1,b2,b3,b4⟩|⟨b0,k,b1,b2,b3,b4⟩
 ·obtain rfl:=yI a2 (a3 ▸ h1) b2 (b3 ▸ h2);exact ⟨a4.trans b4.symm,a3.symm.trans b3⟩
 ·exact absurd (b0 j a1) (a3 ▸ h1)
 ·exact absurd (a0 k b1) (b3 ▸ h2)
 ·obtain rfl:=yI a2 (a3 ▸ h1) b2 (b3 ▸ h2);exact ⟨a4.trans b4.symm,a3.symm.trans b3⟩
theorem Bad.not {r:Rl} {i e:Int} (a:Bad r i e):¬ VRl r:=fun v=>by
 obtain ⟨h1,⟨j,a1,a2,a3,a4⟩|⟨a0,j,a1,a2,a3,a4⟩⟩:=a
 ·exact h1 (a3 ▸ v.1 j a1)
 ·exact h1 (a3 ▸ v.2 j a1)
theorem VV {r:Rl} {g:Gu} (h:(YP r g).2=0):Q5 g=0∧gat r.us g.name=none∧r.us.length<64∧(YP r g).1=⟨r.us ++ [g],r.ts⟩:=by
 by_cases h1:Q5 g=0
 ·by_cases h2:gat r.us g.name=none
  ·by_cases h3:64≤r.us.length
   ·rw [qbo h1 h2 h3] at h;cases h
   ·rw [Gq h1 h2 h3];exact ⟨h1,h2,by omega,rfl⟩
  ·rw [qbp h1 h2] at h;cases h
 ·rw [qbn h1] at h;exact absurd h h1
theorem X3 {r:Rl} {a b:List UInt8} {k:Int} (h:(Z8 r a b k).2=0):(k=1∨k=2)∧a≠b∧gat r.us a≠none∧gat r.us b≠none∧¬ tied r.ts a b∧r.ts.length<256∧(Z8 r a b k).1=⟨r.us,qaW r.ts (gu a b k)⟩:=by
 by_cases h1:(k≠1∧k≠2)∨a=b
 ·rw [qbA h1] at h;cases h
 ·by_cases h2:gat r.us a=none∨gat r.us b=none
  ·rw [qaw h1 h2] at h;cases h
  ·by_cases h3:tied r.ts a b
   ·rw [qax h1 h2 h3] at h;cases h
   ·by_cases h4:256≤r.ts.length
    ·rw [qav h1 h2 h3 h4] at h;cases h
    ·rw [gq h1 h2 h3 h4];exact ⟨by omega,fun q=>h1 (.inr q),fun q=>h2 (.inl q),fun q=>h2 (.inr q),h3,by omega,rfl⟩
theorem zM {α:Type} [Inhabited α] {l:List α} {i:Nat} (hi:i<l.length):l.take (i+1)=l.take i ++ [l.getD i default]:=by
 rw [List.take_add_one,zA2,zA4 hi];rfl
theorem qbW {us:List Gu} {i:Nat} (hi:i≤us.length) (h:∀ k,k<i→gE0 us k=0):i≤64:=by
 cases i with
 | zero=>omega
 | succ i =>
  have:=(VV (h i (zG0 i))).2.2.1;simp at this;omega
theorem getD_take {α:Type} [Inhabited α] {l:List α} {i j:Nat} (h:j<i):(l.take i).getD j default=l.getD j default:=by
 rw [zA2,zA2,zC7,if_pos h]
theorem TS.mk_ {ts:List Ti} (h:∀ i j,i<j→j<ts.length→Z7 (ts.getD i default) (ts.getD j default)):TS ts:=by
 rw [TS,zD2];intro i j hi hj hij;have:=h i j hij hj;rw [zA2,zA2,zA4 hj,zA4 hi] at this;exact this
theorem TS.app {ts:List Ti} {t:Ti} (h:TS ts) (h2:∀ j,j<ts.length→Z7 (ts.getD j default) t):TS (ts ++ [t]):=TS.mk_ fun i j hij hj=>by
 simp at hj;rw [gA1 (show i<ts.length by omega)];rcases zA7 j ts.length with q|q
 ·rw [gA1 q];exact h.lt hij q
 ·obtain rfl:j=ts.length:=by omega
  rw [gA2 (zA3 _),zG6];exact h2 i (by omega)
theorem YX {r:Rl} {i:Nat} (h:Ym r i=0):jE (r.ts.getD i default).a (r.ts.getD i default).b∧(i=0∨¬ Z7 (r.ts.getD i default) (r.ts.getD (i - 1) default))∧(Z8 ⟨r.us,r.ts.take i⟩ (r.ts.getD i default).a (r.ts.getD i default).b (r.ts.getD i default).k).2=0:=by
 unfold Ym at h;split at h
 ·rename_i q;exact ⟨q.1,q.2,h⟩
 ·cases h
theorem WW {a b:List UInt8} (h:jE a b):VA a b=a:=by unfold VA;rw [if_neg (VC h)]
theorem WX {a b:List UInt8} (h:jE a b):VB a b=b:=by unfold VB;rw [if_pos h]
theorem gG {r:Rl}:∀ {i:Nat},i≤r.ts.length→(∀ k,k<i→Ym r k=0)→TS (r.ts.take i)∧(i<r.ts.length→Ym r i=0→∀ j,j<i→Z7 (r.ts.getD j default) (r.ts.getD i default))
 | i,hi,h=>by
  have key:∀ i,i≤r.ts.length→(∀ k,k<i→Ym r k=0)→TS (r.ts.take i)→i<r.ts.length→Ym r i=0→∀ j,j<i→Z7 (r.ts.getD j default) (r.ts.getD i default):=by
   intro i hi h hs hl h0 j hj;obtain ⟨z1,z2,z3⟩:=YX h0;have z4:=(X3 z3).2.2.2.2.1;have hp:Z7 (r.ts.getD (i - 1) default) (r.ts.getD i default):=by
    rcases Gn (r.ts.getD (i - 1) default) (r.ts.getD i default) with q|⟨e1,e2⟩|q
    ·exact q
    ·refine absurd ⟨r.ts.getD (i - 1) default,?_,?_⟩ z4
     ·rw [← getD_take (show i - 1<i by omega)];have hl2:i - 1<(r.ts.take i).length:=by simp;omega
      rw [zA2,zA4 hl2];exact List.getElem_mem hl2
     ·rw [WW z1,WX z1];exact ⟨e1,e2⟩
    ·rcases z2 with z2|z2
     ·omega
     ·exact absurd q z2
   rcases zA7 j (i - 1) with q|q
   ·have hl2:i - 1<(r.ts.take i).length:=by simp;omega
    have:=hs.lt q hl2;rw [getD_take (by omega),getD_take (by omega)] at this;exact ZN this hp
   ·obtain rfl:j=i - 1:=by omega
    exact hp
  have all:∀ i,i≤r.ts.length→(∀ k,k<i→Ym r k=0)→TS (r.ts.take i):=by
   intro i;induction i with
   | zero=>intro _ _;simp [TS]
   | succ i ih =>
    intro hi h;have hs:=ih (by omega) fun k hk=>h k (by omega);rw [zM (by omega)];refine hs.app fun j hj=>?_;simp at hj;rw [getD_take (by omega)];exact key i (by omega) (fun k hk=>h k (by omega)) hs (by omega) (h i (by omega)) j (by omega)
  exact ⟨all i hi h,key i hi h (all i hi h)⟩
theorem qbB {r:Rl} {i:Nat} (hi:i≤r.ts.length) (h:∀ k,k<i→Ym r k=0):i≤256:=by
 cases i with
 | zero=>omega
 | succ i =>
  have:=(X3 (YX (h i (zG0 i))).2.2).2.2.2.2.2.1;simp at this;omega
theorem qfr {r:Rl} {i:Nat} (hi:i<r.ts.length) (h:∀ k,k<i→Ym r k=0) (h0:Ym r i=0):(Z8 ⟨r.us,r.ts.take i⟩ (r.ts.getD i default).a (r.ts.getD i default).b (r.ts.getD i default).k).1=⟨r.us,r.ts.take (i+1)⟩:=by
 obtain ⟨z1,z2,z3⟩:=YX h0;rw [(X3 z3).2.2.2.2.2.2];have e:gu (r.ts.getD i default).a (r.ts.getD i default).b (r.ts.getD i default).k=r.ts.getD i default:=by unfold gu;rw [WW z1,WX z1]
 have hl:(r.ts.take i).length=i:=by simp;omega
 show (⟨r.us,qaW (r.ts.take i) _⟩:Rl)=_
 rw [e,xU (i:=i) ⟨by omega,fun j hj=>by rw [getD_take hj];exact (gG (by omega) h).2 hi h0 j hj,fun j h1 h2=>by omega⟩,zM hi];simp [List.take_take]
theorem qhJ {c:Int} {x t:Ti} (e1:c<0↔Z7 x t) (e2:c=0↔x.a=t.a∧x.b=t.b):c≤0↔¬ Z7 t x:=by
 constructor
 ·intro z q;rcases Int.lt_or_eq_of_le z with z|z
  ·exact qcc _ (ZN (e1.1 z) q)
  ·have:=e2.1 z;rcases q with q|q
   ·rw [this.1] at q;exact zL _ q
   ·rw [this.2] at q;exact zL _ q.2
 ·intro z;rcases Gn x t with q|q|q
  ·have:=e1.2 q;omega
  ·have:=e2.2 q;omega
  ·exact absurd q z
variable [Flag]
theorem qfG {h0:AH} (w:WfH h0) (v:RlV) (r:Rl) (H:RlOk h0 v r) :
 Fn Tryz.prog Xh 284 [v.val] h0 (fun u h'=>(∃ p,u = .tuple #[.pointer (some ⟨p,0,none⟩),.int .i64 0,.int .i64 0]∧VRl r∧Hs h0 h' [Xy p r])∨(∃ i e,u = .tuple #[.pointer none,.int .i64 i,.int .i64 e]∧Bad r i e∧Hs h0 h' [])):=by
 have S:=Hs.start w;have hgl:=H.len;have hrg:=H.rg;have hrt:=H.rt;have hlg:=H.lg;have hlt:=H.lt;unfold RlV.val;refine qL (by first|rfl) Tryz.func284 rfl rfl ?_;all_goals (repeat' (first|refine qg ?_|(refine qc 0 ?_;(refine bx S ?_;clear S;intro b h S);(iterate 3 refine mv ?_);refine qf ?_)|(refine qc 1 ?_;skip)))
 (refine qw rfl rfl rfl rfl rfl ((qhk S.wf).mono ?_);rintro _ h ⟨p,rfl,x⟩)<;>(replace S:=S.jm x;clear x;refine mv ?_;refine qf ?_)
 all_goals (repeat' (first|refine qg ?_|refine qj ?_|(refine qc 2 ?_;refine vl ?_;refine lB S rfl rfl ?_;refine jf S ?_;refine mv ?_;refine qf ?_)))
 obtain ⟨q,hnm⟩:∃ x,x=b:=⟨_,rfl⟩;subst hnm;replace S:Hs h0 h [Xy p ⟨[],[]⟩,.blk q [v.vg.val,v.vt.val] 154]:=S;refine qH (σ:=Nat) (fun i h'=>Hs h0 h' [Xy p ⟨r.us.take i,[]⟩,.blk q [v.vg.val,v.vt.val] 154]∧i≤r.us.length∧∀ k,k<i→gE0 r.us k=0) (fun i=>r.us.length - i) (fun i=>[(1,.pointer (some ⟨q,0,none⟩)),(5,.pointer (some ⟨p,0,none⟩)),(14,v.vg.val),(15,.int .i64 v.gs.length),(16,.int .i64 i)]) 0 qx ?_ ?_
 ·exact ⟨S,zB0 _,fun j hj=>absurd hj (zB7 _)⟩
 clear S;rintro i h ⟨S,g1,g2⟩;have hi64:=qbW g1 g2;all_goals (repeat' (first|refine qg ?_|refine qh rfl ?_|refine qi ?_|refine qC ?_|refine qj ?_|(refine qc 3 ?_;(first|(refine cS ?_ ?_<;>intro hc))<;>(refine qf ?_))|(refine qc 4 ?_;refine mv ?_;refine jF S ?_;refine jk S ?_;(refine al S ?_;clear S;intro b h S);refine mv ?_;(first|(refine sB S rfl rfl ?_;clear S;intro h S));refine qf ?_)|(refine qc 5 ?_;refine mv ?_;refine lB S rfl rfl ?_)|(refine qc 9 ?_;refine vl ?_;refine lB S rfl rfl ?_;refine jf S ?_;refine mv ?_;refine qf ?_)))
 ·have hil:i<v.gs.length:=by omega
  have hat:=H.at_ hil;simp only [zA0] at S;simp only [zA0];have htl:(r.us.take i).length≤64:=by simp;omega
  (refine qw rfl rfl rfl rfl rfl ((qhN (S.front (.there .here)) (v.gs.getD i default) (RdS.base w (H.tg i hil).1) (H.tg i hil).2 htl).mono ?_);rintro _ h ⟨rfl,S⟩)<;>(refine mv ?_;refine qf ?_)
  rw [hat] at S;simp only [hat];all_goals (repeat' (first|refine qg ?_|refine qh rfl ?_|refine qi ?_|(refine qc 6 ?_;refine mv ?_;(first|(refine cS ?_ ?_<;>intro hc))<;>(refine qf ?_))|(refine qc 7 ?_;(iterate 5 refine mv ?_);refine qf ?_)|(refine qc 8 ?_;refine ad ?_;refine mv ?_;refine qf ?_)))
  ·refine qo ⟨_,rfl,?_⟩;exact .inr ⟨i,_,rfl,⟨hc,.inl ⟨i,by omega,g2,rfl,rfl⟩⟩,S.drop⟩
  ·have hz:gE0 r.us i=0:=zF3.1 hc;rw [(VV hz).2.2.2] at S;refine ⟨i+1,?_,?_,qx⟩
   ·show r.us.length - (i+1)<r.us.length - i;omega
   ·refine ⟨?_,by omega,Qj g2 hz⟩;rw [zM (by omega)];exact S.pick
 ·obtain rfl:i=r.us.length:=by omega
  rw [zD4] at S;refine qH (σ:=Nat) (fun i h'=>Hs h0 h' [Xy p ⟨r.us,r.ts.take i⟩,.blk q [v.vg.val,v.vt.val] 154]∧i≤r.ts.length∧∀ k,k<i→Ym r k=0) (fun i=>r.ts.length - i) (fun i=>[(1,.pointer (some ⟨q,0,none⟩)),(5,.pointer (some ⟨p,0,none⟩)),(30,v.vt.val),(31,.int .i64 r.ts.length),(32,.int .i64 i)]) 0 qx ?_ ?_
  ·exact ⟨S,zB0 _,fun j hj=>absurd hj (zB7 _)⟩
  clear S;rintro i h ⟨S,k1,k2⟩;have hi256:=qbB k1 k2;have hTS:=(gG k1 k2).1;have htl:(r.ts.take i).length≤256:=by simp;omega
  all_goals (repeat' (first|refine qg ?_|refine qh rfl ?_|refine qi ?_|refine qC ?_|refine qj ?_|(refine qc 10 ?_;(first|(refine cS ?_ ?_<;>intro hc))<;>(refine qf ?_))|(refine qc 11 ?_;refine mv ?_;refine jF S ?_;refine jk S ?_;(refine al S ?_;clear S;intro b h S);refine mv ?_;(first|(refine sB S rfl rfl ?_;clear S;intro h S));refine qf ?_)|(refine qc 12 ?_;refine mv ?_;refine qf ?_)|(refine qc 18 ?_;(iterate 4 refine mv ?_);refine qf ?_)))
  ·obtain ⟨t,ht⟩:∃ t,t=r.ts.getD i default:=⟨_,rfl⟩
   simp only [zA0] at S;simp only [zA0];replace S:Hs h0 h [.blk b (QG t) 198,Xy p ⟨r.us,r.ts.take i⟩,.blk q [v.vg.val,v.vt.val] 154]:=by rw [ht];exact S
   (repeat (refine qg ?_));first|refine jC (σ:=Rl) (fun r' h'=>Hs h0 h' [Xy p r',.blk q [v.vg.val,v.vt.val] 154]∧(Ym r i=0→r'=⟨r.us,r.ts.take (i+1)⟩)) (fun r'=>[(1,.pointer (some ⟨q,0,none⟩)),(5,.pointer (some ⟨p,0,none⟩)),(9,.int .i64 i),(11,.int .i64 (Ym r i)),(30,v.vt.val),(31,.int .i64 r.ts.length),(32,.int .i64 i)]) ?_ ?_
   ·have he1:jE t.a t.b→(i=0∨¬ Z7 t (r.ts.getD (i - 1) default))→Ym r i=(Z8 ⟨r.us,r.ts.take i⟩ t.a t.b t.k).2:=fun z1 z2=>by rw [ht] at z1 z2 ⊢;unfold Ym;rw [if_pos ⟨z1,z2⟩]
    have he2:¬ (jE t.a t.b∧(i=0∨¬ Z7 t (r.ts.getD (i - 1) default)))→Ym r i=23:=fun z=>by rw [ht] at z;unfold Ym;rw [if_neg z]
    have he3:Ym r i=0→(Z8 ⟨r.us,r.ts.take i⟩ t.a t.b t.k).1=⟨r.us,r.ts.take (i+1)⟩:=fun z=>by rw [ht];exact qfr (by omega) k2 z
    all_goals (repeat' (first|refine qh rfl ?_|refine qi ?_|(refine qM 13 ?_;refine vl ?_;refine lB S rfl rfl ?_;refine vl ?_;refine lB S rfl rfl ?_;(refine tO ?_ ?_<;>intro hc)<;>(refine mv ?_;(first|refine off ?_|refine mv ?_);(first|refine off ?_|(first|(refine cS ?_ ?_<;>intro hc)))<;>((first|refine off ?_|refine mv ?_);(first|refine off ?_|(refine vl ?_));(first|refine off ?_|(refine lB S rfl rfl ?_));(first|refine off ?_|refine mv ?_);(first|refine off ?_|(refine sb ?_));(first|refine off ?_|(refine jF S ?_));(first|refine off ?_|(refine jk S ?_));(first|refine off ?_|(refine lB S rfl rfl ?_));(first|(refine off ?_;(refine off ?_)<;>((first|refine off ?_|refine vl ?_);refine vl ?_;refine qf ?_))|skip))))))
    ·all_goals (repeat' (first|(refine qc 14 ?_;refine mv ?_;refine vl ?_;refine lB S rfl rfl ?_;refine vl ?_;refine lB S rfl rfl ?_;refine vl ?_;refine lB S rfl rfl ?_)))
     (refine qw rfl rfl rfl rfl rfl ((qdD (S.front (.there .here)) t.a t.b t.k htl hTS).mono ?_);rintro _ h ⟨rfl,S⟩)<;>(refine mv ?_;refine qf ?_)
     have he:=he1 (by assumption) (.inl (by omega));refine ⟨_,⟨S.pick,he3⟩,?_⟩;rw [he];exact qx
    ·(refine qw rfl rfl rfl rfl rfl ((x9 S.wf (r.ts.getD ((i:Int) - 1).toNat default) t).mono ?_);rintro _ h ⟨⟨c,rfl,e1,e2⟩,x⟩)<;>(replace S:=S.qE x;clear x;(first|(first|(refine cS ?_ ?_<;>intro hc)))<;>((refine vl ?_);refine vl ?_;refine qf ?_))
     all_goals rw [show ((i:Int) - 1).toNat=i - 1 by omega] at e1 e2
     all_goals have ec:=qhJ e1 e2
     all_goals (repeat' (first|refine qh rfl ?_|refine qi ?_))
     ·all_goals (repeat' (first|(refine qc 14 ?_;refine mv ?_;refine vl ?_;refine lB S rfl rfl ?_;refine vl ?_;refine lB S rfl rfl ?_;refine vl ?_;refine lB S rfl rfl ?_)))
      (refine qw rfl rfl rfl rfl rfl ((qdD (S.front (.there .here)) t.a t.b t.k htl hTS).mono ?_);rintro _ h ⟨rfl,S⟩)<;>(refine mv ?_;refine qf ?_)
      have he:=he1 (by assumption) (.inr (ec.1 (by assumption)));refine ⟨_,⟨S.pick,he3⟩,?_⟩;rw [he];exact qx
     ·have he:=he2 (fun z=>z.2.elim (fun q=>by omega) (fun q=>absurd (ec.2 q) (by assumption)));refine ⟨⟨r.us,r.ts.take i⟩,⟨S.pick,fun q=>by rw [he] at q;cases q⟩,?_⟩;rw [he];exact qx
    ·have he:=he2 (fun z=>absurd z.1 (by assumption));refine ⟨⟨r.us,r.ts.take i⟩,⟨S.pick,fun q=>by rw [he] at q;cases q⟩,?_⟩;rw [he];exact qx
   ·clear S;rintro r' h ⟨S,hr'⟩;all_goals (repeat' (first|refine qg ?_|refine qh rfl ?_|refine qi ?_|(refine qc 15 ?_;refine mv ?_;(first|(refine cS ?_ ?_<;>intro hc))<;>(refine qf ?_))|(refine qM 16 ?_;refine vl ?_;refine lB S rfl rfl ?_;refine jf S ?_;refine mv ?_;refine ad ?_;(iterate 4 refine mv ?_);refine qf ?_)|(refine qc 17 ?_;refine ad ?_;refine mv ?_;refine qf ?_)))
    ·refine qo ⟨_,rfl,?_⟩;exact .inr ⟨_,_,rfl,⟨hc,.inr ⟨g2,i,by omega,k2,rfl,by rw [hgl]⟩⟩,S.drop⟩
    ·have hz:Ym r i=0:=zF3.1 hc;obtain rfl:=hr' hz;refine ⟨i+1,?_,?_,qx⟩
     ·show r.ts.length - (i+1)<r.ts.length - i;omega
     ·exact ⟨S,by omega,Qj k2 hz⟩
  ·refine qo ⟨_,rfl,?_⟩;obtain rfl:i=r.ts.length:=by omega
   rw [zD4] at S;exact .inl ⟨p,rfl,⟨g2,k2⟩,S.pick⟩
end Go.Proofs.Xx
namespace Go.Proofs.Xx
open Go Go.Proofs
theorem XM {us:List Gu} {n:List UInt8}:gat us n=none↔∀ g∈us,g.name≠n:=by
 induction us with
 | nil=>simp [gat]
 | cons x r ih =>
  simp only [gat];by_cases h:x.name=n
  ·simp [h]
  ·simp only [if_neg h,Option.map_eq_none_iff,ih,zE7];constructor
   ·rintro q g (rfl|hg)
    ·exact h
    ·exact q g hg
   ·exact fun q g hg=>q g (.inr hg)
theorem Vh {us:List Gu} {n:List UInt8} {i:Nat} (h:gat us n=some i):i<us.length∧(us.getD i default).name=n∧∀ j,j<i→(us.getD j default).name≠n:=by
 induction us generalizing i with
 | nil=>cases h
 | cons x r ih =>
  simp only [gat] at h;by_cases hx:x.name=n
  ·rw [if_pos hx] at h;cases h
   exact ⟨by simp,hx,fun j hj=>absurd hj (zB7 _)⟩
  ·rw [if_neg hx] at h;cases hr:gat r n with
   | none=>rw [hr] at h;cases h
   | some k =>
    rw [hr] at h;cases h
    obtain ⟨h1,h2,h3⟩:=ih hr;refine ⟨by simp;omega,h2,fun j hj=>?_⟩;cases j with
    | zero=>exact hx
    | succ j=>exact h3 j (by simp only at hj;omega)
theorem qQ {α:Type} [Inhabited α] {l:List α} {i:Nat} (h:i<l.length):l.getD i default∈l:=by
 rw [zA2,zA4 h];exact List.getElem_mem h
theorem zx {α:Type} [Inhabited α] {l:List α} {x:α}:x∈l↔∃ i,i<l.length∧l.getD i default=x:=by
 constructor
 ·intro h;obtain ⟨i,hi,rfl⟩:=List.mem_iff_getElem.1 h;exact ⟨i,hi,by rw [zA2,zA4 hi];rfl⟩
 ·rintro ⟨i,hi,rfl⟩;exact qQ hi
structure RO (r:Rl):Prop where
 chk:∀ g∈r.us,Q5 g=0
 nd:∀ i j,i<j→j<r.us.length→(r.us.getD i default).name≠(r.us.getD j default).name
 l64:r.us.length≤64
 ts:TS r.ts
 tt:∀ t∈r.ts,jE t.a t.b∧(t.k=1∨t.k=2)∧gat r.us t.a≠none∧gat r.us t.b≠none
 l256:r.ts.length≤256
theorem RO.gat {r:Rl} (h:RO r) {i:Nat} (hi:i<r.us.length):gat r.us (r.us.getD i default).name=some i:=by
 cases hq:Xx.gat r.us (r.us.getD i default).name with
 | none=>exact absurd rfl (XM.1 hq _ (qQ hi))
 | some j =>
  obtain ⟨h1,h2,h3⟩:=Vh hq;rcases zE6 i j with q|q|q
  ·exact absurd rfl (h3 i q)
  ·rw [q]
  ·exact absurd h2 (h.nd j i q hi)
theorem KW {us:List Gu} {i:Nat} (hi:i<us.length):gE0 us i=0↔Q5 (us.getD i default)=0∧(∀ j,j<i→(us.getD j default).name≠(us.getD i default).name)∧i<64:=by
 unfold gE0;have hl:(us.take i).length=i:=by simp;omega
 have hg:Xx.gat (us.take i) (us.getD i default).name=none↔∀ j,j<i→(us.getD j default).name≠(us.getD i default).name:=by
  rw [XM];constructor
  ·intro h j hj;have:=h _ (qQ (show j<(us.take i).length by omega));rwa [getD_take hj] at this
  ·intro h g hg;obtain ⟨j,hj,rfl⟩:=zx.1 hg;rw [getD_take (by omega)];exact h j (by omega)
 constructor
 ·intro h;obtain ⟨h1,h2,h3,-⟩:=VV h;exact ⟨h1,hg.1 h2,by simpa [hl] using h3⟩
 ·rintro ⟨h1,h2,h3⟩;rw [Gq h1 (hg.2 h2) (by show ¬ 64≤(us.take i).length;omega)]
theorem qdC {ts:List Ti} {a b:List UInt8} (h:jE a b):tied ts a b↔∃ t∈ts,t.a=a∧t.b=b:=by unfold tied;rw [WW h,WX h]
theorem Vw {r:Rl}:VRl r↔RO r:=by
 constructor
 ·rintro ⟨h1,h2⟩;refine ⟨fun g hg=>?_,fun i j hij hj=>((KW hj).1 (h1 j hj)).2.1 i hij,qbW (zA3 _) h1,?_,fun t ht=>?_,qbB (zA3 _) h2⟩
  ·obtain ⟨i,hi,rfl⟩:=zx.1 hg;exact ((KW hi).1 (h1 i hi)).1
  ·have:=(gG (zA3 _) h2).1;rwa [zD4] at this
  ·obtain ⟨i,hi,rfl⟩:=zx.1 ht;obtain ⟨z1,z2,z3⟩:=YX (h2 i hi);obtain ⟨y1,y2,y3,y4,y5,y6,y7⟩:=X3 z3;exact ⟨z1,y1,y3,y4⟩
 ·intro h;refine ⟨fun i hi=>(KW hi).2 ⟨h.chk _ (qQ hi),fun j hj=>h.nd j i hj hi,by have:=h.l64;omega⟩,fun i hi=>?_⟩;obtain ⟨z1,z2,z3,z4⟩:=h.tt _ (qQ hi);have hb:∀ j,j<i→Z7 (r.ts.getD j default) (r.ts.getD i default):=fun j hj=>h.ts.lt hj hi;have hz:i=0∨¬ Z7 (r.ts.getD i default) (r.ts.getD (i - 1) default):=by
   rcases zF4 i with q|q
   ·exact .inl q
   ·exact .inr fun q2=>qcc _ (ZN (hb (i - 1) (by omega)) q2)
  unfold Ym;rw [if_pos ⟨z1,hz⟩,gq]
  ·rintro (q|q)
   ·omega
   ·rw [q] at z1;exact zL _ z1
  ·rintro (q|q)
   ·exact z3 q
   ·exact z4 q
  ·rw [qdC z1];rintro ⟨t,ht,e1,e2⟩;obtain ⟨j,hj,rfl⟩:=zx.1 ht;have hl:(r.ts.take i).length=i:=by simp;omega
   replace hj:j<i:=by rw [← hl];exact hj
   rw [getD_take (by omega)] at e1 e2;rcases hb j (by omega) with q|q
   ·rw [e1] at q;exact zL _ q
   ·rw [e2] at q;exact zL _ q.2
  ·have:=h.l256;simp;omega
def num (j:Nat):List UInt8:=[UInt8.ofNat (97+j / 26 % 26),UInt8.ofNat (97+j % 26)]
theorem qii {a b:Nat} (ha:a<256) (hb:b<256):UInt8.ofNat a<UInt8.ofNat b↔a<b:=by
 rw [UInt8.lt_iff_toNat_lt];simp [UInt8.toNat_ofNat,Nat.mod_eq_of_lt ha,Nat.mod_eq_of_lt hb]
theorem qjW {a b:Nat} (ha:a<256) (hb:b<256):UInt8.ofNat a=UInt8.ofNat b↔a=b:=by
 constructor
 ·intro h;have:=congrArg UInt8.toNat h;simpa [UInt8.toNat_ofNat,Nat.mod_eq_of_lt ha,Nat.mod_eq_of_lt hb] using this
 ·rintro rfl;rfl
theorem yh {i j:Nat} (hi:i<676) (hj:j<676):jE (num i) (num j)↔i<j:=by
 unfold num;rw [ZQ,ZQ,qii (by omega) (by omega),qjW (by omega) (by omega),qii (by omega) (by omega)];constructor
 ·rintro (h|⟨h1,h2|⟨h2,h3⟩⟩)
  ·omega
  ·omega
  ·exact absurd h3 (zL _)
 ·intro h;rcases zA7 (i / 26) (j / 26) with q|q
  ·exact .inl (by omega)
  ·exact .inr ⟨by omega,.inl (by omega)⟩
variable [Flag]
end Go.Proofs.Xx
namespace Go.Proofs.Xx
open Go Go.Proofs
structure Ru where
 k:Int
 w:Int
 a:List UInt8
 b:List UInt8
 t:List UInt8
 n:Int
instance:Inhabited Ru:=⟨⟨0,0,[],[],[],0⟩⟩
def XR (r:Ru):List Value:=[.int .u8 r.k,.int .i64 r.w,str r.a,str r.b,str r.t,.int .i64 r.n]
abbrev ruV (r:Ru):Value:=.agg (XR r).toArray
structure Pb where
 tabs:List Tab
 us:List Gu
 ts:List Ti
 cl:List Int
 ru:List Ru
abbrev Pb.rl (p:Pb):Rl:=⟨p.us,p.ts⟩
structure PbV where
 vt:SlV
 vg:SlV
 vi:SlV
 vc:SlV
 vr:SlV
 gs:List Z5
abbrev PbV.cs (v:PbV):List Value:=[v.vt.val,v.vg.val,v.vi.val,v.vc.val,v.vr.val]
def PbV.val (v:PbV):Value:=.agg #[v.vt.val,v.vg.val,v.vi.val,v.vc.val,v.vr.val]
abbrev PbV.rl (v:PbV):RlV:=⟨v.vg,v.vi,v.gs⟩
structure PbOk (h:AH) (v:PbV) (p:Pb):Prop where
 tab:HallR h v.vt.val p.tabs
 rol:RlOk h v.rl p.rl
 cl:zC h v.vc.val 1 eI p.cl
 ru:zC h v.vr.val 6 XR p.ru
 lc:p.cl.length≤1000000
 lr:p.ru.length≤1000000
theorem PbOk.ext {h h':AH} {v:PbV} {p:Pb} (a:PbOk h v p) (w:WfH h) (x:Ext h h'):PbOk h' v p:=⟨a.tab.ext w x,a.rol.ext w x,a.cl.ext w x,a.ru.ext w x,a.lc,a.lr⟩
structure Kd where
 a:Int
 b:Bool
 t:Int
 n:Bool
 lo:Int
 seat:Bool
instance:Inhabited Kd:=⟨⟨0,false,0,false,0,false⟩⟩
def kdL:List Kd:=[⟨103,true,0,true,0,false⟩,⟨103,true,0,false,0,false⟩,⟨103,true,0,false,0,false⟩,⟨103,true,0,true,1,false⟩,⟨103,true,0,false,0,false⟩,
 ⟨103,false,116,false,0,false⟩,⟨103,false,116,true,0,true⟩,⟨0,false,101,false,0,false⟩,⟨0,false,101,false,0,false⟩,⟨101,false,0,false,0,false⟩,
 ⟨0,false,101,false,0,false⟩,⟨0,false,101,false,0,false⟩,⟨0,false,101,false,0,false⟩,⟨0,false,101,false,0,false⟩,⟨0,false,101,true,0,false⟩,
 ⟨0,false,101,true,0,false⟩,⟨100,false,116,false,0,false⟩,⟨0,false,101,false,0,false⟩]
def Q3 (k:Int):Kd:=kdL.getD (k.toNat - 1) default
def gI (us:List Gu) (n:List UInt8):Int:=match gat us n with|some i=>i|none=>-1
theorem ZG {us:List Gu} {n:List UInt8}:gI us n<0↔gat us n=none:=by
 unfold gI;cases gat us n with
 | none=>simp
 | some i=>simp
def Jw (l:List Tab) (n:List UInt8):Prop:=∃ j,j<l.length∧(tb l j).name=n
def tix (l:List Tab) (n:List UInt8):Nat:=l.findIdx fun t=>decide (t.name=n)
theorem gm {l:List Tab} {n:List UInt8} {k:Nat} (hk:k<l.length) (h1:(tb l k).name=n) (h2:∀ j,j<k→¬ (tb l j).name=n):tix l n=k:=by
 unfold tix;rw [List.findIdx_eq hk];unfold tb at h1 h2;refine ⟨?_,fun j hj=>?_⟩
 ·rw [zA2,zA4 hk] at h1;simpa using h1
 ·have:=h2 j hj;rw [zA2,zA4 (by omega)] at this;simpa using this
def Kd.plain (k:Kd) (r:Ru):Prop:=(k.a≠0∨r.a=[])∧(k.b=true∨r.b=[])∧(k.t≠0∨r.t=[])∧(k.n=true∨r.n=0)
def Kd.unk (k:Kd) (us:List Gu) (r:Ru):Prop:=(k.a=103∧gat us r.a=none)∨(k.a=101∧r.a≠[]∧gat us r.a=none)∨(k.b=true∧gat us r.b=none)
def Kd.ut (k:Kd) (l:List Tab) (r:Ru):Prop:=(k.t=116∧¬ Jw l r.t)∨(k.t=101∧r.t≠[]∧¬ Jw l r.t)
def Kd.most (k:Kd) (l:List Tab) (r:Ru):Int:=if k.seat=true then zl (tb l (tix l r.t)) - 1 else 24
open Classical in
noncomputable def Kd.err (k:Kd) (p:Pb) (r:Ru):Int :=
 if r.w<0∨1000<r.w then 41 else if ¬ k.plain r then 43 else if k.unk p.us r then 6 else if k.a=100∧¬ Qx r.a then 4 else if k.b=true∧r.a=r.b then 5 else
 if k.ut p.tabs r then 6 else if k.n=true∧(r.n<k.lo∨k.most p.tabs r<r.n) then 42 else 0
noncomputable def wP (p:Pb) (r:Ru):Int:=if 1≤r.k∧r.k≤18 then (Q3 r.k).err p r else 40
structure PO (p:Pb):Prop where
 tabs:ValidL p.tabs
 rl:RO p.rl
 cl:(p.cl.length=0∨p.cl.length=p.us.length)∧∀ c∈p.cl,0≤c∧c<64
 room:(p.us.length:Int)≤sumT p.tabs p.tabs.length
 ru:∀ r∈p.ru,wP p r=0
 lr:p.ru.length≤64
def BasP (p:Pb) (i e:Int):Prop :=
 (e≠0∧ChkAll p.tabs i e)∨(ValidL p.tabs∧Bad p.rl i e)∨(ValidL p.tabs∧RO p.rl∧((¬ ((p.cl.length=0∨p.cl.length=p.us.length)∧∀ c∈p.cl,0≤c∧c<64)∧i=0∧e=44) ∨
  (((p.cl.length=0∨p.cl.length=p.us.length)∧∀ c∈p.cl,0≤c∧c<64)∧((sumT p.tabs p.tabs.length<p.us.length∧i=0∧e=45)∨((p.us.length:Int)≤sumT p.tabs p.tabs.length∧i=0∧e=0)))))
structure BO (p:Pb):Prop where
 tabs:ValidL p.tabs
 rl:RO p.rl
 cl:(p.cl.length=0∨p.cl.length=p.us.length)∧∀ c∈p.cl,0≤c∧c<64
 room:(p.us.length:Int)≤sumT p.tabs p.tabs.length
theorem BasP.bo {p:Pb} {i:Int} (b:BasP p i 0):BO p∧i=0:=by
 rcases b with ⟨h,-⟩|⟨-,h,-⟩|⟨h1,h2,⟨-,-,h⟩|⟨h3,⟨-,-,h⟩|⟨h4,h5,-⟩⟩⟩
 ·exact absurd rfl h
 ·exact absurd rfl h
 ·cases h
 ·cases h
 ·exact ⟨⟨h1,h2,h3,h4⟩,h5⟩
theorem BO.qe3 {p:Pb} (h:BO p) {i e:Int} (b:BasP p i e):i=0∧e=0:=by
 rcases b with ⟨h1,h2⟩|⟨-,h1,h2⟩|⟨h1,h2,⟨h3,-,-⟩|⟨h3,⟨h4,-,-⟩|⟨h4,h5,h6⟩⟩⟩
 ·exact absurd (h2.valid.2 h.tabs) h1
 ·have hv:=Vw.2 h.rl;rcases h2 with ⟨j,h3,h4,h5,-⟩|⟨h0,j,h3,h4,h5,-⟩
  ·exact absurd (h5.symm.trans (hv.1 j h3)) h1
  ·exact absurd (h5.symm.trans (hv.2 j h3)) h1
 ·exact absurd h.cl h3
 ·have:=h.room;omega
 ·exact ⟨h5,h6⟩
def CkP (p:Pb) (i e:Int):Prop :=
 (e≠0∧BasP p i e)∨(BO p∧((∃ j:Nat,j<p.ru.length∧i=j∧j≤64∧(∀ q,q<j→wP p (p.ru.getD q default)=0)∧((wP p (p.ru.getD j default)≠0∧e=wP p (p.ru.getD j default))∨(wP p (p.ru.getD j default)=0∧j=64∧e=7))) ∨
  (p.ru.length≤64∧(∀ q,q<p.ru.length→wP p (p.ru.getD q default)=0)∧i=0∧e=0)))
theorem PO.bo {p:Pb} (h:PO p):BO p:=⟨h.tabs,h.rl,h.cl,h.room⟩
theorem CkP.po {p:Pb} {i e:Int} (c:CkP p i e):e=0↔PO p:=by
 rcases c with ⟨h1,h2⟩|⟨h1,⟨j,h2,h3,h4,h5,⟨h6,h7⟩|⟨h6,h7,h8⟩⟩|⟨h2,h3,h4,h5⟩⟩
 ·exact ⟨fun h=>absurd h h1,fun h=>(h.bo.qe3 h2).2⟩
 ·exact ⟨fun h=>absurd (h7.symm.trans h) h6,fun h=>absurd (h.ru _ (qQ h2)) h6⟩
 ·exact ⟨fun h=>by omega,fun h=>by have:=h.lr;omega⟩
 ·refine ⟨fun _=>⟨h1.tabs,h1.rl,h1.cl,h1.room,fun r hr=>?_,h2⟩,fun _=>h5⟩;obtain ⟨q,hq,rfl⟩:=zx.1 hr;exact h3 q hq
structure PartOk (p:Pb) (q:List Int):Prop where
 len:q.length=p.us.length
 rng:∀ x∈q,-1≤x∧x<sumT p.tabs p.tabs.length
 nd:∀ i j,i<j→j<q.length→0≤q.getD i default→q.getD i default≠q.getD j default
def ptX (l:List Tab) (t:Int):Int:=if t<0 then 0 else (tb l t.toNat).X
def ptY (l:List Tab) (t:Int):Int:=if t<0 then 0 else (tb l t.toNat).Y
def stp (l:List Tab) (a b:Int):Int:=max (ptX l a - ptX l b) (ptX l b - ptX l a)+max (ptY l a - ptY l b) (ptY l b - ptY l a)
def e16 (x:Nat):List Value:=[.int .u16 x]
def MdG (g:Gu) (i:Nat):Prop:=g.name=num (25*i)∧Yp g.rank∧Yp g.court∧Yp g.diet∧(0≤g.since∧g.since≤9999)∧(0≤g.side∧g.side≤2)
def MdT (l:List (List UInt8)) (k:Nat):Prop:=l.length≤k∧(∀ j,j<l.length→∃ m,m<k∧l.getD j default=num m)∧∀ j,j+1<l.length→jE (l.getD j default) (l.getD (j+1) default)
theorem MdT.next {l:List (List UInt8)} {k:Nat} (h:MdT l k):MdT l (k+1):=⟨by have:=h.1;omega,fun j hj=>by obtain ⟨m,h1,h2⟩:=h.2.1 j hj;exact ⟨m,by omega,h2⟩,h.2.2⟩
theorem MdT.app {l:List (List UInt8)} {k:Nat} (h:MdT l k) (hk:k<4):MdT (l ++ [num k]) (k+1):=by
 refine ⟨by simp;exact h.1,fun j hj=>?_,fun j hj=>?_⟩
 ·simp at hj;rcases zA7 j l.length with q|q
  ·rw [gA1 q];exact h.next.2.1 j q
  ·obtain rfl:j=l.length:=by omega
   rw [gA2 (zA3 _),zG6];exact ⟨k,by omega,rfl⟩
 ·simp at hj;rw [gA1 (show j<l.length by omega)];rcases zA7 (j+1) l.length with q|q
  ·rw [gA1 q];exact h.2.2 j q
  ·rw [gA2 q,show j+1 - l.length=0 by omega];obtain ⟨m,h1,h2⟩:=h.2.1 j (by omega);rw [h2];exact (yh (by omega) (by omega)).2 h1
abbrev MdR (q q4:Nat) (gs:List Z5) (vg:SlV):List Rs:=[tgR gs,.sl vg.val 45 9 eG gs,.blk q [vg.val,.slice none 0 0] 154,.blk q4 [.slice none 0 0,.slice none 0 0] 154]
abbrev MdI (h0:AH) (q q4:Nat) (la:List Nat) (gs:List Z5) (vg:SlV) (h:AH):Prop:=Hs h0 h (MdR q q4 gs vg)∧gs.length≤12∧gs.length≤la.length∧∀ i,i<gs.length→MdG (gs.getD i default).toGu i∧MdT (gs.getD i default).tg 4
abbrev MdJ (h0:AH) (q q4:Nat) (gs:List Z5) (vg:SlV) (k:Nat) (b:Nat) (g:Z5) (h:AH):Prop:=Hs h0 h (.blk b (eG g) 45 :: .sl g.tv.val 9 1 eS g.tg :: MdR q q4 gs vg)∧MdG g.toGu gs.length∧MdT g.tg k
def TI (us:List Gu) (ts:List Ti) (i k:Nat):Prop:=TS ts∧(∀ t∈ts,jE t.a t.b∧(t.k=1∨t.k=2)∧gat us t.a≠none∧gat us t.b≠none)∧(∀ t∈ts,jE t.a (num i)∨(t.a=num i∧jE t.b (num k)))∧ts.length≤13*((i+24) / 25)+(if i % 25=0 then (k+24) / 25 else 0)
def TIo (us:List Gu) (ts:List Ti) (i:Nat):Prop:=TS ts∧(∀ t∈ts,jE t.a t.b∧(t.k=1∨t.k=2)∧gat us t.a≠none∧gat us t.b≠none)∧(∀ t∈ts,jE t.a (num i))∧ts.length≤13*((i+24) / 25)
theorem TI.out {us:List Gu} {ts:List Ti} {i k:Nat} (h:TI us ts i k) (hi:i<312) (hk:k≤312):TIo us ts (i+1):=by
 refine ⟨h.1,h.2.1,fun t ht=>?_,?_⟩
 ·have:=(yh (i:=i) (j:=i+1) (by omega) (by omega)).2 (by omega);rcases h.2.2.1 t ht with q|q
  ·exact je q this
  ·rw [q.1];exact this
 ·have:=h.2.2.2;split at this<;>omega
theorem TI.next {us:List Gu} {ts:List Ti} {i k:Nat} (h:TI us ts i k) (hk:k<312):TI us ts i (k+1):=by
 refine ⟨h.1,h.2.1,fun t ht=>?_,?_⟩
 ·rcases h.2.2.1 t ht with q|q
  ·exact .inl q
  ·exact .inr ⟨q.1,je q.2 ((yh (by omega) (by omega)).2 (by omega))⟩
 ·have:=h.2.2.2;split at this<;>split<;>omega
theorem TI.app {us:List Gu} {ts:List Ti} {i k:Nat} {z:Int} (h:TI us ts i k) (hik:i<k) (hk:k<312) (hz:z=1∨z=2) (hi2:i % 25=0) (hk2:k % 25=0) (g1:gat us (num i)≠none) (g2:gat us (num k)≠none):TI us (ts ++ [⟨num i,num k,z⟩]) i (k+1):=by
 refine ⟨h.1.app fun j hj=>?_,fun t ht=>?_,fun t ht=>?_,?_⟩
 ·exact h.2.2.1 _ (qQ hj)
 ·rcases zB8.1 ht with q|q
  ·exact h.2.1 t q
  ·obtain rfl:=zB5.1 q;exact ⟨(yh (by omega) (by omega)).2 hik,hz,g1,g2⟩
 ·rcases zB8.1 ht with q|q
  ·exact (h.next hk).2.2.1 t q
  ·obtain rfl:=zB5.1 q;exact .inr ⟨rfl,(yh (by omega) (by omega)).2 (by omega)⟩
 ·have:=h.2.2.2;rw [if_pos hi2] at this ⊢;simp;omega
abbrev MdQ (q q4:Nat) (gs:List Z5) (vg:SlV) (ts:List Ti) (vt:SlV):List Rs:=[.sl vg.val 45 9 eG gs,.blk q4 [.slice none 0 0,.slice none 0 0] 154,tgR gs,.blk q [vg.val,vt.val] 154,.sl vt.val 198 3 QG ts]
variable [Flag]
end Go.Proofs.Xx
namespace Go.Proofs.Xx
open Go Go.Proofs
def xu (k:Nat):List UInt8:=[116,UInt8.ofNat (97+k % 26)]
theorem qci {i j:Nat} (hi:i<26) (hj:j<26) (h:xu i=xu j):i=j:=by
 unfold xu at h;have h1:=congrArg UInt8.toNat (List.cons.inj (List.cons.inj h).2).1;rw [UInt8.toNat_ofNat',UInt8.toNat_ofNat',Nat.mod_eq_of_lt (by omega),Nat.mod_eq_of_lt (by omega)] at h1;omega
def tsz (s a b:Int):Int:=if s=2 then 2*a+b else if s=3 then a+2*b else a
structure qks (i x:Nat) (t:Tab):Prop where
 name:t.name=xu i
 sh:1≤t.shape∧t.shape≤4
 X:t.X=x
 Y:t.Y=255 - x
 A:1≤t.A∧t.A≤6
 B:0≤t.B∧t.B≤6
 sz:zl t=tsz t.shape t.A t.B∧1≤zl t
def qkt (s A B:Int):Prop:=(1≤A∧A≤6)∧(0≤B∧B≤6)∧1≤zW s A B∧zW s A B=tsz s A B
abbrev tnM (i m:Nat) (A B:Int) (os:SlV) (l:List Int):Tab:=⟨xu i,1+(m:Int) % 4,A,B,os,l,m,255 - m⟩
theorem qjh {k:Kd} {p:Pb} {r:Ru} (h1:0≤r.w∧r.w≤1000) (h2:k.plain r) (h3:¬ k.unk p.us r) (h4:¬ (k.a=100∧¬ Qx r.a)) (h5:¬ (k.b=true∧r.a=r.b)) (h6:¬ k.ut p.tabs r) (h7:¬ (k.n=true∧(r.n<k.lo∨k.most p.tabs r<r.n))):k.err p r=0:=by
 unfold Kd.err;rw [if_neg (by omega),if_neg (fun q=>q h2),if_neg h3,if_neg h4,if_neg h5,if_neg h6,if_neg h7]
theorem yD {l m:List Tab} {n:List UInt8} (h:Jw l n):Jw (l ++ m) n∧tix (l ++ m) n=tix l n∧tb (l ++ m) (tix l n)=tb l (tix l n):=by
 obtain ⟨j,hj,hn⟩:=h;have hlt:tix l n<l.length:=by
  unfold tix;refine List.findIdx_lt_length.2 ⟨tb l j,qQ hj,by simpa using hn⟩
 refine ⟨⟨j,by simp;omega,by unfold tb;rw [gA1 hj];exact hn⟩,?_,by unfold tb;rw [gA1 hlt]⟩;unfold tix at hlt ⊢;rw [List.findIdx_append,if_pos hlt]
theorem qfz {p p':Pb} {r:Ru} {m:List Tab} (hu:p'.us=p.us) (ht:p'.tabs=p.tabs ++ m) (h:wP p r=0):wP p' r=0:=by
 unfold wP at h ⊢;split at h
 rotate_left
 ·cases h
 rename_i hk
 rw [if_pos hk];have hks:(Q3 r.k).seat=true→(Q3 r.k).t=116:=by
  have:∀ i,i<18→(kdL.getD i default).seat=true→(kdL.getD i default).t=116:=by decide
  exact this _ (by omega)
 generalize Q3 r.k=k at h hks ⊢
 unfold Kd.err at h;split at h;· cases h
 split at h;· cases h
 split at h;· cases h
 split at h;· cases h
 split at h;· cases h
 split at h;· cases h
 split at h;· cases h
 rename_i h1 h2 h3 h4 h5 h6 h7
 refine qjh (by omega) (zF3.1 h2) (by rw [hu];exact h3) h4 h5 ?_ ?_
 ·rintro (⟨q1,q2⟩|⟨q1,q2,q3⟩)
  ·exact h6 (.inl ⟨q1,fun q=>q2 (by rw [ht];exact (yD q).1)⟩)
  ·exact h6 (.inr ⟨q1,q2,fun q=>q3 (by rw [ht];exact (yD q).1)⟩)
 ·rintro ⟨q1,q2⟩;refine h7 ⟨q1,q2.imp id fun q=>?_⟩;unfold Kd.most at q ⊢;split at q
  ·rename_i hs
   rw [if_pos hs];by_cases hT:Jw p.tabs r.t
   ·obtain ⟨-,e1,e2⟩:=yD (m:=m) hT;rw [ht,e1,e2] at q;exact q
   ·exact absurd (.inl ⟨hks hs,hT⟩) h6
  ·rename_i hs
   rw [if_neg hs];exact q
def e32 (x:Nat):List Value:=[.int .u32 x]
def OpOk (l:List Tab) (h:AH) (fp:Fp):Prop:=∀ t∈l,(Rs.rd t.ov 1 eI t.opn).ok h fp
abbrev opR (l:List Tab):Rs:=.any (OpOk l)
theorem OpOk.rd {h:AH} {fp:Fp} {gs:List Tab} (k:OpOk gs h fp) {i:Nat} (hi:i<gs.length):zC h (tb gs i).ov 1 eI (tb gs i).opn:=by
 have q:=k _ (List.getElem_mem hi);show zC h (gs.getD i default).ov 1 eI (gs.getD i default).opn
 rw [show gs.getD i default=gs[i] by rw [zA2,zA4 hi];rfl];rcases q with ⟨q1,q2⟩|⟨b,o,cap,cc,e,s,r,q1,q2,q3,q4⟩
 ·exact .inl ⟨q1,by rw [q2];rfl,by rw [q2];rfl⟩
 ·exact .inr ⟨b,o,cap,cc,e,s,r,q1,q2,q4⟩
structure NuV where
 vt:SlV
 vg:SlV
 vi:SlV
 vr:SlV
abbrev NuV.cs (v:NuV):List Value:=[v.vt.val,v.vg.val,v.vi.val,v.vr.val]
structure NuR (h:AH) (v:NuV) (a b c d:List Nat):Prop where
 ra:zC h v.vt.val 1 eU a
 rb:zC h v.vg.val 1 e16 b
 cap:Q7 v.vg.val
 rc:zC h v.vi.val 1 eU c
 rd:zC h v.vr.val 1 e32 d
 la:a.length≤9223372036854775807
 lb:b.length≤9223372036854775807
 lc:c.length≤9223372036854775807
 ld:d.length≤9223372036854775807
 ha:∀ i,i<a.length→a.getD i default<256
 hb:∀ i,i<b.length→b.getD i default<65536
 hc:∀ i,i<c.length→c.getD i default<256
 hd:∀ i,i<d.length→d.getD i default<4294967296
abbrev PbR (v:PbV) (p:Pb):List Rs:=[.sl v.vt.val 93 7 eT p.tabs,.sl v.vg.val 45 9 eG v.gs,.sl v.vi.val 198 3 QG p.ts,.sl v.vc.val 3 1 eI p.cl,.sl v.vr.val 158 6 XR p.ru,tgR v.gs,opR p.tabs]
def TabsM (l:List Tab):Prop:=∀ j,j<l.length→(∃ m,m<256∧qks j m (tb l j))∧chk (tb l j)=0∧(tb l j).opn.length≤24
theorem TabsM.valid {l:List Tab} (h:TabsM l) (hl:l.length≤16):ValidL l:=⟨hl,fun j hj=>⟨(h j hj).2.1,fun ⟨i,hi,he⟩=>by
 obtain ⟨⟨m,-,h1⟩,-⟩:=h i (by omega);obtain ⟨⟨m',-,h2⟩,-⟩:=h j hj;rw [h1.name,h2.name] at he;have:=qci (by omega) (by omega) he;omega⟩⟩
theorem qdG {l:List Tab} {t:Tab} (n:Nat):n≤l.length→sumT (l ++ [t]) n=sumT l n:=by
 induction n with
 | zero=>intro _;rfl
 | succ n ih =>
  intro h;have e:tb (l ++ [t]) n=tb l n:=by unfold tb;rw [gA1 (show n<l.length by omega)]
  simp only [sumT,ih (by omega),e]
section
variable {P:Program} {X:Extern} {sz:Nat} {L L':Ks} {h h0:AH} {rs:List Rs} {ops:Array Oper} {os:List Oper} {o:Oper} {R:Ks→AH→Prop}
end
def vP (k:Nat):List UInt8:=[114,UInt8.ofNat (97+k)]
theorem qcy {k:Nat} (hk:k<26):Qx (vP k):=by
 refine ⟨by simp [vP],by simp [vP],fun i hi=>?_⟩;have hi:i<2:=by simpa [vP] using hi
 rcases (show i=0∨i=1 by omega) with rfl|rfl
 ·show Zt 114
  unfold Zt;decide
 ·show Zt (UInt8.ofNat (97+k))
  unfold Zt;rw [UInt8.toNat_ofNat',Nat.mod_eq_of_lt (by omega)];omega
theorem qdY {i j:Nat} (hi:i<26) (hj:j<26) (h:vP i=vP j):i=j:=by
 unfold vP at h;have h1:=congrArg UInt8.toNat (List.cons.inj (List.cons.inj h).2).1;rw [UInt8.toNat_ofNat',UInt8.toNat_ofNat',Nat.mod_eq_of_lt (by omega),Nat.mod_eq_of_lt (by omega)] at h1;omega
theorem qcx {i j:Nat}:vP i≠xu j:=fun h=>by
 have h1:=congrArg UInt8.toNat (List.cons.inj h).1;revert h1;decide
def rowT (k x:Nat):Tab:=⟨vP k,4,1+(x:Int) % 3,0,⟨none,0,0⟩,[],(x:Int) / 3 % 50,(x:Int) / 150 % 50⟩
theorem qdX {k x:Nat} (hk:k<26):chk (rowT k x)=0:=by
 have hs:zl (rowT k x)=1+(x:Int) % 3:=by
  show ZB (1+(x:Int) % 3) 0=_
  unfold ZB;rw [if_pos (by omega)]
 unfold chk;rw [if_neg (fun q=>q (qcy hk)),if_neg (by rw [hs];omega),if_neg (fun q=>q fun i hi=>absurd hi (zB7 _)),if_neg];exact fun q=>q ⟨by show 0≤(x:Int) / 3 % 50;omega,by show (x:Int) / 3 % 50≤1000;omega,by show 0≤(x:Int) / 150 % 50;omega,by show (x:Int) / 150 % 50≤1000;omega⟩
def NmI (l:List Tab) (i:Nat):Prop:=∀ j,j<l.length→((∃ k,(tb l j).name=xu k)∨∃ k,k<i∧(tb l j).name=vP k)∧(tb l j).opn.length≤24
theorem PO.row {p:Pb} {i x:Nat} (h:PO p) (hn:NmI p.tabs i) (hi:i<6) (hl:p.tabs.length≤15):PO { p with tabs:=p.tabs ++ [rowT i x] }∧NmI (p.tabs ++ [rowT i x]) (i+1):=by
 have e1:∀ j,j<p.tabs.length→tb (p.tabs ++ [rowT i x]) j=tb p.tabs j:=fun j hj=>by unfold tb;rw [gA1 hj]
 have e2:tb (p.tabs ++ [rowT i x]) p.tabs.length=rowT i x:=by unfold tb;rw [gA2 (zA3 _),zG6];rfl
 have hlen:(p.tabs ++ [rowT i x]).length=p.tabs.length+1:=by simp
 have hsz:=Qv (rowT i x);refine ⟨⟨⟨by rw [hlen];omega,fun j hj=>?_⟩,h.rl,h.cl,?_,fun r hr=>qfz (p:=p) rfl rfl (h.ru r hr),h.lr⟩,fun j hj=>?_⟩
 ·rcases zA7 j p.tabs.length with q|q
  ·have g:=h.tabs.2 j q;refine ⟨by rw [e1 j q];exact g.1,fun ⟨m,hm,he⟩=>g.2 ⟨m,hm,by rw [e1 m (by omega),e1 j q] at he;exact he⟩⟩
  ·have hj:j=p.tabs.length:=by rw [hlen] at hj;omega
   subst hj;refine ⟨by rw [e2];exact qdX (by omega),fun ⟨m,hm,he⟩=>?_⟩;rw [e1 m hm,e2] at he;rcases (hn m hm).1 with ⟨k,hk⟩|⟨k,hk,hk2⟩
   ·exact qcx (he.symm.trans hk)
   ·have:=qdY (by omega) (by omega) (hk2.symm.trans he);omega
 ·have:=h.room;show (p.us.length:Int)≤sumT (p.tabs ++ [rowT i x]) (p.tabs ++ [rowT i x]).length
  rw [hlen];show _≤sumT (p.tabs ++ [rowT i x]) p.tabs.length+zl (tb (p.tabs ++ [rowT i x]) p.tabs.length)
  rw [qdG _ (zA3 _),e2];omega
 ·rcases zA7 j p.tabs.length with q|q
  ·rw [e1 j q];exact ⟨(hn j q).1.imp id fun ⟨k,h1,h2⟩=>⟨k,by omega,h2⟩,(hn j q).2⟩
  ·have hj:j=p.tabs.length:=by rw [hlen] at hj;omega
   rw [hj,e2];exact ⟨.inr ⟨i,by omega,rfl⟩,zB0 _⟩
theorem NuR.ext {h h':AH} {v:NuV} {a b c d:List Nat} (H:NuR h v a b c d) (w:WfH h) (x:Ext h h'):NuR h' v a b c d:=⟨H.ra.ext w x,H.rb.ext w x,H.cap,H.rc.ext w x,H.rd.ext w x,H.la,H.lb,H.lc,H.ld,H.ha,H.hb,H.hc,H.hd⟩
structure SeI (N:Nat) (q:List Int) (tk:List Bool):Prop where
 tl:tk.length=N
 rng:∀ x∈q,-1≤x∧x<N
 nd:∀ i j,i<j→j<q.length→0≤q.getD i default→q.getD i default≠q.getD j default
 fr:∀ k,k<N→tk.getD k default=false→(k:Int) ∉ q
theorem SeI.none {N:Nat} {q:List Int} {tk:List Bool} (h:SeI N q tk):SeI N (q ++ [-1]) tk:=by
 refine ⟨h.tl,fun x hx=>?_,fun i j hij hj h0=>?_,fun k hk ht hx=>?_⟩
 ·rcases zB8.1 hx with q|q
  ·exact h.rng x q
  ·obtain rfl:=zB5.1 q;omega
 ·simp at hj;rw [gA1 (show i<q.length by omega)] at h0 ⊢;rcases zA7 j q.length with r|r
  ·rw [gA1 r];exact h.nd i j hij r h0
  ·rw [gA2 r,show j - q.length=0 by omega];show q.getD i default≠-1
   omega
 ·rcases zB8.1 hx with q|q
  ·exact h.fr k hk ht q
  ·have:=zB5.1 q;omega
theorem SeI.some {N:Nat} {q:List Int} {tk:List Bool} (h:SeI N q tk) {s:Nat} (hs:s<N) (hf:tk.getD s default=false):SeI N (q ++ [(s:Int)]) (tk.set s true):=by
 have hn:=h.fr s hs hf;refine ⟨by simp [h.tl],fun x hx=>?_,fun i j hij hj h0=>?_,fun k hk ht hx=>?_⟩
 ·rcases zB8.1 hx with q|q
  ·exact h.rng x q
  ·obtain rfl:=zB5.1 q;omega
 ·simp at hj;rw [gA1 (show i<q.length by omega)] at h0 ⊢;rcases zA7 j q.length with r|r
  ·rw [gA1 r];exact h.nd i j hij r h0
  ·rw [gA2 r,show j - q.length=0 by omega];show q.getD i default≠(s:Int)
   intro e;exact hn (e ▸ qQ (show i<q.length by omega))
 ·rw [zA2,List.getElem?_set] at ht;by_cases e:s=k
  ·rw [if_pos e,if_pos (by rw [h.tl];exact hs)] at ht;cases ht
  ·rw [if_neg e,← zA2] at ht;rcases zB8.1 hx with q|q
   ·exact h.fr k hk ht q
   ·have:=zB5.1 q;omega
theorem qfn {h0:AH} (w:WfH h0) (g:Z5) (nm:List UInt8) (b:Nat) (hb:h0.get b=some (.cells [str nm] 9 none false)):Fn Tryz.prog Xh 301 [gV g,.pointer (some ⟨b,0,none⟩)] h0 (fun v h'=>qZ v (g.name=nm)∧Hs h0 h' []):=by
 have S:=Hs.start w;refine qL (by first|rfl) Tryz.func301 rfl rfl ?_;all_goals (repeat' (first|refine qg ?_|(refine qc 0 ?_;(refine bx S ?_;clear S;intro b h S);refine mv ?_;refine qf ?_)|(refine qc 1 ?_;refine vl ?_;refine lB S rfl rfl ?_;refine lH S ?_;(refine tS ?_ ?_<;>intro hc)<;>(refine mv ?_;refine qf ?_))))
 all_goals (refine qo ⟨_,rfl,?_⟩)
 all_goals (refine ⟨?_,S.drop⟩;unfold qZ)
 ·exact .inl ⟨rfl,hc⟩
 ·exact .inr ⟨rfl,hc⟩
theorem qfP {h0:AH} (w:WfH h0) (v:Value) (l:List Z5) (g:Nat) (cap:List Value) (p:Nat→Prop) (hr:zC h0 v 9 eG l) (hl:l.length≤9223372036854775807)
 (hf:∀ i h,i<l.length→Hs h0 h []→Fn Tryz.prog Xh g (gV (l.getD i default) :: cap) h (fun v h'=>qZ v (p i)∧Hs h h' [])) :
 Fn Tryz.prog Xh 300 [v,.func (.func g) #[] cap.toArray] h0 (fun r h'=>qcf r p l.length∧Hs h0 h' []):=by
 have S:=Hs.start w;refine qL (by first|rfl) Tryz.func300 rfl rfl ?_;all_goals (repeat' (first|refine qg ?_|refine qj ?_|(refine qc 0 ?_;refine mv ?_;refine qf ?_)|(refine qc 1 ?_;refine mv ?_;refine jf S ?_;refine mv ?_;refine qf ?_)))
 refine qH (σ:=Nat) (fun i h'=>Hs h0 h' []∧i≤l.length∧∀ j,j<i→¬ p j) (fun i=>l.length - i) (fun i=>[(0,v),(1,.func (.func g) #[] cap.toArray),(7,.int .i64 l.length),(8,.int .i64 i)]) 0 qx ?_ ?_
 ·exact ⟨S,zB0 _,fun j hj=>absurd hj (zB7 _)⟩
 clear S;rintro i h ⟨S,h1,h2⟩;all_goals (repeat' (first|refine qg ?_|refine qh rfl ?_|refine qi ?_|refine qC ?_|refine qj ?_|(refine qc 2 ?_;(first|(refine cS ?_ ?_<;>intro hc))<;>(refine qf ?_))|(refine qc 3 ?_;refine mv ?_;refine mv ?_;refine qf ?_)|(refine qc 4 ?_;(iterate 3 refine mv ?_);refine jF S ?_;refine jk S ?_)|(refine qc 7 ?_;refine mv ?_;refine qf ?_)))
 ·(refine zK rfl rfl rfl rfl ((hf i _ (by omega) S).mono ?_);rintro _ h ⟨⟨rfl,hq⟩|⟨rfl,hq⟩,x⟩)<;>(replace S:=S.qE x;clear x;refine qf ?_)
  all_goals (repeat' (first|refine qg ?_|refine qh rfl ?_|refine qi ?_|(refine qc 5 ?_;refine mv ?_;refine mv ?_;refine qf ?_)|(refine qc 6 ?_;refine ad ?_;refine mv ?_;refine qf ?_)))
  ·refine qo ⟨_,rfl,?_⟩;exact ⟨.inl ⟨i,by omega,rfl,hq,h2⟩,S⟩
  ·refine ⟨i+1,?_,?_,qx⟩
   ·show l.length - (i+1)<l.length - i;omega
   ·exact ⟨S,by omega,Qj h2 hq⟩
 ·refine qo ⟨_,rfl,?_⟩;exact ⟨.inr ⟨rfl,fun j hj=>h2 j (by omega)⟩,S⟩
theorem qfQ {gs:List Z5} {us:List Gu} (hu:gs.map (·.toGu)=us) (nm:List UInt8) {v:Value} (h:qcf v (fun i=>(gs.getD i default).name=nm) gs.length):v = .int .i64 (gI us nm):=by
 have e:∀ i,i<gs.length→(us.getD i default).name=(gs.getD i default).name:=fun i hi=>by
  rw [← hu,jc hi]
 have hl:gs.length=us.length:=by rw [← hu];simp
 unfold gI;rcases h with ⟨i,hi,rfl,h1,h2⟩|⟨rfl,h2⟩
 ·cases hq:gat us nm with
  | none=>exact absurd ((e i hi).trans h1) (XM.1 hq _ (qQ (by omega)))
  | some j =>
   obtain ⟨q1,q2,q3⟩:=Vh hq;rcases zE6 i j with q|q|q
   ·exact absurd ((e i hi).trans h1) (q3 i q)
   ·rw [q]
   ·exact absurd ((e j (by omega)).symm.trans q2) (h2 j q)
 ·cases hq:gat us nm with
  | none=>rfl
  | some j =>
   obtain ⟨q1,q2,q3⟩:=Vh hq;exact absurd ((e j (by omega)).symm.trans q2) (h2 j (by omega))
theorem Vy {h0:AH} (w:WfH h0) (v:PbV) (p:Pb) (H:PbOk h0 v p) (nm:List UInt8):Fn Tryz.prog Xh 220 [v.val,str nm] h0 (fun r h'=>r = .int .i64 (gI p.us nm)∧Hs h0 h' []):=by
 have S:=Hs.start w;have hr:=H.rol.rg;have hl:=H.rol.len;have hlg:v.gs.length≤9223372036854775807:=by rw [hl];exact H.rol.lg
 unfold PbV.val;refine qL (by first|rfl) Tryz.func220 rfl rfl ?_;all_goals (repeat' (first|refine qg ?_|(refine qc 0 ?_;(refine bx S ?_;clear S;intro b h S);(refine bx S ?_;clear S;intro b h S);refine mv ?_;refine qf ?_)|(refine qc 1 ?_;refine vl ?_;refine lB S rfl rfl ?_;refine vl ?_)))
 have gb:=S.gB (b:=b);have hf:∀ i h',i<v.gs.length→Hs h h' []→Fn Tryz.prog Xh 301 (gV (v.gs.getD i default) :: [.pointer (some ⟨b,0,none⟩)]) h' (fun v' h''=>qZ v' ((v.gs.getD i default).name=nm)∧Hs h' h'' []):=fun i h' hi x=>qfn x.wf (v.gs.getD i default) nm b (x.ext.get S.wf gb);(refine qw rfl rfl rfl rfl rfl ((qfP S.wf v.vg.val v.gs 301 [.pointer (some ⟨b,0,none⟩)] (fun i=>(v.gs.getD i default).name=nm) (hr.ext w S.ext) hlg hf).mono ?_);rintro _ h ⟨hq,x⟩)<;>(replace S:=S.qE x;clear x;refine mv ?_;refine qf ?_)
 obtain rfl:=qfQ H.rol.us nm hq;all_goals (repeat' (fail))
 refine qo ⟨_,rfl,?_⟩;exact ⟨rfl,S.drop⟩
theorem qdZ {h:AH} (s:List UInt8):Fn Tryz.prog Xh 221 [str s] h (fun v h'=>qZ v (Qx s)∧h'=h):=by
 refine qL (by first|rfl) Tryz.func221 rfl rfl ?_;all_goals (repeat' (first|refine qg ?_|refine qh rfl ?_|refine qi ?_|(refine qc 0 ?_;refine mv ?_;refine qf ?_)|(refine qc 1 ?_;refine mv ?_;refine tl ?_;(first|(refine cS ?_ ?_<;>intro hc))<;>(refine mv ?_;(first|refine off ?_|refine mv ?_);(first|refine off ?_|refine tl ?_);(first|refine off ?_|(first|(refine cS ?_ ?_<;>intro hc)))<;>(refine vl ?_;refine qf ?_)))|(refine qc 2 ?_;refine mv ?_;refine qf ?_)))
 ·refine qo ⟨_,rfl,?_⟩;exact ⟨.inr ⟨rfl,fun q=>by have:=q.1;omega⟩,rfl⟩
 ·refine qo ⟨_,rfl,?_⟩;exact ⟨.inr ⟨rfl,fun q=>by have:=q.2.1;omega⟩,rfl⟩
 all_goals (repeat' (first|refine qj ?_|(refine qc 3 ?_;refine mv ?_;refine tl ?_;refine mv ?_;refine qf ?_)))
 refine qH (σ:=Nat) (fun i h'=>h'=h∧i≤s.length∧∀ j,j<i→Zt (s.getD j default)) (fun i=>s.length - i) (fun i=>[(0,str s),(13,.int .i64 s.length),(14,.int .i64 i)]) 0 qx ?_ ?_
 ·exact ⟨rfl,zB0 _,fun j hj=>absurd hj (zB7 _)⟩
 rintro i h ⟨rfl,h1,h2⟩;all_goals (repeat' (first|refine qg ?_|refine qh rfl ?_|refine qi ?_|refine qC ?_|refine qj ?_|(refine qc 4 ?_;(first|(refine cS ?_ ?_<;>intro hc))<;>(refine qf ?_))|(refine qc 5 ?_;refine mv ?_;refine mv ?_;refine qf ?_)|(refine qc 6 ?_;refine mv ?_;refine mv ?_;refine ti ?_;(first|(refine cS ?_ ?_<;>intro hc))<;>(refine mv ?_;(first|refine off ?_|refine mv ?_);(first|refine off ?_|refine mv ?_);(first|refine off ?_|(refine ti ?_));(first|refine off ?_|(first|(refine cS ?_ ?_<;>intro hc)))<;>(refine vl ?_;refine qf ?_)))|(refine qc 7 ?_;refine mv ?_;refine qf ?_)|(refine qc 8 ?_;refine ad ?_;refine mv ?_;refine qf ?_)|(refine qc 9 ?_;refine mv ?_;refine qf ?_)))
 all_goals (try simp only [zA0] at *)
 ·refine qo ⟨_,rfl,?_⟩;exact ⟨.inr ⟨rfl,fun q=>by have:=q.2.2 i (by omega);unfold Zt at this;simp only [YU] at this;omega⟩,rfl⟩
 ·refine qo ⟨_,rfl,?_⟩;exact ⟨.inr ⟨rfl,fun q=>by have:=q.2.2 i (by omega);unfold Zt at this;simp only [YU] at this;omega⟩,rfl⟩
 ·refine ⟨i+1,?_,?_,qx⟩
  ·show s.length - (i+1)<s.length - i;omega
  ·refine ⟨rfl,by omega,Qj h2 ?_⟩;unfold Zt;simp only [YU];omega
 ·refine qo ⟨_,rfl,?_⟩;exact ⟨.inl ⟨rfl,by omega,by omega,fun j hj=>h2 j (by omega)⟩,rfl⟩
def eKd (wd:List UInt8) (k:Kd) (f:Value):List Value:=[str wd,.int .u8 k.a,.bool k.b,.int .u8 k.t,.bool k.n,.int .i64 k.lo,.bool k.seat,f]
abbrev kdV (wd:List UInt8) (k:Kd) (f:Value):Value:=.agg (eKd wd k f).toArray
theorem qd6 {h0:AH} (w:WfH h0) (wd:List UInt8) (k:Kd) (f:Value) (r:Ru):Fn Tryz.prog Xh 219 [kdV wd k f,ruV r] h0 (fun v h'=>qZ v (k.plain r)∧Hs h0 h' []):=by
 have S:=Hs.start w;obtain ⟨ka,kb,kt,kn,lo,st⟩:=k;unfold kdV eKd ruV XR;cases kb<;>cases kn
 all_goals (refine qL (by first|rfl) Tryz.func219 rfl rfl ?_)
 all_goals (all_goals (repeat' (first|refine qg ?_|(refine qc 0 ?_;(refine bx S ?_;clear S;intro b h S);(refine bx S ?_;clear S;intro b h S);refine mv ?_;refine qf ?_)|(refine qc 1 ?_;refine vl ?_;refine lB S rfl rfl ?_;(first|(refine cS ?_ ?_<;>intro hc))<;>(refine mv ?_;(first|refine off ?_|(refine vl ?_));(first|refine off ?_|(refine lB S rfl rfl ?_));(first|refine off ?_|(refine tS ?_ ?_<;>intro hc))<;>(refine vl ?_;refine mv ?_;(first|refine off ?_|(refine vl ?_));(first|refine off ?_|(refine lB S rfl rfl ?_));(first|refine off ?_|refine mv ?_);(first|refine off ?_|(refine vl ?_));(first|refine off ?_|(refine lB S rfl rfl ?_));(first|refine off ?_|(refine tS ?_ ?_<;>intro hc))<;>((first|refine off ?_|refine vl ?_);refine vl ?_;refine mv ?_;(first|refine off ?_|(refine vl ?_));(first|refine off ?_|(refine lB S rfl rfl ?_));(first|refine off ?_|(first|(refine cS ?_ ?_<;>intro hc)))<;>((first|refine off ?_|refine mv ?_);(first|refine off ?_|(refine vl ?_));(first|refine off ?_|(refine lB S rfl rfl ?_));(first|refine off ?_|(refine tS ?_ ?_<;>intro hc))<;>((first|refine off ?_|refine vl ?_);refine vl ?_;refine mv ?_;(first|refine off ?_|(refine vl ?_));(first|refine off ?_|(refine lB S rfl rfl ?_));(first|refine off ?_|refine mv ?_);(first|refine off ?_|(refine vl ?_));(first|refine off ?_|(refine lB S rfl rfl ?_));(first|refine off ?_|(first|(refine cS ?_ ?_<;>intro hc)))<;>((first|refine off ?_|refine vl ?_);refine vl ?_;refine mv ?_;refine qf ?_))))))))))
 all_goals (refine qo ⟨_,rfl,?_⟩)
 all_goals refine ⟨?_,S.drop⟩
 all_goals unfold qZ
 all_goals first|exact .inl ⟨rfl,by simp_all [Kd.plain]⟩|exact .inr ⟨rfl,by simp_all [Kd.plain]⟩
end Go.Proofs.Xx
