/-
  A pair is put into the list;Tie.
-/
import Derived.Test.YtidmdnenlgjpeaaGreatDoorM9
import Derived.Test.YtidmdnenlgjpeaaGreatDoorM7
set_option linter.unusedSimpArgs false
set_option linter.unusedVariables false
set_option maxRecDepth 100000
set_option linter.unusedSectionVars false
set_option maxHeartbeats 4000000
namespace Go.Proofs.Xx
open Go Go.Proofs
instance (x y:Ti):Decidable (Zl x y):=inferInstanceAs (Decidable (_∨_))
def jK (a b:List UInt8) (k:Int):Ti:=⟨jV a b,jW a b,k⟩
def tied (ts:List Ti) (a b:List UInt8):Prop:=∃ t∈ts,t.a=jV a b∧t.b=jW a b
def yX:List Ti→Ti→List Ti
 | [],t=>[t]
 | x :: r,t=>if Zl x t then x :: yX r t else t :: x :: r
open Classical in
noncomputable def ZE (r:Rl) (a b:List UInt8) (k:Int):Rl×Int :=
 if (k≠1∧k≠2)∨a=b then (r,23) else if gat r.us a=none∨gat r.us b=none then (r,6) else if tied r.ts a b then (r,5) else if 256≤r.ts.length then (r,7) else (⟨r.us,yX r.ts (jK a b k)⟩,0)
theorem V9 {t:Ti}:∀ {l:List Ti} {i:Nat},Plc l t i→yX l t=l.take i ++ t :: l.drop i
 | [],i,h=>by simp [yX]
 | x :: r,0,h=>by
  have:=h.2.2 0 (Nat.le_refl _) (by simp)
  show (if Zl x t then _ else _)=_
  rw [if_neg (show ¬ Zl x t from this)];rfl
 | x :: r,i+1,h=>by
  have h0:=h.2.1 0 (Nat.succ_pos _)
  show (if Zl x t then _ else _)=_
  rw [if_pos (show Zl x t from h0),V9 (l:=r) (i:=i) ⟨by have:=h.1;simp at this;omega,fun j hj=>h.2.1 (j+1) (by omega),fun j h1 h2=>h.2.2 (j+1) (by omega) (by simp;omega)⟩]
  rfl
theorem Plc.tied {l:List Ti} {a b:List UInt8} {i:Nat} (hs:TS l) (h:Plc l ⟨jV a b,jW a b,0⟩ i):tied l a b↔i<l.length∧(l.getD i default).a=jV a b∧(l.getD i default).b=jW a b:=by
 constructor
 ·rintro ⟨t,ht,e1,e2⟩
  obtain ⟨j,hj,rfl⟩:=List.mem_iff_getElem.1 ht
  have eg:l.getD j default=l[j]:=by rw [List.getD_eq_getElem?_getD,List.getElem?_eq_getElem hj];rfl
  have hji:i≤j:=by
   rcases Nat.lt_or_ge j i with q|q
   ·have:=h.2.1 j q
    rw [eg] at this
    rcases this with q|q
    ·rw [e1] at q;exact absurd q (zL _)
    ·rw [e2] at q;exact absurd q.2 (zL _)
   ·exact q
  rcases Nat.lt_or_ge i j with q|q
  ·have q1:=hs.lt q hj
   rw [eg] at q1
   refine absurd ?_ (h.2.2 i (Nat.le_refl _) (by omega))
   unfold Zl at q1 ⊢
   rw [e1,e2] at q1
   exact q1
  ·obtain rfl:i=j:=by omega
   rw [eg];exact ⟨hj,e1,e2⟩
 ·rintro ⟨h1,h2,h3⟩
  refine ⟨_,List.getElem_mem h1,?_⟩
  rw [show l[i]=l.getD i default by rw [List.getD_eq_getElem?_getD,List.getElem?_eq_getElem h1];rfl]
  exact ⟨h2,h3⟩
theorem yM {r:Rl} {a b:List UInt8} {k:Int} (h:(k≠1∧k≠2)∨a=b):ZE r a b k=(r,23):=by unfold ZE;rw [if_pos h]
theorem VS {r:Rl} {a b:List UInt8} {k:Int} (h:¬ ((k≠1∧k≠2)∨a=b)) (h2:gat r.us a=none∨gat r.us b=none):ZE r a b k=(r,6):=by unfold ZE;rw [if_neg h,if_pos h2]
theorem yL {r:Rl} {a b:List UInt8} {k:Int} (h:¬ ((k≠1∧k≠2)∨a=b)) (h2:¬ (gat r.us a=none∨gat r.us b=none)) (h3:tied r.ts a b):ZE r a b k=(r,5):=by unfold ZE;rw [if_neg h,if_neg h2,if_pos h3]
theorem yK {r:Rl} {a b:List UInt8} {k:Int} (h:¬ ((k≠1∧k≠2)∨a=b)) (h2:¬ (gat r.us a=none∨gat r.us b=none)) (h3:¬ tied r.ts a b) (h4:256≤r.ts.length):ZE r a b k=(r,7):=by unfold ZE;rw [if_neg h,if_neg h2,if_neg h3,if_pos h4]
theorem yN {r:Rl} {a b:List UInt8} {k:Int} (h:¬ ((k≠1∧k≠2)∨a=b)) (h2:¬ (gat r.us a=none∨gat r.us b=none)) (h3:¬ tied r.ts a b) (h4:¬ 256≤r.ts.length):ZE r a b k=(⟨r.us,yX r.ts (jK a b k)⟩,0):=by unfold ZE;rw [if_neg h,if_neg h2,if_neg h3,if_neg h4]
variable [Flag]
theorem qbP {h0 h:AH} {rs:List Rs} {vt:SlV} {v1:Value} {l:List Ti} {t:Ti} (i:Nat) (hi:i≤l.length) (hl:l.length≤1000000) (S:Hs h0 h (.sl v1 111 3 YB [zW t] :: .sl vt.val 111 3 zW l :: rs)) :
 Fn Tryz.prog Xh 88 [vt.val,.int .i64 i,v1] h (fun u h'=>Hs h0 h' (.sl u 111 3 zW (l.take i ++ t :: l.drop i) :: rs)):=by
 have hfl:=zk (enc:=zW) (z:=3) (by intro _;rfl) l
 obtain ⟨f1,k1,k2,f2,k3,k4,k5⟩:=S.sep
 rcases k1 with ⟨-,k⟩|⟨vb,vo,vcc,vslk,vcap,rfl,g1,fv,t1,c1,s1⟩
 ·cases k
 replace S:Hs h0 h (.sl (.slice (some ⟨vb,vo,none⟩) 1 vcap) 111 3 YB [zW t] :: .sl vt.val 111 3 zW l :: rs):=S
 show Fn Tryz.prog Xh 88 [vt.val,.int .i64 i,.slice (some ⟨vb,vo,none⟩) 1 vcap] h _
 by_cases hlt:i<l.length
 ·rcases k3 with ⟨-,rfl⟩|⟨b,o,cc,slk,cap,e2,g2,fb,t2,c2,s2⟩
  ·exact absurd hlt (by simp)
  rw [e2]
  have hne:(!Nat.beq b vb)=true:=by
   cases hq:Nat.beq b vb with
   | false=>rfl
   | true=>have:=Nat.eq_of_beq_eq_true hq;subst this;exact absurd fv (k4 b fb).2.2.2
  have hone:((l.flatMap zW).all one?)=true:=by
   rw [List.all_eq_true]
   intro x hx
   obtain ⟨y,-,hy⟩:=List.mem_flatMap.1 hx
   simp [zW] at hy
   rcases hy with rfl|rfl|rfl<;>rfl
  refine Jo (v:=.slice (some ⟨h.next,0,none⟩) (l.length+1) (l.length+1)) (h':=(h.put b .dead).add (.cells ((l.flatMap zW).take (i*3) ++ (zW t ++ (l.flatMap zW).drop (i*3))) 111 (some 3) false)) ?_ ?_
  ·show ZG X0 88 88 [.slice (some ⟨b,o,none⟩) l.length cap,.int .i64 (.ofNat i),.slice (some ⟨vb,vo,none⟩) 1 vcap] h=_
   unfold ZG
   have hb1:Nat.blt i l.length=true:=by rw [Nat.blt_eq];exact hlt
   have t1':zn vcc vo 3=some (zW t):=by simpa [YB] using t1
   have hc2:Nat.ble (o+cap*3) cc.length=true:=Nat.ble_eq_true_of_le c2.2
   have hsz:Nat.ble ((l.length+1)*40) 140737488355328=true:=Nat.ble_eq_true_of_le (by omega)
   have hot:((zW t).all one?)=true:=rfl
   simp only [show Nat.beq 88 88=true from rfl,hb1,g2,g1,t2,t1',hc2,hsz,hone,hot,hne,Bool.and_true,show Nat.beq 111 111=true from rfl]
   rcases s2 with rfl|rfl<;>rfl
  ·have W:=(S.wf.put (k4 b fb).2.1 .dead)
   have S2:Hs h0 ((h.put b .dead).add (.cells ((l.flatMap zW).take (i*3) ++ (zW t ++ (l.flatMap zW).drop (i*3))) 111 (some 3) false)) (.sl (.slice (some ⟨vb,vo,none⟩) 1 vcap) 111 3 YB [zW t] :: .sl (.slice (some ⟨h.next,0,none⟩) (l.length+1) (l.length+1)) 111 3 zW (l.take i ++ t :: l.drop i) :: rs):=by
    refine S.turn (.there .here) (Nat.le_succ _) (W.add _) fun fp q1 q2=>?_
    rcases q1 with ⟨q1,-⟩|⟨b2,o2,cc2,sl2,cap2,q1,-,q3,-⟩
    ·rw [q1] at e2;cases e2
    obtain rfl:b2=b:=by rw [q1] at e2;cases e2;rfl
    refine ⟨fun j hj hf=>?_,fun j=>j=h.next,.inr ⟨h.next,0,(l.flatMap zW).take (i*3) ++ (zW t ++ (l.flatMap zW).drop (i*3)),some 3,l.length+1,?_,?_,rfl,?_,⟨?_,?_⟩,.inr rfl⟩,fun j hj=>?_⟩
    ·rw [AH.zi,if_neg (by show j≠h.next;omega),AH.get_put,if_neg]
     intro q;subst q;exact hf q3
    ·simp;omega
    ·rw [AH.zi];exact if_pos rfl
    ·have e:((l.flatMap zW).take (i*3) ++ (zW t ++ (l.flatMap zW).drop (i*3)))=(l.take i ++ t :: l.drop i).flatMap zW:=by
      rw [List.flatMap_append,List.flatMap_cons,QB (z:=3) (by intro _;rfl),jY (z:=3) (by intro _;rfl)]
     rw [e]
     rw [← zk (enc:=zW) (z:=3) (by intro _;rfl)]
     exact jq _
    ·simp;omega
    ·simp [hfl,zW];omega
    ·subst hj;exact ⟨Nat.lt_succ_self _,.inr (Nat.le_refl _)⟩
   exact S2.tail
 ·obtain rfl:i=l.length:=by omega
  have hX:Xh 88 [vt.val,.int .i64 l.length,.slice (some ⟨vb,vo,none⟩) 1 vcap] h=none:=by
   rcases k3 with ⟨e2,rfl⟩|⟨b,o,cc,slk,cap,e2,-⟩
   ·rw [e2];rfl
   ·rw [e2]
    show ZG X0 88 88 [.slice (some ⟨b,o,none⟩) l.length cap,.int .i64 (.ofNat l.length),.slice (some ⟨vb,vo,none⟩) 1 vcap] h=_
    unfold ZG
    have hb1:Nat.blt l.length l.length=false:=by rw [← Bool.not_eq_true,Nat.blt_eq];omega
    simp only [show Nat.beq 88 88=true from rfl,hb1]
    rfl
  have hr:=Rd.Ze S (.there .here)
  have hcap:=S.qdL (.there .here)
  refine zD (hX) Tryz.func88 rfl rfl ?_
  all_goals (repeat' (first|refine qA ?_|refine qw rfl ?_|refine qx ?_|refine qy ?_|refine qo ?_|refine qi ?_|refine qj ?_|(refine qg 0 ?_;refine mv ?_;refine qf ?_)))
  (repeat (refine qA ?_));refine qg 1 ?_;refine mv ?_;refine mv ?_
  refine su l.length l.length hr hcap (fun v' _ _=>?_)
  (refine qf ?_)
  all_goals (repeat' (first|refine qA ?_|refine qw rfl ?_|refine qx ?_|refine qy ?_|refine qo ?_|refine qi ?_|refine qj ?_|(refine qg 0 ?_;refine mv ?_;refine qf ?_)|(refine qg 1 ?_;refine mv ?_;refine mv ?_;(refine dr S rfl rfl ?_;clear S;intro vq S);refine qf ?_)|(refine qg 2 ?_;refine mv ?_;(first|refine Zq S ?_|refine Zp S rfl rfl ?_);refine mv ?_;refine qf ?_)|(refine qg 3 ?_;refine mv ?_;(first|refine cT ?_|refine cF ?_|(refine cS ?_ ?_<;>intro hc))<;>(refine qf ?_))|(refine qg 4 ?_;refine mv ?_;refine mv ?_;refine qf ?_)|(refine qg 5 ?_;refine mv ?_;(first|refine Zq S ?_|refine Zp S rfl rfl ?_);refine mv ?_;refine qf ?_)|(refine qg 6 ?_;refine mv ?_;refine mv ?_;(first|refine cT ?_|refine cF ?_|(refine cS ?_ ?_<;>intro hc))<;>(refine qf ?_))|(refine qg 7 ?_;refine mv ?_;refine mv ?_)|(refine qg 8 ?_;refine mv ?_;refine mv ?_;(first|refine ad ?_|refine vl ?_);refine mv ?_)))
  ·simp at hc
  ·refine app (y0:=t) S rfl rfl ?_;clear S;intro v h S;(refine mv ?_;refine qf ?_)
   all_goals (repeat' (first|refine qA ?_|refine qw rfl ?_|refine qx ?_|refine qy ?_|refine qo ?_|refine qi ?_|refine qj ?_))
   refine qH ⟨_,rfl,?_⟩
   simp only [List.take_length,List.drop_length]
   exact S
  all_goals exact absurd rfl (by assumption)
theorem qah {h0 h:AH} {rs:List Rs} {p:Nat} {r:Rl} (S:Hs h0 h (Q5 p r :: rs)) (a b:List UInt8) (k:Int) (hl:r.ts.length≤256) (hs:TS r.ts) :
 Fn Tryz.prog Xh 37 [.pointer (some ⟨p,0,none⟩),str a,str b,.int .u8 k] h (fun v h'=>v = .int .i64 (ZE r a b k).2∧Hs h0 h' (Q5 p (ZE r a b k).1 :: rs)):=by
 obtain ⟨⟨vg,vt,m,mp,gs⟩,⟨q1,q2⟩,S⟩:=S.unpack
 have e1:gs.length=r.us.length:=by rw [← q1];simp
 dsimp only [bkL,List.cons_append,List.nil_append] at q1 q2 S
 refine zD rfl Tryz.func37 rfl rfl ?_
 all_goals (repeat' (first|refine qA ?_|refine qw rfl ?_|refine qx ?_|refine qy ?_|refine qo ?_|refine qi ?_|refine qj ?_|(refine qg 0 ?_;refine mv ?_;refine qf ?_)|(refine qg 1 ?_;refine mv ?_)))
 (refine qM rfl rfl rfl rfl rfl ((WU S.wf (Xn S .here)).mono ?_);rintro _ h ⟨rfl,x⟩)<;>(replace S:=S.zC x;clear x;refine qf ?_)
 all_goals (repeat' (first|refine qA ?_|refine qw rfl ?_|refine qx ?_|refine qy ?_|refine qo ?_|refine qi ?_|refine qj ?_|(refine qg 2 ?_;refine mv ?_;refine qf ?_)))
 (repeat (refine qA ?_));first|refine ZV (σ:=Unit) (fun _ h'=>¬ ((k≠1∧k≠2)∨a=b)∧Hs h0 h' (.blk p [vg.val,vt.val,.map (some m)] 86 :: .sl vg.val 24 9 eG gs :: .sl vt.val 111 3 zW r.ts :: .mp m (.int .i64) mp :: gZ gs :: rs)) (fun _=>[(0,.pointer (some ⟨p,0,none⟩)),(1,str a),(2,str b),(3,.int .u8 k)]) ?_ ?_|refine Xc (σ:=Unit) (fun _ h'=>¬ ((k≠1∧k≠2)∨a=b)∧Hs h0 h' (.blk p [vg.val,vt.val,.map (some m)] 86 :: .sl vg.val 24 9 eG gs :: .sl vt.val 111 3 zW r.ts :: .mp m (.int .i64) mp :: gZ gs :: rs)) (fun _=>[(0,.pointer (some ⟨p,0,none⟩)),(1,str a),(2,str b),(3,.int .u8 k)]) ?_ ?_
 ·all_goals (repeat' (first|refine qA ?_|refine qw rfl ?_|refine qx ?_|refine qy ?_|refine qo ?_|refine qi ?_|refine qj ?_|(refine qg 3 ?_;refine mv ?_;(first|refine cT ?_|refine cF ?_|(refine cS ?_ ?_<;>intro hc))<;>(refine mv ?_;(first|refine off ?_|refine mv ?_);(first|refine off ?_|(first|refine cT ?_|refine cF ?_|(refine cS ?_ ?_<;>intro hc)))<;>(refine vl ?_;refine mv ?_;(first|refine off ?_|refine mv ?_);(first|refine off ?_|refine mv ?_);(first|refine off ?_|(refine tS ?_ ?_<;>intro hc))<;>(refine vl ?_;refine qf ?_))))|(refine qg 4 ?_;refine mv ?_;refine qf ?_)))
  all_goals first
   | exact ⟨(),⟨by omega,S⟩,(zy)⟩
   | exact ⟨(),⟨by grind,S⟩,(zy)⟩
   | ((refine qH ⟨_,rfl,?_⟩);rw [yM (by first|omega|grind)];exact ⟨rfl,S.bk vg vt m mp gs q1 q2⟩)
 clear S
 rintro - h ⟨hk,S⟩
 all_goals (repeat' (first|refine qA ?_|refine qw rfl ?_|refine qx ?_|refine qy ?_|refine qo ?_|refine qi ?_|refine qj ?_|(refine qg 5 ?_;refine mv ?_;refine mv ?_)))
 refine bsn (α:=List UInt8) (z:=1) eS [a,b] S ?_;clear S;intro u h S;((first|refine Zq S ?_|refine Zp S rfl rfl ?_);refine mv ?_;refine qf ?_)
 all_goals (repeat' (first|refine qA ?_|refine qw rfl ?_|refine qx ?_|refine qy ?_|refine qo ?_|refine qi ?_|refine qj ?_|(refine qg 5 ?_;refine mv ?_;refine mv ?_)))
 refine zU (σ:=Nat) (fun i h'=>Hs h0 h' (.sl u 9 1 eS [a,b] :: .blk p [vg.val,vt.val,.map (some m)] 86 :: .sl vg.val 24 9 eG gs :: .sl vt.val 111 3 zW r.ts :: .mp m (.int .i64) mp :: gZ gs :: rs)∧i≤2∧∀ j,j<i→gat r.us ([a,b].getD j default)≠none) (fun i=>2 - i) (fun i=>[(0,.pointer (some ⟨p,0,none⟩)),(1,str a),(2,str b),(3,.int .u8 k),(30,u),(31,.int .i64 ([a,b].length:Nat)),(32,.int .i64 i)]) 0 zy ?_ ?_
 ·exact ⟨S,Nat.zero_le _,fun j hj=>absurd hj (Nat.not_lt_zero _)⟩
 clear S
 rintro i h ⟨S,g1,g2⟩
 all_goals (repeat' (first|refine qA ?_|refine qw rfl ?_|refine qx ?_|refine qy ?_|refine qo ?_|refine qi ?_|refine qj ?_|(refine qg 6 ?_;(first|refine cT ?_|refine cF ?_|(refine cS ?_ ?_<;>intro hc))<;>(refine qf ?_))|(refine qg 7 ?_;(first|refine zM S ?_|refine qW S rfl rfl ?_);(first|refine lB S rfl rfl ?_|refine qE S rfl rfl ?_|refine qO S ?_|refine lH S ?_);refine mv ?_;refine qf ?_)|(refine qg 8 ?_;refine mv ?_;refine vl ?_;(first|refine vl ?_|refine fB S ?_|refine fS S rfl rfl ?_|refine fA ?_);(first|refine lB S rfl rfl ?_|refine qE S rfl rfl ?_|refine qO S ?_|refine lH S ?_);refine mv ?_)|(refine qg 12 ?_;(iterate 3 refine mv ?_);skip)))
 ·have hi2:i<2:=by simp at hc;omega
  simp only [Int.toNat_natCast]
  refine lk S (.there (.there (.there (.there .here)))) (fun y hy=>?_) (fun hy=>?_)
  ·simp only [okV]
   (refine mv ?_;refine vl ?_;refine vl ?_;refine mv ?_;refine mv ?_;refine qf ?_)
   all_goals (repeat' (first|refine qA ?_|refine qw rfl ?_|refine qx ?_|refine qy ?_|refine qo ?_|refine qi ?_|refine qj ?_|(refine qg 9 ?_;refine mv ?_;refine vl ?_;refine qf ?_)|(refine qg 10 ?_;refine mv ?_;refine qf ?_)|(refine qg 11 ?_;(first|refine ad ?_|refine vl ?_);refine mv ?_;refine qf ?_)))
   refine ⟨i+1,?_,?_,zy⟩
   ·show 2 - (i+1)<2 - i;omega
   ·refine ⟨S,by omega,Xt g2 fun q=>?_⟩
    rw [q2,q] at hy;cases hy
  ·simp only [okV]
   (refine mv ?_;refine vl ?_;refine vl ?_;refine mv ?_;refine mv ?_;refine qf ?_)
   all_goals (repeat' (first|refine qA ?_|refine qw rfl ?_|refine qx ?_|refine qy ?_|refine qo ?_|refine qi ?_|refine qj ?_|(refine qg 9 ?_;refine mv ?_;refine vl ?_;refine qf ?_)|(refine qg 10 ?_;refine mv ?_;refine qf ?_)|(refine qg 11 ?_;(first|refine ad ?_|refine vl ?_);refine mv ?_;refine qf ?_)))
   refine qH ⟨_,rfl,?_⟩
   rw [q2] at hy
   have hn:gat r.us ([a,b].getD i default)=none:=by
    cases hq:gat r.us ([a,b].getD i default) with
    | none=>rfl
    | some z=>rw [hq] at hy;cases hy
   rw [VS hk (by
    rcases (show i=0∨i=1 by omega) with rfl|rfl
    ·exact .inl hn
    ·exact .inr hn)]
   exact ⟨rfl,S.bk vg vt m mp gs q1 q2⟩
 ·have hi2:i=2:=by simp at hc;omega
  have hk2:¬ (gat r.us a=none∨gat r.us b=none):=fun q=>by
   rcases q with q|q
   ·exact g2 0 (by omega) q
   ·exact g2 1 (by omega) q
  (refine qM rfl rfl rfl rfl rfl ((qay S.wf (Xn S (.there .here)) (Rd.Ze S (.there (.there (.there .here)))) (by omega) hs a b).mono ?_);rintro _ h ⟨⟨j,_ | _,rfl,p1,p2⟩,x⟩)<;>(replace S:=S.zC x;clear x;refine mv ?_;refine vl ?_;refine vl ?_;refine mv ?_;refine mv ?_;refine qf ?_)
  ·have hk3:¬ tied r.ts a b:=fun q=>by have:=p2.2 ((p1.tied hs).1 q);cases this
   all_goals (repeat' (first|refine qA ?_|refine qw rfl ?_|refine qx ?_|refine qy ?_|refine qo ?_|refine qi ?_|refine qj ?_|(refine qg 13 ?_;refine mv ?_;refine qf ?_)|(refine qg 14 ?_;refine mv ?_;refine qf ?_)|(refine qg 15 ?_;refine mv ?_;refine vl ?_;(first|refine vl ?_|refine fB S ?_|refine fS S rfl rfl ?_|refine fA ?_);(first|refine vl ?_|refine fB S ?_|refine fS S rfl rfl ?_|refine fA ?_);(first|refine lB S rfl rfl ?_|refine qE S rfl rfl ?_|refine qO S ?_|refine lH S ?_);(first|refine Zq S ?_|refine Zp S rfl rfl ?_);(first|refine cT ?_|refine cF ?_|(refine cS ?_ ?_<;>intro hc))<;>(refine qf ?_))|(refine qg 16 ?_;refine mv ?_;refine qf ?_)))
   ·refine qH ⟨_,rfl,?_⟩
    rw [yK hk hk2 hk3 (by omega)]
    exact ⟨rfl,S.bk vg vt m mp gs q1 q2⟩
   ·have hk4:¬ 256≤r.ts.length:=by omega
    (repeat (refine qA ?_));refine Zm (id:=17) [(5,(0,2))] [some (p)] ?_;refine qB ?_;(first|(refine mv ?_<;>refine qf ⟨⟨by (first|exact True.intro|exact Or.inl rfl|exact Or.inr rfl|exact Or.inr (congrArg some (qh _ _ _ _))|exact ⟨Or.inl rfl,rfl⟩|exact ⟨Or.inr rfl,rfl⟩),rfl⟩,?_⟩));refine qB ?_;(first|(refine mv ?_<;>refine qf ⟨⟨by (first|exact True.intro|exact Or.inl rfl|exact Or.inr rfl|exact Or.inr (congrArg some (qh _ _ _ _))|exact ⟨Or.inl rfl,rfl⟩|exact ⟨Or.inr rfl,rfl⟩),rfl⟩,?_⟩));refine qB ?_;(first|(refine vl ?_<;>refine qf ⟨⟨by (first|exact True.intro|exact Or.inl rfl|exact Or.inr rfl|exact Or.inr (congrArg some (qh _ _ _ _))|exact ⟨Or.inl rfl,rfl⟩|exact ⟨Or.inr rfl,rfl⟩),rfl⟩,?_⟩));refine qB ?_;(first|(refine vl ?_<;>refine qf ⟨⟨by (first|exact True.intro|exact Or.inl rfl|exact Or.inr rfl|exact Or.inr (congrArg some (qh _ _ _ _))|exact ⟨Or.inl rfl,rfl⟩|exact ⟨Or.inr rfl,rfl⟩),rfl⟩,?_⟩)|(refine fB S ?_<;>refine qf ⟨⟨by (first|exact True.intro|exact Or.inl rfl|exact Or.inr rfl|exact Or.inr (congrArg some (qh _ _ _ _))|exact ⟨Or.inl rfl,rfl⟩|exact ⟨Or.inr rfl,rfl⟩),rfl⟩,?_⟩)|(refine fS S rfl rfl ?_<;>refine qf ⟨⟨by (first|exact True.intro|exact Or.inl rfl|exact Or.inr rfl|exact Or.inr (congrArg some (qh _ _ _ _))|exact ⟨Or.inl rfl,rfl⟩|exact ⟨Or.inr rfl,rfl⟩),rfl⟩,?_⟩)|(refine fA ?_<;>refine qf ⟨⟨by (first|exact True.intro|exact Or.inl rfl|exact Or.inr rfl|exact Or.inr (congrArg some (qh _ _ _ _))|exact ⟨Or.inl rfl,rfl⟩|exact ⟨Or.inr rfl,rfl⟩),rfl⟩,?_⟩));refine qB ?_;(first|(refine vl ?_<;>refine qf ⟨⟨by (first|exact True.intro|exact Or.inl rfl|exact Or.inr rfl|exact Or.inr (congrArg some (qh _ _ _ _))|exact ⟨Or.inl rfl,rfl⟩|exact ⟨Or.inr rfl,rfl⟩),rfl⟩,?_⟩)|(refine fB S ?_<;>refine qf ⟨⟨by (first|exact True.intro|exact Or.inl rfl|exact Or.inr rfl|exact Or.inr (congrArg some (qh _ _ _ _))|exact ⟨Or.inl rfl,rfl⟩|exact ⟨Or.inr rfl,rfl⟩),rfl⟩,?_⟩)|(refine fS S rfl rfl ?_<;>refine qf ⟨⟨by (first|exact True.intro|exact Or.inl rfl|exact Or.inr rfl|exact Or.inr (congrArg some (qh _ _ _ _))|exact ⟨Or.inl rfl,rfl⟩|exact ⟨Or.inr rfl,rfl⟩),rfl⟩,?_⟩)|(refine fA ?_<;>refine qf ⟨⟨by (first|exact True.intro|exact Or.inl rfl|exact Or.inr rfl|exact Or.inr (congrArg some (qh _ _ _ _))|exact ⟨Or.inl rfl,rfl⟩|exact ⟨Or.inr rfl,rfl⟩),rfl⟩,?_⟩));refine qB ?_;(first|(refine lB S rfl rfl ?_<;>refine qf ⟨⟨by (first|exact True.intro|exact Or.inl rfl|exact Or.inr rfl|exact Or.inr (congrArg some (qh _ _ _ _))|exact ⟨Or.inl rfl,rfl⟩|exact ⟨Or.inr rfl,rfl⟩),rfl⟩,?_⟩)|(refine qE S rfl rfl ?_<;>refine qf ⟨⟨by (first|exact True.intro|exact Or.inl rfl|exact Or.inr rfl|exact Or.inr (congrArg some (qh _ _ _ _))|exact ⟨Or.inl rfl,rfl⟩|exact ⟨Or.inr rfl,rfl⟩),rfl⟩,?_⟩)|(refine qO S ?_<;>refine qf ⟨⟨by (first|exact True.intro|exact Or.inl rfl|exact Or.inr rfl|exact Or.inr (congrArg some (qh _ _ _ _))|exact ⟨Or.inl rfl,rfl⟩|exact ⟨Or.inr rfl,rfl⟩),rfl⟩,?_⟩)|(refine lH S ?_<;>refine qf ⟨⟨by (first|exact True.intro|exact Or.inl rfl|exact Or.inr rfl|exact Or.inr (congrArg some (qh _ _ _ _))|exact ⟨Or.inl rfl,rfl⟩|exact ⟨Or.inr rfl,rfl⟩),rfl⟩,?_⟩));refine qB ?_;(first|(refine mv ?_<;>refine qf ⟨⟨by (first|exact True.intro|exact Or.inl rfl|exact Or.inr rfl|exact Or.inr (congrArg some (qh _ _ _ _))|exact ⟨Or.inl rfl,rfl⟩|exact ⟨Or.inr rfl,rfl⟩),rfl⟩,?_⟩));refine qB ?_;(first|(refine mv ?_<;>refine qf ⟨⟨by (first|exact True.intro|exact Or.inl rfl|exact Or.inr rfl|exact Or.inr (congrArg some (qh _ _ _ _))|exact ⟨Or.inl rfl,rfl⟩|exact ⟨Or.inr rfl,rfl⟩),rfl⟩,?_⟩));refine qB ?_;(first|(refine mv ?_<;>refine qf ⟨⟨by (first|exact True.intro|exact Or.inl rfl|exact Or.inr rfl|exact Or.inr (congrArg some (qh _ _ _ _))|exact ⟨Or.inl rfl,rfl⟩|exact ⟨Or.inr rfl,rfl⟩),rfl⟩,?_⟩));refine qB ?_;(first|(refine mv ?_<;>refine qf ⟨⟨by (first|exact True.intro|exact Or.inl rfl|exact Or.inr rfl|exact Or.inr (congrArg some (qh _ _ _ _))|exact ⟨Or.inl rfl,rfl⟩|exact ⟨Or.inr rfl,rfl⟩),rfl⟩,?_⟩))
    ((refine qB ?_;first|refine qM rfl rfl rfl rfl rfl ((GV S.wf a b k).mono ?_));rintro _ h ⟨rfl,x⟩)<;>((refine qf ⟨⟨True.intro,?_⟩,?_⟩;(focus ((show keepsX _ _ _ _ _;simp only [keepsX];(repeat' (first|exact True.intro|refine And.intro ?_ ?_));all_goals (intro hw;first|exact True.intro|exact rfl|exact x.ext.old _ S.bB|exact x.ext.old _ (S.bR (by first|omega|grind))|exact x.ext.old _ (S.bX (by assumption) (by assumption) (by first|omega|grind))|exact x.ext.old _ (S.bY (by assumption) (by assumption))|(refine x.ext.old _ ?_;assumption)|exact absurd hw (by decide +kernel))))));replace S:=S.zC x;clear x;refine qB ?_;(first|((refine one 3 S ?_;have S0:=S;clear S;intro u h S);refine qf ⟨⟨True.intro,?_⟩,?_⟩;(focus ((show keepsX _ _ _ _ _;simp only [keepsX];(repeat' (first|exact True.intro|refine And.intro ?_ ?_));all_goals (intro hw;first|exact True.intro|exact (S.gB).trans (S0.gB).symm|exact absurd hw (by decide +kernel)))));clear S0)))
    replace S:Hs h0 _ (.sl u 111 3 YB [zW (jK a b k)] :: _):=S
    have S:=(show Hs h0 _ (.sl u 111 3 YB [zW (jK a b k)] :: .sl vt.val 111 3 zW r.ts :: .blk p [vg.val,vt.val,.map (some m)] 86 :: .sl vg.val 24 9 eG gs :: .mp m (.int .i64) mp :: gZ gs :: rs) from S.pick)
    refine qB ?_;refine qM rfl rfl rfl rfl rfl ((qbP j p1.1 (by omega) S).mono ?_);have S0:=S;clear S;rintro v h S;obtain ⟨vt',rfl⟩:=S.sV v;refine qf ⟨⟨True.intro,?_⟩,?_⟩;(focus ((show keepsX _ _ _ _ _;simp only [keepsX];(repeat' (first|exact True.intro|refine And.intro ?_ ?_));all_goals (intro hw;first|exact True.intro|exact (S.gB).trans (S0.gB).symm|exact absurd hw (by decide +kernel)))));clear S0;(refine qB ?_;(first|(refine vl ?_<;>refine qf ⟨⟨by (first|exact True.intro|exact Or.inl rfl|exact Or.inr rfl|exact Or.inr (congrArg some (qh _ _ _ _))|exact ⟨Or.inl rfl,rfl⟩|exact ⟨Or.inr rfl,rfl⟩),rfl⟩,?_⟩));refine qB ?_;(first|(refine vl ?_<;>refine qf ⟨⟨by (first|exact True.intro|exact Or.inl rfl|exact Or.inr rfl|exact Or.inr (congrArg some (qh _ _ _ _))|exact ⟨Or.inl rfl,rfl⟩|exact ⟨Or.inr rfl,rfl⟩),rfl⟩,?_⟩)|(refine fB S ?_<;>refine qf ⟨⟨by (first|exact True.intro|exact Or.inl rfl|exact Or.inr rfl|exact Or.inr (congrArg some (qh _ _ _ _))|exact ⟨Or.inl rfl,rfl⟩|exact ⟨Or.inr rfl,rfl⟩),rfl⟩,?_⟩)|(refine fS S rfl rfl ?_<;>refine qf ⟨⟨by (first|exact True.intro|exact Or.inl rfl|exact Or.inr rfl|exact Or.inr (congrArg some (qh _ _ _ _))|exact ⟨Or.inl rfl,rfl⟩|exact ⟨Or.inr rfl,rfl⟩),rfl⟩,?_⟩)|(refine fA ?_<;>refine qf ⟨⟨by (first|exact True.intro|exact Or.inl rfl|exact Or.inr rfl|exact Or.inr (congrArg some (qh _ _ _ _))|exact ⟨Or.inl rfl,rfl⟩|exact ⟨Or.inr rfl,rfl⟩),rfl⟩,?_⟩));refine qB ?_;(first|(refine vl ?_<;>refine qf ⟨⟨by (first|exact True.intro|exact Or.inl rfl|exact Or.inr rfl|exact Or.inr (congrArg some (qh _ _ _ _))|exact ⟨Or.inl rfl,rfl⟩|exact ⟨Or.inr rfl,rfl⟩),rfl⟩,?_⟩)|(refine fB S ?_<;>refine qf ⟨⟨by (first|exact True.intro|exact Or.inl rfl|exact Or.inr rfl|exact Or.inr (congrArg some (qh _ _ _ _))|exact ⟨Or.inl rfl,rfl⟩|exact ⟨Or.inr rfl,rfl⟩),rfl⟩,?_⟩)|(refine fS S rfl rfl ?_<;>refine qf ⟨⟨by (first|exact True.intro|exact Or.inl rfl|exact Or.inr rfl|exact Or.inr (congrArg some (qh _ _ _ _))|exact ⟨Or.inl rfl,rfl⟩|exact ⟨Or.inr rfl,rfl⟩),rfl⟩,?_⟩)|(refine fA ?_<;>refine qf ⟨⟨by (first|exact True.intro|exact Or.inl rfl|exact Or.inr rfl|exact Or.inr (congrArg some (qh _ _ _ _))|exact ⟨Or.inl rfl,rfl⟩|exact ⟨Or.inr rfl,rfl⟩),rfl⟩,?_⟩));refine qB ?_;(first|((refine sB S rfl rfl ?_;have S0:=S;clear S;intro h S);refine qf ⟨⟨True.intro,?_⟩,?_⟩;(focus ((show keepsX _ _ _ _ _;simp only [keepsX];(repeat' (first|exact True.intro|refine And.intro ?_ ?_));all_goals (intro hw;first|exact True.intro|exact (S.gB).trans (S0.gB).symm|exact absurd hw (by decide +kernel)))));clear S0)|((refine jm S rfl rfl ?_;have S0:=S;clear S;intro h S);refine qf ⟨⟨True.intro,?_⟩,?_⟩;(focus ((show keepsX _ _ _ _ _;simp only [keepsX];(repeat' (first|exact True.intro|refine And.intro ?_ ?_));all_goals (intro hw;first|exact True.intro|exact (S.gB).trans (S0.gB).symm|exact absurd hw (by decide +kernel)))));clear S0));refine JI ?_)
    all_goals (repeat' (first|refine qA ?_|refine qw rfl ?_|refine qx ?_|refine qy ?_|refine qo ?_|refine qi ?_|refine qj ?_|(refine qg 18 ?_;refine mv ?_;refine qf ?_)))
    refine qH ⟨_,rfl,?_⟩
    rw [yN hk hk2 hk3 hk4,V9 (t:=jK a b k) p1]
    replace S:Hs h0 h (.sl vt'.val 111 3 zW (r.ts.take j ++ jK a b k :: r.ts.drop j) :: .blk p [vg.val,vt'.val,.map (some m)] 86 :: _):=S
    exact ⟨rfl,S.bk vg vt' m mp gs q1 q2⟩
  ·have hk3:tied r.ts a b:=(p1.tied hs).2 (p2.1 rfl)
   skip
   all_goals (repeat' (first|refine qA ?_|refine qw rfl ?_|refine qx ?_|refine qy ?_|refine qo ?_|refine qi ?_|refine qj ?_|(refine qg 13 ?_;refine mv ?_;refine qf ?_)|(refine qg 14 ?_;refine mv ?_;refine qf ?_)|(refine qg 15 ?_;refine mv ?_;refine vl ?_;(first|refine vl ?_|refine fB S ?_|refine fS S rfl rfl ?_|refine fA ?_);(first|refine vl ?_|refine fB S ?_|refine fS S rfl rfl ?_|refine fA ?_);(first|refine lB S rfl rfl ?_|refine qE S rfl rfl ?_|refine qO S ?_|refine lH S ?_);(first|refine Zq S ?_|refine Zp S rfl rfl ?_);(first|refine cT ?_|refine cF ?_|(refine cS ?_ ?_<;>intro hc))<;>(refine qf ?_))|(refine qg 16 ?_;refine mv ?_;refine qf ?_)))
   refine qH ⟨_,rfl,?_⟩
   rw [yL hk hk2 hk3]
   exact ⟨rfl,S.bk vg vt m mp gs q1 q2⟩
end Go.Proofs.Xx
namespace Go.Proofs.Xx
open Go Go.Proofs
structure RlV where
 vg:SlV
 vt:SlV
 gs:List ZC
def RlV.val (v:RlV):Value:=.agg #[v.vg.val,v.vt.val]
structure RlOk (h:AH) (v:RlV) (r:Rl):Prop where
 rg:Qr h v.vg.val 9 eG v.gs
 rt:Qr h v.vt.val 3 zW r.ts
 tg:∀ i,i<v.gs.length→Qr h (v.gs.getD i default).tv.val 1 eS (v.gs.getD i default).tg∧(v.gs.getD i default).tg.length≤9223372036854775807
 us:v.gs.map (·.toGu)=r.us
 lg:r.us.length≤9223372036854775807
 lt:r.ts.length≤9223372036854775807
theorem RlOk.ext {h h':AH} {v:RlV} {r:Rl} (a:RlOk h v r) (w:WfH h) (x:Ext h h'):RlOk h' v r:=⟨a.rg.ext w x,a.rt.ext w x,fun i hi=>⟨(a.tg i hi).1.ext w x,(a.tg i hi).2⟩,a.us,a.lg,a.lt⟩
theorem RlOk.len {h:AH} {v:RlV} {r:Rl} (a:RlOk h v r):v.gs.length=r.us.length:=by rw [← a.us];simp
theorem zY {α β:Type} [Inhabited α] [Inhabited β] {f:α→β} {l:List α} {i:Nat} (hi:i<l.length):(l.map f).getD i default=f (l.getD i default):=by
 rw [List.getD_eq_getElem?_getD,List.getD_eq_getElem?_getD,List.getElem?_map,List.getElem?_eq_getElem hi];rfl
theorem RlOk.at_ {h:AH} {v:RlV} {r:Rl} (a:RlOk h v r) {i:Nat} (hi:i<v.gs.length):(v.gs.getD i default).toGu=r.us.getD i default:=by rw [← a.us,zY hi]
noncomputable def gE0 (us:List Gu) (i:Nat):Int:=(ZF ⟨us.take i,[]⟩ (us.getD i default)).2
open Classical in
noncomputable def tE0 (r:Rl) (i:Nat):Int :=
 if jE (r.ts.getD i default).a (r.ts.getD i default).b∧(i=0∨¬ Zl (r.ts.getD i default) (r.ts.getD (i - 1) default)) then (ZE ⟨r.us,r.ts.take i⟩ (r.ts.getD i default).a (r.ts.getD i default).b (r.ts.getD i default).k).2 else 23
def VRl (r:Rl):Prop:=(∀ i,i<r.us.length→gE0 r.us i=0)∧∀ i,i<r.ts.length→tE0 r i=0
def Bad (r:Rl) (i e:Int):Prop:=e≠0∧((∃ j:Nat,j<r.us.length∧(∀ k,k<j→gE0 r.us k=0)∧gE0 r.us j=e∧i=j)∨((∀ k,k<r.us.length→gE0 r.us k=0)∧∃ j:Nat,j<r.ts.length∧(∀ k,k<j→tE0 r k=0)∧tE0 r j=e∧i=r.us.length+j))
theorem Bad.not {r:Rl} {i e:Int} (a:Bad r i e):¬ VRl r:=fun v=>by
 obtain ⟨h1,⟨j,a1,a2,a3,a4⟩|⟨a0,j,a1,a2,a3,a4⟩⟩:=a
 ·exact h1 (a3 ▸ v.1 j a1)
 ·exact h1 (a3 ▸ v.2 j a1)
theorem P8 {r:Rl} {g:Gu} (h:(ZF r g).2=0):QC g=0∧gat r.us g.name=none∧r.us.length<64∧(ZF r g).1=⟨r.us ++ [g],r.ts⟩:=by
 by_cases h1:QC g=0
 ·by_cases h2:gat r.us g.name=none
  ·by_cases h3:64≤r.us.length
   ·rw [Gi h1 h2 h3] at h;cases h
   ·rw [Gl h1 h2 h3];exact ⟨h1,h2,by omega,rfl⟩
  ·rw [Gj h1 h2] at h;cases h
 ·rw [Gh h1] at h;exact absurd h h1
theorem pY {r:Rl} {a b:List UInt8} {k:Int} (h:(ZE r a b k).2=0):(k=1∨k=2)∧a≠b∧gat r.us a≠none∧gat r.us b≠none∧¬ tied r.ts a b∧r.ts.length<256∧(ZE r a b k).1=⟨r.us,yX r.ts (jK a b k)⟩:=by
 by_cases h1:(k≠1∧k≠2)∨a=b
 ·rw [yM h1] at h;cases h
 ·by_cases h2:gat r.us a=none∨gat r.us b=none
  ·rw [VS h1 h2] at h;cases h
  ·by_cases h3:tied r.ts a b
   ·rw [yL h1 h2 h3] at h;cases h
   ·by_cases h4:256≤r.ts.length
    ·rw [yK h1 h2 h3 h4] at h;cases h
    ·rw [yN h1 h2 h3 h4]
     exact ⟨by omega,fun q=>h1 (.inr q),fun q=>h2 (.inl q),fun q=>h2 (.inr q),h3,by omega,rfl⟩
theorem jL {α:Type} [Inhabited α] {l:List α} {i:Nat} (hi:i<l.length):l.take (i+1)=l.take i ++ [l.getD i default]:=by
 rw [List.take_add_one,List.getD_eq_getElem?_getD,List.getElem?_eq_getElem hi];rfl
theorem getD_take {α:Type} [Inhabited α] {l:List α} {i j:Nat} (h:j<i):(l.take i).getD j default=l.getD j default:=by
 rw [List.getD_eq_getElem?_getD,List.getD_eq_getElem?_getD,List.getElem?_take,if_pos h]
theorem TS.mk_ {ts:List Ti} (h:∀ i j,i<j→j<ts.length→Zl (ts.getD i default) (ts.getD j default)):TS ts:=by
 rw [TS,List.pairwise_iff_getElem]
 intro i j hi hj hij
 have:=h i j hij hj
 rw [List.getD_eq_getElem?_getD,List.getD_eq_getElem?_getD,List.getElem?_eq_getElem hj,List.getElem?_eq_getElem hi] at this
 exact this
theorem TS.app {ts:List Ti} {t:Ti} (h:TS ts) (h2:∀ j,j<ts.length→Zl (ts.getD j default) t):TS (ts ++ [t]):=TS.mk_ fun i j hij hj=>by
 simp at hj
 rw [VA (show i<ts.length by omega)]
 rcases Nat.lt_or_ge j ts.length with q|q
 ·rw [VA q];exact h.lt hij q
 ·obtain rfl:j=ts.length:=by omega
  rw [PR (Nat.le_refl _),Nat.sub_self];exact h2 i (by omega)
theorem Jw {a b:List UInt8} (h:jE a b):jV a b=a:=by unfold jV;rw [if_neg (zV h)]
theorem Jy {a b:List UInt8} (h:jE a b):jW a b=b:=by unfold jW;rw [if_pos h]
variable [Flag]
end Go.Proofs.Xx
namespace Go.Proofs.Xx
open Go Go.Proofs
theorem QZ {us:List Gu} {n:List UInt8}:gat us n=none↔∀ g∈us,g.name≠n:=by
 induction us with
 | nil=>simp [gat]
 | cons x r ih =>
  simp only [gat]
  by_cases h:x.name=n
  ·simp [h]
  ·simp only [if_neg h,Option.map_eq_none_iff,ih,List.mem_cons]
   constructor
   ·rintro q g (rfl|hg)
    ·exact h
    ·exact q g hg
   ·exact fun q g hg=>q g (.inr hg)
theorem Yt {us:List Gu} {n:List UInt8} {i:Nat} (h:gat us n=some i):i<us.length∧(us.getD i default).name=n∧∀ j,j<i→(us.getD j default).name≠n:=by
 induction us generalizing i with
 | nil=>cases h
 | cons x r ih =>
  simp only [gat] at h
  by_cases hx:x.name=n
  ·rw [if_pos hx] at h;cases h
   exact ⟨by simp,hx,fun j hj=>absurd hj (Nat.not_lt_zero _)⟩
  ·rw [if_neg hx] at h
   cases hr:gat r n with
   | none=>rw [hr] at h;cases h
   | some k =>
    rw [hr] at h;cases h
    obtain ⟨h1,h2,h3⟩:=ih hr
    refine ⟨by simp;omega,h2,fun j hj=>?_⟩
    cases j with
    | zero=>exact hx
    | succ j=>exact h3 j (by simp only at hj;omega)
theorem vF {us:List Gu} {n:List UInt8}:gat us n≠none↔∃ g∈us,g.name=n:=by
 rw [Ne,QZ]
 constructor
 ·intro h
  apply Classical.byContradiction
  intro q
  exact h fun g hg e=>q ⟨g,hg,e⟩
 ·rintro ⟨g,hg,e⟩ q
  exact q g hg e
theorem qR {α:Type} [Inhabited α] {l:List α} {i:Nat} (h:i<l.length):l.getD i default∈l:=by
 rw [List.getD_eq_getElem?_getD,List.getElem?_eq_getElem h];exact List.getElem_mem h
theorem qX {α:Type} [Inhabited α] {l:List α} {x:α}:x∈l↔∃ i,i<l.length∧l.getD i default=x:=by
 constructor
 ·intro h
  obtain ⟨i,hi,rfl⟩:=List.mem_iff_getElem.1 h
  exact ⟨i,hi,by rw [List.getD_eq_getElem?_getD,List.getElem?_eq_getElem hi];rfl⟩
 ·rintro ⟨i,hi,rfl⟩
  exact qR hi
structure RO (r:Rl):Prop where
 chk:∀ g∈r.us,QC g=0
 nd:∀ i j,i<j→j<r.us.length→(r.us.getD i default).name≠(r.us.getD j default).name
 l64:r.us.length≤64
 ts:TS r.ts
 tt:∀ t∈r.ts,jE t.a t.b∧(t.k=1∨t.k=2)∧gat r.us t.a≠none∧gat r.us t.b≠none
 l256:r.ts.length≤256
theorem RO.gat {r:Rl} (h:RO r) {i:Nat} (hi:i<r.us.length):gat r.us (r.us.getD i default).name=some i:=by
 cases hq:Xx.gat r.us (r.us.getD i default).name with
 | none=>exact absurd rfl (QZ.1 hq _ (qR hi))
 | some j =>
  obtain ⟨h1,h2,h3⟩:=Yt hq
  rcases Nat.lt_trichotomy i j with q|q|q
  ·exact absurd rfl (h3 i q)
  ·rw [q]
  ·exact absurd h2 (h.nd j i q hi)
def num (j:Nat):List UInt8:=[UInt8.ofNat (97+j / 26 % 26),UInt8.ofNat (97+j % 26)]
theorem qdn {a b:Nat} (ha:a<256) (hb:b<256):UInt8.ofNat a<UInt8.ofNat b↔a<b:=by
 rw [UInt8.lt_iff_toNat_lt]
 simp [UInt8.toNat_ofNat,Nat.mod_eq_of_lt ha,Nat.mod_eq_of_lt hb]
theorem qd9 {a b:Nat} (ha:a<256) (hb:b<256):UInt8.ofNat a=UInt8.ofNat b↔a=b:=by
 constructor
 ·intro h
  have:=congrArg UInt8.toNat h
  simpa [UInt8.toNat_ofNat,Nat.mod_eq_of_lt ha,Nat.mod_eq_of_lt hb] using this
 ·rintro rfl;rfl
theorem Wp {i j:Nat} (hi:i<676) (hj:j<676):jE (num i) (num j)↔i<j:=by
 unfold num
 rw [Zu,Zu,qdn (by omega) (by omega),qd9 (by omega) (by omega),qdn (by omega) (by omega)]
 constructor
 ·rintro (h|⟨h1,h2|⟨h2,h3⟩⟩)
  ·omega
  ·omega
  ·exact absurd h3 (zL _)
 ·intro h
  rcases Nat.lt_or_ge (i / 26) (j / 26) with q|q
  ·exact .inl (by omega)
  ·exact .inr ⟨by omega,.inl (by omega)⟩
variable [Flag]
end Go.Proofs.Xx
namespace Go.Proofs.Xx
section
variable {α:Type} [Inhabited α]
theorem WF (l:List α) {i:Nat} (x:α) (h:i<l.length) (j:Nat):(l.set i x).getD j default=if j=i then x else l.getD j default:=by
 rw [List.getD_eq_getElem?_getD,List.getD_eq_getElem?_getD,List.getElem?_set]
 by_cases e:i=j
 ·subst e;rw [if_pos rfl,if_pos rfl,if_pos h];rfl
 ·rw [if_neg e,if_neg (fun q=>e q.symm)]
def swp (l:List α) (i j:Nat):List α:=(l.set i (l.getD j default)).set j (l.getD i default)
theorem qbw (l:List α) (i j:Nat):(swp l i j).length=l.length:=by simp [swp]
theorem swp_get {l:List α} {i j:Nat} (hi:i<l.length) (hj:j<l.length) (k:Nat):(swp l i j).getD k default=if k=j then l.getD i default else if k=i then l.getD j default else l.getD k default:=by
 unfold swp
 rw [WF _ _ (by simpa using hj),WF _ _ hi]
theorem qai {l:List α} {i j:Nat} (hi:i<l.length) (hj:j<l.length):(swp l i j).Perm l:=by
 unfold swp
 have e1:l.getD i default=l[i]:=by simp [List.getD_eq_getElem?_getD,List.getElem?_eq_getElem hi]
 have e2:l.getD j default=l[j]:=by simp [List.getD_eq_getElem?_getD,List.getElem?_eq_getElem hj]
 rw [e1,e2]
 exact List.set_set_perm hi hj
inductive Sw (a b:Nat):List α→List α→Prop
 | refl (l:List α):Sw a b l l
 | step {l l':List α} (i j:Nat) (h:Sw a b l l') (hi:a≤i∧i<b) (hj:a≤j∧j<b) (hb:b≤l'.length):Sw a b l (swp l' i j)
theorem Sw.len {a b:Nat} {l l':List α} (h:Sw a b l l'):l'.length=l.length:=by
 induction h with
 | refl=>rfl
 | step i j h hi hj hb ih=>rw [qbw,ih]
theorem Sw.perm {a b:Nat} {l l':List α} (h:Sw a b l l'):l'.Perm l:=by
 induction h with
 | refl=>exact .refl _
 | step i j h hi hj hb ih=>exact (qai (by omega) (by omega)).trans ih
theorem Sw.out {a b:Nat} {l l':List α} (h:Sw a b l l') {k:Nat} (hk:k<a∨b≤k):l'.getD k default=l.getD k default:=by
 induction h with
 | refl=>rfl
 | step i j h hi hj hb ih=>rw [swp_get (by omega) (by omega),if_neg (by omega),if_neg (by omega),ih]
theorem Sw.in_ {a b:Nat} {l l':List α} (h:Sw a b l l'):∀ {k:Nat},a≤k→k<b→∃ m,a≤m∧m<b∧l'.getD k default=l.getD m default:=by
 induction h with
 | refl=>intro k h1 h2;exact ⟨k,h1,h2,rfl⟩
 | step i j h hi hj hb ih =>
  intro k h1 h2
  rw [swp_get (by omega) (by omega)]
  split
  ·exact ih hi.1 hi.2
  ·split
   ·exact ih hj.1 hj.2
   ·exact ih h1 h2
theorem Sw.trans {a b:Nat} {l m n:List α} (h:Sw a b l m) (g:Sw a b m n):Sw a b l n:=by
 induction g with
 | refl=>exact h
 | step i j g hi hj hb ih=>exact .step i j ih hi hj hb
theorem Sw.mono {a b a' b':Nat} {l m:List α} (h:Sw a b l m) (ha:a'≤a) (hb:b≤b') (hl:b'≤l.length):Sw a' b' l m:=by
 induction h with
 | refl=>exact .refl _
 | step i j g hi hj hbl ih =>
  exact .step i j ih ⟨by omega,by omega⟩ ⟨by omega,by omega⟩ (by rw [g.len];exact hl)
theorem Sw.one {a b:Nat} {l:List α} (i j:Nat) (hi:a≤i∧i<b) (hj:a≤j∧j<b) (hb:b≤l.length):Sw a b l (swp l i j):=.step i j (.refl l) hi hj hb
structure WOrd (lt:α→α→Prop):Prop where
 irr:∀ x,¬ lt x x
 tr:∀ {x y z},lt x y→lt y z→lt x z
 ntr:∀ {x y z},¬ lt y x→¬ lt z y→¬ lt z x
theorem WOrd.asym {lt:α→α→Prop} (W:WOrd lt) {x y:α} (h:lt x y):¬ lt y x:=fun g=>W.irr x (W.tr h g)
def Srt (lt:α→α→Prop) (a b:Nat) (l:List α):Prop:=∀ i j,a≤i→i<j→j<b→¬ lt (l.getD j default) (l.getD i default)
theorem Srt.adj {lt:α→α→Prop} (W:WOrd lt) {a b:Nat} {l:List α} (h:∀ i,a≤i→i+1<b→¬ lt (l.getD (i+1) default) (l.getD i default)):Srt lt a b l:=by
 intro i j h1 h2 h3
 induction j with
 | zero=>omega
 | succ j ih =>
  rcases Nat.lt_or_ge i j with q|q
  ·exact W.ntr (ih q (by omega)) (h j (by omega) h3)
  ·have:i=j:=by omega
   subst this;exact h i h1 h3
def InsI (lt:α→α→Prop) (a i j:Nat) (l:List α):Prop:=∀ p q,a≤p→p<q→q≤i→q≠j→¬ lt (l.getD q default) (l.getD p default)
theorem InsI.start {lt:α→α→Prop} {a i:Nat} {l:List α} (h:Srt lt a i l):InsI lt a i i l:=fun p q h1 h2 h3 h4=>h p q h1 h2 (by omega)
theorem InsI.next {lt:α→α→Prop} (W:WOrd lt) {a i j:Nat} {l:List α} (h:InsI lt a i j l) (hj:a<j) (hji:j≤i) (hl:i<l.length) (hc:lt (l.getD j default) (l.getD (j - 1) default)):InsI lt a i (j - 1) (swp l j (j - 1)):=by
 intro p q h1 h2 h3 h4
 have g:=swp_get (l:=l) (i:=j) (j:=j - 1) (by omega) (by omega)
 rw [g q,g p,if_neg h4]
 by_cases e1:q=j
 ·subst e1
  rw [if_pos rfl]
  by_cases e2:p=q - 1
  ·rw [if_pos e2];exact W.asym hc
  ·rw [if_neg e2,if_neg (by omega)];exact h p (q - 1) h1 (by omega) (by omega) (by omega)
 ·rw [if_neg e1]
  by_cases e2:p=j - 1
  ·rw [if_pos e2];exact h j q (by omega) (by omega) h3 e1
  ·rw [if_neg e2]
   by_cases e3:p=j
   ·rw [if_pos e3];exact h (j - 1) q (by omega) (by omega) h3 e1
   ·rw [if_neg e3];exact h p q h1 h2 h3 e1
theorem InsI.done {lt:α→α→Prop} (W:WOrd lt) {a i j:Nat} {l:List α} (h:InsI lt a i j l) (hc:j≤a∨¬ lt (l.getD j default) (l.getD (j - 1) default)):Srt lt a (i+1) l:=by
 intro p q h1 h2 h3
 by_cases e:q=j
 ·subst e
  rcases hc with hc|hc
  ·omega
  ·by_cases e2:p=q - 1
   ·rw [e2];exact hc
   ·exact W.ntr (h p (q - 1) h1 (by omega) (by omega) (by omega)) hc
 ·exact h p q h1 h2 (by omega) e
def wB (lt:α→α→Prop) (f hi k:Nat) (l:List α):Prop :=
 (2*k+1<hi→¬ lt (l.getD (f+k) default) (l.getD (f+(2*k+1)) default))∧(2*k+2<hi→¬ lt (l.getD (f+k) default) (l.getD (f+(2*k+2)) default))
def Heap (lt:α→α→Prop) (f lo hi:Nat) (l:List α):Prop:=∀ k,lo≤k→wB lt f hi k l
def SiftI (lt:α→α→Prop) (f lo hi root:Nat) (l:List α):Prop :=
 (∀ k,lo≤k→k≠root→wB lt f hi k l)∧∀ k,lo≤k→(root=2*k+1∨root=2*k+2)→∀ c,(c=2*root+1∨c=2*root+2)→c<hi→¬ lt (l.getD (f+k) default) (l.getD (f+c) default)
theorem SiftI.start {lt:α→α→Prop} {f lo hi:Nat} {l:List α} (h:Heap lt f (lo+1) hi l):SiftI lt f lo hi lo l:=⟨fun k h1 h2=>h k (by omega),fun k h1 h2=>by omega⟩
theorem SiftI.done {lt:α→α→Prop} {f lo hi root:Nat} {l:List α} (h:SiftI lt f lo hi root l) (hc:wB lt f hi root l):Heap lt f lo hi l:=fun k h1=>by
 by_cases e:k=root
 ·subst e;exact hc
 ·exact h.1 k h1 e
theorem SiftI.next {lt:α→α→Prop} (W:WOrd lt) {f lo hi root c:Nat} {l:List α} (h:SiftI lt f lo hi root l) (hr:lo≤root) (hcc:c=2*root+1∨c=2*root+2) (hch:c<hi) (hl:f+hi≤l.length)
 (hm:∀ d,(d=2*root+1∨d=2*root+2)→d<hi→¬ lt (l.getD (f+c) default) (l.getD (f+d) default)) (hc:lt (l.getD (f+root) default) (l.getD (f+c) default)) :
 SiftI lt f lo hi c (swp l (f+root) (f+c)):=by
 have g:=swp_get (l:=l) (i:=f+root) (j:=f+c) (by omega) (by omega)
 have at_c:(swp l (f+root) (f+c)).getD (f+c) default=l.getD (f+root) default:=by rw [g,if_pos rfl]
 have at_r:(swp l (f+root) (f+c)).getD (f+root) default=l.getD (f+c) default:=by rw [g,if_neg (by omega),if_pos rfl]
 have at_o:∀ k,k≠c→k≠root→(swp l (f+root) (f+c)).getD (f+k) default=l.getD (f+k) default:=fun k h1 h2=>by rw [g,if_neg (by omega),if_neg (by omega)]
 refine ⟨fun k h1 h2=>?_,fun k h1 h2 d hd hdh=>?_⟩
 ·by_cases e:k=root
  ·subst e
   refine ⟨fun q=>?_,fun q=>?_⟩
   ·rw [at_r]
    by_cases e1:2*k+1=c
    ·rw [e1,at_c];exact W.asym hc
    ·rw [at_o _ e1 (by omega)];exact hm _ (.inl rfl) q
   ·rw [at_r]
    by_cases e1:2*k+2=c
    ·rw [e1,at_c];exact W.asym hc
    ·rw [at_o _ e1 (by omega)];exact hm _ (.inr rfl) q
  ·have hk:=h.1 k h1 e
   rw [wB,at_o k h2 e]
   refine ⟨fun q=>?_,fun q=>?_⟩
   ·by_cases e1:2*k+1=root
    ·rw [e1,at_r];exact h.2 k h1 (.inl e1.symm) c hcc hch
    ·by_cases e2:2*k+1=c
     ·omega
     ·rw [at_o _ e2 e1];exact hk.1 q
   ·by_cases e1:2*k+2=root
    ·rw [e1,at_r];exact h.2 k h1 (.inr e1.symm) c hcc hch
    ·by_cases e2:2*k+2=c
     ·omega
     ·rw [at_o _ e2 e1];exact hk.2 q
 ·have e:k=root:=by omega
  subst e
  rw [at_r,at_o d (by omega) (by omega)]
  have hk:=h.1 c (by omega) (by omega)
  rcases hd with hd|hd
  ·subst hd;exact hk.1 hdh
  ·subst hd;exact hk.2 hdh
theorem Heap.max {lt:α→α→Prop} (W:WOrd lt) {f hi:Nat} {l:List α} (h:Heap lt f 0 hi l) (k:Nat) (hk:k<hi):¬ lt (l.getD (f+0) default) (l.getD (f+k) default):=by
 induction k using Nat.strongRecOn with
 | _ k ih =>
  rcases Nat.eq_zero_or_pos k with e|e
  ·subst e;exact W.irr _
  ·have hp:=h ((k - 1) / 2) (Nat.zero_le _)
   have hi':=ih ((k - 1) / 2) (by omega) (by omega)
   rcases (by omega:k=2*((k - 1) / 2)+1∨k=2*((k - 1) / 2)+2) with q|q
   ·have:=hp.1 (by omega)
    rw [← q] at this
    exact W.ntr this hi'
   ·have:=hp.2 (by omega)
    rw [← q] at this
    exact W.ntr this hi'
def HeapI (lt:α→α→Prop) (f i n:Nat) (l:List α):Prop:=Heap lt f 0 i l∧∀ p q,p<q→i≤q→q<n→¬ lt (l.getD (f+q) default) (l.getD (f+p) default)
def DoneI (lt:α→α→Prop) (a b a' b':Nat) (l:List α):Prop:=∀ i j,a≤i→i<j→j<b→(i<a'∨b'≤j)→¬ lt (l.getD j default) (l.getD i default)
theorem DoneI.start {lt:α→α→Prop} {a b:Nat} {l:List α}:DoneI lt a b a b l:=fun i j h1 h2 h3 h4=>by omega
theorem DoneI.sw {lt:α→α→Prop} {a b a' b':Nat} {l l':List α} (h:DoneI lt a b a' b' l) (s:Sw a' b' l l') (h1:a≤a') (h2:b'≤b):DoneI lt a b a' b' l':=by
 intro i j q1 q2 q3 q4
 rcases q4 with q4|q4
 ·rw [s.out (k:=i) (.inl q4)]
  rcases Nat.lt_or_ge j a' with q5|q5
  ·rw [s.out (.inl q5)];exact h i j q1 q2 q3 (.inl q4)
  ·rcases Nat.lt_or_ge j b' with q6|q6
   ·obtain ⟨m,m1,m2,m3⟩:=s.in_ q5 q6
    rw [m3];exact h i m q1 (by omega) (by omega) (.inl q4)
   ·rw [s.out (.inr q6)];exact h i j q1 q2 q3 (.inl q4)
 ·rw [s.out (k:=j) (.inr q4)]
  rcases Nat.lt_or_ge i a' with q5|q5
  ·rw [s.out (.inl q5)];exact h i j q1 q2 q3 (.inl q5)
  ·rcases Nat.lt_or_ge i b' with q6|q6
   ·obtain ⟨m,m1,m2,m3⟩:=s.in_ q5 q6
    rw [m3];exact h m j (by omega) (by omega) q3 (.inr q4)
   ·rw [s.out (.inr q6)];exact h i j q1 q2 q3 (.inr q4)
theorem DoneI.finish {lt:α→α→Prop} {a b a' b':Nat} {l:List α} (h:DoneI lt a b a' b' l) (s:Srt lt a' b' l):Srt lt a b l:=by
 intro i j q1 q2 q3
 by_cases e:i<a'∨b'≤j
 ·exact h i j q1 q2 q3 e
 ·exact s i j (by omega) q2 (by omega)
def Parted (lt:α→α→Prop) (a b m:Nat) (l:List α):Prop:=(∀ k,a≤k→k<m→lt (l.getD k default) (l.getD m default))∧∀ k,m<k→k<b→¬ lt (l.getD k default) (l.getD m default)
theorem Parted.across {lt:α→α→Prop} (W:WOrd lt) {a b m:Nat} {l:List α} (h:Parted lt a b m l) {i j:Nat} (h1:a≤i) (h2:i≤m) (h3:m≤j) (h4:j<b) (h5:i<j):¬ lt (l.getD j default) (l.getD i default):=by
 have e1:¬ lt (l.getD m default) (l.getD i default):=by
  rcases Nat.lt_or_ge i m with q|q
  ·exact W.asym (h.1 i h1 q)
  ·have:i=m:=by omega
   subst this;exact W.irr _
 have e2:¬ lt (l.getD j default) (l.getD m default):=by
  rcases Nat.lt_or_ge m j with q|q
  ·exact h.2 j q h4
  ·have:j=m:=by omega
   subst this;exact W.irr _
 exact W.ntr e1 e2
theorem DoneI.left {lt:α→α→Prop} (W:WOrd lt) {a b a' b' m:Nat} {l l':List α} (h:DoneI lt a b a' b' l) (p:Parted lt a' b' m l) (hm:a'≤m∧m<b') (hab:a≤a'∧b'≤b) (s:Sw a' m l l') (hs:Srt lt a' m l') (hl:b'≤l.length):DoneI lt a b (m+1) b' l':=by
 have h':=h.sw (s.mono (Nat.le_refl _) (by omega) hl) hab.1 hab.2
 intro i j q1 q2 q3 q4
 by_cases e:i<a'∨b'≤j
 ·exact h' i j q1 q2 q3 e
 ·rcases q4 with q4|q4
  ·rcases Nat.lt_or_ge j m with q5|q5
   ·exact hs i j (by omega) q2 q5
   ·rw [s.out (k:=j) (.inr q5)]
    rcases Nat.lt_or_ge i m with q6|q6
    ·obtain ⟨k,k1,k2,k3⟩:=s.in_ (k:=i) (by omega) q6
     rw [k3];exact p.across W k1 (by omega) q5 (by omega) (by omega)
    ·rw [s.out (.inr q6)];exact p.across W (by omega) (by omega) q5 (by omega) q2
  ·omega
theorem DoneI.right {lt:α→α→Prop} (W:WOrd lt) {a b a' b' m:Nat} {l l':List α} (h:DoneI lt a b a' b' l) (p:Parted lt a' b' m l) (hm:a'≤m∧m<b') (hab:a≤a'∧b'≤b) (s:Sw (m+1) b' l l') (hs:Srt lt (m+1) b' l') (hl:b'≤l.length):DoneI lt a b a' m l':=by
 have h':=h.sw (s.mono (by omega) (Nat.le_refl _) hl) hab.1 hab.2
 intro i j q1 q2 q3 q4
 by_cases e:i<a'∨b'≤j
 ·exact h' i j q1 q2 q3 e
 ·rcases q4 with q4|q4
  ·omega
  ·rcases Nat.lt_or_ge m i with q5|q5
   ·exact hs i j (by omega) q2 (by omega)
   ·rw [s.out (k:=i) (.inl (by omega))]
    rcases Nat.lt_or_ge m j with q6|q6
    ·obtain ⟨k,k1,k2,k3⟩:=s.in_ (k:=j) (by omega) (by omega)
     rw [k3];exact p.across W (by omega) q5 (by omega) k2 (by omega)
    ·rw [s.out (.inl (by omega))];exact p.across W (by omega) q5 (by omega) (by omega) q2
theorem Sw.all {a b:Nat} {l l':List α} (s:Sw a b l l') {p:α→Prop} (h:∀ k,a≤k→k<b→p (l.getD k default)):∀ k,a≤k→k<b→p (l'.getD k default):=fun k h1 h2=>by
 obtain ⟨m,m1,m2,m3⟩:=s.in_ h1 h2
 rw [m3];exact h m m1 m2
end
end Go.Proofs.Xx
namespace Go.Proofs.Xx
section
variable {α:Type} [Inhabited α]
def xch (a b n k:Nat):Nat:=if a≤k∧k<a+n then k+(b - a) else if b≤k∧k<b+n then k - (b - a) else k
def IsXch (a b n:Nat) (l l':List α):Prop:=∀ k,l'.getD k default=l.getD (xch a b n k) default
theorem IsXch.zero {a b:Nat} {l:List α}:IsXch a b 0 l l:=fun k=>by
 unfold xch
 rw [if_neg (by omega),if_neg (by omega)]
theorem IsXch.next {a b i:Nat} {l l':List α} (h:IsXch a b i l l') (hab:a+i<b) (hl:b+i<l'.length):IsXch a b (i+1) l (swp l' (a+i) (b+i)):=fun k=>by
 rw [swp_get (by omega) hl]
 rw [h,h,h]
 unfold xch
 repeat' split
 all_goals first|omega|rfl|(congr 1<;>omega)
def rot (a m b k:Nat):Nat:=if k<a then k else if k<a+(b - m) then k+(m - a) else if k<b then k - (b - m) else k
def qcx (a m b:Nat) (l l':List α):Prop:=∀ k,l'.getD k default=l.getD (rot a m b k) default
def RotI (a m b i j:Nat) (l c:List α):Prop:=∀ k,l.getD (rot a m b k) default=c.getD (rot (m - i) m (m+j) k) default
theorem RotI.start {a m b:Nat} {l:List α} (h1:a≤m) (h2:m≤b):RotI a m b (m - a) (b - m) l l:=fun k=>by
 rw [show m - (m - a)=a by omega,show m+(b - m)=b by omega]
theorem RotI.left {a m b i j:Nat} {l c c':List α} (h:RotI a m b i j l c) (hi:i≤m) (hij:j<i) (x:IsXch (m - i) m j c c'):RotI a m b (i - j) j l c':=fun k=>by
 rw [h k,x]
 congr 1
 unfold xch rot
 repeat' split
 all_goals omega
theorem RotI.right {a m b i j:Nat} {l c c':List α} (h:RotI a m b i j l c) (hi:i≤m) (hij:i<j) (x:IsXch (m - i) (m+j - i) i c c'):RotI a m b i (j - i) l c':=fun k=>by
 rw [h k,x]
 congr 1
 unfold xch rot
 repeat' split
 all_goals omega
theorem RotI.done {a m b i:Nat} {l c c':List α} (h:RotI a m b i i l c) (hi:i≤m) (x:IsXch (m - i) m i c c'):qcx a m b l c':=fun k=>by
 rw [h k,x]
 congr 1
 unfold xch rot
 repeat' split
 all_goals omega
def IsUp (a k:Nat) (l l':List α):Prop:=∀ x,l'.getD x default=l.getD (if x<a then x else if x<k then x+1 else if x=k then a else x) default
theorem IsUp.start {a:Nat} {l:List α}:IsUp a a l l:=fun x=>by
 congr 1
 repeat' split
 all_goals omega
theorem IsUp.next {a k:Nat} {l l':List α} (h:IsUp a k l l') (hak:a≤k) (hl:k+1<l'.length):IsUp a (k+1) l (swp l' k (k+1)):=fun x=>by
 rw [swp_get (by omega) hl]
 rw [h,h,h]
 repeat' split
 all_goals first|omega|rfl|(congr 1<;>omega)
def IsDown (m k:Nat) (l l':List α):Prop:=∀ x,l'.getD x default=l.getD (if x<k then x else if x=k then m else if x≤m then x - 1 else x) default
theorem IsDown.start {m:Nat} {l:List α}:IsDown m m l l:=fun x=>by
 congr 1
 repeat' split
 all_goals omega
theorem IsDown.next {m k:Nat} {l l':List α} (h:IsDown m k l l') (hk:0<k∧k≤m) (hl:m<l'.length):IsDown m (k - 1) l (swp l' k (k - 1)):=fun x=>by
 rw [swp_get (by omega) (by omega)]
 rw [h,h,h]
 repeat' split
 all_goals first|omega|rfl|(congr 1<;>omega)
end
def Zz (key:Int→Int) (x y:Int):Prop:=key x<key y∨(key x=key y∧x<y)
theorem Wv (key:Int→Int):WOrd (Zz key) where
 irr x h:=by unfold Zz at h;omega
 tr h1 h2:=by unfold Zz at *;omega
 ntr h1 h2:=by unfold Zz at *;omega
structure Mrg (key:Int→Int) (a m b:Nat) (l:List Int):Prop where
 sl:Srt (Zz key) a m l
 sr:Srt (Zz key) m b l
 cr:∀ p q,a≤p→p<m→m≤q→q<b→l.getD p default<l.getD q default
theorem Mrg.up {key:Int→Int} {a b i:Nat} {l l':List Int} (h:Mrg key a (a+1) b l) (hi:a+1≤i∧i≤b) (h1:∀ k,a+1≤k→k<i→Zz key (l.getD k default) (l.getD a default)) (h2:∀ k,i≤k→k<b→¬ Zz key (l.getD k default) (l.getD a default)) (u:IsUp a (i - 1) l l'):Srt (Zz key) a b l':=by
 have W:=Wv key
 have u1:∀ x,a≤x→x<i - 1→l'.getD x default=l.getD (x+1) default:=fun x q1 q2=>by rw [u x,if_neg (by omega),if_pos q2]
 have u2:l'.getD (i - 1) default=l.getD a default:=by
  rw [u,if_neg (by omega),if_neg (by omega),if_pos rfl]
 have u3:∀ x,i - 1<x→l'.getD x default=l.getD x default:=fun x q1=>by rw [u x,if_neg (by omega),if_neg (by omega),if_neg (by omega)]
 intro p q q1 q2 q3
 rcases Nat.lt_trichotomy p (i - 1) with e1|e1|e1
 ·rw [u1 p q1 e1]
  rcases Nat.lt_trichotomy q (i - 1) with e2|e2|e2
  ·rw [u1 q (by omega) e2];exact h.sr _ _ (by omega) (by omega) (by omega)
  ·rw [e2,u2];exact W.asym (h1 _ (by omega) (by omega))
  ·rw [u3 q e2];exact h.sr _ _ (by omega) (by omega) (by omega)
 ·rw [e1,u2,u3 q (by omega)];exact h2 _ (by omega) q3
 ·rw [u3 p e1,u3 q (by omega)];exact h.sr _ _ (by omega) (by omega) (by omega)
theorem Mrg.down {key:Int→Int} {a m i:Nat} {l l':List Int} (h:Mrg key a m (m+1) l) (hi:a≤i∧i≤m) (h1:∀ k,a≤k→k<i→¬ Zz key (l.getD m default) (l.getD k default)) (h2:∀ k,i≤k→k<m→Zz key (l.getD m default) (l.getD k default)) (u:IsDown m i l l'):Srt (Zz key) a (m+1) l':=by
 have W:=Wv key
 have u1:∀ x,x<i→l'.getD x default=l.getD x default:=fun x q1=>by rw [u x,if_pos q1]
 have u2:l'.getD i default=l.getD m default:=by
  rw [u,if_neg (by omega),if_pos rfl]
 have u3:∀ x,i<x→x≤m→l'.getD x default=l.getD (x - 1) default:=fun x q1 q2=>by rw [u x,if_neg (by omega),if_neg (by omega),if_pos q2]
 intro p q q1 q2 q3
 rcases Nat.lt_trichotomy p i with e1|e1|e1
 ·rw [u1 p e1]
  rcases Nat.lt_trichotomy q i with e2|e2|e2
  ·rw [u1 q e2];exact h.sl _ _ (by omega) (by omega) (by omega)
  ·rw [e2,u2];exact h1 _ (by omega) (by omega)
  ·rw [u3 q e2 (by omega)];exact h.sl _ _ (by omega) (by omega) (by omega)
 ·rw [e1,u2,u3 q (by omega) (by omega)];exact W.asym (h2 _ (by omega) (by omega))
 ·rw [u3 p e1 (by omega),u3 q (by omega) (by omega)];exact h.sl _ _ (by omega) (by omega) (by omega)
structure SrI (key:Int→Int) (a m b mid s r:Nat) (l:List Int):Prop where
 lo:(if m > mid then mid+m - b else a)≤s
 sr:s≤r
 hi:r≤(if m > mid then mid else m)
 low:(if m > mid then mid+m - b else a)<s→¬ Zz key (l.getD (mid+m - s) default) (l.getD (s - 1) default)
 high:r<(if m > mid then mid else m)→Zz key (l.getD (mid+m - 1 - r) default) (l.getD r default)
theorem Mrg.search {key:Int→Int} {a m b mid s:Nat} {l l2:List Int} (h:Mrg key a m b l) (hm:mid=(a+b) / 2) (hab:a<m∧m<b) (I:SrI key a m b mid s s l)
 (hr:qcx s m (mid+m - s) l l2):(a≤s∧s≤mid∧s≤m∧m≤mid+m - s∧mid+m - s≤b)∧Mrg key a s mid l2∧Mrg key mid (mid+m - s) b l2∧∀ x y,a≤x→x<mid→mid≤y→y<b→¬ Zz key (l2.getD y default) (l2.getD x default):=by
 have W:=Wv key
 have lo:=I.lo
 have hi:=I.hi
 have low:=I.low
 have high:=I.high
 have hs:a≤s∧s≤mid∧s≤m∧m≤mid+m - s∧mid+m - s≤b:=by
  split at lo<;>split at hi<;>omega
 have r1:∀ k,k<s→l2.getD k default=l.getD k default:=fun k hk=>by rw [hr k];unfold rot;rw [if_pos hk]
 have r2:∀ k,s≤k→k<mid→l2.getD k default=l.getD (k+(m - s)) default:=fun k h1 h2=>by rw [hr k];unfold rot;rw [if_neg (by omega),if_pos (by omega)]
 have r3:∀ k,mid≤k→k<mid+m - s→l2.getD k default=l.getD (k - (mid - s)) default:=fun k h1 h2=>by
  rw [hr k];unfold rot;rw [if_neg (by omega),if_neg (by omega),if_pos (by omega)];congr 1;omega
 have r4:∀ k,mid+m - s≤k→l2.getD k default=l.getD k default:=fun k h1=>by rw [hr k];unfold rot;rw [if_neg (by omega),if_neg (by omega),if_neg (by omega)]
 refine ⟨hs,⟨fun i j q1 q2 q3=>?_,fun i j q1 q2 q3=>?_,fun p q q1 q2 q3 q4=>?_⟩,⟨fun i j q1 q2 q3=>?_,fun i j q1 q2 q3=>?_,fun p q q1 q2 q3 q4=>?_⟩,fun x y q1 q2 q3 q4=>?_⟩
 ·rw [r1 i (by omega),r1 j q3];exact h.sl i j q1 q2 (by omega)
 ·rw [r2 i q1 (by omega),r2 j (by omega) q3];exact h.sr _ _ (by omega) (by omega) (by omega)
 ·rw [r1 p q2,r2 q q3 q4];exact h.cr _ _ q1 (by omega) (by omega) (by omega)
 ·rw [r3 i q1 (by omega),r3 j (by omega) q3];exact h.sl _ _ (by omega) (by omega) (by omega)
 ·rw [r4 i q1,r4 j (by omega)];exact h.sr _ _ (by omega) q2 q3
 ·rw [r3 p q1 q2,r4 q q3];exact h.cr _ _ (by omega) (by omega) (by omega) q4
 ·
  have le_of:∀ {i j:Nat},a≤i→i≤j→j<m→¬ Zz key (l.getD j default) (l.getD i default):=fun {i j} g1 g2 g3=>by
   rcases Nat.lt_or_ge i j with q|q
   ·exact h.sl i j g1 q g3
   ·have:i=j:=by omega
    subst this;exact W.irr _
  have le_of2:∀ {i j:Nat},m≤i→i≤j→j<b→¬ Zz key (l.getD j default) (l.getD i default):=fun {i j} g1 g2 g3=>by
   rcases Nat.lt_or_ge i j with q|q
   ·exact h.sr i j g1 q g3
   ·have:i=j:=by omega
    subst this;exact W.irr _
  rcases Nat.lt_or_ge x s with e1|e1
  ·rw [r1 x e1]
   rcases Nat.lt_or_ge y (mid+m - s) with e2|e2
   ·rw [r3 y q3 e2];exact le_of q1 (by omega) (by omega)
   ·rw [r4 y e2]
    have g:¬ Zz key (l.getD (mid+m - s) default) (l.getD (s - 1) default):=low (by split<;>omega)
    have g1:¬ Zz key (l.getD (s - 1) default) (l.getD x default):=le_of q1 (by omega) (by omega)
    have g2:¬ Zz key (l.getD y default) (l.getD (mid+m - s) default):=le_of2 (by omega) e2 q4
    exact W.ntr (W.ntr g1 g) g2
  ·rw [r2 x e1 q2]
   rcases Nat.lt_or_ge y (mid+m - s) with e2|e2
   ·rw [r3 y q3 e2]
    have g:Zz key (l.getD (mid+m - 1 - s) default) (l.getD s default):=high (by split<;>omega)
    have g1:¬ Zz key (l.getD (y - (mid - s)) default) (l.getD s default):=le_of (by omega) (by omega) (by omega)
    have g2:¬ Zz key (l.getD (mid+m - 1 - s) default) (l.getD (x+(m - s)) default):=le_of2 (by omega) (by omega) (by omega)
    exact W.ntr (W.ntr g2 (W.asym g)) g1
   ·rw [r4 y e2];exact le_of2 (by omega) (by omega) q4
end Go.Proofs.Xx
namespace Go.Proofs.Xx
section
variable {α:Type} [Inhabited α] {lt:α→α→Prop}
theorem HeapI.done {f n b:Nat} {l:List α} (h:HeapI lt f 0 n l) (hb:b=f+n):Srt lt f b l:=fun i j h1 h2 h3=>by
 have:=h.2 (i - f) (j - f) (by omega) (Nat.zero_le _) (by omega)
 rwa [show f+(j - f)=j by omega,show f+(i - f)=i by omega] at this
structure PartI (lt:α→α→Prop) (a b:Nat) (x:α) (i j:Nat) (m:List α):Prop where
 bi:a<i∧i≤j+1∧j<b
 lo:∀ k,a<k→k<i→lt (m.getD k default) x
 hi:∀ k,j<k→k<b→¬ lt (m.getD k default) x
 x:m.getD a default=x
theorem PartI.swap {a b:Nat} {x:α} {i j:Nat} {m:List α} (h:PartI lt a b x i j m) (hb:b≤m.length) (hij:i≤j) (h1:¬ lt (m.getD i default) x) (h2:lt (m.getD j default) x):i<j∧PartI lt a b x (i+1) (j - 1) (swp m i j):=by
 have hbi:=h.bi
 have hne:i≠j:=fun q=>by subst q;exact h1 h2
 have g:=swp_get (l:=m) (i:=i) (j:=j) (by omega) (by omega)
 refine ⟨by omega,⟨by omega,fun k q1 q2=>?_,fun k q1 q2=>?_,?_⟩⟩
 ·rw [g,if_neg (by omega)]
  split
  ·exact h2
  ·exact h.lo k q1 (by omega)
 ·rw [g]
  split
  ·exact h1
  ·rw [if_neg (by omega)];exact h.hi k (by omega) q2
 ·rw [g,if_neg (by omega),if_neg (by omega)];exact h.x
theorem PartI.done (W:WOrd lt) {a b:Nat} {x:α} {i j:Nat} {m:List α} (h:PartI lt a b x i j m) (hb:b≤m.length) (hij:j<i):Parted lt a b j (swp m j a):=by
 have hbi:=h.bi
 have g:=swp_get (l:=m) (i:=j) (j:=a) (by omega) (by omega)
 have gj:(swp m j a).getD j default=x:=by
  rw [g]
  split
  ·rename_i e;rw [e];exact h.x
  ·rw [if_pos rfl];exact h.x
 refine ⟨fun k q1 q2=>?_,fun k q1 q2=>?_⟩
 ·rw [gj,g]
  split
  ·exact h.lo j (by omega) (by omega)
  ·rw [if_neg (by omega)];exact h.lo k (by omega) (by omega)
 ·rw [gj,g,if_neg (by omega),if_neg (by omega)];exact h.hi k q1 q2
structure EqI (lt:α→α→Prop) (a b:Nat) (x:α) (i j:Nat) (m:List α):Prop where
 bi:a<i∧i≤j+1∧j<b
 lo:∀ k,a<k→k<i→¬ lt x (m.getD k default)
 hi:∀ k,j<k→k<b→lt x (m.getD k default)
 x:m.getD a default=x
theorem EqI.swap {a b:Nat} {x:α} {i j:Nat} {m:List α} (h:EqI lt a b x i j m) (hb:b≤m.length) (hij:i≤j) (h1:lt x (m.getD i default)) (h2:¬ lt x (m.getD j default)):i<j∧EqI lt a b x (i+1) (j - 1) (swp m i j):=by
 have hbi:=h.bi
 have hne:i≠j:=fun q=>by subst q;exact h2 h1
 have g:=swp_get (l:=m) (i:=i) (j:=j) (by omega) (by omega)
 refine ⟨by omega,⟨by omega,fun k q1 q2=>?_,fun k q1 q2=>?_,?_⟩⟩
 ·rw [g,if_neg (by omega)]
  split
  ·exact h2
  ·exact h.lo k q1 (by omega)
 ·rw [g]
  split
  ·exact h1
  ·rw [if_neg (by omega)];exact h.hi k (by omega) q2
 ·rw [g,if_neg (by omega),if_neg (by omega)];exact h.x
theorem DoneI.low {a b a' b':Nat} {l:List α} (h:DoneI lt a b a' b' l) (h1:a<a') (h2:b'≤b):∀ k,a'≤k→k<b'→¬ lt (l.getD k default) (l.getD (a' - 1) default):=fun k q1 q2=>h (a' - 1) k (by omega) (by omega) (by omega) (.inl (by omega))
end
def lenTab:List UInt8:=[0,1] ++ List.replicate 2 2 ++ List.replicate 4 3 ++ List.replicate 8 4 ++ List.replicate 16 5 ++ List.replicate 32 6 ++ List.replicate 64 7 ++ List.replicate 128 8
variable [Flag]
end Go.Proofs.Xx
namespace Go.Proofs.Xx
open Go Go.Proofs
variable [Flag]
theorem Srt.out {a i:Nat} {m n:List (List UInt8)} (h:Srt jE a i m) (e:∀ k,a≤k→k<i→n.getD k default=m.getD k default):Srt jE a i n:=fun p q h1 h2 h3=>by
 rw [e p h1 (by omega),e q (by omega) h3];exact h p q h1 h2 h3
end Go.Proofs.Xx
namespace Go.Proofs.Xx
open Go Go.Proofs
variable [Flag]
end Go.Proofs.Xx
namespace Go.Proofs.Xx
open Go Go.Proofs
def MpRd {α:Type} (h:AH) (b:Nat) (enc:α→Value) (l:List (List UInt8×α)):Prop:=∃ es clock,h.get b=some (.map es clock)∧es.map (fun e=>(e.1,e.2.1))=l.map (fun p=>(Value.string ⟨p.1.toArray⟩,enc p.2))
theorem MpRd.ext {α:Type} {h h':AH} {b:Nat} {enc:α→Value} {l:List (List UInt8×α)} (r:MpRd h b enc l) (w:WfH h) (x:Ext h h'):MpRd h' b enc l:=by
 obtain ⟨es,clock,h1,h2⟩:=r
 exact ⟨es,clock,x.get w h1,h2⟩
section
variable {P:Program} {X:Extern} {sz:Nat} {L:Ks} {h h0:AH} {rs:List Rs} {ops:Array Oper} {os:List Oper} {o:Oper} {R:Ks→AH→Prop}
end
structure BkAt (h:AH) (p:Nat) (r:Rl) (s:BkS):Prop where
 bk:h.get p=some (.cells [s.vg.val,s.vt.val,.map (some s.m)] 86 none false)
 rg:Qr h s.vg.val 9 eG s.gs
 rt:Qr h s.vt.val 3 zW r.ts
 mp:MpRd h s.m (.int .i64) s.mp
 tg:∀ i,i<s.gs.length→Qr h (s.gs.getD i default).tv.val 1 eS (s.gs.getD i default).tg
 us:s.gs.map (·.toGu)=r.us
 at_:AtOk s.mp r.us
def BkRd (h:AH) (p:Nat) (r:Rl):Prop:=∃ s,BkAt h p r s
theorem BkRd.ext {h h':AH} {p:Nat} {r:Rl} (b:BkRd h p r) (w:WfH h) (x:Ext h h'):BkRd h' p r:=by
 obtain ⟨s,b⟩:=b
 exact ⟨s,x.get w b.bk,b.rg.ext w x,b.rt.ext w x,b.mp.ext w x,fun i hi=>(b.tg i hi).ext w x,b.us,b.at_⟩
theorem BkAt.len {h:AH} {p:Nat} {r:Rl} {s:BkS} (b:BkAt h p r s):s.gs.length=r.us.length:=by rw [← b.us];simp
theorem BkAt.g {h:AH} {p:Nat} {r:Rl} {s:BkS} (b:BkAt h p r s) {i:Nat} (hi:i<s.gs.length):(s.gs.getD i default).toGu=r.us.getD i default:=by rw [← b.us,zY hi]
theorem Hs.qem {h0 h:AH} {rs:List Rs} {p:Nat} {r:Rl} (S:Hs h0 h (Q5 p r :: rs)):BkRd h p r:=by
 obtain ⟨s,⟨q1,q2⟩,S⟩:=S.unpack
 obtain ⟨fp,k⟩:=Hs.qdN (p:=TgsOk s.gs) S (.there (.there (.there (.there .here))))
 obtain ⟨es,clock,m1,m2,-⟩:=KJ S (.there (.there (.there .here)))
 exact ⟨s,Xn S .here,Rd.Ze S (.there .here),Rd.Ze S (.there (.there .here)),⟨es,clock,m1,m2⟩,fun i hi=>TgsOk.rd k hi,q1,q2⟩
def SS (l:List (List UInt8)):Prop:=∀ i j,i<j→j<l.length→jE (l.getD i default) (l.getD j default)
theorem Ym {l:List (List UInt8)} (h:l.Nodup) {i j:Nat} (hij:i<j) (hj:j<l.length):l.getD i default≠l.getD j default:=by
 rw [List.getD_eq_getElem?_getD,List.getD_eq_getElem?_getD,List.getElem?_eq_getElem hj,List.getElem?_eq_getElem (show i<l.length by omega)]
 exact List.pairwise_iff_getElem.1 h i j (by omega) hj hij
theorem SS.of {l l':List (List UInt8)} (s:Sw 0 l.length l l') (h:Srt jE 0 l.length l') (hn:l.Nodup):SS l':=fun i j hij hj=>by
 have hl:=s.len
 have hn':l'.Nodup:=s.perm.nodup_iff.2 hn
 have h1:=h i j (Nat.zero_le _) hij (by omega)
 rcases JW h1 with q|q
 ·exact absurd q (Ym hn' hij hj)
 ·exact q
theorem SS.nodup {l:List (List UInt8)} (h:SS l):l.Nodup:=by
 rw [List.nodup_iff_pairwise_ne,List.pairwise_iff_getElem]
 intro i j hi hj hij
 have:=h i j hij hj
 rw [List.getD_eq_getElem?_getD,List.getD_eq_getElem?_getD,List.getElem?_eq_getElem hj,List.getElem?_eq_getElem hi] at this
 exact V3 this
def adj (r:Rl) (k:Int) (n x:List UInt8):Prop:=∃ t∈r.ts,t.k=k∧((t.a=n∧t.b=x)∨(t.b=n∧t.a=x))
theorem adj.symm {r:Rl} {k:Int} {n x:List UInt8} (h:adj r k n x):adj r k x n:=by
 obtain ⟨t,h1,h2,h3⟩:=h
 exact ⟨t,h1,h2,h3.elim (fun q=>.inr ⟨q.2,q.1⟩) (fun q=>.inl ⟨q.2,q.1⟩)⟩
def qew (k:Int) (n:List UInt8) (t:Ti):List (List UInt8):=if t.k≠k then [] else if t.a=n then [t.b] else if t.b=n then [t.a] else []
theorem QL {α:Type} [DecidableEq α]:∀ {l m:List α},l.Nodup→(∀ x∈l,x∈m)→l.length≤m.length
 | [],m,_,_=>Nat.zero_le _
 | x :: l,m,h,hs=>by
  have hx:=hs x (by simp)
  have h2:=List.nodup_cons.1 h
  have:=QL (l:=l) (m:=m.erase x) h2.2 fun y hy=>by
   rw [List.mem_erase_of_ne (show y≠x from fun e=>h2.1 (by rw [← e];exact hy))]
   exact hs y (by simp [hy])
  rw [List.length_erase_of_mem hx] at this
  have:0<m.length:=List.length_pos_of_mem hx
  rw [List.length_cons];omega
theorem yF {r:Rl} (H:RO r) {k:Int} {n x:List UInt8} (h:adj r k n x):gat r.us n≠none∧gat r.us x≠none∧n≠x:=by
 obtain ⟨t,h1,h2,h3⟩:=h
 obtain ⟨t1,t2,t3,t4⟩:=H.tt t h1
 rcases h3 with ⟨rfl,rfl⟩|⟨rfl,rfl⟩
 ·exact ⟨t3,t4,V3 t1⟩
 ·exact ⟨t4,t3,(V3 t1).symm⟩
theorem WG {us:List Gu} {n:List UInt8} (h:gat us n≠none):n∈us.map (·.name):=by
 obtain ⟨g,h1,h2⟩:=vF.1 h
 exact List.mem_map.2 ⟨g,h1,h2⟩
variable [Flag]
end Go.Proofs.Xx
namespace Go.Proofs.Xx
open Go Go.Proofs
def MetP (mp:List (List UInt8×Bool)) (M:List (List UInt8)):Prop:=∀ x,zS mp x=if x∈M then some true else none
theorem MetP.put {mp:List (List UInt8×Bool)} {M:List (List UInt8)} (h:MetP mp M) (n:List UInt8):MetP (JC mp n true) (M ++ [n]):=fun x=>by
 rw [J3,h x]
 by_cases e:x=n
 ·subst e;simp
 ·simp [e]
inductive Rch (r:Rl) (k:Int) (n:List UInt8):List UInt8→Prop
 | refl:Rch r k n n
 | step {x y:List UInt8} (h:Rch r k n x) (a:adj r k x y):Rch r k n y
theorem Rch.trans {r:Rl} {k:Int} {n x y:List UInt8} (h:Rch r k n x) (g:Rch r k x y):Rch r k n y:=by
 induction g with
 | refl=>exact h
 | step g a ih=>exact .step ih a
theorem Rch.symm {r:Rl} {k:Int} {n x:List UInt8} (h:Rch r k n x):Rch r k x n:=by
 induction h with
 | refl=>exact .refl
 | step h a ih=>exact Rch.trans (.step .refl a.symm) ih
structure Dfs (r:Rl) (M:List (List UInt8)) (n:List UInt8) (N:List (List UInt8)):Prop where
 nd:N.Nodup
 dj:∀ x∈N,x ∉ M
 self:n∈M∨n∈N
 kn:∀ x∈N,gat r.us x≠none
 rc:∀ x∈N,Rch r 1 n x
 cl:∀ x∈N,∀ y,adj r 1 x y→y∈M∨y∈N
def unm (r:Rl) (M:List (List UInt8)):Nat:=((r.us.map (·.name)).filter fun x=>decide (x ∉ M)).length
def cvJ (b4 b5 b1 b6:Nat):Value:=.func (.func 72) #[] #[.pointer (some ⟨b4,0,none⟩),.pointer (some ⟨b5,0,none⟩),.pointer (some ⟨b1,0,none⟩),.pointer (some ⟨b6,0,none⟩)]
abbrev qeA (p b4 b5 b1 b6 m:Nat) (mp:List (List UInt8×Bool)) (v:SlV) (C:List (List UInt8)):List Rs :=
 [.blk b4 [.map (some m)] 112,.mp m .bool mp,.blk b5 [v.val] 22,.sl v.val 9 1 eS C,.blk b1 [.pointer (some ⟨p,0,none⟩)] 40,.blk b6 [cvJ b4 b5 b1 b6] 113]
variable [Flag]
end Go.Proofs.Xx
namespace Go.Proofs.Xx
open Go Go.Proofs
structure Wd where
 sv:SlV
 ws:List (List UInt8)
instance:Inhabited Wd:=⟨⟨⟨none,0,0⟩,[]⟩⟩
def eWd (w:Wd):List Value:=[w.sv.val]
def WdsOk (cs:List Wd) (h:AH) (fp:Fp):Prop:=∀ w∈cs,(Rs.rd w.sv.val 1 eS w.ws).ok h fp
abbrev wdR (cs:List Wd):Rs:=.any (WdsOk cs)
theorem WdsOk.rd {h:AH} {fp:Fp} {cs:List Wd} (k:WdsOk cs h fp) {i:Nat} (hi:i<cs.length):Qr h (cs.getD i default).sv.val 1 eS (cs.getD i default).ws:=by
 have q:=k _ (qR hi)
 rcases q with ⟨q1,q2⟩|⟨b,o,cap,cc,e,s,r,q1,q2,q3,q4⟩
 ·exact .inl ⟨q1,by rw [q2];rfl,by rw [q2];rfl⟩
 ·exact .inr ⟨b,o,cap,cc,e,s,r,q1,q2,q4⟩
structure CirOk (r:Rl) (L:List Wd):Prop where
 ss:∀ w∈L,SS w.ws∧w.ws≠[]∧∀ x,x∈w.ws↔(gat r.us (w.ws.getD 0 default)≠none∧Rch r 1 (w.ws.getD 0 default) x)
 hd:∀ i j,i<j→j<L.length→jE ((L.getD i default).ws.getD 0 default) ((L.getD j default).ws.getD 0 default)
theorem Rch.known {r:Rl} (H:RO r) {k:Int} {n x:List UInt8} (h:Rch r k n x) (hn:gat r.us n≠none):gat r.us x≠none:=by
 induction h with
 | refl=>exact hn
 | step h a ih=>exact (yF H a).2.1
theorem Rch.closed {r:Rl} {k:Int} {n x:List UInt8} {M:List UInt8→Prop} (h:Rch r k n x) (hn:M n) (hc:∀ x,M x→∀ y,adj r k x y→M y):M x:=by
 induction h with
 | refl=>exact hn
 | step h a ih=>exact hc _ ih _ a
theorem SS.le {l:List (List UInt8)} (h:SS l) {i j:Nat} (hij:i≤j) (hj:j<l.length):¬ jE (l.getD j default) (l.getD i default):=by
 rcases Nat.lt_or_ge i j with q|q
 ·exact zV (h i j q hj)
 ·obtain rfl:i=j:=by omega
  exact zL _
abbrev qez (p b4 b5 b1 b6 m:Nat) (mp:List (List UInt8×Bool)) (vc:SlV) (u:Value) (ns:List (List UInt8)) (v3:Value) (cs:List Wd):List Rs :=
 [.sl u 9 1 eS ns,.blk b4 [.map (some m)] 112,.mp m .bool mp,.blk b5 [vc.val] 22,.blk b1 [.pointer (some ⟨p,0,none⟩)] 40,.blk b6 [cvJ b4 b5 b1 b6] 113,.sl v3 22 1 eWd cs,wdR cs]
structure CirI (r:Rl) (ns:List (List UInt8)) (i:Nat) (M:List (List UInt8)) (cs:List Wd):Prop where
 mem:∀ x,x∈M↔∃ w∈cs,x∈w.ws
 cl:∀ x∈M,∀ y,adj r 1 x y→y∈M
 nm:∀ j,j<i→ns.getD j default∈M
 ok:CirOk r cs
 hd:∀ j,j<cs.length→∃ k,k<i∧(cs.getD j default).ws.getD 0 default=ns.getD k default
 ln:cs.length≤i
theorem CirI.next {r:Rl} (H:RO r) {ns:List (List UInt8)} (hs:SS ns) (hns:∀ x,x∈ns↔gat r.us x≠none) {i:Nat} (hi:i<ns.length) {M N N':List (List UInt8)} {cs:List Wd} {v:SlV} (I:CirI r ns i M cs) (D:Dfs r M (ns.getD i default) N) (hn:ns.getD i default ∉ M) (hS:SS N') (hN:∀ x,x∈N'↔x∈N):CirI r ns (i+1) (M ++ N) (cs ++ [⟨v,N'⟩]):=by
 have hk:gat r.us (ns.getD i default)≠none:=(hns _).1 (qR hi)
 have hself:ns.getD i default∈N:=D.self.elim (fun q=>absurd q hn) id
 have hcomp:∀ x,Rch r 1 (ns.getD i default) x→x∈N:=fun x hx=>by
  have:x∈M∨x∈N:=hx.closed (M:=fun x=>x∈M∨x∈N) (.inr hself) fun x h y a=>by
   rcases h with h|h
   ·exact .inl (I.cl x h y a)
   ·exact D.cl x h y a
  rcases this with q|q
  ·exact absurd (hx.symm.closed (M:=fun x=>x∈M) q I.cl) hn
  ·exact q
 have hlen:0<N'.length:=List.length_pos_of_mem ((hN _).2 hself)
 have h0:N'.getD 0 default=ns.getD i default:=by
  obtain ⟨j,j1,j2⟩:=qX.1 ((hN _).2 hself)
  have le1:=hS.le (Nat.zero_le j) j1
  rw [j2] at le1
  have hm0:=(hN _).1 (qR hlen)
  obtain ⟨k,k1,k2⟩:=qX.1 ((hns _).2 (D.kn _ hm0))
  have hki:i≤k:=by
   apply Classical.byContradiction
   intro q
   exact D.dj _ hm0 (k2 ▸ I.nm k (by omega))
  have le2:=hs.le hki k1
  rw [k2] at le2
  rcases JW le1 with q|q
  ·exact q
  ·exact absurd q le2
 refine ⟨fun x=>?_,fun x hx y a=>?_,Xt (fun j hj=>List.mem_append.2 (.inl (I.nm j hj))) (List.mem_append.2 (.inr hself)),⟨fun w hw=>?_,fun j k hjk hk2=>?_⟩,fun j hj=>?_,by simp;exact I.ln⟩
 ·rw [List.mem_append,I.mem]
  constructor
  ·rintro (⟨w,h1,h2⟩|h)
   ·exact ⟨w,by simp [h1],h2⟩
   ·exact ⟨⟨v,N'⟩,by simp,(hN x).2 h⟩
  ·rintro ⟨w,h1,h2⟩
   rcases List.mem_append.1 h1 with q|q
   ·exact .inl ⟨w,q,h2⟩
   ·rw [List.mem_singleton.1 q] at h2;exact .inr ((hN x).1 h2)
 ·rw [List.mem_append] at hx ⊢
  rcases hx with q|q
  ·exact .inl (I.cl x q y a)
  ·exact D.cl x q y a
 ·rcases List.mem_append.1 hw with q|q
  ·exact I.ok.ss w q
  ·rw [List.mem_singleton.1 q]
   refine ⟨hS,fun e=>?_,fun x=>?_⟩
   ·simp only at e;rw [e] at hlen;exact absurd hlen (by simp)
   ·simp only [h0,hN]
    exact ⟨fun h=>⟨hk,D.rc x h⟩,fun h=>hcomp x h.2⟩
 ·simp only [List.length_append,List.length_singleton] at hk2
  rw [VA (show j<cs.length by omega)]
  rcases Nat.lt_or_ge k cs.length with q|q
  ·rw [VA q];exact I.ok.hd j k hjk q
  ·rw [PR q,show k - cs.length=0 by omega]
   show jE _ (N'.getD 0 default)
   rw [h0]
   obtain ⟨z,z1,z2⟩:=I.hd j (by omega)
   rw [z2];exact hs z i z1 hi
 ·simp only [List.length_append,List.length_singleton] at hj
  rcases Nat.lt_or_ge j cs.length with q|q
  ·obtain ⟨z,z1,z2⟩:=I.hd j q
   exact ⟨z,by omega,by rw [VA q];exact z2⟩
  ·rw [PR q,show j - cs.length=0 by omega]
   exact ⟨i,by omega,h0⟩
variable [Flag]
end Go.Proofs.Xx
