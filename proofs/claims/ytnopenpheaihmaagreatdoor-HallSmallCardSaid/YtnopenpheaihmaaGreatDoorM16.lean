/-
  The reference's turns;the turns that keep given seats.
-/
import Derived.Test.YtnopenpheaihmaaGreatDoorM15
import Derived.Test.YtnopenpheaihmaaGreatDoorM9
import Derived.Test.YtnopenpheaihmaaGreatDoorM14
import Derived.Test.YtnopenpheaihmaaGreatDoorM12
import Derived.Test.YtnopenpheaihmaaGreatDoorM11
import Derived.Test.YtnopenpheaihmaaGreatDoorM13
import Derived.Test.YtnopenpheaihmaaGreatDoorM10
namespace Go.Proofs.Xx
open Go Go.Proofs
set_option linter.unusedSimpArgs false
set_option linter.unusedVariables false
set_option maxRecDepth 100000
structure Ins (t:Tab) (c:Nat) (LL:List PL):Prop where
 srt:(LL.map (·.2)).Pairwise Jl
 mem:∀ p,p∈LL.map (·.2)↔∃ j,j<c∧j<Qo t∧acc t [] j∧p=zN t j
 len:LL.length≤c
theorem Ins.zero {t:Tab}:Ins t 0 []:=⟨.nil,fun p=>⟨fun h=>(List.not_mem_nil h).elim,fun ⟨j,h,_⟩=>by omega⟩,Nat.le_refl _⟩
theorem Ins.there {t:Tab} {c:Nat} {LL:List PL} (T:Ins t c LL) (a:c<Qo t→acc t [] c→zN t c∈LL.map (·.2)):Ins t (c+1) LL:=by
 refine ⟨T.srt,fun p=>?_,by have:=T.len;omega⟩
 constructor
 ·intro h
  obtain ⟨j,h1,h2⟩:=(T.mem p).1 h
  exact ⟨j,by omega,h2⟩
 ·rintro ⟨j,h1,h2,h3,rfl⟩
  rcases Nat.lt_or_ge j c with q|q
  ·exact (T.mem _).2 ⟨j,q,h2,h3,rfl⟩
  ·obtain rfl:j=c:=by omega
   exact a h2 h3
theorem KL {LL:List PL} {i:Nat} (h:i<LL.length):vC (LL.map (·.2)) i=(LL.getD i default).2:=by
 simp [vC,List.getD_eq_getElem?_getD,h]
theorem Ins.put {t:Tab} {c:Nat} {LL:List PL} (T:Ins t c LL) (hc:c<Qo t) (a:acc t [] c) (s:SlV) {i:Nat} (hi:i≤LL.length) (lo:∀ j,j<i→Jl (vC (LL.map (·.2)) j) (zN t c)) (hh:i<LL.length→Jl (zN t c) (vC (LL.map (·.2)) i)):Ins t (c+1) (LL.take i ++ [(s,zN t c)] ++ LL.drop i):=by
 have e:(LL.take i ++ [(s,zN t c)] ++ LL.drop i).map (·.2)=(LL.map (·.2)).take i ++ [zN t c] ++ (LL.map (·.2)).drop i:=by simp [List.map_take,List.map_drop]
 refine ⟨?_,fun p=>?_,?_⟩
 ·rw [e]
  exact qgl T.srt (fun j h1 _=>lo j h1) fun q=>hh (by simpa using q)
 ·rw [e,qfh,T.mem]
  constructor
  ·rintro (rfl|⟨j,h1,h2⟩)
   ·exact ⟨c,by omega,hc,a,rfl⟩
   ·exact ⟨j,by omega,h2⟩
  ·rintro ⟨j,h1,h2,h3,rfl⟩
   rcases Nat.lt_or_ge j c with q|q
   ·exact .inr ⟨j,q,h2,h3,rfl⟩
   ·obtain rfl:j=c:=by omega
    exact .inl rfl
 ·have:=T.len
  simp;omega
theorem Ins.turn {t:Tab} {c:Nat} {LL:List PL} (T:Ins t c LL) (h:Qo t≤c):TurnL t [] (LL.map (·.2)) :=
 ⟨T.srt,fun p=>(T.mem p).trans ⟨fun ⟨j,_,h⟩=>⟨j,h⟩,fun ⟨j,h1,h2⟩=>⟨j,by omega,h1,h2⟩⟩⟩
theorem Ins.lens {t:Tab} {c:Nat} {LL:List PL} (T:Ins t c LL) {x:PL} (hx:x∈LL):x.2.length=(qC t).toNat:=by
 obtain ⟨j,-,-,-,e⟩:=(T.mem x.2).1 (List.mem_map_of_mem hx)
 rw [e,ja]
theorem qes {t:Tab} {j:Nat}:acc t [] j↔kX t (zN t j):=⟨fun h=>h.1,fun h=>⟨h,fun x hx=>by cases hx⟩⟩
theorem Wp {h0:AH} (w:WfH h0) (t:Tab) (r:TabR h0 t) (hs:TabS t):Fn Tryz.prog Xh 68 [jg t] h0 (fun v h'=>∃ out:List PL,TurnL t [] (out.map (·.2))∧out.length≤48∧Hs h0 h' [.sl v 23 1 eP out,.any (LLp out)]):=by
 have S:=Hs.start w
 have hcl:=wQ hs
 have hsp:=hs.shape
 have hsz:=qK t
 have hpos:=hs.pos
 obtain ⟨-,-,hA1,hA2,-,-⟩:=hs.b
 refine qF rfl Tryz.func68 rfl rfl ?_
 (repeat (refine qi ?_));refine qf 0 ?_;(refine bx S ?_;clear S;intro b h S);refine mv ?_;refine qg ?_
 obtain ⟨b0,hnm⟩:∃ x,x=b:=⟨_,rfl⟩;subst hnm
 (repeat (refine qi ?_));refine qf 1 ?_;refine mv ?_;refine qg ?_
 refine QG (σ:=Int) (fun x h'=>Hs h0 h' [.blk b0 (eT t) 25]∧x=(if t.shape=1 then 2*t.A else 2)) (fun x=>[(1,PT b0),(3,.int .i64 x)]) ?_ ?_
 ·all_goals (repeat' (first|refine qi ?_|refine ql rfl ?_|refine qo ?_|(refine qf 2 ?_;refine vl ?_;refine lB S rfl rfl ?_;(first|(refine cS ?_ ?_<;>intro hc))<;>(refine qg ?_))|(refine qf 3 ?_;refine vl ?_;refine lB S rfl rfl ?_;refine ml ?_;refine mv ?_;refine qg ?_)))
  ·have hsh:t.shape=1:=by assumption
   have s:=hs.s1 hsh
   exact ⟨_,⟨S,(if_pos hsh).symm⟩,((by repeat (first|exact Ks.le_nil _|refine Ks.qh rfl ?_)))⟩
  ·have hsh:¬ t.shape=1:=by assumption
   exact ⟨_,⟨S,(if_neg hsh).symm⟩,((by repeat (first|exact Ks.le_nil _|refine Ks.qh rfl ?_)))⟩
 clear S
 rintro x h ⟨S,hx⟩
 skip
 refine QG (σ:=Unit) (fun _ h'=>Hs h0 h' [.blk b0 (eT t) 25]) (fun _=>[(1,PT b0),(3,.int .i64 (zW t))]) ?_ ?_
 ·all_goals (repeat' (first|refine qi ?_|refine ql rfl ?_|refine qo ?_|(refine qf 4 ?_;refine vl ?_;refine lB S rfl rfl ?_;(first|(refine cS ?_ ?_<;>intro hc))<;>(refine qg ?_))|(refine qf 5 ?_;refine mv ?_;refine qg ?_)))
  ·have hsh:t.shape=2:=by assumption
   have e:(zW t:Int)=4:=by rw [Ku hsh];rfl
   exact ⟨(),S,((by repeat (first|exact Ks.le_nil _|refine Ks.qh rfl ?_|refine Ks.zf ?_)))⟩
  ·have hsh:¬ t.shape=2:=by assumption
   have e:(zW t:Int)=x:=by
    rw [hx]
    by_cases q:t.shape=1
    ·have s:=hs.s1 q
     rw [if_pos q,Kv q];omega
    ·rw [if_neg q,WW (by omega)];rfl
   exact ⟨(),S,((by repeat (first|exact Ks.le_nil _|refine Ks.qh rfl ?_|refine Ks.zf ?_)))⟩
 clear S hx x
 rintro - h S
 skip
 all_goals (repeat' (first|refine qi ?_|refine qm ?_|(refine qf 6 ?_;refine mv ?_;refine qg ?_)|(refine qf 7 ?_;refine mv ?_;refine qg ?_)))
 refine qE (σ:=Nat×SlV×List PL) (fun (c,vo,LL) h'=>Hs h0 h' [.sl vo.val 23 1 eP LL,.any (LLp LL),.blk b0 (eT t) 25]∧c≤zW t∧Ins t c LL) (fun (c,vo,LL)=>zW t - c) (fun (c,vo,LL)=>[(1,PT b0),(3,.int .i64 (zW t)),(4,vo.val),(5,.int .i64 c)]) (0,⟨none,0,0⟩,[]) (by repeat (first|exact Ks.le_nil _|refine Ks.qh rfl ?_)) ?_ ?_
 ·exact ⟨S.qeZ.jP,Nat.zero_le _,.zero⟩
 clear S
 rintro ⟨c,vo,LL⟩ h ⟨S,h1,T⟩
 all_goals (repeat' (first|refine qi ?_|refine ql rfl ?_|refine qo ?_|refine qA ?_|refine qm ?_|(refine qf 8 ?_;refine mv ?_;refine mv ?_;(first|(refine cS ?_ ?_<;>intro hc))<;>(refine qg ?_))|(refine qf 10 ?_;refine lB S rfl rfl ?_;refine mv ?_)|(refine qf 20 ?_;refine mv ?_;refine mv ?_;refine qg ?_)))
 ·have hc:c<zW t:=by omega
  have hll:=T.len
  (refine qw rfl rfl rfl rfl rfl ((qaU S.wf t hs c hc).mono ?_);rintro v h ⟨l,hl,x⟩)<;>(replace S:=S.jo x;clear x;refine mv ?_;refine qg ?_)
  all_goals (repeat' (refine qi ?_))
  rcases hl with ⟨hc2,rfl⟩|⟨hc2,rfl⟩
  ·have hl2:((zN t c).length:Int)=qC t:=by rw [ja];omega
   have hcb:∀ k,k<(zN t c).length→0≤Qc (zN t c) k∧Qc (zN t c) k<qC t:=fun k hk=>Gi hs hc2 (by rw [ja] at hk;exact hk)
   obtain ⟨pv,rfl⟩:=(Rd.zo S .here).Xq
   skip
   all_goals (repeat' (first|(refine qf 11 ?_;refine mv ?_;refine ZC S rfl rfl ?_;(refine cF ?_)<;>(refine mv ?_;(first|(refine lB S rfl rfl ?_));refine mv ?_;(skip)))))
   (refine qw rfl rfl rfl rfl rfl ((PP S.wf t ⟨r.1.ext w S.ext,r.2⟩ hs pv.val (zN t c) (Rd.zo S .here) hl2 hcb).mono ?_);rintro _ h ⟨⟨rfl,hq⟩|⟨rfl,hq⟩,x⟩)<;>(replace S:=S.qy x;clear x;refine vl ?_;refine vl ?_;refine qg ?_)
   rotate_left
   ·all_goals (repeat' (first|refine ql rfl ?_|refine qA ?_|(refine qf 9 ?_;refine mv ?_;refine ad ?_;refine mv ?_;refine qg ?_)))
    refine ⟨(c+1,vo,LL),?_,?_,(by repeat (first|exact Ks.le_nil _|refine Ks.qh rfl ?_))⟩
    ·show zW t - (c+1)<zW t - c;omega
    ·exact ⟨S.del .here,by omega,T.there fun _ a=>absurd a.1 hq⟩
   refine ql rfl ?_
   refine qo ?_
   (repeat (refine qi ?_));refine qf 12 ?_;refine mv ?_;refine qg ?_
   refine QG (σ:=Nat) (fun i h'=>Hs h0 h' [.sl pv.val 3 1 eI (zN t c),.sl vo.val 23 1 eP LL,.any (LLp LL),.blk b0 (eT t) 25]∧i≤LL.length∧(∀ j,j<i→Jl (vC (LL.map (·.2)) j) (zN t c))∧(i<LL.length→¬ Jl (vC (LL.map (·.2)) i) (zN t c))) (fun i=>[(1,PT b0),(3,.int .i64 (zW t)),(4,vo.val),(5,.int .i64 c),(6,pv.val),(7,.int .i64 i)]) ?_ ?_
   ·refine qm ?_
    refine qE (σ:=Nat) (fun i h'=>Hs h0 h' [.sl pv.val 3 1 eI (zN t c),.sl vo.val 23 1 eP LL,.any (LLp LL),.blk b0 (eT t) 25]∧i≤LL.length∧(∀ j,j<i→Jl (vC (LL.map (·.2)) j) (zN t c))) (fun i=>LL.length - i) (fun i=>[(1,PT b0),(3,.int .i64 (zW t)),(4,vo.val),(5,.int .i64 c),(6,pv.val),(7,.int .i64 i)]) 0 (by repeat (first|exact Ks.le_nil _|refine Ks.qh rfl ?_)) ?_ ?_
    ·exact ⟨S,Nat.zero_le _,fun j hj=>absurd hj (Nat.not_lt_zero _)⟩
    clear S
    rintro i h ⟨S,g1,g2⟩
    all_goals (repeat' (first|refine qi ?_|refine ql rfl ?_|refine qA ?_|(refine qf 13 ?_;refine mv ?_;refine mv ?_;refine ZC S rfl rfl ?_;(first|(refine cS ?_ ?_<;>intro hc))<;>(refine mv ?_;(first|refine off ?_|refine mv ?_);(first|refine off ?_|refine mv ?_);(first|refine off ?_|(refine qH S rfl rfl ?_));(first|refine off ?_|(refine qI S rfl rfl ?_));(first|refine off ?_|refine mv ?_);(first|(refine off ?_;(refine off ?_)<;>(refine vl ?_;refine qg ?_))|skip)))))
    ·have hi:i<LL.length:=by omega
     (try simp only [Int.toNat_natCast])
     obtain ⟨fp,k⟩:=S.Xb (.there (.there .here))
     have hm:LL.getD i default∈LL:=zI.2 ⟨i,hi,rfl⟩
     have hm1:(LL.getD i default).2.length≤1000000:=by rw [T.lens hm];omega
     have hm2:(zN t c).length≤1000000:=by rw [ja];omega
     (refine qw rfl rfl rfl rfl rfl ((Yt S.wf (LL.getD i default).1.val pv.val (LL.getD i default).2 (zN t c) (k.rd hm) (Rd.zo S .here) hm1 hm2).mono ?_);rintro _ h ⟨d,rfl,hd,x⟩)<;>(replace S:=S.qy x;clear x;(first|(first|(refine cS ?_ ?_<;>intro hc)))<;>(refine vl ?_;refine qg ?_))
     all_goals (repeat' (first|refine ql rfl ?_|refine qo ?_|refine qA ?_|refine qm ?_|(refine qf 14 ?_;refine mv ?_;refine ad ?_;refine mv ?_;refine qg ?_)))
     ·refine ⟨i+1,?_,?_,(by repeat (first|exact Ks.le_nil _|refine Ks.qh rfl ?_))⟩
      ·show LL.length - (i+1)<LL.length - i;omega
      ·refine ⟨S,by omega,nxt g2 ?_⟩
       rw [KL hi]
       rcases hd with ⟨q1,q2⟩|⟨q1,q2⟩|⟨q1,q2⟩
       ·exact q2
       ·omega
       ·omega
     ·refine ⟨i,⟨S,by omega,g2,fun _=>?_⟩,((by repeat (first|exact Ks.le_nil _|refine Ks.qh rfl ?_)))⟩
      rw [KL hi]
      rcases hd with ⟨q1,q2⟩|⟨q1,q2⟩|⟨q1,q2⟩
      ·omega
      ·rw [q2];exact ZN _
      ·exact fun q=>qac q q2
    ·exact ⟨i,⟨S,by omega,g2,fun q=>by omega⟩,((by repeat (first|exact Ks.le_nil _|refine Ks.qh rfl ?_)))⟩
   clear S
   rintro i h ⟨S,g1,g2,g3⟩
   skip
   refine QG (σ:=Unit) (fun _ h'=>Hs h0 h' [.sl pv.val 3 1 eI (zN t c),.sl vo.val 23 1 eP LL,.any (LLp LL),.blk b0 (eT t) 25]∧(i<LL.length→Jl (zN t c) (vC (LL.map (·.2)) i))) (fun _=>[(1,PT b0),(3,.int .i64 (zW t)),(4,vo.val),(5,.int .i64 c),(6,pv.val),(7,.int .i64 i)]) ?_ ?_
   ·all_goals (repeat' (first|refine qi ?_|refine ql rfl ?_|refine qo ?_|(refine qf 15 ?_;refine mv ?_;refine mv ?_;refine ZC S rfl rfl ?_;(first|(refine cS ?_ ?_<;>intro hc))<;>(refine mv ?_;(first|refine off ?_|refine mv ?_);(first|refine off ?_|refine mv ?_);(first|refine off ?_|(refine qH S rfl rfl ?_));(first|refine off ?_|(refine qI S rfl rfl ?_));(first|refine off ?_|refine mv ?_);(first|(refine off ?_;(refine off ?_)<;>(refine vl ?_;refine qg ?_))|skip)))))
    ·have hi:i<LL.length:=by omega
     (try simp only [Int.toNat_natCast])
     obtain ⟨fp,k⟩:=S.Xb (.there (.there .here))
     have hm:LL.getD i default∈LL:=zI.2 ⟨i,hi,rfl⟩
     have hm1:(LL.getD i default).2.length≤1000000:=by rw [T.lens hm];omega
     have hm2:(zN t c).length≤1000000:=by rw [ja];omega
     (refine qw rfl rfl rfl rfl rfl ((Yt S.wf (LL.getD i default).1.val pv.val (LL.getD i default).2 (zN t c) (k.rd hm) (Rd.zo S .here) hm1 hm2).mono ?_);rintro _ h ⟨d,rfl,hd,x⟩)<;>(replace S:=S.qy x;clear x;(first|(first|(refine cS ?_ ?_<;>intro hc)))<;>(refine vl ?_;refine qg ?_))
     all_goals (repeat' (first|refine ql rfl ?_|refine qo ?_|refine qA ?_|(refine qf 9 ?_;refine mv ?_;refine ad ?_;refine mv ?_;refine qg ?_)))
     ·refine ⟨(c+1,vo,LL),?_,?_,(by repeat (first|exact Ks.le_nil _|refine Ks.qh rfl ?_))⟩
      ·show zW t - (c+1)<zW t - c;omega
      ·refine ⟨S.del .here,by omega,T.there fun _ _=>?_⟩
       rcases hd with ⟨q1,q2⟩|⟨q1,q2⟩|⟨q1,q2⟩
       ·omega
       ·rw [← q2];exact List.mem_map_of_mem hm
       ·omega
     ·refine ⟨(),⟨S,fun _=>?_⟩,((by repeat (first|exact Ks.le_nil _|refine Ks.qh rfl ?_)))⟩
      have g4:=g3 hi
      rw [KL hi] at g4 ⊢
      rcases hd with ⟨q1,q2⟩|⟨q1,q2⟩|⟨q1,q2⟩
      ·exact absurd q2 g4
      ·omega
      ·exact q2
    ·exact ⟨(),⟨S,fun q=>by omega⟩,((by repeat (first|exact Ks.le_nil _|refine Ks.qh rfl ?_)))⟩
   clear S
   rintro - h ⟨S,g4⟩
   skip
   (repeat (refine qi ?_));refine qf 16 ?_;refine mv ?_;refine qg ?_
   replace S:=S.jP (α:=PL) (e:=23) (z:=1) (enc:=eP)
   (repeat (refine qi ?_));refine qf 17 ?_;(iterate 3 refine mv ?_);skip
   refine su 0 i (Rd.zo S (.there (.there .here))) (S.qcZ (.there (.there .here))) ?_
   intro vt hrt hct
   skip
   refine apd S rfl rfl hrt ?_ (hsz:=by simp;omega);clear S;intro v2 h S
   refine mv ?_;refine qg ?_
   (repeat (refine qi ?_));refine qf 18 ?_;refine mv ?_;refine mv ?_;(refine one 1 S ?_;clear S;intro u h S)
   refine app (y0:=(pv,zN t c)) S rfl rfl ?_;clear S;intro v h S;refine mv ?_;refine qg ?_
   (repeat (refine qi ?_));refine qf 19 ?_;(iterate 3 refine mv ?_);(refine dr S rfl rfl ?_;clear S;intro vq S)
   refine apd S rfl rfl (Rd.zo S (.there (.there .here))) ?_ (hsz:=by simp;omega);clear S;intro v3 h S
   refine mv ?_;refine qg ?_
   skip
   all_goals (repeat' (first|(refine qf 9 ?_;refine mv ?_;refine ad ?_;refine mv ?_;refine qg ?_)))
   obtain ⟨v3,rfl⟩:=(Rd.zo S .here).Xq
   simp only [List.nil_append,List.drop_zero,Nat.sub_zero,Int.toNat_natCast] at S
   replace S:=((S.front (.there (.there (.there .here)))).front (.there (.there .here)))
   replace S:=Hs.qfL (x:=(pv,zN t c)) S
   replace S:=S.qfZ (MM:=LL.take i ++ [(pv,zN t c)] ++ LL.drop i) fun x hx=>by
    simp only [List.mem_append,List.mem_singleton] at hx ⊢
    rcases hx with (hx|hx)|hx
    ·exact .inl (List.mem_of_mem_take hx)
    ·exact .inr hx
    ·exact .inl (List.mem_of_mem_drop hx)
   replace S:=(S.front (.there .here)).del (.there (.there .here))
   refine ⟨(c+1,v3,LL.take i ++ [(pv,zN t c)] ++ LL.drop i),?_,?_,(by repeat (first|exact Ks.le_nil _|refine Ks.qh rfl ?_))⟩
   ·show zW t - (c+1)<zW t - c;omega
   ·exact ⟨S,by omega,T.put hc2 (qes.2 hq) pv g1 g2 g4⟩
  ·skip
   all_goals (repeat' (first|refine ql rfl ?_|refine qA ?_|(refine qf 9 ?_;refine mv ?_;refine ad ?_;refine mv ?_;refine qg ?_)|(refine qf 11 ?_;refine mv ?_;refine ZC S rfl rfl ?_;(first|(refine cS ?_ ?_<;>intro hc))<;>(refine mv ?_;(first|refine off ?_|(refine lB S rfl rfl ?_));(first|refine off ?_|refine mv ?_);(first|(refine off ?_;refine off ?_;refine vl ?_;refine qg ?_)|skip)))))
   ·refine ⟨(c+1,vo,LL),?_,?_,(by repeat (first|exact Ks.le_nil _|refine Ks.qh rfl ?_))⟩
    ·show zW t - (c+1)<zW t - c;omega
    ·exact ⟨S.del .here,by omega,T.there fun q=>by omega⟩
   ·exfalso
    have hc:¬ (([]:List Int).length:Int)=0:=by assumption
    exact hc rfl
 ·skip
  all_goals (repeat' (fail))
  refine qx ⟨_,rfl,?_⟩
  have:=T.len
  exact ⟨LL,T.turn (by omega),by omega,S.del (.there (.there .here))⟩
theorem Hs.qhN {h0 h:AH} {rs:List Rs} {α:Type} {v:Value} {e:TypeId} {z:Nat} {enc:α→List Value} {l:List α} (S:Hs h0 h (.sl v e z enc l :: rs)):Hs h0 h (.rd v z enc l :: rs):=S.conv fun fp k=>by
 rcases k with ⟨h1,h2⟩|⟨b,o,cc,slk,h1,h2,h3,h4,h5⟩
 ·exact .inl ⟨h1,h2⟩
 ·exact .inr ⟨b,o,_,cc,_,slk,false,h1,h2,h3,h4⟩
def okN (st:List Int) (k:Nat) (p:List Int):Bool:=decide (∀ m,m<k→Qc p (Qc st m).toNat=Qc st m)
theorem okN_zero {st p:List Int}:okN st 0 p=true:=decide_eq_true fun m hm=>by omega
theorem yc {st p:List Int} {k:Nat}:okN st (k+1) p=(okN st k p && decide (Qc p (Qc st k).toNat=Qc st k)):=by
 rw [okN,okN,← Bool.decide_and]
 refine decide_eq_decide.2 ⟨fun h=>⟨fun m hm=>h m (by omega),h k (by omega)⟩,fun h m hm=>?_⟩
 rcases Nat.lt_or_ge m k with q|q
 ·exact h.1 m q
 ·obtain rfl:m=k:=by omega
  exact h.2
theorem qbO {st p:List Int}:okN st st.length p=true↔∀ x,x∈st→Qc p x.toNat=x:=by
 rw [okN,decide_eq_true_iff]
 constructor
 ·intro h x hx
  obtain ⟨i,hi,e⟩:=zI.1 hx
  have:=h i hi
  rw [show Qc st i=x from e] at this
  exact this
 ·exact fun h m hm=>h _ (zI.2 ⟨m,hm,rfl⟩)
theorem qcQ {t:Tab} {st:List Int} {LL:List PL} (H:TurnL t [] (LL.map (·.2))):TurnL t st ((LL.filter fun x=>okN st st.length x.2).map (·.2)):=by
 refine ⟨H.srt.sublist ((List.filter_sublist).map _),fun p=>?_⟩
 constructor
 ·intro h
  obtain ⟨x,hx,rfl⟩:=List.mem_map.1 h
  obtain ⟨h1,h2⟩:=List.mem_filter.1 hx
  obtain ⟨j,hj,ha,e⟩:=(H.mem _).1 (List.mem_map_of_mem h1)
  exact ⟨j,hj,⟨ha.1,by rw [← e];exact qbO.1 h2⟩,e⟩
 ·rintro ⟨j,hj,ha,rfl⟩
  have:=(H.mem (zN t j)).2 ⟨j,hj,⟨ha.1,fun x hx=>by cases hx⟩,rfl⟩
  obtain ⟨x,hx,e⟩:=List.mem_map.1 this
  have e:x.2=zN t j:=e
  rw [← e]
  exact List.mem_map_of_mem (List.mem_filter.2 ⟨hx,qbO.2 (by rw [e];exact ha.2)⟩)
theorem qcg {α:Type} [Inhabited α] {l:List α} {i:Nat} (hi:i<l.length):l.take (i+1)=l.take i ++ [l.getD i default]:=by
 rw [List.take_add_one,List.getD_eq_getElem?_getD,List.getElem?_eq_getElem hi];rfl
theorem kM {LL:List PL} {f:PL→Bool} {i:Nat} (hi:i<LL.length):(LL.take (i+1)).filter f=(LL.take i).filter f ++ if f (LL.getD i default) then [LL.getD i default] else []:=by
 rw [qcg hi,List.filter_append]
 congr 1
 simp only [List.filter_cons,List.filter_nil]
theorem qaR {h0:AH} (w:WfH h0) (t:Tab) (r:TabR h0 t) (hs:TabS t) (sv:Value) (st:List Int) (hsv:RdL h0 sv 1 eI st) (hsl:st.length≤1000000) (hst:qbv t st):Fn Tryz.prog Xh 71 [jg t,sv] h0 (fun v h'=>∃ out:List PL,TurnL t st (out.map (·.2))∧Hs h0 h' [.rd v 1 eP out,.any (LLp out)]):=by
 have S:=Hs.start w
 have hsz:=qK t
 refine qF rfl Tryz.func71 rfl rfl ?_
 all_goals (repeat' (first|refine qi ?_|(refine qf 0 ?_;(refine bx S ?_;clear S;intro b h S);refine mv ?_;refine qg ?_)|(refine qf 1 ?_;refine mv ?_;refine qg ?_)|(refine qf 2 ?_;refine lB S rfl rfl ?_)))
 obtain ⟨b0,hnm⟩:∃ x,x=b:=⟨_,rfl⟩;subst hnm
 (refine qw rfl rfl rfl rfl rfl ((Wp S.wf t ⟨r.1.ext w S.ext,r.2⟩ hs).mono ?_);rintro vT h ⟨LL,hT,hl,x⟩)<;>(replace S:=S.Xn x;clear x;refine mv ?_;refine qg ?_)
 all_goals (repeat' (first|refine qi ?_|refine qm ?_|(refine qf 3 ?_;refine mv ?_;refine qg ?_)))
 have hlen:∀ x,x∈LL→x.2.length=(qC t).toNat:=fun x hx=>(hT.trn _).1 (List.mem_map_of_mem hx) |>.len
 refine qE (σ:=Nat×SlV) (fun (i,vo) h'=>Hs h0 h' [.sl vo.val 23 1 eP ((LL.take i).filter fun x=>okN st st.length x.2),.sl vT 23 1 eP LL,.any (LLp LL),.blk b0 (eT t) 25]∧i≤LL.length) (fun (i,vo)=>LL.length - i) (fun (i,vo)=>[(1,sv),(5,vo.val),(6,vT),(7,.int .i64 i)]) (0,⟨none,0,0⟩) (by repeat (first|exact Ks.le_nil _|refine Ks.qh rfl ?_)) ?_ ?_
 ·exact ⟨S.jP,Nat.zero_le _⟩
 clear S
 rintro ⟨i,vo⟩ h ⟨S,h1⟩
 all_goals (repeat' (first|refine qi ?_|refine ql rfl ?_|refine qo ?_|refine qA ?_|refine qm ?_|(refine qf 4 ?_;refine mv ?_;refine mv ?_;refine ZC S rfl rfl ?_;(first|(refine cS ?_ ?_<;>intro hc))<;>(refine qg ?_))))
 ·have hi:i<LL.length:=by omega
  (repeat (refine qi ?_));refine qf 6 ?_;refine mv ?_;refine qg ?_
  (repeat (refine qi ?_));refine qf 7 ?_;refine mv ?_;refine qg ?_
  have hm:LL.getD i default∈LL:=zI.2 ⟨i,hi,rfl⟩
  have hx:=hlen _ hm
  refine Vu (σ:=Bool) (fun q h'=>Hs h0 h' [.sl vo.val 23 1 eP ((LL.take i).filter fun x=>okN st st.length x.2),.sl vT 23 1 eP LL,.any (LLp LL),.blk b0 (eT t) 25]∧q=okN st st.length (LL.getD i default).2) (fun q=>[(1,sv),(5,vo.val),(6,vT),(7,.int .i64 i),(8,.bool q)]) ?_ ?_
  ·refine qm ?_
   have S0:=S
   have wh:=S.wf
   obtain ⟨fp,k⟩:=S.Xb (.there (.there .here))
   have hp:=k.rd hm
   have hTv:=Rd.zo S (.there .here)
   have hsh:=hsv.ext w S.ext
   clear hsv
   replace S:=Hs.start wh
   refine qE (σ:=Nat×Bool) (fun (k,q) h'=>Hs h h' []∧k≤st.length∧q=okN st k (LL.getD i default).2) (fun (k,q)=>st.length - k) (fun (k,q)=>[(1,sv),(5,vo.val),(6,vT),(7,.int .i64 i),(8,.bool q),(9,.int .i64 k)]) (0,true) (by repeat (first|exact Ks.le_nil _|refine Ks.qh rfl ?_)) ?_ ?_
   ·exact ⟨S,Nat.zero_le _,okN_zero.symm⟩
   clear S
   rintro ⟨k,q⟩ h' ⟨S,g1,g2⟩
   all_goals (repeat' (first|refine qi ?_|refine ql rfl ?_|refine qo ?_|refine qA ?_|refine qm ?_|(refine qf 8 ?_;refine mv ?_;refine mv ?_;refine QD S ?_;(first|(refine cS ?_ ?_<;>intro hc))<;>(refine qg ?_))))
   ·have hk:k<st.length:=by omega
    have hb:=hst _ (zI.2 ⟨k,hk,rfl⟩)
    cases q
    ·all_goals (repeat' (first|(refine qf 9 ?_;refine mv ?_;refine ad ?_;refine mv ?_;refine qg ?_)|(refine qO 10 ?_;refine mv ?_;refine mv ?_;refine off ?_;refine off ?_;refine off ?_;refine off ?_;refine off ?_;refine off ?_;refine off ?_;refine off ?_;refine off ?_;refine off ?_;refine off ?_;refine off ?_;refine off ?_;refine off ?_;(refine off ?_)<;>(refine vl ?_;refine mv ?_;refine qg ?_))))
     refine ⟨(k+1,false),?_,?_,(by repeat (first|exact Ks.le_nil _|refine Ks.qh rfl ?_))⟩
     ·show st.length - (k+1)<st.length - k;omega
     ·exact ⟨S,by omega,by rw [yc,← g2];rfl⟩
    ·(repeat (fail))
     refine qO 10 ?_
     iterate 4 refine mv ?_
     refine jv S ?_
     refine zS S ?_
     simp only [Int.toNat_natCast]
     iterate 2 refine mv ?_
     refine jv S ?_
     refine zS S ?_
     simp only [Int.toNat_natCast]
     refine jv S ?_ (hr:=hp) (ha:=⟨hb.1,by omega⟩)
     refine zS S ?_ (hr:=hp) (hk:=by omega)
     (refine mv ?_);refine mv ?_;(first|(refine jv S ?_));(first|(refine zS S ?_));(first|(first|(refine cS ?_ ?_<;>intro hc)))<;>(refine vl ?_;refine mv ?_;refine qg ?_)
     ·all_goals (repeat' (first|(refine qf 9 ?_;refine mv ?_;refine ad ?_;refine mv ?_;refine qg ?_)))
      refine ⟨(k+1,true),?_,?_,(by repeat (first|exact Ks.le_nil _|refine Ks.qh rfl ?_))⟩
      ·show st.length - (k+1)<st.length - k;omega
      ·refine ⟨S,by omega,?_⟩
       rw [yc,← g2,decide_eq_true (by assumption)];rfl
     ·all_goals (repeat' (first|(refine qf 9 ?_;refine mv ?_;refine ad ?_;refine mv ?_;refine qg ?_)))
      refine ⟨(k+1,false),?_,?_,(by repeat (first|exact Ks.le_nil _|refine Ks.qh rfl ?_))⟩
      ·show st.length - (k+1)<st.length - k;omega
      ·refine ⟨S,by omega,?_⟩
       rw [yc,← g2,decide_eq_false (by assumption)];rfl
   ·have hk:k=st.length:=by omega
    subst hk
    exact ⟨q,⟨S0.qy S,g2⟩,((by repeat (first|exact Ks.le_nil _|refine Ks.qh rfl ?_)))⟩
  clear S
  rintro q h ⟨S,hq⟩
  cases q
  ·skip
   all_goals (repeat' (first|refine qi ?_|refine ql rfl ?_|refine qo ?_|(refine qf 5 ?_;refine mv ?_;refine ad ?_;refine mv ?_;refine qg ?_)|(refine qf 11 ?_;refine mv ?_;refine qg ?_)))
   refine ⟨(i+1,vo),?_,?_,(by repeat (first|exact Ks.le_nil _|refine Ks.qh rfl ?_))⟩
   ·show LL.length - (i+1)<LL.length - i;omega
   ·refine ⟨?_,by omega⟩
    rw [kM hi,← hq]
    simpa using S
  ·skip
   all_goals (repeat' (first|refine qi ?_|refine ql rfl ?_|(refine qf 11 ?_;refine mv ?_;refine qg ?_)|(refine qf 12 ?_;(iterate 3 refine mv ?_);refine qH S rfl rfl ?_;refine qI S rfl rfl ?_;(refine one 1 S ?_;clear S;intro u h S))))
   refine app (y0:=(LL.getD i default)) S rfl rfl ?_;clear S;intro v h S;refine mv ?_;refine qg ?_
   all_goals (repeat' (first|(refine qf 5 ?_;refine mv ?_;refine ad ?_;refine mv ?_;refine qg ?_)))
   obtain ⟨v2,rfl⟩:=(Rd.zo S .here).Xq
   refine ⟨(i+1,v2),?_,?_,(by repeat (first|exact Ks.le_nil _|refine Ks.qh rfl ?_))⟩
   ·show LL.length - (i+1)<LL.length - i;omega
   ·refine ⟨?_,by omega⟩
    rw [kM hi,← hq]
    exact S
 ·skip
  all_goals (repeat' (first|(refine qf 13 ?_;refine mv ?_;refine mv ?_;refine qg ?_)))
  refine qx ⟨_,rfl,?_⟩
  have e:i=LL.length:=by omega
  subst e
  rw [List.take_length] at S
  replace S:=((S.qhN.front (.there (.there .here))).qfZ (MM:=LL.filter fun x=>okN st st.length x.2) fun x hx=>(List.mem_filter.1 hx).1).front (.there .here)
  exact ⟨_,qcQ hT,(S.del (.there (.there .here))).del (.there (.there .here))⟩
theorem RLL.ofP {h:AH} {v:Value} {LL:List PL} {fp:Fp} (hr:RdL h v 1 eP LL) (k:LLp LL h fp):RLL h v (LL.map (·.2)):=by
 refine ⟨LL.map (·.1.val),?_,by simp,fun j hj=>?_⟩
 ·have e:(LL.map (·.1.val)).flatMap eV=LL.flatMap eP:=by rw [List.flatMap_map];rfl
  show Rd h v 1 (LL.map (·.1.val)).length ((LL.map (·.1.val)).flatMap eV)
  rw [List.length_map,e];exact hr
 ·have hj:j<LL.length:=by simpa using hj
  have:=k.rd (zI.2 ⟨j,hj,rfl⟩)
  simpa [List.getD_eq_getElem?_getD,hj] using this
theorem TurnL.len {t:Tab} {st:List Int} {ls:List (List Int)} (H:TurnL t st ls):ls.length≤Qo t:=by
 have:=wW (m:=(List.range (Qo t)).map (zN t)) (qdG ZN H.srt) fun p hp=>by
  obtain ⟨j,hj,-,rfl⟩:=(H.mem p).1 hp
  exact List.mem_map_of_mem (List.mem_range.2 hj)
 simpa using this
theorem StayL.len {t:Tab} {st:List Int} {ls:List (List Int)} (H:StayL t st ls):ls.length≤48:=by
 rcases H with ⟨h1,-,h⟩|⟨-,rfl⟩
 ·have:=h.len
  have:=KD (xu h1)
  omega
 ·exact Nat.zero_le _
theorem StayL.lens {t:Tab} {st:List Int} {ls:List (List Int)} (H:StayL t st ls) {p:List Int} (hp:p∈ls):p.length=(qC t).toNat:=by
 rcases H with ⟨-,-,h⟩|⟨-,rfl⟩
 ·obtain ⟨j,-,-,rfl⟩:=(h.mem p).1 hp
  exact ja t j
 ·cases hp
theorem StayL.kC {t:Tab} {st:List Int} {ls:List (List Int)} (H:StayL t st ls) {j:Nat} (hj:j<ls.length):(ls.getD j default).length≤1000000:=by
 have:=H.lens (zI.2 ⟨j,hj,rfl⟩)
 have:=qK t
 omega
theorem TurnL.same {t:Tab} {s:SlV} {st:List Int} {ls:List (List Int)} (H:TurnL { t with os:=s } st ls):TurnL t st ls:=⟨H.srt,fun p=>H.mem p⟩
theorem StayL.same {t u:Tab} {st:List Int} {ls:List (List Int)} (e:SameTab u t) (H:StayL u st ls):StayL t st ls:=by
 unfold SameTab at e
 generalize u.os=s at e
 subst e
 rcases H with ⟨h1,h2,h3⟩|⟨h1,h2⟩
 ·exact .inl ⟨h1,h2,h3.same⟩
 ·exact .inr ⟨h1,h2⟩
def LLw (LL:List PL) (h:AH) (fp:Fp):Prop:=∀ x,x∈LL→(x.1.val = .slice none 0 0∧x.2=[])∨∃ b o cc slk,x.1.val = .slice (some ⟨b,o,none⟩) x.2.length x.2.length∧h.get b=some (.cells cc 3 slk false)∧fp b∧o+x.2.length≤cc.length
theorem LLp.weak {LL:List PL} {h:AH} {fp:Fp} (k:LLp LL h fp):LLw LL h fp:=fun x hx=>by
 obtain ⟨f,f1,f2⟩:=k x hx
 rcases f2 with ⟨q1,q2⟩|⟨b,o,cc,slk,h1,h2,h3,h4,h5,h6⟩
 ·exact .inl ⟨q1,q2⟩
 ·refine .inr ⟨b,o,cc,slk,h1,h2,f1 b h3,?_⟩
  rcases h5 with h5|⟨h5,h7⟩
  ·omega
  ·rw [h5];simpa using h7
theorem LLw.ok {LL:List PL} {h:AH} {fp:Fp} (k:LLw LL h fp):(Rs.any (LLw LL)).ok h fp:=fun h' q x hx=>by
 rcases k x hx with q1|⟨b,o,cc,slk,h1,h2,h3,h4⟩
 ·exact .inl q1
 ·exact .inr ⟨b,o,cc,slk,h1,by rw [q b h3];exact h2,h3,h4⟩
theorem Hs.qgM {h0 h:AH} {rs:List Rs} {LL:List PL} (S:Hs h0 h (.any (LLp LL) :: rs)):Hs h0 h (.any (LLw LL) :: rs):=S.conv fun fp k=>((k h fun _ _=>rfl).weak).ok
theorem LLw.rd {LL:List PL} {h:AH} {fp:Fp} (k:LLw LL h fp) {x:PL} (hx:x∈LL):∃ c,Rd h x.1.val 1 x.2.length c:=by
 rcases k x hx with ⟨q1,q2⟩|⟨b,o,cc,slk,h1,h2,h3,h4⟩
 ·rw [q1,q2];exact ⟨_,Rd.none_ h 1⟩
 ·rw [h1]
  have:zx cc o (x.2.length*1)=some ((cc.drop o).take x.2.length):=by
   unfold zx
   rw [Nat.mul_one]
   have z:Nat.beq ((cc.drop o).take x.2.length).length x.2.length=true:=by
    rw [show ((cc.drop o).take x.2.length).length=x.2.length by simp;omega]
    exact Nat.beq_refl _
   simp only [z]
  exact ⟨_,.inr ⟨b,o,_,cc,_,slk,false,rfl,h2,this⟩⟩
theorem qdd {h0 h:AH} {rs:List Rs} {LL:List PL} (S:Hs h0 h (.any (LLw LL) :: rs)) {x:PL} (hx:x∈LL) {k:Nat} (hk:k<x.2.length) (u:Int):∃ h',JA Tryz.prog 3 (Yx x.1.val 1 k 0) (.int .i64 u) h=some h'∧Hs h0 h' (.any (LLw LL) :: rs):=by
 obtain ⟨fp,k1,k2⟩:=(At.here:At (.any (LLw LL) :: rs) _).ok S.sep
 have k3:=k1 h fun _ _=>rfl
 rcases k3 x hx with ⟨q1,q2⟩|⟨b,o,cc,slk,h1,h2,h3,h4⟩
 ·rw [q2] at hk;exact absurd hk (Nat.not_lt_zero _)
 have hst:QI Tryz.prog 3 cc (o+k*1+0) (.int .i64 u)=some (splice cc (o+k*1+0) [.int .i64 u]):=by
  unfold QI
  rw [show zH Tryz.prog 3=some 1 by kernel_rfl,show (Value.int .i64 u).cells.toList=[.int .i64 u] from rfl]
  have z:Nat.ble (o+k*1+0+[Value.int .i64 u].length) cc.length=true:=Nat.ble_eq_true_of_le (by simp;omega)
  simp only [z];rfl
 have hsl:(splice cc (o+k*1+0) [Value.int .i64 u]).length=cc.length:=XX (by simp;omega)
 refine ⟨_,by rw [h1];exact Zi h2 hst,?_⟩
 refine S.turn .here (Nat.le_refl _) (S.wf.put (k2 b h3).2.1 _) fun fq q1 q2=>?_
 have k4:=q1 h fun _ _=>rfl
 have hb:fq b:=by
  rcases k4 x hx with ⟨g1,g2⟩|⟨b',o',cc',slk',g1,g2,g3,g4⟩
  ·rw [g2] at hk;exact absurd hk (Nat.not_lt_zero _)
  ·rw [h1] at g1;cases g1;exact g3
 refine ⟨fun j _ hj=>by rw [AH.get_put,if_neg];intro q;subst q;exact hj hb,fq,LLw.ok fun y hy=>?_,fun j hj=>⟨(q2 j hj).2,.inl hj⟩⟩
 rcases k4 y hy with g|⟨b',o',cc',slk',g1,g2,g3,g4⟩
 ·exact .inl g
 ·by_cases e:b'=b
  ·subst e
   rw [h2] at g2
   cases g2
   exact .inr ⟨b',o',_,slk,g1,by rw [AH.get_put,if_pos rfl],g3,by rw [hsl];exact g4⟩
  ·exact .inr ⟨b',o',cc',slk',g1,by rw [AH.get_put,if_neg e];exact g2,g3,g4⟩
section
variable {X:Extern} {sz:Nat} {L:Ks} {h h0:AH} {rs:List Rs} {ops:Array Oper} {os:List Oper} {o:Oper} {R:Ks→AH→Prop}
theorem stW {L':Ks} {x yo:Operand} {LL:List PL} {u:Int} (S:Hs h0 h (.any (LLw LL) :: rs)) (p:PL) (k:Nat) (hp:p∈LL) (hk:k<p.2.length) (w:∀ h',Hs h0 h' (.any (LLw LL) :: rs)→KO Tryz.prog X sz ops os L' h' R) (ho:o.op = .store 3 x yo:=by exact rfl) (hg:qB ops L.tree o.guard=some true:=by exact rfl)
 (hx:kA L x=some (Yx p.1.val 1 k 0):=by exact rfl) (hy:kA L yo=some (.int .i64 u):=by exact rfl) (hq:qM sz L o.dst (.tuple #[])=some L':=by exact rfl):KO Tryz.prog X sz ops (o :: os) L h R:=by
 obtain ⟨h',q1,q2⟩:=qdd S hp hk u
 exact Vw ho hg hx hy q1 hq (w h' q2)
end
section
variable {P:Program} {sz:Nat} {L:Ks} {h h0:AH} {rs:List Rs} {ops:Array Oper}
theorem HintOk.ld {j:Nat} (k:Nat) {o ok:Oper} {x:Option Nat} {y:Operand} {ty e e2:TypeId} {b:Nat} {c c2:List Value} {v:Value} {L':Ks} (S:Hs h0 h rs) (hi:At rs (.blk b c e)) (hp:WX ops (masks ops.toList []) j=[k]:=by decide +kernel) (ho:ops[j]? = some o:=by exact rfl) (hok:ops[k]? = some ok:=by exact rfl) (hko:ok.op = .load ty y:=by exact rfl)
 (hy:kA L y=some (.pointer (some ⟨b,0,none⟩)):=by exact rfl) (hv:Ja P ty c 0=some v:=by exact rfl) (hg:qB ops L.tree ok.guard=some true:=by exact rfl) (hd:qM sz L ok.dst v=some L':=by exact rfl) (hf:Qa P L'.tree o.op=some (x,c2,e2):=by exact rfl):HintOk P ops sz L h j c2 e2 :=
 HintOk.one (h':=h) hp ho hok hg (by rw [hko];simp only [jI,qL hy,Zt (ZP S hi),hv,qU]) hd hf
end
theorem qef {h0:AH} (w:WfH h0) (v:Value) (l:List Tab) (hr:RdL h0 v 7 eT l) (hl:l.length≤1000) (ht:∀ i,i<l.length→TabR h0 (tb l i)):Fn Tryz.prog Xh 66 [v] h0 (fun u h'=>∃ l2,SameAll l2 l∧Hs h0 h' [.sl u 25 7 eT l2,.any (qeA l l2 l.length)]):=by
 have S:=Hs.start w
 refine qF rfl Tryz.func66 rfl rfl ?_
 all_goals (repeat' (first|refine qi ?_|refine qm ?_|(refine qf 0 ?_;refine mv ?_;refine qg ?_)|(refine qf 1 ?_;refine mv ?_;refine qg ?_)|(refine qf 2 ?_;refine mv ?_;refine QD S ?_;refine mv ?_;refine qg ?_)))
 refine qE (σ:=Nat×List Tab×Value) (fun (i,l2,vo) h'=>Hs h0 h' [.sl vo 25 7 eT l2,.any (qeA l l2 i)]∧i≤l.length∧l2.length=i∧∀ j,j<i→SameTab (tb l2 j) (tb l j)) (fun (i,l2,vo)=>l.length - i) (fun (i,l2,vo)=>[(3,vo),(6,v),(7,.int .i64 l.length),(8,.int .i64 i)]) (0,[],.slice none 0 0) (by repeat (first|exact Ks.le_nil _|refine Ks.qh rfl ?_)) ?_ ?_
 ·exact ⟨(S.anyS fun _ j hj=>absurd hj (Nat.not_lt_zero _)).jP,Nat.zero_le _,rfl,fun j hj=>absurd hj (Nat.not_lt_zero _)⟩
 clear S
 rintro ⟨i,l2,vo⟩ h ⟨S,h1,h2,h3⟩
 all_goals (repeat' (first|refine qi ?_|refine ql rfl ?_|refine qo ?_|refine qA ?_|refine qm ?_|(refine qf 3 ?_;(first|(refine cS ?_ ?_<;>intro hc))<;>(refine qg ?_))|(refine qf 4 ?_;refine jv S ?_;refine zS S ?_;(refine al S ?_;clear S;intro b h S);(first|(refine sB S rfl rfl ?_;clear S;intro h S));refine qg ?_)|(refine qf 8 ?_;refine mv ?_;refine mv ?_;refine qg ?_)))
 ·(try simp only [Int.toNat_natCast] at *)
  have hi:i<l.length:=by omega
  obtain ⟨hov,hnm,hol⟩:=ht i hi
  refine qaD (id:=5) (j1:=3) (rd:=[(3,(0,1)),(6,(0,2))]) (fun b1=>[some b1,some (b)]) S (HintOk.direct) ?_;clear S;intro b1 h S;refine qj ?_;(first|(refine vl ?_<;>refine qg ⟨⟨by (first|exact True.intro),rfl⟩,?_⟩));refine qj ?_;(first|(refine lB S rfl rfl ?_<;>refine qg ⟨⟨by (first|exact True.intro),rfl⟩,?_⟩))
  ((refine qj ?_;first|refine qw rfl rfl rfl rfl rfl ((yV S.wf (tb l i).ov (tb l i).opn (hov.ext w S.ext) (by omega)).mono ?_));rintro u h x)<;>((refine qg ⟨⟨True.intro,?_⟩,?_⟩;(focus ((show keepsX _ _ _ _ _;simp only [keepsX];(repeat' (first|exact True.intro|refine And.intro ?_ ?_));all_goals (intro hw;first|exact x.ext.old _ S.bB)))));replace S:=S.jo x;clear x;refine fl S rfl rfl S.gB ?_)
  refine qj ?_;refine apd S rfl rfl (qaV eI [(-7:Int)] S.gB) ?_;have S0:=S;clear S;intro v2 h S;refine qg ⟨⟨True.intro,?_⟩,?_⟩;(focus ((show keepsX _ _ _ _ _;simp only [keepsX];(repeat' (first|exact True.intro|refine And.intro ?_ ?_));all_goals (intro hw;first|exact (S.gB).trans (S0.gB).symm))));clear S0;(refine qj ?_;(first|(refine vl ?_<;>refine qg ⟨⟨by (first|exact True.intro),rfl⟩,?_⟩));refine qj ?_;(first|(refine lB S rfl rfl ?_<;>refine qg ⟨⟨by (first|exact Or.inr rfl),rfl⟩,?_⟩));refine qj ?_;(first|(refine QD S ?_<;>refine qg ⟨⟨by (first|exact True.intro),rfl⟩,?_⟩)))
  refine qj ?_;refine th (tb l i).opn.length S rfl rfl ?_;clear S;intro v3 S;obtain ⟨s3,rfl⟩:=(Rd.Y8 S .here).Xq;refine qg ⟨⟨True.intro,rfl⟩,?_⟩;(refine qj ?_;(first|(refine vl ?_<;>refine qg ⟨⟨by (first|exact True.intro),rfl⟩,?_⟩));refine qj ?_;(first|((refine sB S rfl rfl ?_;have S0:=S;clear S;intro h S);refine qg ⟨⟨True.intro,?_⟩,?_⟩;(focus ((show keepsX _ _ _ _ _;simp only [keepsX];(repeat' (first|exact True.intro|refine And.intro ?_ ?_));all_goals (intro hw;first|exact (S.gB).trans (S0.gB).symm|exact absurd hw (by decide +kernel)))));clear S0));refine jd ?_)
  all_goals (repeat' (first|(refine qf 6 ?_;refine mv ?_;refine lB S rfl rfl ?_;(refine one 7 S ?_;clear S;intro u h S))))
  refine app (y0:={ tb l i with os:=s3 }) S rfl rfl ?_;clear S;intro v h S;refine mv ?_;refine qg ?_
  all_goals (repeat' (first|(refine qf 7 ?_;refine ad ?_;refine mv ?_;refine qg ?_)))
  refine ⟨(i+1,l2 ++ [{ tb l i with os:=s3 }],v),?_,?_,(by repeat (first|exact Ks.le_nil _|refine Ks.qh rfl ?_))⟩
  ·show l.length - (i+1)<l.length - i;omega
  ·have hg0:∀ (y:Tab) (j:Nat),j<i→tb (l2 ++ [y]) j=tb l2 j:=fun y j hj=>by
    simp only [tb,List.getD_eq_getElem?_getD,List.getElem?_append_left (show j<l2.length by omega)]
   have hg1:∀ (y:Tab),tb (l2 ++ [y]) i=y:=fun y=>by
    simp only [tb,List.getD_eq_getElem?_getD,List.getElem?_append_right (show l2.length≤i by omega),h2,Nat.sub_self,List.getElem?_cons_zero,Option.getD_some]
   generalize hy:({ tb l i with os:=s3 }:Tab)=y at S
   have S:=((((S.del (.there (.there .here))).del (.there (.there .here))).front (.there (.there .here))).front (.there (.there .here)))
   have S:=S.merge (r:=.any (qeA l (l2 ++ [y]) (i+1))) (fun f1 f2 k1 k2 h'' hh j hj=>by
    rcases Nat.lt_or_ge j i with q|q
    ·rw [hg0 y j q]
     exact k2 h'' (fun b hb=>hh b (.inr hb)) j q
    ·obtain rfl:j=i:=by omega
     have k1:=k1.local fun b hb=>hh b (.inl hb)
     rw [hg1 y,← hy]
     rcases k1 with ⟨e1,e2⟩|⟨bb,o,cap,cc,e,sk,r,e1,e2,-,e3⟩
     ·have hnil:(tb l j).opn=[]:=by
       cases q1:(tb l j).opn with
       | nil=>rfl
       | cons a t=>rw [q1] at e2;simp at e2
      exact .inl ⟨e1,show (tb l j).opn.length=0 by rw [hnil];rfl,show (tb l j).opn.flatMap eI=[] by rw [hnil];rfl⟩
     ·rw [List.take_left'] at e1 e3<;>first|rfl|skip
      exact .inr ⟨bb,o,cap,cc,e,sk,r,e1,e2,e3⟩)
   refine ⟨S.front (.there .here),by omega,by simp;omega,fun j hj=>?_⟩
   show SameTab (tb (l2 ++ [y]) j) (tb l j)
   rcases Nat.lt_or_ge j i with q|q
   ·rw [hg0 y j q];exact h3 j q
   ·obtain rfl:j=i:=by omega
    rw [hg1 y,← hy];rfl
 ·refine qx ⟨_,rfl,?_⟩
  have hil:i=l.length:=by omega
  subst hil
  exact ⟨l2,⟨by omega,fun j hj=>h3 j (by omega)⟩,S⟩
theorem HallA.few {h:AH} {v:Value} {l:List Tab} (A:HallA h v l) (f:qh5 l):HallR h v l :=
 ⟨A.rd,fun i hi=>⟨(A.tab i hi).rd,by have:=f.2 i hi;omega,by have:=f.2 i hi;omega⟩,by have:=f.1;omega,A.cap⟩
theorem KJ {h0:AH} (w:WfH h0) {b:Nat} {n:Int} (hb:h0.get b=some (.cells [.int .i64 n] 3 none false)) (x:Int):Fn Tryz.prog Xh 70 [.int .i64 x,PT b] h0 (fun v h'=>BoolIs v (x<0∨n≤x)∧Hs h0 h' []):=by
 have S:=Hs.start w
 refine qF rfl Tryz.func70 rfl rfl ?_
 all_goals (repeat' (first|refine qi ?_|(refine qf 0 ?_;refine mv ?_;refine qg ?_)|(refine qf 1 ?_;refine mv ?_;(first|(refine cS ?_ ?_<;>intro hc))<;>(refine mv ?_;(first|refine off ?_|refine mv ?_);(first|refine off ?_|(refine lH S ?_));(first|refine off ?_|(first|(refine cS ?_ ?_<;>intro hc)))<;>(refine vl ?_;refine mv ?_;refine qg ?_)))))
 all_goals (refine qx ⟨_,rfl,?_⟩)
 ·exact ⟨.inl ⟨rfl,.inl (by omega)⟩,S⟩
 ·exact ⟨.inl ⟨rfl,.inr (by omega)⟩,S⟩
 ·exact ⟨.inr ⟨rfl,by omega⟩,S⟩
theorem qag {h0:AH} (w:WfH h0) (t:Tab) (r:TabR h0 t) (sv:Value) (st:List Int) (hsv:RdL h0 sv 1 eI st) (hst:st.length≤30):Fn Tryz.prog Xh 20 [jg t,sv] h0 (fun v h'=>v = .bool true∧Hs h0 h' []):=by
 have S:=Hs.start w
 have hsz:=qK t
 refine qF rfl Tryz.func20 rfl rfl ?_
 (repeat (refine qi ?_));refine qf 0 ?_;(refine bx S ?_;clear S;intro b h S);refine mv ?_;refine qg ?_
 obtain ⟨b0,hnm⟩:∃ x,x=b:=⟨_,rfl⟩;subst hnm
 skip
 refine qi ?_
 (repeat (refine qi ?_));refine vg (id:=1) (j1:=1) (j2:=7) (rd:=[(1,(0,0)),(4,(1,2)),(7,(0,2))]) (fun b1 b2=>[some b1,none,some b2]) S (HintOk.ld 0 S .here) (HintOk.direct) ?_;clear S;intro b1 b2 h S;refine qj ?_;(first|(refine lB S rfl rfl ?_<;>refine qg ⟨⟨by (first|exact True.intro),rfl⟩,?_⟩));refine fl S rfl rfl S.gB ?_
 have ht1:∀ i,i<[t].length→TabR h (tb [t] i):=fun i hi=>by
  obtain rfl:i=0:=by simpa using hi
  exact ⟨r.1.ext w S.ext,r.2⟩
 ((refine qj ?_;first|refine qw rfl rfl rfl rfl rfl ((qef S.wf _ [t] (qaV (z:=7) eT [t] (ZP S (.there .here))) (by simp) ht1).mono ?_));rintro u h ⟨l2,sa,x⟩)<;>((refine qg ⟨⟨True.intro,?_⟩,?_⟩;(focus ((show keepsX _ _ _ _ _;simp only [keepsX];(repeat' (first|exact True.intro|refine And.intro ?_ ?_));all_goals (intro hw;first|exact x.ext.old _ S.bB)))));replace S:=S.Xn x;clear x;have sl:l2.length=1:=sa.1;(refine qeD [some (b1),some (Qi u),some (b2)] (And.intro rfl (And.intro trivial (And.intro rfl trivial))) ?_);refine qj ?_;(first|(refine qH S rfl rfl ?_<;>refine qg ⟨⟨by (first|exact True.intro),rfl⟩,?_⟩));refine qj ?_;(first|(refine qI S rfl rfl ?_<;>refine qg ⟨⟨by (first|exact Or.inr (congrArg some (zn _ _ _ _))),rfl⟩,?_⟩));refine qj ?_;(first|(refine mv ?_<;>refine qg ⟨⟨by (first|exact True.intro),rfl⟩,?_⟩)))
 ((refine qj ?_;first|refine qw rfl rfl rfl rfl rfl ((yV S.wf sv st (hsv.ext w S.ext) (by omega)).mono ?_));rintro u2 h x)<;>((refine qg ⟨⟨True.intro,?_⟩,?_⟩;(focus ((show keepsX _ _ _ _ _;simp only [keepsX];(repeat' (first|exact True.intro|refine And.intro ?_ ?_));all_goals (intro hw;first|exact x.ext.old _ S.bB|exact x.ext.old _ (S.bR (by first|omega)))))));replace S:=S.jo x;clear x;refine fl S rfl rfl S.gB ?_;refine qj ?_;(first|((refine sB S rfl rfl ?_;have S0:=S;clear S;intro h S);refine qg ⟨⟨True.intro,?_⟩,?_⟩;(focus ((show keepsX _ _ _ _ _;simp only [keepsX];(repeat' (first|exact True.intro|refine And.intro ?_ ?_));all_goals (intro hw;first|exact (S.gB).trans (S0.gB).symm|exact absurd hw (by decide +kernel)))));clear S0));refine qj ?_;(first|(refine mv ?_<;>refine qg ⟨⟨by (first|exact True.intro),rfl⟩,?_⟩));refine jd ?_)
 have e2:SameTab (l2.getD (0:Int).toNat default) t:=sa.2 0 (by omega)
 have r2:TabR h (l2.getD (0:Int).toNat default):=by
  obtain ⟨fp,k⟩:=S.Xb (.there (.there .here))
  have q:=(jB _ _).1 e2
  refine ⟨?_,by rw [q.1];exact r.2.1,by rw [q.2.2.2.2.2.2];exact r.2.2⟩
  rw [q.2.2.2.2.2.2];exact k 0 (by simp)
 generalize (l2.getD (0:Int).toNat default)=t2 at S e2 r2 ⊢
 skip
 all_goals (repeat' (first|refine qi ?_|(refine qf 2 ?_;refine mv ?_;refine mv ?_;refine qg ?_)))
 have wg:=S.wf
 have hb0:=ZP S (.there (.there (.there (.there (.there .here)))))
 have hb2:=ZP S (.there (.there (.there .here)))
 have hu2:=Rd.zo S .here
 have rt:TabR h t:=⟨r.1.ext w S.ext,r.2⟩
 have hsv:=hsv.ext w S.ext
 have T:=S.drop
 clear r w
 replace S:=Hs.start wg
 skip
 refine JB (σ:=Value×Value×List (List Int)×List (List Int)) (fun (va,vb,A,B) h'=>Hs h h' []∧StayL t [] A∧StayL t st B∧RLL h' va A∧RLL h' vb B) (fun (va,vb,A,B)=>[(1,sv),(2,PT b0),(5,PT b2),(6,u2),(7,va),(8,vb)]) ?_ ?_
 ·all_goals (repeat' (first|(refine qf 3 ?_;refine lH S ?_)))
  (refine qw rfl rfl rfl rfl rfl ((XB S.wf t (rt.ext wg S.ext)).mono ?_);rintro _ h ⟨rfl,x⟩)<;>(replace S:=S.qy x;clear x;(first|(refine cS ?_ ?_<;>intro hc))<;>(refine qg ?_))
  all_goals (repeat' (first|refine qi ?_|refine ql rfl ?_|refine qo ?_))
  ·have hchk:chk t=0:=by assumption
   have hs:=xu hchk
   all_goals (repeat' (first|(refine qf 4 ?_;refine lH S ?_)))
   (refine qw rfl rfl rfl rfl rfl ((Wp S.wf t (rt.ext wg S.ext) hs).mono ?_);rintro vA h ⟨A,hA,hAl,x⟩)<;>(replace S:=S.Xn x;clear x;refine mv ?_;refine qg ?_)
   all_goals (repeat' (first|refine qi ?_|(refine qf 5 ?_;refine lH S ?_)))
   (refine qw rfl rfl rfl rfl rfl ((jc S.wf t).mono ?_);rintro _ h ⟨rfl,x⟩)<;>(replace S:=S.qy x;clear x;(refine al S ?_;clear S;intro b h S);(first|(refine sB S rfl rfl ?_;clear S;intro h S));refine qg ?_)
   all_goals (repeat' (first|refine qi ?_|(refine qf 6 ?_;refine mv ?_;refine vl ?_)))
   obtain ⟨bz,hnm⟩:∃ x,x=b:=⟨_,rfl⟩;subst hnm
   have hA2:StayL t [] (A.map (·.2)):=.inl ⟨hchk,G7,hA⟩
   (refine qw rfl rfl rfl rfl rfl ((Zy S.wf sv st (hsv.ext wg S.ext) (by omega) (70,#[PT bz]) (fun x=>x<0∨qC t≤x) (fun h1 i x _ _=>KJ x.wf (x.get S.wf (ZP S .here)) _)).mono ?_);rintro _ h ⟨⟨rfl,hq⟩|⟨rfl,hq⟩,x⟩)<;>(replace S:=S.qy x;clear x;refine vl ?_;refine qg ?_)
   ·all_goals (repeat' (first|refine ql rfl ?_|refine qo ?_))
    have hno:StayL t st []:=.inr ⟨fun q=>(by
     obtain ⟨i,hi,hq⟩:=hq
     have:=q.2 _ (zI.2 ⟨i,hi,rfl⟩)
     omega),rfl⟩
    obtain ⟨fp,k⟩:=S.Xb (.there (.there .here))
    exact ⟨(vA,.slice none 0 0,A.map (·.2),[]),⟨S.drop,hA2,hno,RLL.ofP (Rd.zo S (.there .here)) k,RLL.nil⟩,((by repeat (first|exact Ks.le_nil _|refine Ks.qh rfl ?_)))⟩
   ·have hso:qbv t st:=fun x hx=>by
     obtain ⟨i,hi,rfl⟩:=zI.1 hx
     have:¬ (st.getD i default<0∨qC t≤st.getD i default):=fun q=>hq ⟨i,hi,q⟩
     omega
    all_goals (repeat' (first|refine ql rfl ?_|(refine qf 7 ?_;refine lH S ?_;refine mv ?_)))
    (refine qw rfl rfl rfl rfl rfl ((qaR S.wf t (rt.ext wg S.ext) hs sv st (hsv.ext wg S.ext) (by omega) hso).mono ?_);rintro vB h ⟨B,hB,x⟩)<;>(replace S:=S.Xn x;clear x;refine mv ?_;refine qg ?_)
    all_goals (repeat' (fail))
    obtain ⟨fp,k⟩:=S.Xb (.there .here)
    obtain ⟨fp2,k2⟩:=S.Xb (.there (.there (.there (.there .here))))
    exact ⟨(vA,vB,A.map (·.2),B.map (·.2)),⟨S.drop,hA2,.inl ⟨hchk,hso,hB⟩,RLL.ofP (Rd.zo S (.there (.there (.there .here)))) k2,RLL.ofP (Rd.Y8 S .here) k⟩,((by repeat (first|exact Ks.le_nil _|refine Ks.qh rfl ?_)))⟩
  ·have hchk:¬ chk t=0:=by assumption
   exact ⟨(.slice none 0 0,.slice none 0 0,[],[]),⟨S,.inr ⟨fun q=>hchk q.1,rfl⟩,.inr ⟨fun q=>hchk q.1,rfl⟩,RLL.nil,RLL.nil⟩,((by repeat (first|exact Ks.le_nil _|refine Ks.qh rfl ?_)))⟩
 rintro ⟨va,vb,A,B⟩ g ⟨S1,hA,hB,rA,rB⟩
 clear S
 replace T:=T.qy S1
 have wh:=S1.wf
 replace hb0:=S1.ext.get wg hb0
 replace hb2:=S1.ext.get wg hb2
 replace hu2:=hu2.ext wg S1.ext
 replace rt:=rt.ext wg S1.ext
 replace r2:=r2.ext wg S1.ext
 replace hsv:=hsv.ext wg S1.ext
 clear S1 wg
 have S:=Hs.start wh
 have hAl:=hA.len
 have hBl:=hB.len
 skip
 all_goals (repeat' (first|refine qi ?_|(refine qf 8 ?_;refine lH S ?_)))
 (refine qw rfl rfl rfl rfl rfl ((GN S.wf t2 (r2.ext wh S.ext)).mono ?_);rintro v h ⟨out,ho,x⟩)<;>(replace S:=S.Xn x;clear x;refine mv ?_;refine qg ?_)
 have e1:out.map (·.2)=A:=(ho.same e2).eq hA
 have hol:=ho.len
 have hol2:out.length≤48:=by simpa using hol
 obtain ⟨fp,kk⟩:=S.Xb (.there .here)
 all_goals (repeat' (first|refine qi ?_|(refine qf 9 ?_;refine mv ?_;refine mv ?_)))
 (refine qw rfl rfl rfl rfl rfl ((ZJ S.wf v va (out.map (·.2)) A (RLL.ofP (Rd.Y8 S .here) kk) (rA.ext wh S.ext) (by omega) (by omega) (fun j hj=>ho.kC hj) (fun j hj=>hA.kC hj)).mono ?_);rintro _ h ⟨⟨rfl,hq⟩|⟨rfl,hq⟩,x⟩)<;>(replace S:=S.qy x;clear x;refine vl ?_;refine qg ?_)
 rotate_left
 ·exact absurd e1 hq
 clear kk fp
 all_goals (repeat' (first|refine qi ?_|refine ql rfl ?_|refine qo ?_|refine qm ?_|(refine qf 11 ?_;refine mv ?_;refine ZC S rfl rfl ?_;refine mv ?_;refine qg ?_)))
 replace S:=(S.front (.there .here)).qgM
 have hlen:∀ x,x∈out→x.2.length≤1000:=fun x hx=>by
  have:=ho.lens (List.mem_map_of_mem hx)
  have:=qK t2
  omega
 refine qE (σ:=Nat) (fun i h'=>Hs g h' [.any (LLw out),.rd v 1 eP out]∧i≤out.length) (fun i=>out.length - i) (fun i=>[(1,sv),(2,PT b0),(5,PT b2),(6,u2),(7,va),(8,vb),(41,v),(42,.int .i64 out.length),(43,.int .i64 i)]) 0 (by repeat (first|exact Ks.le_nil _|refine Ks.qh rfl ?_)) ?_ ?_
 ·exact ⟨S,Nat.zero_le _⟩
 clear S
 rintro i h ⟨S,hi1⟩
 all_goals (repeat' (first|refine qi ?_|refine ql rfl ?_|refine qo ?_|refine qA ?_|refine qm ?_|(refine qf 12 ?_;(first|(refine cS ?_ ?_<;>intro hc))<;>(refine qg ?_))|(refine qf 13 ?_;refine qH S rfl rfl ?_;refine qI S rfl rfl ?_;refine mv ?_;refine qg ?_)))
 ·have hi:i<out.length:=by omega
  (try simp only [Int.toNat_natCast])
  have hx:out.getD i default∈out:=zI.2 ⟨i,hi,rfl⟩
  generalize out.getD i default=x at hx ⊢
  have hxl:=hlen x hx
  obtain ⟨fp,kk⟩:=S.Xb .here
  obtain ⟨c,hc⟩:=kk.rd hx
  (repeat (refine qi ?_))
  refine qf 14 ?_
  refine mv ?_
  refine qbQ rfl rfl rfl rfl hc rfl ?_
  refine mv ?_;refine qg ?_
  clear hc c kk fp
  all_goals (repeat' (refine qm ?_))
  refine qE (σ:=Nat) (fun j h'=>Hs g h' [.any (LLw out),.rd v 1 eP out]∧j≤x.2.length) (fun j=>x.2.length - j) (fun j=>[(1,sv),(2,PT b0),(5,PT b2),(6,u2),(7,va),(8,vb),(12,x.1.val),(41,v),(42,.int .i64 out.length),(43,.int .i64 i),(48,.int .i64 x.2.length),(49,.int .i64 j)]) 0 (by repeat (first|exact Ks.le_nil _|refine Ks.qh rfl ?_)) ?_ ?_
  ·exact ⟨S,Nat.zero_le _⟩
  clear S
  rintro j h ⟨S,hj1⟩
  all_goals (repeat' (first|refine qi ?_|refine ql rfl ?_|refine qo ?_|refine qA ?_|refine qm ?_|(refine qf 15 ?_;(first|(refine cS ?_ ?_<;>intro hc))<;>(refine qg ?_))|(refine qf 16 ?_;refine mv ?_;refine mv ?_;refine qg ?_)))
  ·have hj:j<x.2.length:=by omega
   obtain ⟨fp,kk⟩:=S.Xb .here
   obtain ⟨c,hc⟩:=kk.rd hx
   (repeat (refine qi ?_))
   refine qf 17 ?_
   refine mv ?_
   refine mv ?_
   refine yw rfl rfl rfl rfl rfl hc (by omega) rfl ?_
   refine stW S x j hx hj ?_
   clear S hc c kk fp
   intro h S
   refine qg ?_
   all_goals (repeat' (first|(refine qf 18 ?_;refine ad ?_;refine mv ?_;refine qg ?_)))
   refine ⟨j+1,?_,?_,(by repeat (first|exact Ks.le_nil _|refine Ks.qh rfl ?_))⟩
   ·show x.2.length - (j+1)<x.2.length - j;omega
   ·exact ⟨S,by omega⟩
  ·all_goals (repeat' (first|(refine qf 19 ?_;refine ad ?_;refine mv ?_;refine qg ?_)))
   refine ⟨i+1,?_,?_,(by repeat (first|exact Ks.le_nil _|refine Ks.qh rfl ?_))⟩
   ·show out.length - (i+1)<out.length - i;omega
   ·exact ⟨S,by omega⟩
 ·replace S:=S.drop
  skip
  all_goals (repeat' (first|(refine qf 20 ?_;refine lH S ?_)))
  (refine qw rfl rfl rfl rfl rfl ((GN S.wf t2 (r2.ext wh S.ext)).mono ?_);rintro v2 h ⟨out2,ho2,x⟩)<;>(replace S:=S.Xn x;clear x;refine mv ?_)
  have e3:out2.map (·.2)=A:=(ho2.same e2).eq hA
  have hl2:=ho2.len
  obtain ⟨fp,kk⟩:=S.Xb (.there .here)
  (refine qw rfl rfl rfl rfl rfl ((ZJ S.wf v2 va (out2.map (·.2)) A (RLL.ofP (Rd.Y8 S .here) kk) (rA.ext wh S.ext) (by omega) (by omega) (fun j hj=>ho2.kC hj) (fun j hj=>hA.kC hj)).mono ?_);rintro _ h ⟨⟨rfl,hq⟩|⟨rfl,hq⟩,x⟩)<;>(replace S:=S.qy x;clear x;refine mv ?_;(first|refine off ?_|(refine lH S ?_));(first|refine off ?_|refine mv ?_);(first|(refine off ?_;refine off ?_;(first|(refine off ?_;refine vl ?_;refine mv ?_;refine off ?_;refine off ?_;(first|(refine off ?_;refine vl ?_;refine mv ?_;refine off ?_;refine off ?_;(first|(refine off ?_;refine vl ?_;refine mv ?_;refine qg ?_)))))))|skip))
  rotate_left
  ·exact absurd e3 hq
  clear kk fp hq
  replace S:=S.drop
  (refine qw rfl rfl rfl rfl rfl ((qbB S.wf t2 (r2.ext wh S.ext) u2 st (hu2.ext wh S.ext) (by omega)).mono ?_);rintro v3 h ⟨out3,ho3,x⟩)<;>(replace S:=S.Xn x;clear x;refine mv ?_;(skip))
  have e4:out3.map (·.2)=B:=(ho3.same e2).eq hB
  have hl3:=ho3.len
  obtain ⟨fp,kk⟩:=S.Xb (.there .here)
  (refine qw rfl rfl rfl rfl rfl ((ZJ S.wf v3 vb (out3.map (·.2)) B (RLL.ofP (Rd.Y8 S .here) kk) (rB.ext wh S.ext) (by omega) (by omega) (fun j hj=>ho3.kC hj) (fun j hj=>hB.kC hj)).mono ?_);rintro _ h ⟨⟨rfl,hq⟩|⟨rfl,hq⟩,x⟩)<;>(replace S:=S.qy x;clear x;refine vl ?_;refine mv ?_;(first|refine off ?_|(refine lH S ?_));(first|refine off ?_|(refine lH S ?_));(first|(refine off ?_;refine vl ?_;refine mv ?_;refine off ?_;refine off ?_;(first|(refine off ?_;refine vl ?_;refine mv ?_;refine qg ?_)))|skip))
  rotate_left
  ·exact absurd e4 hq
  clear kk fp hq
  replace S:=S.drop
  have hl6:t2.opn.length≤1000000:=Nat.le_trans r2.2.2 (by decide)
  have hl7:t.opn.length≤1000000:=Nat.le_trans rt.2.2 (by decide)
  (refine qw rfl rfl rfl rfl rfl ((Y0 S.wf t2 t (r2.1.ext wh S.ext) (rt.1.ext wh S.ext) hl6 hl7).mono ?_);rintro _ h ⟨⟨rfl,hq⟩|⟨rfl,hq⟩,x⟩)<;>(replace S:=S.qy x;clear x;refine vl ?_;refine mv ?_;(first|refine off ?_|refine mv ?_);(first|refine off ?_|refine mv ?_);(first|(refine off ?_;refine vl ?_;refine mv ?_;refine qg ?_)|skip))
  rotate_left
  ·exact absurd e2 hq
  (refine qw rfl rfl rfl rfl rfl ((Jd S.wf u2 sv st st (hu2.ext wh S.ext) (hsv.ext wh S.ext) (by omega) (by omega)).mono ?_);rintro _ h ⟨⟨rfl,hq⟩|⟨rfl,hq⟩,x⟩)<;>(replace S:=S.qy x;clear x;refine vl ?_;refine mv ?_;refine qg ?_)
  rotate_left
  ·exact absurd rfl hq
  all_goals (repeat' (fail))
  refine qx ⟨_,rfl,?_⟩
  exact ⟨rfl,T.qy S.drop⟩
section
variable {l2 l:List Tab}
theorem SameAll.qfN (s:SameAll l2 l) (i:Nat):zu (tb l2 i)=zu (tb l i):=by have:=s.all i;unfold SameTab at this;rw [this];rfl
theorem SameAll.qhO (s:SameAll l2 l) (i:Nat):ZG (tb l2 i)=ZG (tb l i):=by have:=s.all i;unfold SameTab at this;rw [this];rfl
theorem SameAll.qhU {t:Int} {out:List Int} (s:SameAll l2 l) (h:HonR l2 t out):HonR l t out:=by
 have hl:=s.1
 rcases h with ⟨i,n,ld,rfl,h1,h2,h3,h4,h5⟩|⟨h1,rfl⟩
 ·exact .inl ⟨i,n,ld,rfl,by omega,s.valid.1 h2,by rw [← s.size];exact h3,by rw [← s.qfN,← s.qhO];exact h4,by rw [← s.sum];exact h5⟩
 ·exact .inr ⟨fun q=>h1 ⟨q.1,by omega,s.valid.2 q.2.2⟩,rfl⟩
theorem SameAll.qhZ {t:Int} {ls:List (List Int)} (s:SameAll l2 l) (h:BlkR l2 t ls):BlkR l t ls:=by
 have hl:=s.1
 rcases h with ⟨i,n,rfl,h1,h2,h3,rfl⟩|⟨h1,rfl⟩
 ·exact .inl ⟨i,n,rfl,by omega,s.valid.1 h2,by rw [← s.size];exact h3,by rw [← s.qfN,← s.sum]⟩
 ·exact .inr ⟨fun q=>h1 ⟨q.1,by omega,s.valid.2 q.2.2⟩,rfl⟩
end
theorem HonR.qdR {l:List Tab} {t:Int} {out:List Int} (h:HonR l t out) (q:¬ (0≤t∧t<l.length∧ValidL l)):out=[]:=h.unique (.inr ⟨q,rfl⟩)
theorem BlkR.qdR {l:List Tab} {t:Int} {ls:List (List Int)} (h:BlkR l t ls) (q:¬ (0≤t∧t<l.length∧ValidL l)):ls=[]:=h.unique (.inr ⟨q,rfl⟩)
theorem qa9 {h0:AH} (w:WfH h0) (v:Value) (l:List Tab) (H:HallR h0 v l) (t:Int):Fn Tryz.prog Xh 25 [v,.int .i64 t] h0 (fun r h'=>r = .bool true∧Hs h0 h' []):=by
 have S:=Hs.start w
 have hl:=H.len
 refine qF rfl Tryz.func25 rfl rfl ?_
 all_goals (repeat' (first|refine qi ?_|(refine qf 0 ?_;refine mv ?_;refine qg ?_)|(refine qf 1 ?_;refine mv ?_)))
 (refine qw rfl rfl rfl rfl rfl ((xg S.wf v l H.rd H.len H.tab).mono ?_);rintro u g ⟨l2,sa,Hu,x⟩)<;>(replace S:=S.qy x;clear x;refine mv ?_;refine qg ?_)
 have T:=S
 have w1:=S.wf
 have H1:=H.ext w S.ext
 have hl2:=sa.1
 have hr1:=H1.rd
 have hru:=Hu.rd
 replace S:=Hs.start w1
 all_goals (repeat' (first|refine qi ?_|(refine qf 2 ?_;refine mv ?_;refine mv ?_)))
 (refine qw rfl rfl rfl rfl rfl ((qcI S.wf u l2 (Hu.ext w1 S.ext) t).mono ?_);rintro va h ⟨oa,ho,hol,x⟩)<;>(replace S:=S.jo x;clear x;refine mv ?_;refine mv ?_)
 (refine qw rfl rfl rfl rfl rfl ((qc8 S.wf u l2 (Hu.ext w1 S.ext) t).mono ?_);rintro vb h ⟨ls,hb,hbr,x⟩)<;>(replace S:=S.qy x;clear x;refine mv ?_;refine mv ?_;refine qg ?_)
 have hoR:=sa.qhU ho
 have hbR:=sa.qhZ hb
 have hbb:=hbR.bound
 have rva:=Rd.zo S .here
 have H2:=H1.ext w1 S.ext
 have Hu2:=Hu.ext w1 S.ext
 have T2:=T.qy S.drop
 have w2:=S.wf
 clear hr1 hru T
 have hr1:=H2.rd
 have hru:=Hu2.rd
 replace S:=Hs.start w2
 obtain ⟨g2,hnm⟩:∃ x,x=h:=⟨_,rfl⟩;subst hnm
 have fin:∀ h,Hs g2 h []→Fn Tryz.prog Xh 62 [u,v] h (fun r h'=>r = .bool true∧Hs h h' []):=fun h S=>by
  refine (ZI S.wf u v l2 l (hru.ext w2 S.ext) (hr1.ext w2 S.ext) (fun i hi=>(Hu2.ext w2 S.ext).tab i hi) (fun i hi=>(H2.ext w2 S.ext).tab i hi) (by omega) (by omega)).mono ?_
  rintro r h' ⟨⟨rfl,q⟩|⟨rfl,q⟩,x⟩
  ·exact ⟨rfl,x⟩
  ·exact absurd sa q
 obtain ⟨vs,hv1,hv2,hv3⟩:=id hbr
 by_cases cond:0≤t∧t<l.length∧ValidL l
 ·obtain ⟨c1,c2,c3⟩:=cond
  obtain ⟨i,rfl⟩:=Int.eq_ofNat_of_zero_le c1
  all_goals (repeat' (first|refine qi ?_|(refine qf 3 ?_;refine mv ?_;(refine cF ?_)<;>((iterate 3 refine mv ?_);(first|(refine QD S ?_));(first|(refine cF ?_))<;>(refine vl ?_;refine mv ?_;refine mv ?_;(skip))))))
  (refine qw rfl rfl rfl rfl rfl ((Jj S.wf v l (H2.ext w2 S.ext)).mono ?_);rintro _ h ⟨⟨rfl,hq⟩|⟨rfl,hq⟩,x⟩)<;>(replace S:=S.qy x;clear x;refine vl ?_;refine vl ?_;refine qg ?_)
  rotate_left
  ·exact absurd c3 hq
  all_goals (repeat' (first|refine qi ?_|refine ql rfl ?_|refine qo ?_|(refine qf 5 ?_;(iterate 3 refine mv ?_);skip)))
  (refine qw rfl rfl rfl rfl rfl ((Ko S.wf v l (H2.ext w2 S.ext) c3 i (by omega)).mono ?_);rintro vr h ⟨or_,hor,hrl,x⟩)<;>(replace S:=S.jo x;clear x)
  (refine qw rfl rfl rfl rfl rfl ((Jd S.wf va vr oa or_ (rva.ext w2 S.ext) (Rd.zo S .here) (by omega) (by omega)).mono ?_);rintro _ h ⟨⟨rfl,hq2⟩|⟨rfl,hq2⟩,x⟩)<;>(replace S:=S.qy x;clear x;refine mv ?_;(first|refine off ?_|refine mv ?_);(first|refine off ?_|refine mv ?_);(first|refine off ?_|refine mv ?_);(first|(refine off ?_;(first|(refine off ?_;refine vl ?_;refine mv ?_;refine off ?_;refine off ?_;(first|(refine off ?_;refine vl ?_;refine mv ?_;refine qg ?_)))))|skip))
  rotate_left
  ·exact absurd (hoR.unique hor) hq2
  replace S:=S.drop
  (refine qw rfl rfl rfl rfl rfl ((Kt S.wf v l (H2.ext w2 S.ext) c3 i (by omega)).mono ?_);rintro vc h ⟨ms,hms,hmr,x⟩)<;>(replace S:=S.qy x;clear x;(skip))
  obtain rfl:=hbR.unique hms
  have hn1:ls.length≤1000000:=by omega
  have hn2:∀ j,j<ls.length→(ls.getD j default).length≤1000000:=fun j hj=>Nat.le_trans (hbb.2 j hj) (by omega)
  (refine qw rfl rfl rfl rfl rfl ((ZJ S.wf vb vc ls ls (hbr.ext w2 S.ext) hmr hn1 hn1 hn2 hn2).mono ?_);rintro _ h ⟨⟨rfl,hq3⟩|⟨rfl,hq3⟩,x⟩)<;>(replace S:=S.qy x;clear x;refine vl ?_;refine mv ?_;(first|refine off ?_|refine mv ?_);(first|refine off ?_|refine mv ?_);(first|(refine off ?_;refine vl ?_;refine mv ?_;refine qg ?_)|skip))
  rotate_left
  ·exact absurd rfl hq3
  (refine qw rfl rfl rfl rfl rfl ((fin _ S).mono ?_);rintro _ h ⟨rfl,x⟩)<;>(replace S:=S.qy x;clear x;refine vl ?_;refine mv ?_;refine qg ?_)
  all_goals (repeat' (fail))
  refine qx ⟨_,rfl,?_⟩
  exact ⟨rfl,T2.qy S⟩
 ·have z1:oa.length=0:=by rw [hoR.qdR cond];rfl
  have z2:vs.length=0:=by rw [hv2,hbR.qdR cond];rfl
  skip
  all_goals (repeat' (first|refine qi ?_|refine ql rfl ?_|(refine qf 3 ?_;refine mv ?_;(first|(refine cS ?_ ?_<;>intro hc))<;>(refine mv ?_;(first|refine off ?_|refine mv ?_);(first|refine off ?_|refine mv ?_);(first|refine off ?_|(refine QD S ?_));(first|refine off ?_|(first|(refine cS ?_ ?_<;>intro hc)))<;>(refine vl ?_;refine mv ?_;(first|refine off ?_|refine mv ?_);(first|(refine off ?_;refine off ?_;refine vl ?_;refine qg ?_)|skip))))|(refine qf 4 ?_;refine mv ?_;refine QD S ?_;(refine cT ?_)<;>(refine mv ?_;refine mv ?_;(first|(refine QD S ?_));(first|(refine cT ?_))<;>(refine vl ?_;(iterate 3 refine mv ?_);(skip))))))
  ·(refine qw rfl rfl rfl rfl rfl ((fin _ S).mono ?_);rintro _ h ⟨rfl,x⟩)<;>(replace S:=S.qy x;clear x;refine vl ?_;refine mv ?_;refine qg ?_)
   all_goals (repeat' (fail))
   refine qx ⟨_,rfl,?_⟩
   exact ⟨rfl,T2.qy S⟩
  ·(refine qw rfl rfl rfl rfl rfl ((fin _ S).mono ?_);rintro _ h ⟨rfl,x⟩)<;>(replace S:=S.qy x;clear x;refine vl ?_;refine mv ?_;refine qg ?_)
   all_goals (repeat' (fail))
   refine qx ⟨_,rfl,?_⟩
   exact ⟨rfl,T2.qy S⟩
  ·(refine qw rfl rfl rfl rfl rfl ((Jj S.wf v l (H2.ext w2 S.ext)).mono ?_);rintro _ h ⟨⟨rfl,hq⟩|⟨rfl,hq⟩,x⟩)<;>(replace S:=S.qy x;clear x;refine vl ?_;refine vl ?_;refine qg ?_)
   ·exact absurd ⟨by omega,by omega,hq⟩ cond
   all_goals (repeat' (first|refine qi ?_|refine ql rfl ?_|(refine qf 4 ?_;refine mv ?_;refine QD S ?_;(refine cT ?_)<;>(refine mv ?_;refine mv ?_;(first|(refine QD S ?_));(first|(refine cT ?_))<;>(refine vl ?_;(iterate 3 refine mv ?_);(skip))))))
   (refine qw rfl rfl rfl rfl rfl ((fin _ S).mono ?_);rintro _ h ⟨rfl,x⟩)<;>(replace S:=S.qy x;clear x;refine vl ?_;refine mv ?_;refine qg ?_)
   all_goals (repeat' (fail))
   refine qx ⟨_,rfl,?_⟩
   exact ⟨rfl,T2.qy S⟩
set_option maxHeartbeats 4000000
def wd (t:Tab):List UInt8:=if t.shape=1 then Zu else if t.shape=2 then Xj else if t.shape=3 then Xi else wRow
def dc (z:Int):List UInt8:=Vo z.toNat
def numsOf (t:Tab):List Int:=[t.A,t.B,t.X,t.Y] ++ t.opn
def ZB (l:List Int):List UInt8:=l.flatMap fun z=>[32] ++ dc z
def qdq:List UInt8:=[116,97,98,108,101,32]
def hdT (t:Tab) (w:List UInt8):List UInt8:=((qdq ++ t.name) ++ [32]) ++ w
def QX (t:Tab):List UInt8:=hdT t (wd t)
def vY (t:Tab):List UInt8:=(QX t ++ ZB (numsOf t)) ++ [10]
def QH (l:List Tab):Nat→List UInt8
 | 0=>[]
 | i+1=>QH l i ++ vY (tb l i)
theorem Je (n:Nat):1≤(Vo n).length∧(Vo n).length≤4:=by unfold Vo;split<;>(try split)<;>(try split)<;>simp
theorem VG (l:List Int):(ZB l).length≤5*l.length:=by
 induction l with
 | nil=>simp [ZB]
 | cons a l ih =>
  have:=(Je a.toNat).2
  simp only [ZB,List.flatMap_cons,List.length_append,List.length_cons,List.length_nil,dc] at *
  omega
theorem qaZ (l:List Int) (z:Int):ZB (l ++ [z])=ZB l ++ ([32] ++ dc z):=by simp [ZB]
theorem yg {l:List Int} {k:Nat} (h:k<l.length):ZB (l.take (k+1))=ZB (l.take k) ++ ([32] ++ dc (l.getD k default)):=by
 rw [← qaZ]
 congr 1
 rw [List.take_add_one,List.getElem?_eq_getElem h]
 simp [List.getD,h]
theorem qdn (t:Tab):(wd t).length≤9:=by unfold wd;split<;>(try split)<;>(try split)<;>decide
structure FmtOk (t:Tab):Prop where
 sh:t.shape=1∨t.shape=2∨t.shape=3∨t.shape=4
 nm:t.name.length≤12
 ol:t.opn.length≤1000
 nums:∀ k,k<(numsOf t).length→0≤(numsOf t).getD k default∧(numsOf t).getD k default≤1000
theorem FmtOk.of {t:Tab} (h:chk t=0) (ho:t.opn.length≤1000):FmtOk t:=by
 obtain ⟨h1,h2,h3,h4⟩:=qav h
 have hp:0<qC t:=by have:=qK t;omega
 have hs:=TabS.of t hp
 have hb:=hs.b
 have hsz:=qK t
 unfold V6 at hb
 unfold qaB at h4
 refine ⟨hs.shape,h1.2.1,ho,fun k hk=>?_⟩
 unfold numsOf at hk ⊢
 match k,hk with
 | 0,_=>exact ⟨by show 0≤t.A;omega,by show t.A≤1000;omega⟩
 | 1,_=>exact ⟨by show 0≤t.B;omega,by show t.B≤1000;omega⟩
 | 2,_=>exact ⟨h4.1,h4.2.1⟩
 | 3,_=>exact ⟨h4.2.2.1,h4.2.2.2⟩
 | k+4,hk =>
  have hk':k<t.opn.length:=by simpa using hk
  have:=h3 k hk'
  have e:([t.A,t.B,t.X,t.Y] ++ t.opn).getD (k+4) default=t.opn.getD k default:=rfl
  rw [e]
  omega
theorem VO {t:Tab} (h:FmtOk t):(QX t).length≤28:=by
 have:=qdn t
 have:=h.nm
 simp only [QX,hdT,qdq,List.length_append,List.length_cons,List.length_nil]
 omega
theorem qed {t:Tab} (h:FmtOk t):(vY t).length≤6000∧0<(vY t).length:=by
 have:=VO h
 have:=VG (numsOf t)
 have:=h.ol
 simp only [vY,numsOf,List.length_append,List.length_cons,List.length_nil] at *
 omega
theorem yN {l:List Tab} (h:∀ i,i<l.length→FmtOk (tb l i)):∀ i,i≤l.length→(QH l i).length≤6000*i∧(0<i→0<(QH l i).length)
 | 0,_=>⟨Nat.le_refl _,fun q=>absurd q (Nat.lt_irrefl _)⟩
 | i+1,hi=>by
  have h1:=yN h i (by omega)
  have h2:=qed (h i (by omega))
  simp only [QH,List.length_append]
  omega
theorem qcP {h0:AH} (w:WfH h0) (v:Value) (l:List Tab) (H:HallR h0 v l) (hl:ValidL l) (hn0:0<l.length):Fn Tryz.prog Xh 54 [v] h0 (fun r h'=>r=str (QH l l.length)∧Hs h0 h' []):=by
 have S:=Hs.start w
 have hr:=H.rd
 have hn:=H.len
 have h16:=hl.1
 have hF:∀ i,i<l.length→FmtOk (tb l i):=fun i hi=>.of (hl.2 i hi).1 (H.tab i hi).2.2
 have hL:=yN hF
 refine qF rfl Tryz.func54 rfl rfl ?_
 all_goals (repeat' (first|refine qi ?_|(refine qf 0 ?_;refine mv ?_;refine qg ?_)|(refine qf 1 ?_;refine mv ?_)))
 (refine qw rfl rfl rfl rfl rfl ((Zj S.wf v l (H.ext w S.ext)).mono ?_);rintro _ h ⟨⟨rfl,hq⟩|⟨rfl,hq⟩,x⟩)<;>(replace S:=S.qy x;clear x;refine vl ?_;refine qg ?_)
 rotate_left
 ·exact absurd hl hq
 all_goals (repeat' (first|refine qi ?_|refine ql rfl ?_|refine qo ?_|refine qm ?_|(refine qf 3 ?_;(refine al S ?_;clear S;intro b h S);refine qg ?_)|(refine qf 4 ?_;refine mv ?_;refine QD S ?_;refine mv ?_;refine qg ?_)))
 obtain ⟨bb,hnm⟩:∃ x,x=b:=⟨_,rfl⟩;subst hnm
 replace S:=(S.jP (e:=5) (z:=1) (enc:=eU)).front (.there .here)
 refine qE (σ:=Nat) (fun i h'=>∃ bv q,Hs h0 h' [bst bb q bv,bsl bv (QH l i)]∧QP bb q∧i≤l.length) (fun i=>l.length - i) (fun i=>[(3,.pointer (some ⟨bb,0,none⟩)),(13,v),(14,.int .i64 l.length),(15,.int .i64 i)]) 0 (by repeat (first|exact Ks.le_nil _|refine Ks.qh rfl ?_)) ?_ ?_
 ·exact ⟨_,_,S,.inl rfl,Nat.zero_le _⟩
 clear S
 rintro i h ⟨bv,q,S,hQ,hi⟩
 all_goals (repeat' (first|refine qi ?_|refine ql rfl ?_|refine qo ?_|refine qA ?_|refine qm ?_|(refine qf 5 ?_;(first|(refine cS ?_ ?_<;>intro hc))<;>(refine qg ?_))|(refine qf 6 ?_;refine jv S ?_;refine zS S ?_;(refine al S ?_;clear S;intro b h S);(first|(refine sB S rfl rfl ?_;clear S;intro h S));refine qg ?_)))
 ·have hi':i<l.length:=by omega
  have hf:=hF i hi'
  obtain ⟨hov,hnm,hol⟩:=H.tab i hi'
  have hLi:=(hL i hi).1
  have hnm':(l.getD i default).name.length≤1000:=hnm
  have hhd:=VO hf
  have hsh:=hf.sh
  try simp only [Int.toNat_natCast] at *
  obtain ⟨b2,hnm⟩:∃ x,x=b:=⟨_,rfl⟩;subst hnm
  refine qfF (σ:=Unit) (fun _ h'=>∃ bv,Hs h0 h' [bst bb (.pointer (some ⟨bb,0,none⟩)) bv,bsl bv (QH l i ++ QX (tb l i)),.blk b2 (eT (tb l i)) 25]) (fun _=>[(3,.pointer (some ⟨bb,0,none⟩)),(5,.pointer (some ⟨b2,0,none⟩)),(13,v),(14,.int .i64 l.length),(15,.int .i64 i)]) ?_ ?_
  ·skip
   all_goals (repeat' (first|(refine qf 7 ?_;refine vl ?_;refine lB S rfl rfl ?_)))
   (refine qw rfl rfl rfl rfl rfl ((Qg S.wf (tb l i).shape).mono ?_);rintro _ h ⟨⟨rfl,hsq⟩|⟨rfl,hsq⟩|⟨rfl,hsq⟩|⟨rfl,hsq⟩|⟨rfl,hsq⟩,x⟩)<;>(replace S:=S.qy x;clear x;refine mv ?_;refine vl ?_;refine vl ?_;(refine al S ?_;clear S;intro b h S);(first|(refine sB S rfl rfl ?_;clear S;intro h S));refine mv ?_;refine qg ?_)
   all_goals ((all_goals (repeat' (first|(refine qf 8 ?_;refine vl ?_;refine lB S rfl rfl ?_;refine gy ?_;refine gy ?_;refine vl ?_;refine lB S rfl rfl ?_;refine gy ?_)))))
   ·have hw:wd (tb l i)=Zu:=by unfold wd;rw [if_pos hsq]
    have hh:QX (tb l i)=hdT (tb l i) Zu:=by unfold QX;rw [hw]
    replace S:=(S.front (.there (.there (.there .here)))).front (.there (.there (.there .here)))
    have hlen:(QH l i).length+(hdT (tb l i) Zu).length≤1000000:=by rw [← hh];omega
    (refine qw rfl rfl rfl rfl rfl ((ZV (hdT (tb l i) Zu) S hQ hlen).mono ?_);rintro _ h ⟨bv2,S2⟩)<;>(replace S:=S2;clear S2;refine qg ?_)
    rw [← hh] at S
    exact ⟨(),⟨bv2,S.del (.there (.there .here))⟩,((by repeat (first|exact Ks.le_nil _|refine Ks.qh rfl ?_)))⟩
   ·have hw:wd (tb l i)=Xj:=by unfold wd;rw [if_neg (by omega),if_pos hsq]
    have hh:QX (tb l i)=hdT (tb l i) Xj:=by unfold QX;rw [hw]
    replace S:=(S.front (.there (.there (.there .here)))).front (.there (.there (.there .here)))
    have hlen:(QH l i).length+(hdT (tb l i) Xj).length≤1000000:=by rw [← hh];omega
    (refine qw rfl rfl rfl rfl rfl ((ZV (hdT (tb l i) Xj) S hQ hlen).mono ?_);rintro _ h ⟨bv2,S2⟩)<;>(replace S:=S2;clear S2;refine qg ?_)
    rw [← hh] at S
    exact ⟨(),⟨bv2,S.del (.there (.there .here))⟩,((by repeat (first|exact Ks.le_nil _|refine Ks.qh rfl ?_)))⟩
   ·have hw:wd (tb l i)=Xi:=by unfold wd;rw [if_neg (by omega),if_neg (by omega),if_pos hsq]
    have hh:QX (tb l i)=hdT (tb l i) Xi:=by unfold QX;rw [hw]
    replace S:=(S.front (.there (.there (.there .here)))).front (.there (.there (.there .here)))
    have hlen:(QH l i).length+(hdT (tb l i) Xi).length≤1000000:=by rw [← hh];omega
    (refine qw rfl rfl rfl rfl rfl ((ZV (hdT (tb l i) Xi) S hQ hlen).mono ?_);rintro _ h ⟨bv2,S2⟩)<;>(replace S:=S2;clear S2;refine qg ?_)
    rw [← hh] at S
    exact ⟨(),⟨bv2,S.del (.there (.there .here))⟩,((by repeat (first|exact Ks.le_nil _|refine Ks.qh rfl ?_)))⟩
   ·have hw:wd (tb l i)=wRow:=by unfold wd;rw [if_neg (by omega),if_neg (by omega),if_neg (by omega)]
    have hh:QX (tb l i)=hdT (tb l i) wRow:=by unfold QX;rw [hw]
    replace S:=(S.front (.there (.there (.there .here)))).front (.there (.there (.there .here)))
    have hlen:(QH l i).length+(hdT (tb l i) wRow).length≤1000000:=by rw [← hh];omega
    (refine qw rfl rfl rfl rfl rfl ((ZV (hdT (tb l i) wRow) S hQ hlen).mono ?_);rintro _ h ⟨bv2,S2⟩)<;>(replace S:=S2;clear S2;refine qg ?_)
    rw [← hh] at S
    exact ⟨(),⟨bv2,S.del (.there (.there .here))⟩,((by repeat (first|exact Ks.le_nil _|refine Ks.qh rfl ?_)))⟩
   ·exact absurd hsh (by omega)
  ·clear S hQ
   rintro - h ⟨bv,S⟩
   have hov':=hov.ext w S.ext
   have hnl:(numsOf (tb l i)).length=4+(tb l i).opn.length:=by simp [numsOf];omega
   skip
   all_goals (repeat' (first|refine qi ?_|(refine qf 9 ?_;refine vl ?_;refine lB S rfl rfl ?_;refine vl ?_;refine lB S rfl rfl ?_;refine vl ?_;refine lB S rfl rfl ?_;refine vl ?_;refine lB S rfl rfl ?_)))
   refine Gj (z:=1) eI [(tb l i).A,(tb l i).B,(tb l i).X,(tb l i).Y] S ?_;clear S;intro u4 h S
   (refine vl ?_);refine lB S rfl rfl ?_
   refine apd S rfl rfl (hov.ext w S.ext) ?_;clear S;intro vn h S
   change Hs h0 h (.sl vn 3 1 eI (numsOf (tb l i)) :: _) at S
   (refine ZC S rfl rfl ?_);refine mv ?_;refine qg ?_
   replace S:=(S.front (.there (.there .here))).front (.there (.there .here))
   all_goals (repeat' (refine qm ?_))
   refine qE (σ:=Nat) (fun k h'=>∃ bv,Hs h0 h' [bst bb (.pointer (some ⟨bb,0,none⟩)) bv,bsl bv ((QH l i ++ QX (tb l i)) ++ ZB ((numsOf (tb l i)).take k)),.sl vn 3 1 eI (numsOf (tb l i))]∧k≤(numsOf (tb l i)).length) (fun k=>(numsOf (tb l i)).length - k) (fun k=>[(3,.pointer (some ⟨bb,0,none⟩)),(13,v),(14,.int .i64 l.length),(15,.int .i64 i),(44,vn),(45,.int .i64 (numsOf (tb l i)).length),(46,.int .i64 k)]) 0 (by repeat (first|exact Ks.le_nil _|refine Ks.qh rfl ?_)) ?_ ?_
   ·refine ⟨bv,?_,Nat.zero_le _⟩
    rw [List.take_zero,show ZB []=[] by rfl,List.append_nil]
    exact S.del (.there (.there (.there .here)))
   clear S
   rintro k h ⟨bv,S,hk⟩
   have hnt:=VG ((numsOf (tb l i)).take k)
   rw [List.length_take] at hnt
   all_goals (repeat' (first|refine qi ?_|refine ql rfl ?_|refine qo ?_|refine qA ?_|refine qm ?_|(refine qf 10 ?_;(first|(refine cS ?_ ?_<;>intro hc))<;>(refine qg ?_))|(refine qf 11 ?_;refine qH S rfl rfl ?_;refine qI S rfl rfl ?_;refine mv ?_;refine qg ?_)|(refine qf 12 ?_;refine mv ?_)|(refine qf 14 ?_;skip)))
   ·have hk':k<(numsOf (tb l i)).length:=by omega
    have hb:=hf.nums k hk'
    have hdl:=(Je ((numsOf (tb l i)).getD k default).toNat).2
    try simp only [Int.toNat_natCast] at *
    (refine qw rfl rfl rfl rfl rfl ((qfe _ hb).mono ?_);rintro _ h ⟨rfl,rfl⟩)<;>(refine gy ?_)
    have hlen:((QH l i ++ QX (tb l i)) ++ ZB ((numsOf (tb l i)).take k)).length+([32] ++ Vo ((numsOf (tb l i)).getD k default).toNat).length≤1000000:=by simp only [List.length_append,List.length_cons,List.length_nil];omega
    (refine qw rfl rfl rfl rfl rfl ((ZV _ S (.inr rfl) hlen).mono ?_);rintro _ h ⟨bv2,S2⟩)<;>(replace S:=S2;clear S2;refine qg ?_)
    all_goals (repeat' (first|(refine qf 13 ?_;refine ad ?_;refine mv ?_;refine qg ?_)))
    refine ⟨k+1,?_,?_,(by repeat (first|exact Ks.le_nil _|refine Ks.qh rfl ?_))⟩
    ·show (numsOf (tb l i)).length - (k+1)<(numsOf (tb l i)).length - k;omega
    ·refine ⟨bv2,?_,by omega⟩
     rw [yg hk',← List.append_assoc]
     exact S
   ·have hke:k=(numsOf (tb l i)).length:=by omega
    subst hke
    rw [List.take_length] at S hnt
    have hlen:((QH l i ++ QX (tb l i)) ++ ZB (numsOf (tb l i))).length+([10]:List UInt8).length≤1000000:=by simp only [List.length_append,List.length_cons,List.length_nil];omega
    (refine qw rfl rfl rfl rfl rfl ((ZV [10] S (.inr rfl) hlen).mono ?_);rintro _ h ⟨bv2,S2⟩)<;>(replace S:=S2;clear S2;refine qg ?_)
    all_goals (repeat' (first|(refine qf 15 ?_;refine ad ?_;refine mv ?_;refine qg ?_)))
    refine ⟨i+1,?_,?_,(by repeat (first|exact Ks.le_nil _|refine Ks.qh rfl ?_))⟩
    ·show l.length - (i+1)<l.length - i;omega
    ·refine ⟨bv2,_,?_,.inr rfl,by omega⟩
     have e:QH l (i+1)=((QH l i ++ QX (tb l i)) ++ ZB (numsOf (tb l i))) ++ [10]:=by
      show QH l i ++ vY (tb l i)=_
      unfold vY;simp only [List.append_assoc]
     rw [e]
     exact S.del (.there (.there .here))
 ·have hie:i=l.length:=by omega
  subst hie
  have hb2:(QH l l.length).length≤1000000:=by have:=(hL _ (Nat.le_refl _)).1;omega
  skip
  all_goals (repeat' (first|(refine qf 16 ?_;skip)))
  (refine qw rfl rfl rfl rfl rfl ((qft S ⟨(hL _ (Nat.le_refl _)).2 hn0,hb2⟩).mono ?_);rintro _ h ⟨rfl,S2⟩)<;>(replace S:=S2;clear S2;refine mv ?_;refine qg ?_)
  all_goals (repeat' (fail))
  refine qx ⟨_,rfl,?_⟩
  exact ⟨rfl,S.drop⟩
theorem YZ {h0:AH} (w:WfH h0) (t:Tab) (hs:t.shape=1∨t.shape=2∨t.shape=3∨t.shape=4):Fn Tryz.prog Xh 107 [.int .u8 t.shape] h0 (fun r h'=>r=str (wd t)∧Hs h0 h' []):=by
 have S:=Hs.start w
 have key:∀ s,wd t=s→str s=str (wd t):=fun s q=>by rw [q]
 refine qF rfl Tryz.func107 rfl rfl ?_
 all_goals (repeat' (first|refine qi ?_|refine ql rfl ?_|refine qo ?_|refine qm ?_|(refine qf 0 ?_;refine mv ?_;refine qg ?_)|(refine qf 1 ?_;refine mv ?_;refine qg ?_)|(refine qf 2 ?_;(first|(refine cS ?_ ?_<;>intro hc))<;>(refine mv ?_;refine qg ?_))|(refine qf 3 ?_;refine mv ?_;refine qg ?_)|(refine qf 4 ?_;(first|(refine cS ?_ ?_<;>intro hc))<;>(refine mv ?_;refine qg ?_))|(refine qf 5 ?_;refine mv ?_;refine qg ?_)|(refine qf 6 ?_;(first|(refine cS ?_ ?_<;>intro hc))<;>(refine mv ?_;refine qg ?_))|(refine qf 7 ?_;refine mv ?_;refine qg ?_)|(refine qf 8 ?_;refine mv ?_;refine qg ?_)))
 all_goals (refine qx ⟨_,rfl,?_⟩)
 all_goals (refine ⟨key _ ?_,S⟩;unfold wd)
 ·rw [if_pos (by omega)];rfl
 ·rw [if_neg (by omega),if_pos (by omega)];rfl
 ·rw [if_neg (by omega),if_neg (by omega),if_pos (by omega)];rfl
 ·rw [if_neg (by omega),if_neg (by omega),if_neg (by omega)];rfl
theorem Yr {h0:AH} (w:WfH h0) (v:Value) (l:List Tab) (H:HallR h0 v l) (h16:l.length≤17) (hF:∀ i,i<l.length→FmtOk (tb l i)):Fn Tryz.prog Xh 53 [v] h0 (fun r h'=>r=str (QH l l.length)∧Hs h0 h' []):=by
 have S:=Hs.start w
 have hr:=H.rd
 have hn:=H.len
 have hL:=yN hF
 refine qF rfl Tryz.func53 rfl rfl ?_
 all_goals (repeat' (first|refine qi ?_|refine qm ?_|(refine qf 0 ?_;refine mv ?_;refine qg ?_)|(refine qf 1 ?_;refine mv ?_;refine qg ?_)|(refine qf 2 ?_;refine mv ?_;refine qg ?_)))
 refine qE (σ:=Nat) (fun i h'=>Hs h0 h' []∧i≤l.length) (fun i=>l.length - i) (fun i=>[(0,v),(3,str (QH l i)),(4,.int .i64 i)]) 0 (by repeat (first|exact Ks.le_nil _|refine Ks.qh rfl ?_)) ?_ ?_
 ·exact ⟨S,Nat.zero_le _⟩
 clear S
 rintro i h ⟨S,hi⟩
 all_goals (repeat' (first|refine qi ?_|refine ql rfl ?_|refine qo ?_|refine qA ?_|refine qm ?_|(refine qf 3 ?_;refine mv ?_;refine mv ?_;refine QD S ?_;(first|(refine cS ?_ ?_<;>intro hc))<;>(refine qg ?_))|(refine qf 5 ?_;refine mv ?_;refine mv ?_;refine jv S ?_;refine zS S ?_;(refine al S ?_;clear S;intro b h S);(first|(refine sB S rfl rfl ?_;clear S;intro h S));refine qg ?_)))
 ·have hi':i<l.length:=by omega
  have hf:=hF i hi'
  obtain ⟨hov,hnm,hol⟩:=H.tab i hi'
  have hLi:=(hL i hi).1
  have hnm':(l.getD i default).name.length≤1000:=hnm
  have hhd:=VO hf
  have hwl:(wd (l.getD i default)).length≤9:=qdn (tb l i)
  have hbA:0≤(l.getD i default).A∧(l.getD i default).A≤1000:=hf.nums 0 (by simp [numsOf])
  have hbB:0≤(l.getD i default).B∧(l.getD i default).B≤1000:=hf.nums 1 (by simp [numsOf])
  have hbX:0≤(l.getD i default).X∧(l.getD i default).X≤1000:=hf.nums 2 (by simp [numsOf])
  have hbY:0≤(l.getD i default).Y∧(l.getD i default).Y≤1000:=hf.nums 3 (by simp [numsOf])
  have hdA:(Vo (l.getD i default).A.toNat).length≤4:=(Je (tb l i).A.toNat).2
  have hdB:(Vo (l.getD i default).B.toNat).length≤4:=(Je (tb l i).B.toNat).2
  have hdX:(Vo (l.getD i default).X.toNat).length≤4:=(Je (tb l i).X.toNat).2
  have hdY:(Vo (l.getD i default).Y.toNat).length≤4:=(Je (tb l i).Y.toNat).2
  have hnl:(numsOf (tb l i)).length=4+(tb l i).opn.length:=by simp [numsOf];omega
  try simp only [Int.toNat_natCast] at *
  obtain ⟨b2,hnm⟩:∃ x,x=b:=⟨_,rfl⟩;subst hnm
  (repeat (refine qi ?_));refine jG (id:=6) [(3,(0,5)),(12,(0,1)),(17,(0,2)),(22,(0,3)),(27,(0,4))] [some (b2),some (b2),some (b2),some (b2),some (b2)] ?_;refine qj ?_;(first|(refine mv ?_<;>refine qg ⟨⟨by (first|exact True.intro),rfl⟩,?_⟩));refine qj ?_;(first|(refine gy ?_<;>refine qg ⟨⟨by (first|exact True.intro),rfl⟩,?_⟩));refine qj ?_;(first|(refine vl ?_<;>refine qg ⟨⟨by (first|exact True.intro),rfl⟩,?_⟩));refine qj ?_;(first|(refine lB S rfl rfl ?_<;>refine qg ⟨⟨by (first|exact Or.inr rfl),rfl⟩,?_⟩));refine qj ?_;(first|(refine gy ?_<;>refine qg ⟨⟨by (first|exact True.intro),rfl⟩,?_⟩));refine qj ?_;(first|(refine gy ?_<;>refine qg ⟨⟨by (first|exact True.intro),rfl⟩,?_⟩));refine qj ?_;(first|(refine vl ?_<;>refine qg ⟨⟨by (first|exact True.intro),rfl⟩,?_⟩));refine qj ?_;(first|(refine lB S rfl rfl ?_<;>refine qg ⟨⟨by (first|exact True.intro),rfl⟩,?_⟩))
  ((refine qj ?_;first|refine qw rfl rfl rfl rfl rfl ((YZ S.wf (tb l i) hf.sh).mono ?_));rintro _ h ⟨rfl,x⟩)<;>((refine qg ⟨⟨True.intro,?_⟩,?_⟩;(focus ((show keepsX _ _ _ _ _;simp only [keepsX];(repeat' (first|exact True.intro|refine And.intro ?_ ?_));all_goals (intro hw;first|exact x.ext.old _ S.bB)))));replace S:=S.qy x;clear x;refine qj ?_;(first|(refine gy ?_<;>refine qg ⟨⟨by (first|exact True.intro),rfl⟩,?_⟩));refine qj ?_;(first|(refine gy ?_<;>refine qg ⟨⟨by (first|exact True.intro),rfl⟩,?_⟩));refine qj ?_;(first|(refine vl ?_<;>refine qg ⟨⟨by (first|exact True.intro),rfl⟩,?_⟩));refine qj ?_;(first|(refine lB S rfl rfl ?_<;>refine qg ⟨⟨by (first|exact Or.inr rfl),rfl⟩,?_⟩)))
  ((refine qj ?_;first|refine qw rfl rfl rfl rfl rfl ((XL S.wf _ hbA).mono ?_));rintro _ h ⟨rfl,x⟩)<;>((refine qg ⟨⟨True.intro,?_⟩,?_⟩;(focus ((show keepsX _ _ _ _ _;simp only [keepsX];(repeat' (first|exact True.intro|refine And.intro ?_ ?_));all_goals (intro hw;first|exact x.ext.old _ S.bB)))));replace S:=S.qy x;clear x;refine qj ?_;(first|(refine gy ?_<;>refine qg ⟨⟨by (first|exact True.intro),rfl⟩,?_⟩));refine qj ?_;(first|(refine gy ?_<;>refine qg ⟨⟨by (first|exact True.intro),rfl⟩,?_⟩));refine qj ?_;(first|(refine vl ?_<;>refine qg ⟨⟨by (first|exact True.intro),rfl⟩,?_⟩));refine qj ?_;(first|(refine lB S rfl rfl ?_<;>refine qg ⟨⟨by (first|exact Or.inr rfl),rfl⟩,?_⟩)))
  ((refine qj ?_;first|refine qw rfl rfl rfl rfl rfl ((XL S.wf _ hbB).mono ?_));rintro _ h ⟨rfl,x⟩)<;>((refine qg ⟨⟨True.intro,?_⟩,?_⟩;(focus ((show keepsX _ _ _ _ _;simp only [keepsX];(repeat' (first|exact True.intro|refine And.intro ?_ ?_));all_goals (intro hw;first|exact x.ext.old _ S.bB)))));replace S:=S.qy x;clear x;refine qj ?_;(first|(refine gy ?_<;>refine qg ⟨⟨by (first|exact True.intro),rfl⟩,?_⟩));refine qj ?_;(first|(refine gy ?_<;>refine qg ⟨⟨by (first|exact True.intro),rfl⟩,?_⟩));refine qj ?_;(first|(refine vl ?_<;>refine qg ⟨⟨by (first|exact True.intro),rfl⟩,?_⟩));refine qj ?_;(first|(refine lB S rfl rfl ?_<;>refine qg ⟨⟨by (first|exact Or.inr rfl),rfl⟩,?_⟩)))
  ((refine qj ?_;first|refine qw rfl rfl rfl rfl rfl ((XL S.wf _ hbX).mono ?_));rintro _ h ⟨rfl,x⟩)<;>((refine qg ⟨⟨True.intro,?_⟩,?_⟩;(focus ((show keepsX _ _ _ _ _;simp only [keepsX];(repeat' (first|exact True.intro|refine And.intro ?_ ?_));all_goals (intro hw;first|exact x.ext.old _ S.bB)))));replace S:=S.qy x;clear x;refine qj ?_;(first|(refine gy ?_<;>refine qg ⟨⟨by (first|exact True.intro),rfl⟩,?_⟩));refine qj ?_;(first|(refine gy ?_<;>refine qg ⟨⟨by (first|exact True.intro),rfl⟩,?_⟩));refine qj ?_;(first|(refine vl ?_<;>refine qg ⟨⟨by (first|exact True.intro),rfl⟩,?_⟩));refine qj ?_;(first|(refine lB S rfl rfl ?_<;>refine qg ⟨⟨by (first|exact Or.inr rfl),rfl⟩,?_⟩)))
  ((refine qj ?_;first|refine qw rfl rfl rfl rfl rfl ((XL S.wf _ hbY).mono ?_));rintro _ h ⟨rfl,x⟩)<;>((refine qg ⟨⟨True.intro,?_⟩,?_⟩;(focus ((show keepsX _ _ _ _ _;simp only [keepsX];(repeat' (first|exact True.intro|refine And.intro ?_ ?_));all_goals (intro hw;first|exact x.ext.old _ S.bB)))));replace S:=S.qy x;clear x;refine qj ?_;(first|(refine gy ?_<;>refine qg ⟨⟨by (first|exact True.intro),rfl⟩,?_⟩));refine qj ?_;(first|(refine mv ?_<;>refine qg ⟨⟨by (first|exact True.intro),rfl⟩,?_⟩));refine jd ?_)
  all_goals (repeat' (first|refine qi ?_|refine qm ?_|(refine qf 7 ?_;refine mv ?_;refine qg ?_)))
  refine qE (σ:=Nat×List UInt8) (fun (k,s) h'=>Hs h0 h' [.blk b2 (eT (tb l i)) 25]∧k≤(tb l i).opn.length∧s=(QH l i ++ QX (tb l i)) ++ ZB ((numsOf (tb l i)).take (4+k))) (fun (k,s)=>(tb l i).opn.length - k) (fun (k,s)=>[(0,v),(3,str s),(4,.int .i64 i),(5,.pointer (some ⟨b2,0,none⟩)),(6,.int .i64 k)]) (0,_) (by repeat (first|exact Ks.le_nil _|refine Ks.qh rfl ?_)) ?_ ?_
  ·refine ⟨S,Nat.zero_le _,?_⟩
   simp only [QX,hdT,numsOf,ZB,qdq,dc,List.append_assoc,List.take_succ_cons,List.take_zero,List.cons_append,List.nil_append,List.flatMap_cons,List.flatMap_nil,List.append_nil,Nat.add_zero]
  clear S
  rintro ⟨k,s⟩ h ⟨S,hk,hs⟩
  have hnt:=VG ((numsOf (tb l i)).take (4+k))
  rw [List.length_take] at hnt
  have hsl:s.length≤1000000:=by rw [hs];simp only [List.length_append];omega
  all_goals (repeat' (first|refine qi ?_|refine ql rfl ?_|refine qo ?_|refine qA ?_|refine qm ?_|(refine qf 4 ?_;refine mv ?_;refine ad ?_;refine mv ?_;refine qg ?_)|(refine qf 8 ?_;refine mv ?_;refine vl ?_;refine lB S rfl rfl ?_;refine QD S ?_;(first|(refine cS ?_ ?_<;>intro hc))<;>(refine qg ?_))|(refine qf 10 ?_;refine mv ?_;refine gy ?_;refine vl ?_;refine lB S rfl rfl ?_;refine mv ?_;refine jv S ?_;refine zS S ?_)|(refine qf 11 ?_;refine mv ?_;refine gy ?_;refine mv ?_;refine qg ?_)))
  ·have hb:0≤(tb l i).opn.getD k default∧(tb l i).opn.getD k default≤1000:=by
    have:=hf.nums (4+k) (by omega)
    rw [show (numsOf (tb l i)).getD (4+k) default=(tb l i).opn.getD k default by rw [Nat.add_comm];rfl] at this
    exact this
   have hdl:=(Je ((tb l i).opn.getD k default).toNat).2
   try simp only [Int.toNat_natCast] at *
   (refine qw rfl rfl rfl rfl rfl ((XL S.wf _ hb).mono ?_);rintro _ h ⟨rfl,x⟩)<;>(replace S:=S.qy x;clear x;refine gy ?_;refine mv ?_;refine qg ?_)
   all_goals (repeat' (first|(refine qf 9 ?_;refine mv ?_;refine ad ?_;refine mv ?_;refine qg ?_)))
   refine ⟨(k+1,_),?_,?_,(by repeat (first|exact Ks.le_nil _|refine Ks.qh rfl ?_))⟩
   ·show (tb l i).opn.length - (k+1)<(tb l i).opn.length - k;omega
   ·refine ⟨S,by omega,?_⟩
    rw [hs,← Nat.add_assoc,yg (by omega),show (numsOf (tb l i)).getD (4+k) default=(tb l i).opn.getD k default by rw [Nat.add_comm];rfl]
    simp only [List.append_assoc];rfl
  ·have hke:k=(tb l i).opn.length:=by omega
   subst hke
   rw [← hnl,List.take_length] at hs
   have e:s ++ [10]=QH l (i+1):=by
    show s ++ [10]=QH l i ++ vY (tb l i)
    rw [hs];unfold vY;simp only [List.append_assoc]
   rw [e]
   refine ⟨i+1,?_,?_,(by repeat (first|exact Ks.le_nil _|refine Ks.qh rfl ?_))⟩
   ·show l.length - (i+1)<l.length - i;omega
   ·exact ⟨S.drop,by omega⟩
 ·have hie:i=l.length:=by omega
  subst hie
  skip
  all_goals (repeat' (first|(refine qf 12 ?_;refine mv ?_;refine mv ?_;refine qg ?_)))
  refine qx ⟨_,rfl,?_⟩
  exact ⟨rfl,S⟩
theorem Kq {h0:AH} (w:WfH h0) (v:Value) (l:List Tab) (H:HallR h0 v l) (hl:ValidL l):Fn Tryz.prog Xh 53 [v] h0 (fun r h'=>r=str (QH l l.length)∧Hs h0 h' []) :=
 Yr w v l H (by have:=hl.1;omega) fun i hi=>.of (hl.2 i hi).1 (H.tab i hi).2.2
theorem SameAll.fmt {l2 l:List Tab} (s:SameAll l2 l):∀ i,i≤l2.length→QH l2 i=QH l i
 | 0,_=>rfl
 | i+1,hi=>by
  have e:=s.2 i (by omega)
  show QH l2 i ++ vY (tb l2 i)=QH l i ++ vY (tb l i)
  rw [s.fmt i (by omega)]
  congr 1
  unfold SameTab at e
  rw [e];rfl
theorem yJ {h0:AH} (w:WfH h0) (v:Value) (l:List Tab) (H:HallR h0 v l):Fn Tryz.prog Xh 54 [v] h0 (fun r h'=>(ValidL l→r=str (QH l l.length))∧(¬ ValidL l→r=str [])∧(∃ s,r=str s)∧Hs h0 h' []):=by
 by_cases hl:ValidL l
 ·by_cases hz:l.length=0
  ·refine (yK w v l H (.inr hz)).mono fun r h' q=>⟨fun _=>by rw [hz];exact q.1,fun q2=>absurd hl q2,⟨_,q.1⟩,q.2⟩
  ·refine (qcP w v l H hl (by omega)).mono fun r h' q=>⟨fun _=>q.1,fun q2=>absurd hl q2,⟨_,q.1⟩,q.2⟩
 ·refine (yK w v l H (.inl hl)).mono fun r h' q=>⟨fun q2=>absurd q2 hl,fun _=>q.1,⟨_,q.1⟩,q.2⟩
theorem yI {h0:AH} (w:WfH h0) (v:Value) (l:List Tab) (H:HallR h0 v l):Fn Tryz.prog Xh 22 [v] h0 (fun r h'=>r = .bool true∧Hs h0 h' []):=by
 have S:=Hs.start w
 have hl:=H.len
 refine qF rfl Tryz.func22 rfl rfl ?_
 all_goals (repeat' (first|refine qi ?_|refine ql rfl ?_|refine qo ?_|refine qA ?_|refine qm ?_|refine qR ?_|refine Jr ?_|(refine qf 0 ?_;refine mv ?_;refine qg ?_)|(refine qf 1 ?_;refine mv ?_)))
 (refine qw rfl rfl rfl rfl rfl ((xg S.wf v l H.rd H.len H.tab).mono ?_);rintro u g ⟨l2,sa,Hu,x⟩)<;>(replace S:=S.qy x;clear x;refine mv ?_;refine mv ?_;refine qg ?_)
 have T:=S
 have w1:=S.wf
 have H1:=H.ext w S.ext
 have hl2:=sa.1
 have hr1:=H1.rd
 have hru:=Hu.rd
 replace S:=Hs.start w1
 have hsv:=sa.valid
 have hsf:=sa.fmt l2.length (Nat.le_refl _)
 have fin:∀ h,Hs g h []→Fn Tryz.prog Xh 62 [u,v] h (fun r h'=>r = .bool true∧Hs h h' []):=fun h S=>by
  refine (ZI S.wf u v l2 l (hru.ext w1 S.ext) (hr1.ext w1 S.ext) (fun i hi=>(Hu.ext w1 S.ext).tab i hi) (fun i hi=>(H1.ext w1 S.ext).tab i hi) (by omega) (by omega)).mono ?_
  rintro r h' ⟨⟨rfl,q⟩|⟨rfl,q⟩,x⟩
  ·exact ⟨rfl,x⟩
  ·exact absurd sa q
 all_goals (repeat' (first|refine qi ?_|refine ql rfl ?_|refine qo ?_|refine qA ?_|refine qm ?_|refine qR ?_|refine Jr ?_|(refine qf 2 ?_;refine mv ?_)))
 (refine qw rfl rfl rfl rfl rfl ((Jj S.wf v l (H1.ext w1 S.ext)).mono ?_);rintro _ h ⟨⟨rfl,hq⟩|⟨rfl,hq⟩,x⟩)<;>(replace S:=S.qy x;clear x;refine qg ?_)
 ·all_goals (repeat' (first|refine qi ?_|refine ql rfl ?_|refine qo ?_|refine qA ?_|refine qm ?_|refine qR ?_|refine Jr ?_|(refine qf 3 ?_;refine mv ?_)|(refine qf 4 ?_;refine mv ?_)))
  (refine qw rfl rfl rfl rfl rfl ((Kq S.wf v l (H1.ext w1 S.ext) hq).mono ?_);rintro _ h ⟨rfl,x⟩)<;>(replace S:=S.qy x;clear x;refine mv ?_;refine qg ?_)
  all_goals (repeat' (first|refine qi ?_|refine ql rfl ?_|refine qo ?_|refine qA ?_|refine qm ?_|refine qR ?_|refine Jr ?_|(refine qf 4 ?_;refine mv ?_)))
  (refine qw rfl rfl rfl rfl rfl ((yJ S.wf u l2 (Hu.ext w1 S.ext)).mono ?_);rintro r h ⟨q1,q2,-,x⟩)<;>(replace S:=S.qy x;clear x;obtain rfl:r=str (QH l l.length):=(by rw [q1 (hsv.2 hq),hsf,hl2]);refine mv ?_;(refine tS ?_ ?_<;>intro hc)<;>(refine mv ?_;(first|refine off ?_|refine mv ?_);(first|refine off ?_|refine mv ?_);(first|(refine off ?_;refine vl ?_;refine mv ?_;refine qg ?_)|skip)))
  ·(refine qw rfl rfl rfl rfl rfl ((fin _ S).mono ?_);rintro _ h ⟨rfl,x⟩)<;>(replace S:=S.qy x;clear x;refine vl ?_;refine mv ?_;refine qg ?_)
   all_goals (repeat' (first|refine qi ?_|refine ql rfl ?_|refine qo ?_|refine qA ?_|refine qm ?_|refine qR ?_|refine Jr ?_))
   refine qx ⟨_,rfl,?_⟩
   exact ⟨rfl,T.qy S⟩
  ·exact absurd rfl hc
 ·skip
  all_goals (repeat' (first|refine qi ?_|refine ql rfl ?_|refine qo ?_|refine qA ?_|refine qm ?_|refine qR ?_|refine Jr ?_|(refine qf 4 ?_;refine mv ?_)))
  (refine qw rfl rfl rfl rfl rfl ((yJ S.wf u l2 (Hu.ext w1 S.ext)).mono ?_);rintro r h ⟨q1,q2,-,x⟩)<;>(replace S:=S.qy x;clear x;obtain rfl:=q2 fun q=>hq (hsv.1 q);refine mv ?_;(refine tS ?_ ?_<;>intro hc)<;>(refine mv ?_;(first|refine off ?_|refine mv ?_);(first|refine off ?_|refine mv ?_);(first|(refine off ?_;refine vl ?_;refine mv ?_;refine qg ?_)|skip)))
  ·(refine qw rfl rfl rfl rfl rfl ((fin _ S).mono ?_);rintro _ h ⟨rfl,x⟩)<;>(replace S:=S.qy x;clear x;refine vl ?_;refine mv ?_;refine qg ?_)
   all_goals (repeat' (first|refine qi ?_|refine ql rfl ?_|refine qo ?_|refine qA ?_|refine qm ?_|refine qR ?_|refine Jr ?_))
   refine qx ⟨_,rfl,?_⟩
   exact ⟨rfl,T.qy S⟩
  ·exact absurd rfl hc
end Go.Proofs.Xx
