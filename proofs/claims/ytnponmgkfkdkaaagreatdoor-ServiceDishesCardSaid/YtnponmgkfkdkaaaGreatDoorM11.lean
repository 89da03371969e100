/-
  The reference's seats: sizes,first seats,counts,and where a seat is.
-/
import Derived.Test.YtnponmgkfkdkaaaGreatDoorM10
import Derived.Test.YtnponmgkfkdkaaaGreatDoorM8
import Derived.Test.YtnponmgkfkdkaaaGreatDoorM9
set_option linter.unusedSimpArgs false
set_option linter.unusedVariables false
set_option linter.unusedSectionVars false
set_option maxRecDepth 100000
set_option maxHeartbeats 4000000
namespace Go.Proofs.Xx
open Go Go.Proofs
variable [Flag]
theorem jW {h:AH} (n a b:Int):Fn Tryz.prog Xh 241 [.int .i64 n,.int .i64 a,.int .i64 b] h (fun v h'=>qZ v (a≤n∧n≤b)∧h'=h):=by
 refine qL (by first|rfl) Tryz.func241 rfl rfl ?_;all_goals (repeat' (first|refine qg ?_|(refine qc 0 ?_;refine mv ?_;refine qf ?_)|(refine qc 1 ?_;refine mv ?_;refine mv ?_;(first|(refine cS ?_ ?_<;>intro hc))<;>(refine mv ?_;(first|refine off ?_|refine mv ?_);(first|refine off ?_|refine mv ?_);(first|refine off ?_|(first|(refine cS ?_ ?_<;>intro hc)))<;>(refine vl ?_;refine mv ?_;refine qf ?_)))))
 all_goals (refine qo ⟨_,rfl,?_⟩)
 all_goals (refine ⟨?_,rfl⟩;unfold qZ)
 all_goals first|exact .inl ⟨rfl,by omega⟩|exact .inr ⟨rfl,by omega⟩
theorem ZT {h0:AH} (w:WfH h0) (t:Tab):Fn Tryz.prog Xh 165 [J8 t] h0 (fun v h'=>v = .int .i64 (zl t)∧Hs h0 h' []):=by
 have S:=Hs.start w;refine qL (by first|rfl) Tryz.func165 rfl rfl ?_;all_goals (repeat' (first|refine qg ?_|refine qh rfl ?_|refine qi ?_|refine qj ?_|(refine qc 0 ?_;(refine bx S ?_;clear S;intro b h S);refine mv ?_;refine qf ?_)|(refine qc 1 ?_;refine vl ?_;refine lB S rfl rfl ?_;refine qf ?_)|(refine qc 2 ?_;(first|(refine cS ?_ ?_<;>intro hc))<;>(refine mv ?_;refine qf ?_))|(refine qc 3 ?_;refine vl ?_;refine lB S rfl rfl ?_)|(refine qc 5 ?_;(first|(refine cS ?_ ?_<;>intro hc))<;>(refine mv ?_;refine qf ?_))|(refine qc 6 ?_;refine vl ?_;refine lB S rfl rfl ?_)|(refine qc 8 ?_;(first|(refine cS ?_ ?_<;>intro hc))<;>(refine mv ?_;refine qf ?_))|(refine qc 9 ?_;refine vl ?_;refine lB S rfl rfl ?_)|(refine qc 11 ?_;(first|(refine cS ?_ ?_<;>intro hc))<;>(refine mv ?_;refine qf ?_))|(refine qc 12 ?_;refine vl ?_;refine lB S rfl rfl ?_)|(refine qc 14 ?_;refine mv ?_;refine qf ?_)))
 ·(refine qw rfl rfl rfl rfl rfl ((jW _ _ _).mono ?_);rintro _ _ ⟨⟨rfl,hq⟩|⟨rfl,hq⟩,rfl⟩)<;>(refine mv ?_;(first|refine off ?_|(refine vl ?_));(first|refine off ?_|(refine lB S rfl rfl ?_));(first|refine off ?_|(first|(refine cS ?_ ?_<;>intro hc)))<;>(refine vl ?_;refine qf ?_))
  all_goals (repeat' (first|refine qg ?_|refine qh rfl ?_|refine qi ?_|(refine qc 4 ?_;refine vl ?_;refine lB S rfl rfl ?_;refine mv ?_;refine qf ?_)|(refine qc 14 ?_;refine mv ?_;refine qf ?_)))
  all_goals (refine qo ⟨_,rfl,?_⟩)
  all_goals (refine ⟨?_,S.drop⟩;unfold zl zW;rw [if_pos (by omega)];unfold Q9)
  all_goals first|(rw [if_pos (by omega)];rfl)|(rw [if_neg (by omega)];rfl)
 ·(refine qw rfl rfl rfl rfl rfl ((jW _ _ _).mono ?_);rintro _ _ ⟨⟨rfl,hq⟩|⟨rfl,hq⟩,rfl⟩)<;>(refine mv ?_;(first|refine off ?_|(refine vl ?_));(first|refine off ?_|(refine lB S rfl rfl ?_));(first|(refine off ?_;refine vl ?_;refine qf ?_)|skip))
  any_goals ((refine qw rfl rfl rfl rfl rfl ((jW _ _ _).mono ?_);rintro _ _ ⟨⟨rfl,hq2⟩|⟨rfl,hq2⟩,rfl⟩)<;>(refine vl ?_;refine qf ?_))
  all_goals (repeat' (first|refine qg ?_|refine qh rfl ?_|refine qi ?_|(refine qc 7 ?_;refine vl ?_;refine lB S rfl rfl ?_;refine ml ?_;refine vl ?_;refine lB S rfl rfl ?_;refine ad ?_;refine mv ?_;refine qf ?_)|(refine qc 14 ?_;refine mv ?_;refine qf ?_)))
  all_goals (refine qo ⟨_,rfl,?_⟩)
  all_goals (refine ⟨?_,S.drop⟩;unfold zl zW;rw [if_neg (by omega),if_pos (by omega)];unfold ZV)
  all_goals first|(rw [if_pos (by omega)];rfl)|(rw [if_neg (by omega)];rfl)
 ·(refine qw rfl rfl rfl rfl rfl ((jW _ _ _).mono ?_);rintro _ _ ⟨⟨rfl,hq⟩|⟨rfl,hq⟩,rfl⟩)<;>(refine mv ?_;(first|refine off ?_|(refine vl ?_));(first|refine off ?_|(refine lB S rfl rfl ?_));(first|(refine off ?_;refine vl ?_;refine qf ?_)|skip))
  any_goals ((refine qw rfl rfl rfl rfl rfl ((jW _ _ _).mono ?_);rintro _ _ ⟨⟨rfl,hq2⟩|⟨rfl,hq2⟩,rfl⟩)<;>(refine vl ?_;refine qf ?_))
  all_goals (repeat' (first|refine qg ?_|refine qh rfl ?_|refine qi ?_|(refine qc 10 ?_;refine vl ?_;refine lB S rfl rfl ?_;refine vl ?_;refine lB S rfl rfl ?_;refine ml ?_;refine ad ?_;refine mv ?_;refine qf ?_)|(refine qc 14 ?_;refine mv ?_;refine qf ?_)))
  all_goals (refine qo ⟨_,rfl,?_⟩)
  all_goals (refine ⟨?_,S.drop⟩;unfold zl zW;rw [if_neg (by omega),if_neg (by omega),if_pos (by omega)];unfold ZP)
  all_goals first|(rw [if_pos (by omega)];rfl)|(rw [if_neg (by omega)];rfl)
 ·(refine qw rfl rfl rfl rfl rfl ((jW _ _ _).mono ?_);rintro _ _ ⟨⟨rfl,hq⟩|⟨rfl,hq⟩,rfl⟩)<;>(refine mv ?_;(first|refine off ?_|(refine vl ?_));(first|refine off ?_|(refine lB S rfl rfl ?_));(first|refine off ?_|(refine vl ?_));(first|refine off ?_|(refine lB S rfl rfl ?_));(first|(refine off ?_;refine vl ?_;refine qf ?_)|skip))
  any_goals ((refine qw rfl rfl rfl rfl rfl ((jW _ _ _).mono ?_);rintro _ _ ⟨⟨rfl,hq2⟩|⟨rfl,hq2⟩,rfl⟩)<;>(refine vl ?_;refine qf ?_))
  all_goals (repeat' (first|refine qg ?_|refine qh rfl ?_|refine qi ?_|(refine qc 13 ?_;refine vl ?_;refine lB S rfl rfl ?_;refine mv ?_;refine qf ?_)|(refine qc 14 ?_;refine mv ?_;refine qf ?_)))
  all_goals (refine qo ⟨_,rfl,?_⟩)
  all_goals (refine ⟨?_,S.drop⟩;unfold zl zW;rw [if_neg (by omega),if_neg (by omega),if_neg (by omega),if_pos (by omega)];unfold ZB)
  all_goals first|(rw [if_pos (by omega)];rfl)|(rw [if_neg (by omega)];rfl)
 ·refine qo ⟨_,rfl,?_⟩;refine ⟨?_,S.drop⟩;unfold zl zW;rw [if_neg (by omega),if_neg (by omega),if_neg (by omega),if_neg (by omega)];rfl
theorem qcG {h0:AH} (w:WfH h0) (v:Value) (l:List Tab) (hr:zC h0 v 7 eT l) (hl:l.length≤1000) (n:Nat) (hn:n≤l.length):Fn Tryz.prog Xh 162 [v,.int .i64 n] h0 (fun u h'=>u = .int .i64 (sumT l n)∧Hs h0 h' []):=by
 have S:=Hs.start w;refine qL (by first|rfl) Tryz.func162 rfl rfl ?_;all_goals (repeat' (first|refine qg ?_|refine qj ?_|(refine qc 0 ?_;refine mv ?_;refine qf ?_)|(refine qc 1 ?_;refine mv ?_;refine qf ?_)|(refine qc 2 ?_;refine mv ?_;refine qf ?_)))
 refine qH (σ:=Nat) (fun i h'=>Hs h0 h' []∧i≤n) (fun i=>n - i) (fun i=>[(0,v),(1,.int .i64 n),(5,.int .i64 (sumT l i)),(6,.int .i64 i)]) 0 qx ?_ ?_
 ·exact ⟨S,zB0 _⟩
 clear S;rintro i h ⟨S,g1⟩;have b1:=zQ l i;all_goals (repeat' (first|refine qg ?_|refine qh rfl ?_|refine qi ?_|refine qC ?_|refine qj ?_|(refine qc 3 ?_;refine mv ?_;refine mv ?_;(first|(refine cS ?_ ?_<;>intro hc))<;>(refine qf ?_))))
 ·have hi:i<l.length:=by omega
  have b2:=Qv (tb l i);all_goals (repeat' (first|(refine qc 5 ?_;(iterate 3 refine mv ?_);refine jF S ?_;refine jk S ?_)))
  simp only [zA0];(refine qw rfl rfl rfl rfl rfl ((ZT S.wf (tb l i)).mono ?_);rintro _ h ⟨rfl,x⟩)<;>(replace S:=S.qE x;clear x;refine ad ?_;refine mv ?_;refine qf ?_)
  all_goals (repeat' (first|(refine qc 4 ?_;refine mv ?_;refine ad ?_;refine mv ?_;refine qf ?_)))
  refine ⟨i+1,?_,?_,qx⟩
  ·show n - (i+1)<n - i;omega
  ·exact ⟨S,by omega⟩
 ·obtain rfl:i=n:=by omega
  all_goals (repeat' (first|(refine qc 6 ?_;refine mv ?_;refine mv ?_;refine qf ?_)))
  refine qo ⟨_,rfl,?_⟩;exact ⟨rfl,S⟩
theorem wQ {h0:AH} (w:WfH h0) (v:Value) (l:List Tab) (hr:zC h0 v 7 eT l) (hl:l.length≤1000):Fn Tryz.prog Xh 109 [v] h0 (fun u h'=>u = .int .i64 (sumT l l.length)∧Hs h0 h' []):=by
 have S:=Hs.start w;refine qL (by first|rfl) Tryz.func109 rfl rfl ?_;all_goals (repeat' (first|refine qg ?_|(refine qc 0 ?_;refine mv ?_;refine qf ?_)|(refine qc 1 ?_;refine mv ?_;refine mv ?_;refine jf S ?_)))
 (refine qw rfl rfl rfl rfl rfl ((qcG S.wf v l (hr.ext w S.ext) hl l.length (zA3 _)).mono ?_);rintro _ h ⟨rfl,x⟩)<;>(replace S:=S.qE x;clear x;refine mv ?_;refine qf ?_)
 all_goals (repeat' (fail))
 refine qo ⟨_,rfl,?_⟩;exact ⟨rfl,S⟩
theorem qcE {h0:AH} (w:WfH h0) (v:Value) (l:List Tab) (hr:zC h0 v 7 eT l) (hl:l.length≤1000) (hv:ValidL l) (s:Int) (hs : -4611686018427387904≤s∧s≤4611686018427387903):Fn Tryz.prog Xh 161 [v,.int .i64 s] h0 (fun u h'=>∃ k:Int,u = .tuple #[.int .i64 (tOf l s),.int .i64 k]∧(∀ i j,WhereI l s i j→k=j)∧Hs h0 h' []):=by
 have S:=Hs.start w;refine qL (by first|rfl) Tryz.func161 rfl rfl ?_;all_goals (repeat' (first|refine qg ?_|refine qj ?_|(refine qc 0 ?_;refine mv ?_;refine mv ?_;refine qf ?_)|(refine qc 1 ?_;refine mv ?_;refine qf ?_)))
 have e0:sumT l 0=0:=rfl;refine qH (σ:=Nat) (fun i h'=>Hs h0 h' []∧i≤l.length∧(i=0∨sumT l i≤s)) (fun i=>l.length - i) (fun i=>[(0,v),(1,.int .i64 (s - sumT l i)),(6,.int .i64 i)]) 0 qx ?_ ?_
 ·exact ⟨S,zB0 _,.inl rfl⟩
 clear S;rintro i h ⟨S,g1,g2⟩;have b1:=zQ l i;have hno:(¬ (i<l.length∧0≤s - sumT l i))→∀ a b,¬ WhereI l s a b:=fun hx a b q=>by
  obtain ⟨-,q1,q2,q3⟩:=q;have c1:=zQ l a;have c2:=X6 l (show a+1≤l.length by omega);have c3:sumT l (a+1)=sumT l a+zl (tb l a):=rfl;by_cases e:i<l.length
  ·rcases g2 with rfl|g2
   ·have:sumT l 0=0:=rfl;omega
   ·omega
  ·obtain rfl:i=l.length:=by omega
   rcases g2 with g2|g2<;>omega
 have e1:sumT l (i+1)=sumT l i+zl (tb l i):=rfl;all_goals (repeat' (first|refine qg ?_|refine qh rfl ?_|refine qi ?_|refine qC ?_|refine qj ?_|(refine qc 2 ?_;refine mv ?_;refine mv ?_;refine jf S ?_;(first|(refine cS ?_ ?_<;>intro hc))<;>(refine mv ?_;(first|refine off ?_|refine mv ?_);(first|refine off ?_|(first|(refine cS ?_ ?_<;>intro hc)))<;>(refine vl ?_;refine qf ?_)))))
 ·have hi:i<l.length:=by omega
  have b2:=Qv (tb l i);all_goals (repeat' (first|(refine qc 4 ?_;(iterate 3 refine mv ?_);refine jF S ?_;refine jk S ?_)))
  simp only [zA0];(refine qw rfl rfl rfl rfl rfl ((ZT S.wf (tb l i)).mono ?_);rintro _ h ⟨rfl,x⟩)<;>(replace S:=S.qE x;clear x;(first|(refine cS ?_ ?_<;>intro hc))<;>(refine qf ?_))
  all_goals (repeat' (first|refine qg ?_|refine qh rfl ?_|refine qi ?_|(refine qc 5 ?_;(iterate 4 refine mv ?_);refine qf ?_)|(refine qc 6 ?_;(iterate 3 refine mv ?_);refine jF S ?_;refine jk S ?_)))
  ·refine qo ⟨_,rfl,?_⟩;have hw:WhereI l s i (s - sumT l i).toNat:=⟨hv,hi,by omega,by omega⟩
   refine ⟨s - sumT l i,by rw [qaA hw];rfl,fun a b q=>?_,S⟩;have:=(hw.unique q).2;omega
  ·simp only [zA0];(refine qw rfl rfl rfl rfl rfl ((ZT S.wf (tb l i)).mono ?_);rintro _ h ⟨rfl,x⟩)<;>(replace S:=S.qE x;clear x;refine sb ?_;refine mv ?_;refine qf ?_)
   all_goals (repeat' (first|(refine qc 3 ?_;refine mv ?_;refine ad ?_;refine mv ?_;refine qf ?_)))
   refine ⟨i+1,?_,?_,qx⟩
   ·show l.length - (i+1)<l.length - i;omega
   ·exact ⟨S,by omega,.inr (by omega)⟩
 all_goals
  all_goals (repeat' (first|(refine qc 7 ?_;refine mv ?_;refine mv ?_;refine qf ?_)))
  refine qo ⟨_,rfl,?_⟩;exact ⟨-1,by rw [gy (hno (by omega))];rfl,fun a b q=>absurd q (hno (by omega) a b),S⟩
end Go.Proofs.Xx
namespace Go.Proofs.Xx
open Go Go.Proofs
variable [Flag]
noncomputable def zT (l:List Tab) (q:List Int) (t:Int):Nat→List Int
 | 0=>[]
 | i+1=>if 0≤q.getD i default∧tOf l (q.getD i default)=t then zT l q t i ++ [(i:Int)] else zT l q t i
theorem JF {l:List Tab} {q:List Int} {t:Int}:∀ i,(zT l q t i).length≤i
 | 0=>zA3 _
 | i+1=>by
  have:=JF (l:=l) (q:=q) (t:=t) i;rw [zT];split
  ·simp;omega
  ·omega
theorem Y7 {h0:AH} (w:WfH h0) (pv:PbV) (p:Pb) (H:PbOk h0 pv p) (hv:ValidL p.tabs) (vq:Value) (q:List Int) (rq:zC h0 vq 1 eI q) (hq:q.length≤1000000) (hqb:∀ x∈q,-1≤x∧x≤1000000) (t:Int) :
 Fn Tryz.prog Xh 98 [pv.val,vq,.int .i64 t] h0 (fun u h'=>Hs h0 h' [.sl u 3 1 eI (zT p.tabs q t q.length)]):=by
 have S:=Hs.start w;have hr:=H.tab.rd;have hl:=H.tab.len;unfold PbV.val;refine qL (by first|rfl|exact KX.no _ _ _ (by decide) rfl) Tryz.func98 rfl rfl ?_;all_goals (repeat' (first|refine qg ?_|refine qh rfl ?_|refine qi ?_|refine qC ?_|refine qj ?_|refine qX ?_|refine qY ?_|(refine qc 0 ?_;(refine bx S ?_;clear S;intro b h S);refine mv ?_;refine qf ?_)))
 obtain ⟨b3,hnm⟩:∃ x,x=b:=⟨_,rfl⟩;subst hnm;all_goals (repeat' (first|refine qg ?_|refine qh rfl ?_|refine qi ?_|refine qC ?_|refine qj ?_|refine qX ?_|refine qY ?_|(refine qc 1 ?_;refine mv ?_;refine qf ?_)|(refine qc 2 ?_;refine mv ?_;refine qf ?_)))
 replace S:Hs h0 _ [.sl (.slice none 0 0) 3 1 eI [],.blk b3 pv.cs 28]:=S.Xg;refine qH (σ:=Nat×Value) (fun (i,v7) h'=>Hs h0 h' [.sl v7 3 1 eI (zT p.tabs q t i),.blk b3 pv.cs 28]∧i≤q.length) (fun (i,v7)=>q.length - i) (fun (i,v7)=>[(1,vq),(2,.int .i64 t),(3,.pointer (some ⟨b3,0,none⟩)),(7,v7),(8,.int .i64 i)]) (0,.slice none 0 0) qx ?_ ?_
 ·exact ⟨S,zB0 _⟩
 clear S;rintro ⟨i,v7⟩ h ⟨S,g1⟩;have hsl:=JF (l:=p.tabs) (q:=q) (t:=t) i;all_goals (repeat' (first|refine qg ?_|refine qh rfl ?_|refine qi ?_|refine qC ?_|refine qj ?_|refine qX ?_|refine qY ?_|(refine qc 3 ?_;refine mv ?_;refine mv ?_;(first|refine jf S ?_|refine xe S rfl rfl ?_);(first|refine cT ?_|refine cF ?_|(refine cS ?_ ?_<;>intro hc))<;>(refine qf ?_))))
 ·have hi:i<q.length:=by omega
  have hb:=hqb _ (qQ hi);all_goals (repeat' (first|refine qg ?_|refine qh rfl ?_|refine qi ?_|refine qC ?_|refine qj ?_|refine qX ?_|refine qY ?_|(refine qc 5 ?_;refine mv ?_;refine mv ?_;(first|refine jF S ?_|refine qO S rfl rfl ?_);(first|refine lB S rfl rfl ?_|refine zk S rfl rfl ?_|refine jk S ?_|refine lH S ?_);(first|refine cT ?_|refine cF ?_|(refine cS ?_ ?_<;>intro hc))<;>(refine qf ?_))))
  ·simp only [zA0] at *;all_goals (repeat' (first|refine qg ?_|refine qh rfl ?_|refine qi ?_|refine qC ?_|refine qj ?_|refine qX ?_|refine qY ?_|(refine qc 4 ?_;refine mv ?_;(first|refine ad ?_|refine vl ?_);refine mv ?_;refine qf ?_)))
   refine ⟨(i+1,v7),?_,?_,qx⟩
   ·show q.length - (i+1)<q.length - i;omega
   ·refine ⟨?_,by (try dsimp only);omega⟩;dsimp only;rw [zT,if_neg (fun z=>by have:=z.1;omega)];exact S
  ·simp only [zA0] at *;all_goals (repeat' (first|refine qg ?_|refine qh rfl ?_|refine qi ?_|refine qC ?_|refine qj ?_|refine qX ?_|refine qY ?_|(refine qM 6 ?_;(first|refine vl ?_|refine fB S ?_|refine fS S rfl rfl ?_|refine fA ?_);(first|refine lB S rfl rfl ?_|refine zk S rfl rfl ?_|refine jk S ?_|refine lH S ?_);refine mv ?_;refine mv ?_;(first|refine jF S ?_|refine qO S rfl rfl ?_);(first|refine lB S rfl rfl ?_|refine zk S rfl rfl ?_|refine jk S ?_|refine lH S ?_))))
   (refine qw rfl rfl rfl rfl rfl ((qcE S.wf pv.vt.val p.tabs (hr.ext w S.ext) hl hv (q.getD i default) (by omega)).mono ?_);rintro _ h ⟨k,rfl,-,x⟩)<;>(replace S:=S.qE x;clear x;refine mv ?_;refine vl ?_;refine vl ?_;refine mv ?_;refine mv ?_;refine qf ?_)
   all_goals (repeat' (first|refine qg ?_|refine qh rfl ?_|refine qi ?_|refine qC ?_|refine qj ?_|refine qX ?_|refine qY ?_|(refine qM 6 ?_;(first|refine vl ?_|refine fB S ?_|refine fS S rfl rfl ?_|refine fA ?_);(first|refine lB S rfl rfl ?_|refine zk S rfl rfl ?_|refine jk S ?_|refine lH S ?_);refine mv ?_;refine mv ?_;(first|refine jF S ?_|refine qO S rfl rfl ?_);(first|refine lB S rfl rfl ?_|refine zk S rfl rfl ?_|refine jk S ?_|refine lH S ?_))|(refine qc 7 ?_;refine mv ?_;refine mv ?_;(first|refine cT ?_|refine cF ?_|(refine cS ?_ ?_<;>intro hc))<;>(refine qf ?_))|(refine qc 8 ?_;refine mv ?_;refine mv ?_;(refine one 1 S ?_;clear S;intro u h S))))
   ·refine app (y0:=(i:Int)) S rfl rfl ?_;clear S;intro v7 h S;(refine mv ?_;refine qf ?_);all_goals (repeat' (first|refine qg ?_|refine qh rfl ?_|refine qi ?_|refine qC ?_|refine qj ?_|refine qX ?_|refine qY ?_|(refine qc 4 ?_;refine mv ?_;(first|refine ad ?_|refine vl ?_);refine mv ?_;refine qf ?_)))
    refine ⟨(i+1,v7),?_,?_,qx⟩
    ·show q.length - (i+1)<q.length - i;omega
    ·refine ⟨?_,by (try dsimp only);omega⟩;dsimp only;rw [zT,if_pos ⟨by omega,by assumption⟩];exact S
   ·all_goals (repeat' (first|refine qg ?_|refine qh rfl ?_|refine qi ?_|refine qC ?_|refine qj ?_|refine qX ?_|refine qY ?_|(refine qc 4 ?_;refine mv ?_;(first|refine ad ?_|refine vl ?_);refine mv ?_;refine qf ?_)))
    refine ⟨(i+1,v7),?_,?_,qx⟩
    ·show q.length - (i+1)<q.length - i;omega
    ·refine ⟨?_,by (try dsimp only);omega⟩;dsimp only;rw [zT,if_neg (fun z=>by have:=z.2;contradiction)];exact S
 ·obtain rfl:i=q.length:=by omega
  all_goals (repeat' (first|refine qg ?_|refine qh rfl ?_|refine qi ?_|refine qC ?_|refine qj ?_|refine qX ?_|refine qY ?_|(refine qc 9 ?_;refine mv ?_;refine mv ?_;refine qf ?_)))
  refine qo ⟨_,rfl,?_⟩;exact S.only .here
end Go.Proofs.Xx
namespace Go.Proofs.Xx
section
variable {α:Type} [Inhabited α]
theorem PU (l:List α) {i:Nat} (x:α) (h:i<l.length) (j:Nat):(l.set i x).getD j default=if j=i then x else l.getD j default:=by
 rw [zA2,zA2,List.getElem?_set];by_cases e:i=j
 ·subst e;rw [if_pos rfl,if_pos rfl,if_pos h];rfl
 ·rw [if_neg e,if_neg (fun q=>e q.symm)]
def swp (l:List α) (i j:Nat):List α:=(l.set i (l.getD j default)).set j (l.getD i default)
theorem qfs (l:List α) (i j:Nat):(swp l i j).length=l.length:=by simp [swp]
theorem swp_get {l:List α} {i j:Nat} (hi:i<l.length) (hj:j<l.length) (k:Nat):(swp l i j).getD k default=if k=j then l.getD i default else if k=i then l.getD j default else l.getD k default:=by
 unfold swp;rw [PU _ _ (by simpa using hj),PU _ _ hi]
theorem qdF {l:List α} {i j:Nat} (hi:i<l.length) (hj:j<l.length):(swp l i j).Perm l:=by
 unfold swp;have e1:l.getD i default=l[i]:=by simp [zA2,zA4 hi]
 have e2:l.getD j default=l[j]:=by simp [zA2,zA4 hj]
 rw [e1,e2];exact List.set_set_perm hi hj
inductive Sw (a b:Nat):List α→List α→Prop
 | refl (l:List α):Sw a b l l
 | step {l l':List α} (i j:Nat) (h:Sw a b l l') (hi:a≤i∧i<b) (hj:a≤j∧j<b) (hb:b≤l'.length):Sw a b l (swp l' i j)
theorem Sw.len {a b:Nat} {l l':List α} (h:Sw a b l l'):l'.length=l.length:=by
 induction h with
 | refl=>rfl
 | step i j h hi hj hb ih=>rw [qfs,ih]
theorem Sw.perm {a b:Nat} {l l':List α} (h:Sw a b l l'):l'.Perm l:=by
 induction h with
 | refl=>exact .refl _
 | step i j h hi hj hb ih=>exact (qdF (by omega) (by omega)).trans ih
theorem Sw.out {a b:Nat} {l l':List α} (h:Sw a b l l') {k:Nat} (hk:k<a∨b≤k):l'.getD k default=l.getD k default:=by
 induction h with
 | refl=>rfl
 | step i j h hi hj hb ih=>rw [swp_get (by omega) (by omega),if_neg (by omega),if_neg (by omega),ih]
theorem Sw.in_ {a b:Nat} {l l':List α} (h:Sw a b l l'):∀ {k:Nat},a≤k→k<b→∃ m,a≤m∧m<b∧l'.getD k default=l.getD m default:=by
 induction h with
 | refl=>intro k h1 h2;exact ⟨k,h1,h2,rfl⟩
 | step i j h hi hj hb ih =>
  intro k h1 h2;rw [swp_get (by omega) (by omega)];split
  ·exact ih hi.1 hi.2
  ·split
   ·exact ih hj.1 hj.2
   ·exact ih h1 h2
theorem Sw.trans {a b:Nat} {l m n:List α} (h:Sw a b l m) (g:Sw a b m n):Sw a b l n:=by
 induction g with
 | refl=>exact h
 | step i j g hi hj hb ih=>exact .step i j ih hi hj hb
theorem Sw.mono {a b a' b':Nat} {l m:List α} (h:Sw a b l m) (ha:a'≤a) (hb:b≤b') (hl:b'≤l.length):Sw a' b' l m:=by
 induction h with
 | refl=>exact .refl _
 | step i j g hi hj hbl ih =>
  exact .step i j ih ⟨by omega,by omega⟩ ⟨by omega,by omega⟩ (by rw [g.len];exact hl)
theorem Sw.one {a b:Nat} {l:List α} (i j:Nat) (hi:a≤i∧i<b) (hj:a≤j∧j<b) (hb:b≤l.length):Sw a b l (swp l i j):=.step i j (.refl l) hi hj hb
structure WOrd (lt:α→α→Prop):Prop where
 irr:∀ x,¬ lt x x
 tr:∀ {x y z},lt x y→lt y z→lt x z
 ntr:∀ {x y z},¬ lt y x→¬ lt z y→¬ lt z x
theorem WOrd.asym {lt:α→α→Prop} (W:WOrd lt) {x y:α} (h:lt x y):¬ lt y x:=fun g=>W.irr x (W.tr h g)
def Srt (lt:α→α→Prop) (a b:Nat) (l:List α):Prop:=∀ i j,a≤i→i<j→j<b→¬ lt (l.getD j default) (l.getD i default)
theorem Srt.adj {lt:α→α→Prop} (W:WOrd lt) {a b:Nat} {l:List α} (h:∀ i,a≤i→i+1<b→¬ lt (l.getD (i+1) default) (l.getD i default)):Srt lt a b l:=by
 intro i j h1 h2 h3;induction j with
 | zero=>omega
 | succ j ih =>
  rcases zA7 i j with q|q
  ·exact W.ntr (ih q (by omega)) (h j (by omega) h3)
  ·have:i=j:=by omega
   subst this;exact h i h1 h3
def InsI (lt:α→α→Prop) (a i j:Nat) (l:List α):Prop:=∀ p q,a≤p→p<q→q≤i→q≠j→¬ lt (l.getD q default) (l.getD p default)
theorem InsI.start {lt:α→α→Prop} {a i:Nat} {l:List α} (h:Srt lt a i l):InsI lt a i i l:=fun p q h1 h2 h3 h4=>h p q h1 h2 (by omega)
theorem InsI.next {lt:α→α→Prop} (W:WOrd lt) {a i j:Nat} {l:List α} (h:InsI lt a i j l) (hj:a<j) (hji:j≤i) (hl:i<l.length) (hc:lt (l.getD j default) (l.getD (j - 1) default)):InsI lt a i (j - 1) (swp l j (j - 1)):=by
 intro p q h1 h2 h3 h4;have g:=swp_get (l:=l) (i:=j) (j:=j - 1) (by omega) (by omega);rw [g q,g p,if_neg h4];by_cases e1:q=j
 ·subst e1;rw [if_pos rfl];by_cases e2:p=q - 1
  ·rw [if_pos e2];exact W.asym hc
  ·rw [if_neg e2,if_neg (by omega)];exact h p (q - 1) h1 (by omega) (by omega) (by omega)
 ·rw [if_neg e1];by_cases e2:p=j - 1
  ·rw [if_pos e2];exact h j q (by omega) (by omega) h3 e1
  ·rw [if_neg e2];by_cases e3:p=j
   ·rw [if_pos e3];exact h (j - 1) q (by omega) (by omega) h3 e1
   ·rw [if_neg e3];exact h p q h1 h2 h3 e1
theorem InsI.done {lt:α→α→Prop} (W:WOrd lt) {a i j:Nat} {l:List α} (h:InsI lt a i j l) (hc:j≤a∨¬ lt (l.getD j default) (l.getD (j - 1) default)):Srt lt a (i+1) l:=by
 intro p q h1 h2 h3;by_cases e:q=j
 ·subst e;rcases hc with hc|hc
  ·omega
  ·by_cases e2:p=q - 1
   ·rw [e2];exact hc
   ·exact W.ntr (h p (q - 1) h1 (by omega) (by omega) (by omega)) hc
 ·exact h p q h1 h2 (by omega) e
def GU (lt:α→α→Prop) (f hi k:Nat) (l:List α):Prop :=
 (2*k+1<hi→¬ lt (l.getD (f+k) default) (l.getD (f+(2*k+1)) default))∧(2*k+2<hi→¬ lt (l.getD (f+k) default) (l.getD (f+(2*k+2)) default))
def Heap (lt:α→α→Prop) (f lo hi:Nat) (l:List α):Prop:=∀ k,lo≤k→GU lt f hi k l
def SiftI (lt:α→α→Prop) (f lo hi root:Nat) (l:List α):Prop :=
 (∀ k,lo≤k→k≠root→GU lt f hi k l)∧∀ k,lo≤k→(root=2*k+1∨root=2*k+2)→∀ c,(c=2*root+1∨c=2*root+2)→c<hi→¬ lt (l.getD (f+k) default) (l.getD (f+c) default)
theorem SiftI.start {lt:α→α→Prop} {f lo hi:Nat} {l:List α} (h:Heap lt f (lo+1) hi l):SiftI lt f lo hi lo l:=⟨fun k h1 h2=>h k (by omega),fun k h1 h2=>by omega⟩
theorem SiftI.done {lt:α→α→Prop} {f lo hi root:Nat} {l:List α} (h:SiftI lt f lo hi root l) (hc:GU lt f hi root l):Heap lt f lo hi l:=fun k h1=>by
 by_cases e:k=root
 ·subst e;exact hc
 ·exact h.1 k h1 e
theorem SiftI.next {lt:α→α→Prop} (W:WOrd lt) {f lo hi root c:Nat} {l:List α} (h:SiftI lt f lo hi root l) (hr:lo≤root) (hcc:c=2*root+1∨c=2*root+2) (hch:c<hi) (hl:f+hi≤l.length)
 (hm:∀ d,(d=2*root+1∨d=2*root+2)→d<hi→¬ lt (l.getD (f+c) default) (l.getD (f+d) default)) (hc:lt (l.getD (f+root) default) (l.getD (f+c) default)) :
 SiftI lt f lo hi c (swp l (f+root) (f+c)):=by
 have g:=swp_get (l:=l) (i:=f+root) (j:=f+c) (by omega) (by omega);have at_c:(swp l (f+root) (f+c)).getD (f+c) default=l.getD (f+root) default:=by rw [g,if_pos rfl]
 have at_r:(swp l (f+root) (f+c)).getD (f+root) default=l.getD (f+c) default:=by rw [g,if_neg (by omega),if_pos rfl]
 have at_o:∀ k,k≠c→k≠root→(swp l (f+root) (f+c)).getD (f+k) default=l.getD (f+k) default:=fun k h1 h2=>by rw [g,if_neg (by omega),if_neg (by omega)]
 refine ⟨fun k h1 h2=>?_,fun k h1 h2 d hd hdh=>?_⟩
 ·by_cases e:k=root
  ·subst e;refine ⟨fun q=>?_,fun q=>?_⟩
   ·rw [at_r];by_cases e1:2*k+1=c
    ·rw [e1,at_c];exact W.asym hc
    ·rw [at_o _ e1 (by omega)];exact hm _ (.inl rfl) q
   ·rw [at_r];by_cases e1:2*k+2=c
    ·rw [e1,at_c];exact W.asym hc
    ·rw [at_o _ e1 (by omega)];exact hm _ (.inr rfl) q
  ·have hk:=h.1 k h1 e;rw [GU,at_o k h2 e];refine ⟨fun q=>?_,fun q=>?_⟩
   ·by_cases e1:2*k+1=root
    ·rw [e1,at_r];exact h.2 k h1 (.inl e1.symm) c hcc hch
    ·by_cases e2:2*k+1=c
     ·omega
     ·rw [at_o _ e2 e1];exact hk.1 q
   ·by_cases e1:2*k+2=root
    ·rw [e1,at_r];exact h.2 k h1 (.inr e1.symm) c hcc hch
    ·by_cases e2:2*k+2=c
     ·omega
     ·rw [at_o _ e2 e1];exact hk.2 q
 ·have e:k=root:=by omega
  subst e;rw [at_r,at_o d (by omega) (by omega)];have hk:=h.1 c (by omega) (by omega);rcases hd with hd|hd
  ·subst hd;exact hk.1 hdh
  ·subst hd;exact hk.2 hdh
theorem Heap.max {lt:α→α→Prop} (W:WOrd lt) {f hi:Nat} {l:List α} (h:Heap lt f 0 hi l) (k:Nat) (hk:k<hi):¬ lt (l.getD (f+0) default) (l.getD (f+k) default):=by
 induction k using Nat.strongRecOn with
 | _ k ih =>
  rcases zF4 k with e|e
  ·subst e;exact W.irr _
  ·have hp:=h ((k - 1) / 2) (zB0 _);have hi':=ih ((k - 1) / 2) (by omega) (by omega);rcases (by omega:k=2*((k - 1) / 2)+1∨k=2*((k - 1) / 2)+2) with q|q
   ·have:=hp.1 (by omega);rw [← q] at this;exact W.ntr this hi'
   ·have:=hp.2 (by omega);rw [← q] at this;exact W.ntr this hi'
def HeapI (lt:α→α→Prop) (f i n:Nat) (l:List α):Prop:=Heap lt f 0 i l∧∀ p q,p<q→i≤q→q<n→¬ lt (l.getD (f+q) default) (l.getD (f+p) default)
theorem HeapI.pop {lt:α→α→Prop} (W:WOrd lt) {f i n:Nat} {l l':List α} (h:HeapI lt f (i+1) n l) (hin:i<n) (hl:f+n≤l.length) (s:Sw f (f+i) (swp l f (f+i)) l') (hh:Heap lt f 0 i l'):HeapI lt f i n l':=by
 refine ⟨hh,fun p q h1 h2 h3=>?_⟩;have g:=swp_get (l:=l) (i:=f) (j:=f+i) (by omega) (by omega);have hq:l'.getD (f+q) default=if q=i then l.getD f default else l.getD (f+q) default:=by
  rw [s.out (by omega),g];by_cases e:q=i
  ·rw [if_pos (by omega),if_pos e]
  ·rw [if_neg (by omega),if_neg (by omega),if_neg e]
 rw [hq];have hp:∃ m,m<n∧(m≤i∨m=p)∧m≤q∧(m<q∨q=i)∧l'.getD (f+p) default=l.getD (f+m) default:=by
  rcases zA7 p i with q1|q1
  ·obtain ⟨m,m1,m2,m3⟩:=s.in_ (k:=f+p) (by omega) (by omega);rw [g] at m3;rw [if_neg (by omega)] at m3;by_cases e:m=f
   ·rw [if_pos e] at m3;exact ⟨i,by omega,.inl (zA3 _),by omega,by omega,m3⟩
   ·rw [if_neg e] at m3;exact ⟨m - f,by omega,.inl (by omega),by omega,by omega,by rw [m3];congr 1;omega⟩
  ·rw [s.out (by omega),g];by_cases e:p=i
   ·refine ⟨0,by omega,.inl (by omega),by omega,by omega,?_⟩;rw [if_pos (by omega)];rfl
   ·exact ⟨p,by omega,.inr rfl,by omega,by omega,by rw [if_neg (by omega),if_neg (by omega)]⟩
 obtain ⟨m,m1,m2,m3,m4,m5⟩:=hp;rw [m5];by_cases e:q=i
 ·rw [if_pos e];exact Heap.max W h.1 m (by omega)
 ·rw [if_neg e];exact h.2 m q (by omega) (by omega) h3
def DoneI (lt:α→α→Prop) (a b a' b':Nat) (l:List α):Prop:=∀ i j,a≤i→i<j→j<b→(i<a'∨b'≤j)→¬ lt (l.getD j default) (l.getD i default)
theorem DoneI.start {lt:α→α→Prop} {a b:Nat} {l:List α}:DoneI lt a b a b l:=fun i j h1 h2 h3 h4=>by omega
theorem DoneI.sw {lt:α→α→Prop} {a b a' b':Nat} {l l':List α} (h:DoneI lt a b a' b' l) (s:Sw a' b' l l') (h1:a≤a') (h2:b'≤b):DoneI lt a b a' b' l':=by
 intro i j q1 q2 q3 q4;rcases q4 with q4|q4
 ·rw [s.out (k:=i) (.inl q4)];rcases zA7 j a' with q5|q5
  ·rw [s.out (.inl q5)];exact h i j q1 q2 q3 (.inl q4)
  ·rcases zA7 j b' with q6|q6
   ·obtain ⟨m,m1,m2,m3⟩:=s.in_ q5 q6;rw [m3];exact h i m q1 (by omega) (by omega) (.inl q4)
   ·rw [s.out (.inr q6)];exact h i j q1 q2 q3 (.inl q4)
 ·rw [s.out (k:=j) (.inr q4)];rcases zA7 i a' with q5|q5
  ·rw [s.out (.inl q5)];exact h i j q1 q2 q3 (.inl q5)
  ·rcases zA7 i b' with q6|q6
   ·obtain ⟨m,m1,m2,m3⟩:=s.in_ q5 q6;rw [m3];exact h m j (by omega) (by omega) q3 (.inr q4)
   ·rw [s.out (.inr q6)];exact h i j q1 q2 q3 (.inr q4)
theorem DoneI.finish {lt:α→α→Prop} {a b a' b':Nat} {l:List α} (h:DoneI lt a b a' b' l) (s:Srt lt a' b' l):Srt lt a b l:=by
 intro i j q1 q2 q3;by_cases e:i<a'∨b'≤j
 ·exact h i j q1 q2 q3 e
 ·exact s i j (by omega) q2 (by omega)
def Parted (lt:α→α→Prop) (a b m:Nat) (l:List α):Prop:=(∀ k,a≤k→k<m→lt (l.getD k default) (l.getD m default))∧∀ k,m<k→k<b→¬ lt (l.getD k default) (l.getD m default)
theorem Parted.across {lt:α→α→Prop} (W:WOrd lt) {a b m:Nat} {l:List α} (h:Parted lt a b m l) {i j:Nat} (h1:a≤i) (h2:i≤m) (h3:m≤j) (h4:j<b) (h5:i<j):¬ lt (l.getD j default) (l.getD i default):=by
 have e1:¬ lt (l.getD m default) (l.getD i default):=by
  rcases zA7 i m with q|q
  ·exact W.asym (h.1 i h1 q)
  ·have:i=m:=by omega
   subst this;exact W.irr _
 have e2:¬ lt (l.getD j default) (l.getD m default):=by
  rcases zA7 m j with q|q
  ·exact h.2 j q h4
  ·have:j=m:=by omega
   subst this;exact W.irr _
 exact W.ntr e1 e2
theorem DoneI.left {lt:α→α→Prop} (W:WOrd lt) {a b a' b' m:Nat} {l l':List α} (h:DoneI lt a b a' b' l) (p:Parted lt a' b' m l) (hm:a'≤m∧m<b') (hab:a≤a'∧b'≤b) (s:Sw a' m l l') (hs:Srt lt a' m l') (hl:b'≤l.length):DoneI lt a b (m+1) b' l':=by
 have h':=h.sw (s.mono (zA3 _) (by omega) hl) hab.1 hab.2;intro i j q1 q2 q3 q4;by_cases e:i<a'∨b'≤j
 ·exact h' i j q1 q2 q3 e
 ·rcases q4 with q4|q4
  ·rcases zA7 j m with q5|q5
   ·exact hs i j (by omega) q2 q5
   ·rw [s.out (k:=j) (.inr q5)];rcases zA7 i m with q6|q6
    ·obtain ⟨k,k1,k2,k3⟩:=s.in_ (k:=i) (by omega) q6;rw [k3];exact p.across W k1 (by omega) q5 (by omega) (by omega)
    ·rw [s.out (.inr q6)];exact p.across W (by omega) (by omega) q5 (by omega) q2
  ·omega
theorem DoneI.right {lt:α→α→Prop} (W:WOrd lt) {a b a' b' m:Nat} {l l':List α} (h:DoneI lt a b a' b' l) (p:Parted lt a' b' m l) (hm:a'≤m∧m<b') (hab:a≤a'∧b'≤b) (s:Sw (m+1) b' l l') (hs:Srt lt (m+1) b' l') (hl:b'≤l.length):DoneI lt a b a' m l':=by
 have h':=h.sw (s.mono (by omega) (zA3 _) hl) hab.1 hab.2;intro i j q1 q2 q3 q4;by_cases e:i<a'∨b'≤j
 ·exact h' i j q1 q2 q3 e
 ·rcases q4 with q4|q4
  ·omega
  ·rcases zA7 m i with q5|q5
   ·exact hs i j (by omega) q2 (by omega)
   ·rw [s.out (k:=i) (.inl (by omega))];rcases zA7 m j with q6|q6
    ·obtain ⟨k,k1,k2,k3⟩:=s.in_ (k:=j) (by omega) (by omega);rw [k3];exact p.across W (by omega) q5 (by omega) k2 (by omega)
    ·rw [s.out (.inl (by omega))];exact p.across W (by omega) q5 (by omega) (by omega) q2
theorem DoneI.eq_ {lt:α→α→Prop} (W:WOrd lt) {a b a' b' m:Nat} {l:List α} {x:α} (h:DoneI lt a b a' b' l) (hm:a'≤m∧m≤b') (h1:∀ k,a'≤k→k<m→¬ lt x (l.getD k default)) (h2:∀ k,m≤k→k<b'→lt x (l.getD k default)) (h3:∀ k,a'≤k→k<b'→¬ lt (l.getD k default) x):DoneI lt a b m b' l:=by
 intro i j q1 q2 q3 q4;by_cases e:i<a'∨b'≤j
 ·exact h i j q1 q2 q3 e
 ·rcases q4 with q4|q4
  ·exact W.ntr (h1 i (by omega) q4) (h3 j (by omega) (by omega))
  ·omega
theorem Sw.all {a b:Nat} {l l':List α} (s:Sw a b l l') {p:α→Prop} (h:∀ k,a≤k→k<b→p (l.getD k default)):∀ k,a≤k→k<b→p (l'.getD k default):=fun k h1 h2=>by
 obtain ⟨m,m1,m2,m3⟩:=s.in_ h1 h2;rw [m3];exact h m m1 m2
end
end Go.Proofs.Xx
namespace Go.Proofs.Xx
section
variable {α:Type} [Inhabited α]
def xch (a b n k:Nat):Nat:=if a≤k∧k<a+n then k+(b - a) else if b≤k∧k<b+n then k - (b - a) else k
def IsXch (a b n:Nat) (l l':List α):Prop:=∀ k,l'.getD k default=l.getD (xch a b n k) default
theorem IsXch.zero {a b:Nat} {l:List α}:IsXch a b 0 l l:=fun k=>by
 unfold xch;rw [if_neg (by omega),if_neg (by omega)]
theorem IsXch.next {a b i:Nat} {l l':List α} (h:IsXch a b i l l') (hab:a+i<b) (hl:b+i<l'.length):IsXch a b (i+1) l (swp l' (a+i) (b+i)):=fun k=>by
 rw [swp_get (by omega) hl];rw [h,h,h];unfold xch;repeat' split
 all_goals first|omega|rfl|(congr 1<;>omega)
def rot (a m b k:Nat):Nat:=if k<a then k else if k<a+(b - m) then k+(m - a) else if k<b then k - (b - m) else k
def qgU (a m b:Nat) (l l':List α):Prop:=∀ k,l'.getD k default=l.getD (rot a m b k) default
def RotI (a m b i j:Nat) (l c:List α):Prop:=∀ k,l.getD (rot a m b k) default=c.getD (rot (m - i) m (m+j) k) default
theorem RotI.start {a m b:Nat} {l:List α} (h1:a≤m) (h2:m≤b):RotI a m b (m - a) (b - m) l l:=fun k=>by
 rw [show m - (m - a)=a by omega,show m+(b - m)=b by omega]
theorem RotI.left {a m b i j:Nat} {l c c':List α} (h:RotI a m b i j l c) (hi:i≤m) (hij:j<i) (x:IsXch (m - i) m j c c'):RotI a m b (i - j) j l c':=fun k=>by
 rw [h k,x];congr 1
 unfold xch rot;repeat' split
 all_goals omega
theorem RotI.right {a m b i j:Nat} {l c c':List α} (h:RotI a m b i j l c) (hi:i≤m) (hij:i<j) (x:IsXch (m - i) (m+j - i) i c c'):RotI a m b i (j - i) l c':=fun k=>by
 rw [h k,x];congr 1
 unfold xch rot;repeat' split
 all_goals omega
theorem RotI.done {a m b i:Nat} {l c c':List α} (h:RotI a m b i i l c) (hi:i≤m) (x:IsXch (m - i) m i c c'):qgU a m b l c':=fun k=>by
 rw [h k,x];congr 1
 unfold xch rot;repeat' split
 all_goals omega
def IsUp (a k:Nat) (l l':List α):Prop:=∀ x,l'.getD x default=l.getD (if x<a then x else if x<k then x+1 else if x=k then a else x) default
theorem IsUp.start {a:Nat} {l:List α}:IsUp a a l l:=fun x=>by
 congr 1
 repeat' split
 all_goals omega
theorem IsUp.next {a k:Nat} {l l':List α} (h:IsUp a k l l') (hak:a≤k) (hl:k+1<l'.length):IsUp a (k+1) l (swp l' k (k+1)):=fun x=>by
 rw [swp_get (by omega) hl];rw [h,h,h];repeat' split
 all_goals first|omega|rfl|(congr 1<;>omega)
def IsDown (m k:Nat) (l l':List α):Prop:=∀ x,l'.getD x default=l.getD (if x<k then x else if x=k then m else if x≤m then x - 1 else x) default
theorem IsDown.start {m:Nat} {l:List α}:IsDown m m l l:=fun x=>by
 congr 1
 repeat' split
 all_goals omega
theorem IsDown.next {m k:Nat} {l l':List α} (h:IsDown m k l l') (hk:0<k∧k≤m) (hl:m<l'.length):IsDown m (k - 1) l (swp l' k (k - 1)):=fun x=>by
 rw [swp_get (by omega) (by omega)];rw [h,h,h];repeat' split
 all_goals first|omega|rfl|(congr 1<;>omega)
end
def jS (key:Int→Int) (x y:Int):Prop:=key x<key y∨(key x=key y∧x<y)
theorem Vd (key:Int→Int):WOrd (jS key) where
 irr x h:=by unfold jS at h;omega
 tr h1 h2:=by unfold jS at *;omega
 ntr h1 h2:=by unfold jS at *;omega
theorem qep {key:Int→Int} {x y:Int} (h:y<x):jS key x y↔key x<key y:=by unfold jS;omega
structure Mrg (key:Int→Int) (a m b:Nat) (l:List Int):Prop where
 sl:Srt (jS key) a m l
 sr:Srt (jS key) m b l
 cr:∀ p q,a≤p→p<m→m≤q→q<b→l.getD p default<l.getD q default
theorem Mrg.up {key:Int→Int} {a b i:Nat} {l l':List Int} (h:Mrg key a (a+1) b l) (hi:a+1≤i∧i≤b) (h1:∀ k,a+1≤k→k<i→jS key (l.getD k default) (l.getD a default)) (h2:∀ k,i≤k→k<b→¬ jS key (l.getD k default) (l.getD a default)) (u:IsUp a (i - 1) l l'):Srt (jS key) a b l':=by
 have W:=Vd key;have u1:∀ x,a≤x→x<i - 1→l'.getD x default=l.getD (x+1) default:=fun x q1 q2=>by rw [u x,if_neg (by omega),if_pos q2]
 have u2:l'.getD (i - 1) default=l.getD a default:=by
  rw [u,if_neg (by omega),if_neg (by omega),if_pos rfl]
 have u3:∀ x,i - 1<x→l'.getD x default=l.getD x default:=fun x q1=>by rw [u x,if_neg (by omega),if_neg (by omega),if_neg (by omega)]
 intro p q q1 q2 q3;rcases zE6 p (i - 1) with e1|e1|e1
 ·rw [u1 p q1 e1];rcases zE6 q (i - 1) with e2|e2|e2
  ·rw [u1 q (by omega) e2];exact h.sr _ _ (by omega) (by omega) (by omega)
  ·rw [e2,u2];exact W.asym (h1 _ (by omega) (by omega))
  ·rw [u3 q e2];exact h.sr _ _ (by omega) (by omega) (by omega)
 ·rw [e1,u2,u3 q (by omega)];exact h2 _ (by omega) q3
 ·rw [u3 p e1,u3 q (by omega)];exact h.sr _ _ (by omega) (by omega) (by omega)
theorem Mrg.down {key:Int→Int} {a m i:Nat} {l l':List Int} (h:Mrg key a m (m+1) l) (hi:a≤i∧i≤m) (h1:∀ k,a≤k→k<i→¬ jS key (l.getD m default) (l.getD k default)) (h2:∀ k,i≤k→k<m→jS key (l.getD m default) (l.getD k default)) (u:IsDown m i l l'):Srt (jS key) a (m+1) l':=by
 have W:=Vd key;have u1:∀ x,x<i→l'.getD x default=l.getD x default:=fun x q1=>by rw [u x,if_pos q1]
 have u2:l'.getD i default=l.getD m default:=by
  rw [u,if_neg (by omega),if_pos rfl]
 have u3:∀ x,i<x→x≤m→l'.getD x default=l.getD (x - 1) default:=fun x q1 q2=>by rw [u x,if_neg (by omega),if_neg (by omega),if_pos q2]
 intro p q q1 q2 q3;rcases zE6 p i with e1|e1|e1
 ·rw [u1 p e1];rcases zE6 q i with e2|e2|e2
  ·rw [u1 q e2];exact h.sl _ _ (by omega) (by omega) (by omega)
  ·rw [e2,u2];exact h1 _ (by omega) (by omega)
  ·rw [u3 q e2 (by omega)];exact h.sl _ _ (by omega) (by omega) (by omega)
 ·rw [e1,u2,u3 q (by omega) (by omega)];exact W.asym (h2 _ (by omega) (by omega))
 ·rw [u3 p e1 (by omega),u3 q (by omega) (by omega)];exact h.sl _ _ (by omega) (by omega) (by omega)
structure SrI (key:Int→Int) (a m b mid s r:Nat) (l:List Int):Prop where
 lo:(if m > mid then mid+m - b else a)≤s
 sr:s≤r
 hi:r≤(if m > mid then mid else m)
 low:(if m > mid then mid+m - b else a)<s→¬ jS key (l.getD (mid+m - s) default) (l.getD (s - 1) default)
 high:r<(if m > mid then mid else m)→jS key (l.getD (mid+m - 1 - r) default) (l.getD r default)
theorem Mrg.search {key:Int→Int} {a m b mid s:Nat} {l l2:List Int} (h:Mrg key a m b l) (hm:mid=(a+b) / 2) (hab:a<m∧m<b) (I:SrI key a m b mid s s l)
 (hr:qgU s m (mid+m - s) l l2):(a≤s∧s≤mid∧s≤m∧m≤mid+m - s∧mid+m - s≤b)∧Mrg key a s mid l2∧Mrg key mid (mid+m - s) b l2∧∀ x y,a≤x→x<mid→mid≤y→y<b→¬ jS key (l2.getD y default) (l2.getD x default):=by
 have W:=Vd key;have lo:=I.lo;have hi:=I.hi;have low:=I.low;have high:=I.high;have hs:a≤s∧s≤mid∧s≤m∧m≤mid+m - s∧mid+m - s≤b:=by
  split at lo<;>split at hi<;>omega
 have r1:∀ k,k<s→l2.getD k default=l.getD k default:=fun k hk=>by rw [hr k];unfold rot;rw [if_pos hk]
 have r2:∀ k,s≤k→k<mid→l2.getD k default=l.getD (k+(m - s)) default:=fun k h1 h2=>by rw [hr k];unfold rot;rw [if_neg (by omega),if_pos (by omega)]
 have r3:∀ k,mid≤k→k<mid+m - s→l2.getD k default=l.getD (k - (mid - s)) default:=fun k h1 h2=>by
  rw [hr k];unfold rot;rw [if_neg (by omega),if_neg (by omega),if_pos (by omega)];congr 1;omega
 have r4:∀ k,mid+m - s≤k→l2.getD k default=l.getD k default:=fun k h1=>by rw [hr k];unfold rot;rw [if_neg (by omega),if_neg (by omega),if_neg (by omega)]
 refine ⟨hs,⟨fun i j q1 q2 q3=>?_,fun i j q1 q2 q3=>?_,fun p q q1 q2 q3 q4=>?_⟩,⟨fun i j q1 q2 q3=>?_,fun i j q1 q2 q3=>?_,fun p q q1 q2 q3 q4=>?_⟩,fun x y q1 q2 q3 q4=>?_⟩
 ·rw [r1 i (by omega),r1 j q3];exact h.sl i j q1 q2 (by omega)
 ·rw [r2 i q1 (by omega),r2 j (by omega) q3];exact h.sr _ _ (by omega) (by omega) (by omega)
 ·rw [r1 p q2,r2 q q3 q4];exact h.cr _ _ q1 (by omega) (by omega) (by omega)
 ·rw [r3 i q1 (by omega),r3 j (by omega) q3];exact h.sl _ _ (by omega) (by omega) (by omega)
 ·rw [r4 i q1,r4 j (by omega)];exact h.sr _ _ (by omega) q2 q3
 ·rw [r3 p q1 q2,r4 q q3];exact h.cr _ _ (by omega) (by omega) (by omega) q4
 ·
  have le_of:∀ {i j:Nat},a≤i→i≤j→j<m→¬ jS key (l.getD j default) (l.getD i default):=fun {i j} g1 g2 g3=>by
   rcases zA7 i j with q|q
   ·exact h.sl i j g1 q g3
   ·have:i=j:=by omega
    subst this;exact W.irr _
  have le_of2:∀ {i j:Nat},m≤i→i≤j→j<b→¬ jS key (l.getD j default) (l.getD i default):=fun {i j} g1 g2 g3=>by
   rcases zA7 i j with q|q
   ·exact h.sr i j g1 q g3
   ·have:i=j:=by omega
    subst this;exact W.irr _
  rcases zA7 x s with e1|e1
  ·rw [r1 x e1];rcases zA7 y (mid+m - s) with e2|e2
   ·rw [r3 y q3 e2];exact le_of q1 (by omega) (by omega)
   ·rw [r4 y e2];have g:¬ jS key (l.getD (mid+m - s) default) (l.getD (s - 1) default):=low (by split<;>omega);have g1:¬ jS key (l.getD (s - 1) default) (l.getD x default):=le_of q1 (by omega) (by omega);have g2:¬ jS key (l.getD y default) (l.getD (mid+m - s) default):=le_of2 (by omega) e2 q4;exact W.ntr (W.ntr g1 g) g2
  ·rw [r2 x e1 q2];rcases zA7 y (mid+m - s) with e2|e2
   ·rw [r3 y q3 e2];have g:jS key (l.getD (mid+m - 1 - s) default) (l.getD s default):=high (by split<;>omega);have g1:¬ jS key (l.getD (y - (mid - s)) default) (l.getD s default):=le_of (by omega) (by omega) (by omega);have g2:¬ jS key (l.getD (mid+m - 1 - s) default) (l.getD (x+(m - s)) default):=le_of2 (by omega) (by omega) (by omega);exact W.ntr (W.ntr g2 (W.asym g)) g1
   ·rw [r4 y e2];exact le_of2 (by omega) (by omega) q4
end Go.Proofs.Xx
namespace Go.Proofs.Xx
section
variable {α:Type} [Inhabited α] {lt:α→α→Prop}
theorem Heap.pop {f i:Nat} {l:List α} (h:Heap lt f 0 (i+1) l) (hl:f+i<l.length):Heap lt f 1 i (swp l f (f+i)):=by
 intro k hk;have g:=swp_get (l:=l) (i:=f) (j:=f+i) (by omega) (by omega);have hh:=h k (zB0 _);refine ⟨fun q=>?_,fun q=>?_⟩
 ·rw [g,g,if_neg (by omega),if_neg (by omega),if_neg (by omega),if_neg (by omega)];exact hh.1 (by omega)
 ·rw [g,g,if_neg (by omega),if_neg (by omega),if_neg (by omega),if_neg (by omega)];exact hh.2 (by omega)
theorem HeapI.done {f n b:Nat} {l:List α} (h:HeapI lt f 0 n l) (hb:b=f+n):Srt lt f b l:=fun i j h1 h2 h3=>by
 have:=h.2 (i - f) (j - f) (by omega) (zB0 _) (by omega);rwa [show f+(j - f)=j by omega,show f+(i - f)=i by omega] at this
structure PartI (lt:α→α→Prop) (a b:Nat) (x:α) (i j:Nat) (m:List α):Prop where
 bi:a<i∧i≤j+1∧j<b
 lo:∀ k,a<k→k<i→lt (m.getD k default) x
 hi:∀ k,j<k→k<b→¬ lt (m.getD k default) x
 x:m.getD a default=x
theorem PartI.swap {a b:Nat} {x:α} {i j:Nat} {m:List α} (h:PartI lt a b x i j m) (hb:b≤m.length) (hij:i≤j) (h1:¬ lt (m.getD i default) x) (h2:lt (m.getD j default) x):i<j∧PartI lt a b x (i+1) (j - 1) (swp m i j):=by
 have hbi:=h.bi;have hne:i≠j:=fun q=>by subst q;exact h1 h2
 have g:=swp_get (l:=m) (i:=i) (j:=j) (by omega) (by omega);refine ⟨by omega,⟨by omega,fun k q1 q2=>?_,fun k q1 q2=>?_,?_⟩⟩
 ·rw [g,if_neg (by omega)];split
  ·exact h2
  ·exact h.lo k q1 (by omega)
 ·rw [g];split
  ·exact h1
  ·rw [if_neg (by omega)];exact h.hi k (by omega) q2
 ·rw [g,if_neg (by omega),if_neg (by omega)];exact h.x
theorem PartI.done (W:WOrd lt) {a b:Nat} {x:α} {i j:Nat} {m:List α} (h:PartI lt a b x i j m) (hb:b≤m.length) (hij:j<i):Parted lt a b j (swp m j a):=by
 have hbi:=h.bi;have g:=swp_get (l:=m) (i:=j) (j:=a) (by omega) (by omega);have gj:(swp m j a).getD j default=x:=by
  rw [g];split
  ·rename_i e;rw [e];exact h.x
  ·rw [if_pos rfl];exact h.x
 refine ⟨fun k q1 q2=>?_,fun k q1 q2=>?_⟩
 ·rw [gj,g];split
  ·exact h.lo j (by omega) (by omega)
  ·rw [if_neg (by omega)];exact h.lo k (by omega) (by omega)
 ·rw [gj,g,if_neg (by omega),if_neg (by omega)];exact h.hi k q1 q2
structure EqI (lt:α→α→Prop) (a b:Nat) (x:α) (i j:Nat) (m:List α):Prop where
 bi:a<i∧i≤j+1∧j<b
 lo:∀ k,a<k→k<i→¬ lt x (m.getD k default)
 hi:∀ k,j<k→k<b→lt x (m.getD k default)
 x:m.getD a default=x
theorem EqI.swap {a b:Nat} {x:α} {i j:Nat} {m:List α} (h:EqI lt a b x i j m) (hb:b≤m.length) (hij:i≤j) (h1:lt x (m.getD i default)) (h2:¬ lt x (m.getD j default)):i<j∧EqI lt a b x (i+1) (j - 1) (swp m i j):=by
 have hbi:=h.bi;have hne:i≠j:=fun q=>by subst q;exact h2 h1
 have g:=swp_get (l:=m) (i:=i) (j:=j) (by omega) (by omega);refine ⟨by omega,⟨by omega,fun k q1 q2=>?_,fun k q1 q2=>?_,?_⟩⟩
 ·rw [g,if_neg (by omega)];split
  ·exact h2
  ·exact h.lo k q1 (by omega)
 ·rw [g];split
  ·exact h1
  ·rw [if_neg (by omega)];exact h.hi k (by omega) q2
 ·rw [g,if_neg (by omega),if_neg (by omega)];exact h.x
theorem DoneI.low {a b a' b':Nat} {l:List α} (h:DoneI lt a b a' b' l) (h1:a<a') (h2:b'≤b):∀ k,a'≤k→k<b'→¬ lt (l.getD k default) (l.getD (a' - 1) default):=fun k q1 q2=>h (a' - 1) k (by omega) (by omega) (by omega) (.inl (by omega))
end
def lenTab:List UInt8:=[0,1] ++ List.replicate 2 2 ++ List.replicate 4 3 ++ List.replicate 8 4 ++ List.replicate 16 5 ++ List.replicate 32 6 ++ List.replicate 64 7 ++ List.replicate 128 8
theorem yx:lenTab.length=256:=by decide +kernel
theorem qN (j:Nat):((j:Int) - 1).toNat=j - 1:=by omega
theorem qR (j:Nat):((j:Int)+1).toNat=j+1:=by omega
theorem qW (i j:Nat):((i:Int)+(j:Int)).toNat=i+j:=by omega
variable [Flag]
theorem qeq {h0:AH} (w:WfH h0) (n:Nat) (hn:n<256):Fn Tryz.prog Xh 146 [.int .u64 n] h0 (fun v h'=>v = .int .i64 ((lenTab.getD n 0).toNat:Int)∧Hs h0 h' []):=by
 have S:=Hs.start w;have hl:=yx;have hb:(lenTab.getD n 0).toNat<256:=UInt8.toNat_lt _;refine qL (by first|rfl) Tryz.func146 rfl rfl ?_;all_goals (repeat' (first|refine qg ?_|refine qh rfl ?_|refine qi ?_|(refine qc 0 ?_;refine mv ?_;refine qf ?_)|(refine qc 1 ?_;refine mv ?_;(refine cF ?_)<;>(refine qf ?_))|(refine qc 4 ?_;refine mv ?_;(refine cF ?_)<;>(refine qf ?_))|(refine qc 7 ?_;refine mv ?_;(refine cF ?_)<;>(refine qf ?_))))
 refine qc 10 ?_;refine mv ?_;refine mv ?_;refine cU ?_;refine ti (l:=lenTab) ?_;rw [zA0];(refine cI ?_);refine ad ?_;refine mv ?_;refine qf ?_;all_goals (repeat' (fail))
 refine qo ⟨_,rfl,?_⟩;exact ⟨by show Value.int .i64 (0+_)=_;rw [Int.zero_add],S⟩
theorem qdq {h0 h:AH} {rs:List Rs} {bs:Nat} {z:Int} (S:Hs h0 h (.blk bs [.int .u64 z] 228 :: rs)) (hz:0≤z∧z≤18446744073709551615):Fn Tryz.prog Xh 195 [.pointer (some ⟨bs,0,none⟩)] h (fun r h'=>∃ y,r = .int .u64 y∧(0≤y∧y≤18446744073709551615)∧Hs h0 h' (.blk bs [.int .u64 y] 228 :: rs)):=by
 refine qL (by first|rfl) Tryz.func195 rfl rfl ?_;all_goals (repeat' (first|refine qg ?_|(refine qc 0 ?_;refine mv ?_;refine qf ?_)|(refine qM 1 ?_;refine mv ?_;refine vl ?_;refine lB S rfl rfl ?_;refine mv ?_;refine vl ?_;refine lB S rfl rfl ?_;(first|(refine aW ?_;intro r1 hr1 hr2));(first|(refine aW ?_;intro r1 hr1 hr2));refine vl ?_;(first|(refine sB S rfl rfl ?_;clear S;intro h S));refine qf ?_)|(refine qM 2 ?_;refine mv ?_;refine vl ?_;refine lB S rfl rfl ?_;refine mv ?_;refine vl ?_;refine lB S rfl rfl ?_;refine sR ?_;(first|(refine aW ?_;intro r1 hr1 hr2));refine vl ?_;(first|(refine sB S rfl rfl ?_;clear S;intro h S));refine qf ?_)|(refine qM 3 ?_;refine mv ?_;refine vl ?_;refine lB S rfl rfl ?_;refine mv ?_;refine vl ?_;refine lB S rfl rfl ?_;(first|(refine aW ?_;intro r1 hr1 hr2));(first|(refine aW ?_;intro r1 hr1 hr2));refine vl ?_;(first|(refine sB S rfl rfl ?_;clear S;intro h S));refine qf ?_)|(refine qc 4 ?_;refine mv ?_;refine vl ?_;refine lB S rfl rfl ?_;refine mv ?_;refine qf ?_)))
 refine qo ⟨_,rfl,?_⟩;exact ⟨_,rfl,by omega,S⟩
end Go.Proofs.Xx
namespace Go.Proofs.Xx
open Go Go.Proofs
abbrev FV:=Nat×Array Value
theorem qdf {h0:AH} (w:WfH h0) (v:Value) (a:List Int) (r:zC h0 v 1 eI a) (hl:a.length≤1000000):Fn Tryz.prog Xh 15 [v] h0 (fun u h'=>Hs h0 h' [.sl u 3 1 eI a]):=by
 have S:=Hs.start w;have r0:=r;rcases r with ⟨rfl,h1,-⟩|⟨b,o,cap,cc,e,s,q,rfl,h1,h2⟩
 ·obtain rfl:a=[]:=zE8.1 h1;refine qL (by first|rfl) Tryz.func15 rfl rfl ?_;all_goals (repeat' (first|refine qg ?_|refine qh rfl ?_|(refine qc 0 ?_;refine mv ?_;refine qf ?_)|(refine qc 1 ?_;refine mv ?_;refine vl ?_;refine qf ?_)|(refine qc 2 ?_;refine mv ?_;refine qf ?_)))
  refine qo ⟨_,rfl,?_⟩;exact S.Xg
 ·refine qL (by first|rfl) Tryz.func15 rfl rfl ?_;all_goals (repeat' (first|refine qg ?_|refine qh rfl ?_|refine qi ?_|(refine qc 0 ?_;refine mv ?_;refine qf ?_)|(refine qc 1 ?_;refine mv ?_;refine vl ?_;refine qf ?_)|(refine qc 3 ?_;skip)))
  refine nw 1 eI S ?_;clear S;intro u h S;(refine mv ?_);refine apd S rfl rfl (r0.ext w S.ext) ?_;clear S;intro v' h S;(refine mv ?_;refine qf ?_);all_goals (repeat' (fail))
  refine qo ⟨_,rfl,?_⟩;exact S
def qkZ (x y:Int):Int:=if x<y then -1 else if y<x then 1 else 0
abbrev ltI (x y:Int):Prop:=x<y
def ltL:List Int→List Int→Prop
 | [],[]=>False
 | [],_ :: _=>True
 | _ :: _,[]=>False
 | a :: l,b :: m=>a<b∨(a=b∧ltL l m)
def CmpR (d:Int) (a b:List Int):Prop:=(d<0∧ltL a b)∨(d=0∧a=b)∨(0<d∧ltL b a)
theorem drop_cons {l:List Int} {i:Nat} (h:i<l.length):l.drop i=l.getD i default :: l.drop (i+1):=by
 rw [zG7 h];simp [List.getD,h]
theorem CmpR.step {a b:List Int} {i:Nat} (hi:∀ d,CmpR d (a.drop i) (b.drop i)→CmpR d a b) (ha:i<a.length) (hb:i<b.length) (e:a.getD i default=b.getD i default):∀ d,CmpR d (a.drop (i+1)) (b.drop (i+1))→CmpR d a b:=fun d k=>hi d (by
 rw [drop_cons ha,drop_cons hb,e];rcases k with ⟨k1,k2⟩|⟨k1,k2⟩|⟨k1,k2⟩
 ·exact .inl ⟨k1,.inr ⟨rfl,k2⟩⟩
 ·exact .inr (.inl ⟨k1,by rw [k2]⟩)
 ·exact .inr (.inr ⟨k1,.inr ⟨rfl,k2⟩⟩))
theorem VP {h0:AH} (w:WfH h0) (v u:Value) (a b:List Int) (ra:zC h0 v 1 eI a) (rb:zC h0 u 1 eI b) (ha:a.length≤1000000):Fn Tryz.prog Xh 26 [v,u] h0 (fun r h'=>qZ r (a=b)∧Hs h0 h' []):=by
 have S:=Hs.start w;refine qL (by first|rfl) Tryz.func26 rfl rfl ?_;all_goals (repeat' (first|refine qg ?_|refine qh rfl ?_|refine qi ?_|(refine qc 0 ?_;refine mv ?_;refine qf ?_)|(refine qc 1 ?_;refine mv ?_;refine jf S ?_;refine mv ?_;refine jf S ?_;(first|(refine cS ?_ ?_<;>intro hc))<;>(refine qf ?_))|(refine qc 2 ?_;refine mv ?_;refine qf ?_)))
 ·refine qo ⟨_,rfl,?_⟩;exact ⟨.inr ⟨rfl,fun q=>by subst q;exact hc rfl⟩,S⟩
 have hl:a.length=b.length:=by omega
 all_goals (repeat' (first|refine qj ?_|(refine qc 3 ?_;refine mv ?_;refine jf S ?_;refine mv ?_;refine qf ?_)))
 refine qH (σ:=Nat) (fun i h'=>Hs h0 h' []∧i≤a.length∧∀ j,j<i→a.getD j default=b.getD j default) (fun i=>a.length - i) (fun i=>[(0,v),(1,u),(12,.int .i64 a.length),(13,.int .i64 i)]) 0 qx ?_ ?_
 ·exact ⟨S,zB0 _,fun j hj=>absurd hj (zB7 _)⟩
 clear S;rintro i h ⟨S,h1,h2⟩;all_goals (repeat' (first|refine qg ?_|refine qh rfl ?_|refine qi ?_|refine qC ?_|refine qj ?_|(refine qc 4 ?_;(first|(refine cS ?_ ?_<;>intro hc))<;>(refine qf ?_))|(refine qc 5 ?_;refine mv ?_;refine mv ?_;refine qf ?_)|(refine qM 6 ?_;refine mv ?_;refine mv ?_;refine jF S ?_;refine jk S ?_;refine mv ?_;refine mv ?_;refine jF S ?_;refine jk S ?_;(first|(refine cS ?_ ?_<;>intro hc))<;>(refine qf ?_))|(refine qc 7 ?_;refine mv ?_;refine qf ?_)))
 all_goals (try simp only [zA0] at *)
 ·refine qo ⟨_,rfl,?_⟩;exact ⟨.inr ⟨rfl,fun q=>by subst q;exact hc rfl⟩,S⟩
 ·all_goals (repeat' (first|(refine qc 8 ?_;refine ad ?_;refine mv ?_;refine qf ?_)))
  refine ⟨i+1,?_,?_,qx⟩
  ·show a.length - (i+1)<a.length - i;omega
  ·exact ⟨S,by omega,Qj h2 (by omega)⟩
 ·all_goals (repeat' (first|(refine qc 9 ?_;refine mv ?_;refine qf ?_)))
  refine qo ⟨_,rfl,?_⟩;refine ⟨.inl ⟨rfl,List.ext_getElem hl fun j k1 k2=>?_⟩,S⟩;have:=h2 j (by omega);rw [zA2,zA2,zA4 k1,zA4 k2] at this;exact this
end Go.Proofs.Xx
namespace Go.Proofs.Xx
structure Met (d:Int→Int→Int):Prop where
 nn:∀ a b,0≤d a b
 z:∀ a,d a a=0
 sym:∀ a b,d a b=d b a
 tri:∀ a b c,d a c≤d a b+d b c
def Zr (d:Int→Int→Int):Int→List Int→Int→Int
 | a,[],b=>d a b
 | a,t :: l,b=>d a t+Zr d t l b
theorem Pm {d:Int→Int→Int}:∀ (l:List Int) (a t:Int) (r:List Int) (b:Int),Zr d a (l ++ t :: r) b=Zr d a l t+Zr d t r b
 | [],a,t,r,b=>rfl
 | x :: l,a,t,r,b=>by
  rw [zC6,Zr,Zr,Pm l x t r b];omega
theorem qbL {d:Int→Int→Int} (m:Met d):∀ (l:List Int) (a b:Int),d a b≤Zr d a l b
 | [],a,b=>Int.le_refl _
 | x :: l,a,b=>by
  have h1:=qbL m l x b;have h2:=m.tri a x b;rw [Zr];omega
theorem qfC {d:Int→Int→Int} (m:Met d) (l:List Int) (a b:Int):0≤Zr d a l b:=by
 have h1:=qbL m l a b;have h2:=m.nn a b;omega
def vI (d:Int→Int→Int) (l:List Int):Int:=Zr d (-1) l (-1)
def qh8 (stops:List Int):Nat→List Int→List (List Int)
 | 0,done=>[done]
 | n+1,done=>stops.flatMap fun t=>if t∈done then [] else qh8 stops n (done ++ [t])
abbrev qao:=List Int×Int
def qgZ (L:List Int→Int) (s:qao) (c:List Int):qao:=if s.2<0∨L c<s.2 then (c,L c) else s
inductive Cov (d:Int→Int→Int):List Int→List Int→Int→Prop where
 | nil {J:List Int}:Cov d J [] 0
 | snoc {J R:List Int} {c x p:Int} (h:Cov d J R c) (hp:p∈J∨p∈R):Cov d J (R ++ [x]) (c+d x p)
theorem Cov.mono {d:Int→Int→Int} {J J' R:List Int} {c:Int} (h:Cov d J R c) (hs:∀ x∈J,x∈J'):Cov d J' R c:=by
 induction h with
 | nil=>exact .nil
 | snoc _ hp ih=>exact .snoc ih (hp.imp (hs _) id)
theorem Cov.shift {d:Int→Int→Int} {J J' R:List Int} {c p v:Int} (h:Cov d (p :: J) R c) (hv:v∈J') (hs:∀ x∈J,x∈J'):Cov d J' (p :: R) (c+d p v):=by
 generalize hJ:p :: J=K at h
 induction h with
 | nil =>
  have:=Cov.snoc (d:=d) (J:=J') (R:=[]) (c:=0) (x:=p) (p:=v) .nil (.inl hv);simpa using this
 | @snoc R c x q h hq ih =>
  subst hJ;have:=Cov.snoc (x:=x) (p:=q) ih (by
   rcases hq with hq|hq
   ·rcases zE7.1 hq with rfl|hq
    ·exact .inr (by simp)
    ·exact .inl (hs _ hq)
   ·exact .inr (List.mem_cons_of_mem _ hq))
  have e:c+d p v+d x q=c+d x q+d p v:=by omega
  rw [e] at this;exact this
theorem Cov.qjg {d:Int→Int→Int} (m:Met d) {J:List Int} {w:Int} {R:List Int} {c:Int} (h:Cov d J R c):∀ {v:Int},v∈R→(∀ x∈R,∀ y∈J,w≤d x y)→R.Nodup →
 ∃ R' c',R'.Perm (R.erase v)∧Cov d (v :: J) R' c'∧c'+w≤c:=by
 induction h with
 | nil=>intro v hv;cases hv
 | @snoc R c x p h hp ih =>
  intro v hv hw hnd;rw [zG4] at hnd;obtain ⟨nd,-,ndx⟩:=hnd;have hxR:x ∉ R:=fun q=>ndx x q x (by simp) rfl;have hw0:∀ y∈R,∀ z∈J,w≤d y z:=fun y hy=>hw y (List.mem_append_left _ hy);by_cases e:v=x
  ·subst e;have eR:(R ++ [v]).erase v=R:=by rw [List.erase_append_right _ hxR];simp
   rw [eR];by_cases hpR:p∈R
   ·obtain ⟨R',c',k1,k2,k3⟩:=ih hpR hw0 nd;refine ⟨p :: R',c'+d p v,?_,k2.shift (by simp) fun y hy=>List.mem_cons_of_mem _ hy,?_⟩
    ·exact (k1.cons p).trans (List.perm_cons_erase hpR).symm
    ·have:=m.sym v p;omega
   ·have hpJ:p∈J:=hp.resolve_right hpR;have:=hw v (by simp) p hpJ;exact ⟨R,c,.refl _,h.mono fun y hy=>List.mem_cons_of_mem _ hy,by omega⟩
  ·have hvR:v∈R:=by
    rcases zB8.1 hv with q|q
    ·exact q
    ·exact absurd (zB5.1 q) e
   obtain ⟨R',c',k1,k2,k3⟩:=ih hvR hw0 nd;refine ⟨R' ++ [x],c'+d x p,?_,k2.snoc ?_,by omega⟩
   ·rw [List.erase_append_left _ hvR];exact k1.append_right [x]
   ·by_cases q:p=v
    ·exact .inl (by simp [q])
    ·rcases hp with hp|hp
     ·exact .inl (List.mem_cons_of_mem _ hp)
     ·exact .inr (k1.mem_iff.2 ((List.mem_erase_of_ne q).2 hp))
inductive Prim (d:Int→Int→Int):List Int→List Int→Int→Prop where
 | nil {J:List Int}:Prim d J [] 0
 | step {J L:List Int} {c v u:Int} (hv:v∈L) (hu:u∈J) (hm:∀ x∈L,∀ y∈J,d v u≤d x y) (h:Prim d (v :: J) (L.erase v) c):Prim d J L (d v u+c)
theorem Cov.qiD {d:Int→Int→Int} {J R:List Int} {c:Int} (h:Cov d J R c) (hR:R=[]):c=0:=by
 cases h with
 | nil=>rfl
 | snoc _ _=>simp at hR
theorem Prim.le {d:Int→Int→Int} (m:Met d) {J L:List Int} {c:Int} (h:Prim d J L c):∀ {R:List Int} {e:Int},R.Perm L→L.Nodup→Cov d J R e→c≤e:=by
 induction h with
 | nil=>intro R e hp _ k;rw [k.qiD (List.perm_nil.1 hp)];exact Int.le_refl _
 | @step J L c v u hv hu hm h ih =>
  intro R e hp nd k;obtain ⟨R',e',k1,k2,k3⟩:=Cov.qjg m k (hp.mem_iff.2 hv) (fun x hx y hy=>hm x (hp.mem_iff.1 hx) y hy) (hp.symm.nodup nd);have:=ih (k1.trans (hp.erase v)) (nd.erase v) k2;omega
theorem Cov.way {d:Int→Int→Int} (m:Met d) (a b:Int):∀ (R:List Int),∃ e,Cov d [a] R e∧e≤Zr d a R b:=fun R=>by
 have key:∀ (n:Nat) (R:List Int),R.length=n→∀ b,∃ e,Cov d [a] R e∧e+d (R.getLast?.getD a) b≤Zr d a R b:=by
  intro n;induction n with
  | zero=>intro R h b;rw [zE8.1 h];exact ⟨0,.nil,by simp [Zr]⟩
  | succ n ih =>
   intro R h b;rcases List.eq_nil_or_concat R with rfl|⟨R',x,rfl⟩
   ·cases h
   ·rw [List.concat_eq_append] at h ⊢;obtain ⟨e,k1,k2⟩:=ih R' (by simpa using h) x;refine ⟨e+d x (R'.getLast?.getD a),k1.snoc ?_,?_⟩
    ·cases hq:R'.getLast? with
     | none=>exact .inl (by simp)
     | some y=>exact .inr (List.mem_of_getLast? hq)
    ·rw [Pm,m.sym x];simp [Zr]
     omega
 obtain ⟨e,k1,k2⟩:=key _ R rfl b;have:=m.nn (R.getLast?.getD a) b;exact ⟨e,k1,by omega⟩
theorem G7 {d:Int→Int→Int} (m:Met d) (a:Int):∀ (l:List Int) (v u b:Int),u=a∨u∈l→∃ l',l'.Perm (v :: l)∧Zr d a l' b≤Zr d a l b+2*d v u
 | l,v,u,b,h=>by
  by_cases e:u=a
  ·subst e;refine ⟨v :: l,.refl _,?_⟩;rw [Zr];have h1:=m.sym v u;cases l with
   | nil=>rw [Zr,Zr];have:=m.tri v u b;omega
   | cons t l=>rw [Zr,Zr];have:=m.tri v u t;omega
  ·have hu:u∈l:=h.resolve_left e;cases l with
   | nil=>cases hu
   | cons t l =>
    obtain ⟨l',k1,k2⟩:=G7 m t l v u b (by rcases zE7.1 hu with q|q;exact .inl q;exact .inr q);refine ⟨t :: l',(k1.cons t).trans (List.Perm.swap v t l),?_⟩;rw [Zr,Zr];omega
theorem Prim.vI {d:Int→Int→Int} (m:Met d) (a b:Int) {J L:List Int} {c:Int} (h:Prim d J L c):∀ {K:List Int},(∀ x∈J,x=a∨x∈K)→∃ l,l.Perm (L ++ K)∧Zr d a l b≤Zr d a K b+2*c:=by
 induction h with
 | nil=>intro K _;exact ⟨K,.refl _,by omega⟩
 | @step J L c v u hv hu hm h ih =>
  intro K hK;obtain ⟨K',k1,k2⟩:=G7 m a K v u b (hK u hu);obtain ⟨l,k3,k4⟩:=ih (K:=K') fun x hx=>by
   rcases zE7.1 hx with rfl|hx
   ·exact .inr (k1.mem_iff.2 (by simp))
   ·exact (hK x hx).imp id fun q=>k1.mem_iff.2 (List.mem_cons_of_mem _ q)
  refine ⟨l,k3.trans ?_,by omega⟩;have p1:(L.erase v ++ K').Perm (L.erase v ++ (v :: K)):=k1.append_left _;have p2:(L.erase v ++ (v :: K)).Perm (v :: (L.erase v ++ K)):=List.perm_middle;have p3:(v :: (L.erase v ++ K)).Perm (L ++ K):=by
   rw [← zC6];exact (List.perm_cons_erase hv).symm.append_right K
  exact p1.trans (p2.trans p3)
end Go.Proofs.Xx
namespace Go.Proofs.Xx
def qkR (a b:List Int):Prop:=∃ pre x y s t,a=pre ++ x :: s∧b=pre ++ y :: t∧x<y
end Go.Proofs.Xx
namespace Go.Proofs.Xx
def qi8 (l:List Int):Int:=l.getLast?.getD (-1)
def qkz (d:Int→Int→Int) (l:List Int):Int:=vI d l - d (qi8 l) (-1)
def qkK (stops:List Int) (n:Nat) (done:List Int) (i:Nat):List (List Int):=(stops.take i).flatMap fun t=>if t∈done then [] else qh8 stops n (done ++ [t])
section
variable {P:Program} {X:Extern} {ops:Array Oper} {os:List Oper} {o:Oper} {sz:Nat} {h h0:AH} {rs:List Rs} {R:Ks→AH→Prop}
inductive HSteps (P:Program) (ops:Array Oper) (sz:Nat) (h:AH):Ks→List Nat→Ks→Prop where
 | nil {L:Ks}:HSteps P ops sz h L [] L
 | cons {L L1 L':Ks} {k:Nat} {ks:List Nat} {ok:Oper} {v:Value} {h':AH} (hok:ops[k]? = some ok) (hg:qp ops L.tree ok.guard=some true) (ha:ja P L.tree h ok.op=some (.val v h')) (hd:qJ sz L ok.dst v=some L1) (r:HSteps P ops sz h L1 ks L'):HSteps P ops sz h L (k :: ks) L'
theorem HSteps.mv {L L1 L':Ks} {k:Nat} {ks:List Nat} {ok:Oper} {v:Value} {x:Operand} (hok:ops[k]? = some ok) (hm:ok.op = .move x) (hx:kA L x=some v) (hg:qp ops L.tree ok.guard=some true) (hd:qJ sz L ok.dst v=some L1) (r:HSteps P ops sz h L1 ks L'):HSteps P ops sz h L (k :: ks) L' :=
 .cons (h':=h) hok hg (by rw [hm];simp only [ja,qI hx,qU]) hd r
theorem HSteps.cU {L L1 L':Ks} {k:Nat} {ks:List Nat} {ok:Oper} {x:Operand} {s d:TypeId} {k1 k2:IntKind} {a:Int} (hb:0≤a∧a≤255) (hok:ops[k]? = some ok) (hm:ok.op = .convert s d x) (hx:kA L x=some (.int k1 a)) (hs:P.underlying s=some (.int k2)) (hd':P.underlying d=some (.int .u8)) (hg:qp ops L.tree ok.guard=some true) (hd:qJ sz L ok.dst (.int .u8 a)=some L1) (r:HSteps P ops sz h L1 ks L'):HSteps P ops sz h L (k :: ks) L' :=
 .cons (h':=h) hok hg (by rw [hm];simp only [ja,qI hx,jV,hs,hd',wrap_u8 hb]) hd r
theorem HSteps.run {L L':Ks} {ks:List Nat} (s:HSteps P ops sz h L ks L'):∀ {t:Tr Value},Kn t L→Kn (ks.foldl (wC P ops sz h) t) L':=by
 induction s with
 | nil=>intro t hk;exact hk
 | @cons _ _ _ k _ _ _ _ hok hg ha hd r ih =>
  intro t hk;obtain ⟨t1,e1,k1⟩:=Ya hk hd;rw [List.foldl_cons];have:wC P ops sz h t k=t1:=by
   unfold wC;simp only [hok,Qs hk.tle hg,yU hk.tle ha,e1]
  rw [this];exact ih k1
theorem HintOk.many {L L':Ks} {j:Nat} {ks:List Nat} {o:Oper} {x:Option Nat} {c:List Value} {e:TypeId} (hp:Ky ops (masks ops.toList []) j=ks) (ho:ops[j]? = some o) (s:HSteps P ops sz h L ks L') (hf:Qq P L'.tree o.op=some (x,c,e)):HintOk P ops sz L h j c e:=fun t hk=>by
 unfold Ye;rw [ho,hp];simp only [Yj (s.run hk).tle hf]
end
def qhY (L:List (Value×List Int)) (h:AH) (fp:Fp):Prop:=∀ x∈L,(Rs.rd x.1 1 eI x.2).ok h fp
abbrev qgz (L:List (Value×List Int)):Rs:=.any (qhY L)
class InP (L:List (Value×List Int)) (v:Value) (l:outParam (List Int)):Prop where
 mem:(v,l)∈L
theorem qiA {h:AH} {fp:Fp} {v:Value} {l:List Int} (q:(Rs.rd v 1 eI l).ok h fp):zC h v 1 eI l:=by
 rcases q with ⟨q1,q2⟩|⟨b,o,cap,cc,e,s,r,q1,q2,q3,q4⟩
 ·exact .inl ⟨q1,by rw [q2];rfl,by rw [q2];rfl⟩
 ·exact .inr ⟨b,o,cap,cc,e,s,r,q1,q2,q4⟩
instance HasR.pool {L:List (Value×List Int)} {v:Value} {l:List Int} {rs:List Rs} [i:InP L v l]:HasR (qgz L :: rs) v Int 1 eI l:=⟨fun S=>by
 obtain ⟨fp,k⟩:=S.qe5 .here;exact qiA (k _ i.mem)⟩
def cvW (b9 b2 b5 b4 b10:Nat):Value:=.func (.func 87) #[] #[.pointer (some ⟨b9,0,none⟩),.pointer (some ⟨b2,0,none⟩),.pointer (some ⟨b5,0,none⟩),.pointer (some ⟨b4,0,none⟩),.pointer (some ⟨b10,0,none⟩)]
abbrev rtR (v:PbV) (b9 b2 b5 b4 b10:Nat) (vs:Value) (stops:List Int) (L:List (Value×List Int)) (vw:Value) (al:Int):List Rs :=
 [qgz L,.blk b4 [vw] 25,.blk b5 [.int .i64 al] 3,.sl vs 3 1 eI stops,.blk b9 [vs] 25,.blk b2 v.cs 28,.blk b10 [cvW b9 b2 b5 b4 b10] 126]
noncomputable def qkE (p:Pb) (q:List Int):qao:=(qh8 (srv (zS p q)) (srv (zS p q)).length []).foldl (qgZ (vI (stp p.tabs))) ([],-1)
theorem PartOk.ql {p:Pb} {q:List Int} (hp:PO p) (h:PartOk p q):q.length≤64:=by
 have:=h.len;have:p.us.length≤64:=hp.rl.l64;omega
theorem PartOk.qm {p:Pb} {q:List Int} (hl:p.tabs.length≤1000) (h:PartOk p q):∀ x∈q,x≤9223372036854775807:=fun x hx=>by
 have h1:=h.rng x hx;have h2:=zQ p.tabs p.tabs.length;omega
theorem qdL {p:Pb} {q:List Int}:∀ t∈srv (zS p q),0≤t∧t<p.tabs.length:=fun t ht=>by
 obtain ⟨k,h1,rfl,-⟩:=qbE.1 ht;rw [Zk] at h1;omega
structure Chg (h h':AH) (b:Nat) (o:Qz):Prop where
 at_:h'.get b=some o
 old:∀ j,j≠b→j<h.next→h'.get j=h.get j
 next:h.next≤h'.next
 wf:WfH h'
theorem Chg.trans {h h' h'':AH} {b:Nat} {o o':Qz} (c:Chg h h' b o) (d:Chg h' h'' b o'):Chg h h'' b o' :=
 ⟨d.at_,fun j hj hn=>(d.old j hj (zE3 hn c.next)).trans (c.old j hj hn),zD0 c.next d.next,d.wf⟩
theorem qaG {c:List Value} {o:Nat} (h:o≤c.length):splice c o []=c:=by simp [splice]
section
variable {P:Program} {X:Extern} {sz:Nat} {L L':Ks} {h:AH} {ops:Array Oper} {os:List Oper} {o:Oper} {R:Ks→AH→Prop}
theorem rwa {x y:Operand} {ts tx e e2:TypeId} {zc new cc:List Value} {by_ b o' n cap m z:Nat} {slk:Option Nat} {u:Value} {d:Tmp} (hb:h.get b=some (.cells cc e2 slk false)) (wf:WfH h) (hr:Rd h u z m new)
 (w:∀ h',Chg h h' b (.cells (splice cc (o'+n*z) new) e2 slk false)→KO P X sz ops os (L.put d (.slice (some ⟨b,o',none⟩) (n+m) cap)) h' R)
 (ho:o.op = .call { callee:=.builtin .append,args:=#[x,y],argTypes:=#[ts,tx] }:=by exact rfl) (hg:qp ops L.tree o.guard=some true:=by exact rfl) (hx:kA L x=some (.slice (some ⟨b,o',none⟩) n cap):=by exact rfl) (hy:kA L y=some u:=by exact rfl)
 (hs:qV P ts=some e:=by exact rfl) (hz:zg P e=some zc:=by exact rfl) (hzl:zc.length=z:=by exact rfl) (hby:QI P e=some (by_+1):=by exact rfl) (hxs:P.underlying tx=some (.slice e):=by exact rfl)
 (hc:n+m≤cap:=by omega) (hcc:o'+cap*z≤cc.length:=by assumption) (h1:new.all one? = true:=by assumption) (hsz:(m+1)*(by_+1)≤140737488355328:=by omega) (hdst:o.dst=some d:=by exact rfl) (hds:Nat.blt d sz=true:=by exact rfl):KO P X sz ops (o :: os) L h R:=by
 subst hzl;have hlen:=hr.length;have hfit:o'+n*zc.length+new.length≤cc.length:=by
  rw [hlen,zF7,← zE0];exact zD0 (Nat.add_le_add_left (zD3 _ hc) _) hcc
 have k2:Nat.beq new.length (m*zc.length)=true:=by rw [hlen];simp
 have hsrc:Jn zc.length u h=some (m,new):=hr.source;have go:∀ h',Qh P [ts,tx] (.slice (some ⟨b,o',none⟩) n cap) u h=some (.slice (some ⟨b,o',none⟩) (n+m) cap,h')→Chg h h' b (.cells (splice cc (o'+n*zc.length) new) e2 slk false)→KO P X sz ops (o :: os) L h R:=fun h' q1 q2=>by
  refine zJ (v:=.slice (some ⟨b,o',none⟩) (n+m) cap) (h':=h') hg ?_ (by simp only [qJ,hdst,hds]) (w h' q2);rw [ho];simp [ja,qI hx,qI hy,jO,jK,q1,Qb]
 cases m with
 | zero =>
  have hn:new=[]:=zE8.1 (by omega);subst hn;refine go h ?_ ⟨by rw [qaG (by simp at hfit;omega)];exact hb,fun _ _ _=>rfl,zA3 _,wf⟩;simp only [Qh,hs,hxs,hz,hby,hsrc,zB3 hsz,h1,k2,zF9,hb,zB3 (show n≤cap from hc),Nat.add_zero]
 | succ m =>
  refine go (h.put b (.cells (splice cc (o'+n*zc.length) new) e2 slk false)) ?_ ⟨by rw [AH.get_put,if_pos rfl],fun j hj _=>by rw [AH.get_put,if_neg hj],zA3 _,wf.put (wf.lt hb) _⟩;simp only [Qh,hs,hxs,hz,hby,hsrc,zB3 hsz,h1,k2,zF9,hb,zB3 hc,putCells,zB3 hfit]
end
def Bst (d:Int→Int→Int) (L J:List Int) (i k best:Nat) (least:Int):Prop :=
 (i=0∧k=0∧best=0∧least = -1)∨(best<L.length∧0≤least∧(∃ u∈J,least=d (L.getD best default) u)∧(∀ j,j<i→∀ y∈J,least≤d (L.getD j default) y)∧∀ m,m<k→least≤d (L.getD i default) (J.getD m default))
theorem Bst.new {d:Int→Int→Int} (m:Met d) {L J:List Int} {i k best:Nat} {least:Int} (h:Bst d L J i k best least) (hi:i<L.length) (hk:k<J.length) (hx:least<0∨d (L.getD i default) (J.getD k default)<least) :
 Bst d L J i (k+1) i (d (L.getD i default) (J.getD k default)):=by
 refine .inr ⟨hi,m.nn _ _,⟨_,qQ hk,rfl⟩,?_,?_⟩
 ·rcases h with ⟨rfl,-,-,-⟩|⟨-,h2,-,h4,-⟩
  ·exact fun j hj=>absurd hj (zB7 _)
  ·exact fun j hj y hy=>by have:=h4 j hj y hy;omega
 ·rcases h with ⟨-,rfl,-,-⟩|⟨-,h2,-,-,h5⟩
  ·intro j hj;rw [show j=0 by omega];exact Int.le_refl _
  ·exact Qj (fun j hj=>by have:=h5 j hj;omega) (Int.le_refl _)
theorem Bst.old {d:Int→Int→Int} {L J:List Int} {i k best:Nat} {least:Int} (h:Bst d L J i k best least) (hx:¬ least<0) (hy:¬ d (L.getD i default) (J.getD k default)<least):Bst d L J i (k+1) best least:=by
 rcases h with ⟨-,-,-,rfl⟩|⟨h1,h2,h3,h4,h5⟩
 ·exact absurd (show (-1:Int)<0 by omega) hx
 ·exact .inr ⟨h1,h2,h3,h4,Qj h5 (by omega)⟩
theorem Bst.row {d:Int→Int→Int} {L J:List Int} {i best:Nat} {least:Int} (h:Bst d L J i J.length best least) (hJ:J≠[]):Bst d L J (i+1) 0 best least:=by
 rcases h with ⟨-,h,-,-⟩|⟨h1,h2,h3,h4,h5⟩
 ·exact absurd (zE8.1 h) hJ
 ·refine .inr ⟨h1,h2,h3,Qj h4 fun y hy=>?_,fun m hm=>absurd hm (zB7 _)⟩;obtain ⟨j,hj,rfl⟩:=zx.1 hy;exact h5 j hj
theorem Bst.fin {d:Int→Int→Int} {L J:List Int} {best:Nat} {least:Int} (h:Bst d L J L.length 0 best least) (hL:0<L.length):best<L.length∧0≤least∧∃ u∈J,least=d (L.getD best default) u∧∀ x∈L,∀ y∈J,d (L.getD best default) u≤d x y:=by
 rcases h with ⟨h,-,-,-⟩|⟨h1,h2,⟨u,h3,h4⟩,h5,-⟩
 ·omega
 ·refine ⟨h1,h2,u,h3,h4,fun x hx y hy=>?_⟩;obtain ⟨j,hj,rfl⟩:=zx.1 hx;rw [← h4];exact h5 j hj y hy
end Go.Proofs.Xx
namespace Go.Proofs.Xx
def qjg (l:List Int) (a b:Nat):List Int:=(l.set a (l.getD b default)).set b (l.getD a default)
theorem kQ {h0:AH} (w:WfH h0) (pv:PbV) (p:Pb) (H:PbOk h0 pv p) (vq:Value) (q:List Int) (rq:zC h0 vq 1 eI q) (hq:q.length≤9223372036854775807) :
 Fn Tryz.prog Xh 12 [pv.val,vq] h0 (fun u h'=>((¬ (PO p∧PartOk p q)∧u = .slice none 0 0∧Hs h0 h' [])∨(PO p∧PartOk p q∧Hs h0 h' [.sl u 3 1 eI (zS p q)]))):=by
 have S:=Hs.start w;have hl:=H.tab.len;unfold PbV.val;refine qL (by first|rfl) Tryz.func12 rfl rfl ?_;all_goals (repeat' (first|refine qg ?_|(refine qc 0 ?_;(refine bx S ?_;clear S;intro b h S);refine mv ?_;refine qf ?_)))
 obtain ⟨b2,hnm⟩:∃ x,x=b:=⟨_,rfl⟩;subst hnm;all_goals (repeat' (first|(refine qc 1 ?_;refine lB S rfl rfl ?_;refine mv ?_)))
 (refine qw rfl rfl rfl rfl rfl ((X5 S.wf pv p (H.ext w S.ext) vq q (rq.ext w S.ext) hq).mono ?_);rintro _ h ⟨⟨rfl,hv⟩|⟨rfl,hv⟩,x⟩)<;>(replace S:=S.qE x;clear x;refine vl ?_;refine qf ?_)
 ·obtain ⟨hp,hpq⟩:=hv;have hql:=hpq.ql hp;have hqm:=hpq.qm hl;all_goals (repeat' (first|refine qg ?_|refine qh rfl ?_|refine qi ?_|(refine qc 3 ?_;refine lB S rfl rfl ?_;refine mv ?_)))
  (refine qw rfl rfl rfl rfl rfl ((xJ S.wf pv p (H.ext w S.ext) vq q (rq.ext w S.ext) (by omega) hqm).mono ?_);rintro vn h x)<;>(replace S:=S.jm x;clear x;refine mv ?_;refine qf ?_)
  all_goals (repeat' (fail))
  refine qo ⟨_,rfl,?_⟩;exact .inr ⟨hp,hpq,S.only .here⟩
 ·all_goals (repeat' (first|refine qg ?_|refine qh rfl ?_|(refine qc 2 ?_;refine mv ?_;refine qf ?_)))
  refine qo ⟨_,rfl,?_⟩;exact .inl ⟨hv,rfl,S.drop⟩
def e82 (x:Nat×Nat):List Value:=[.int .u8 x.1,.int .u8 x.2]
end Go.Proofs.Xx
namespace Go.Proofs.Xx
def qdH (ld:Int→Int):List Int→Int
 | []=>0
 | t :: l=>ld t+qdH ld l
def seg (w:List Int) (i j:Nat):List Int:=(w.drop i).take (j - i)
theorem qdR {w:List Int} {i j:Nat} (h:i≤j):seg w i j ++ w.drop j=w.drop i:=by
 have:=zH0 (j - i) (w.drop i);rw [List.drop_drop,show i+(j - i)=j by omega] at this;exact this
def qjS (ld:Int→Int) (k:Int) (c:List (List Int)):Prop:=∀ p∈c,p≠[]∧qdH ld p≤k
def cost (d:Int→Int→Int):List (List Int)→Int
 | []=>0
 | p :: c=>vI d p+cost d c
def BestC (d:Int→Int→Int) (ld:Int→Int) (k:Int) (w:List Int) (i:Nat) (f:Int):Prop:=∀ c,qjS ld k c→c.flatten=w.drop i→f≤cost d c
theorem BestC.last {d:Int→Int→Int} (m:Met d) {ld:Int→Int} {k:Int} {w:List Int}:BestC d ld k w w.length 0:=fun c _ h=>by
 rw [List.drop_length] at h;induction c with
 | nil=>exact Int.le_refl _
 | cons p c ih =>
  simp only [List.flatten_cons,List.append_eq_nil_iff] at h;have h1:=qfC m p (-1) (-1);have h2:=ih (fun q hq=>by rename_i hc;exact hc q (List.mem_cons_of_mem _ hq)) h.2;show 0≤vI d p+cost d c
  unfold vI;omega
theorem BestC.step {d:Int→Int→Int} {ld:Int→Int} {k:Int} {w:List Int} {i:Nat} {f:Int} {F:Nat→Int} (hi:i<w.length) (hF:∀ j,i<j→j≤w.length→BestC d ld k w j (F j))
 (h:∀ j,i<j→j≤w.length→qdH ld (seg w i j)≤k→f≤vI d (seg w i j)+F j):BestC d ld k w i f:=fun c hc e=>by
 cases c with
 | nil =>
  have:=congrArg List.length e;simp at this;omega
 | cons p c =>
  obtain ⟨h1,h2⟩:=hc p (by simp);have hp:0<p.length:=List.length_pos_iff.2 h1;rw [List.flatten_cons] at e;have el:=congrArg List.length e;simp only [zB2,zB4] at el;have es:seg w i (i+p.length)=p:=by
   unfold seg;rw [← e,show i+p.length - i=p.length by omega];simp
  have ed:c.flatten=w.drop (i+p.length):=by
   have:=qdR (w:=w) (i:=i) (j:=i+p.length) (by omega);rw [es,← e] at this;exact (List.append_cancel_left this).symm
  have h3:=h (i+p.length) (by omega) (by omega) (by rw [es];exact h2);have h4:=hF (i+p.length) (by omega) (by omega) c (fun q hq=>hc q (List.mem_cons_of_mem _ hq)) ed;rw [es] at h3;show f≤vI d p+cost d c
  omega
section
variable {P:Program} {X:Extern} {sz:Nat} {L L':Ks} {h h0:AH} {rs:List Rs} {ops:Array Oper} {os:List Oper} {o:Oper} {R:Ks→AH→Prop}
end
abbrev xZ {α:Type} (f:α→Rs) (l:List α):Rs:=.any (fun h fp=>Star h (l.map f) fp)
theorem Star.qgs {h:AH} {r:Rs} {fp:Fp} (hr:r.ok h fp):∀ {l:List Rs} {U:Fp},Star h l U→(∀ b,fp b→¬ U b)→Star h (l ++ [r]) (fun b=>U b∨fp b)
 | [],U,_,_=>⟨fp,hr,fun b hb=>.inr hb,trivial⟩
 | x :: l,U,⟨fx,h1,h2,h3⟩,hd=>⟨fx,h1,fun b hb=>.inl (h2 b hb),(Star.qgs hr h3 fun b hb q=>hd b hb q.1).mono fun b hb=>by
  rcases hb with hb|hb
  ·exact ⟨.inl hb.1,hb.2⟩
  ·exact ⟨.inr hb,fun q=>hd b hb (h2 b q)⟩⟩
section
variable {α:Type} {f:α→Rs} {h0 h:AH} {rs:List Rs} {gs:List α} {g:α}
theorem Hs.qiG (S:Hs h0 h rs):Hs h0 h (xZ f [] :: rs):=S.anyS fun h'=>trivial
theorem Hs.qiH (S:Hs h0 h (f g :: xZ f gs :: rs)):Hs h0 h (xZ f (gs ++ [g]) :: rs):=by
 obtain ⟨f1,k1,k2,f2,k3,k4,k5⟩:=S.sep;refine ⟨S.ext,fun b=>f2 b∨f1 b,fun h' q=>?_,fun b hb=>?_,k5.mono fun b hb=>⟨trivial,fun q=>?_⟩⟩
 ·rw [zC9];exact Star.qgs (k1.local fun b hb=>q b (.inr hb)) (k3 h' fun b hb=>q b (.inl hb)) fun b hb q=>(k4 b q).2.2.2 hb
 ·rcases hb with hb|hb
  ·exact ⟨(k4 b hb).1,(k4 b hb).2.1,trivial⟩
  ·exact k2 b hb
 ·rcases q with q|q
  ·exact hb.2 q
  ·exact hb.1.2 q
theorem Star.qhw {r:Rs}:∀ {l:List Rs} {U:Fp},Star h l U→r∈l→∃ fp,r.ok h fp
 | x :: l,U,⟨fx,h1,h2,h3⟩,hr=>by
  rcases zE7.1 hr with rfl|hr
  ·exact ⟨fx,h1⟩
  ·exact Star.qhw h3 hr
theorem qbF {α:Type} {v:Value} {e:TypeId} {z:Nat} {enc:α→List Value} {l:List α} {h:AH} {fp:Fp} (k:(Rs.sl v e z enc l).ok h fp):zC h v z enc l:=by
 rcases k with ⟨rfl,rfl⟩|⟨b,o,cc,slk,cap,h1,h2,h3,h4,-⟩
 ·exact .inl ⟨rfl,rfl,rfl⟩
 ·exact .inr ⟨b,o,_,cc,e,slk,false,h1,h2,h4⟩
end
def ldP (pl:List Int) (t:Int):Int:=pl.getD t.toNat default
structure B3 where
 s:Int
 t:Int
 e:Int
instance:Inhabited B3:=⟨⟨0,0,0⟩⟩
def e3 (x:B3):List Value:=[.int .i64 x.s,.int .i64 x.t,.int .i64 x.e]
structure Tr_ where
 tv:SlV
 ta:List Int
 pl:Int
 st:Int
instance:Inhabited Tr_:=⟨⟨⟨none,0,0⟩,[],0,0⟩⟩
def eTr (x:Tr_):List Value:=[x.tv.val,.int .i64 x.pl,.int .i64 x.st]
abbrev qkM (x:Tr_):Rs:=.sl x.tv.val 3 1 eI x.ta
structure FrI (p:Pb) (ld:Int→Int) (k:Int) (way:List Int) (m:Nat) (F:List B3):Prop where
 len:F.length=way.length+1
 best:∀ j,m≤j→j≤way.length→BestC (stp p.tabs) ld k way j (F.getD j default).s
 last:(F.getD way.length default).s=0
 bnd:∀ j,j≤way.length→(0≤(F.getD j default).s∧(F.getD j default).s≤4000*(way.length - j:Int))∧0≤(F.getD j default).t∧(F.getD j default).t≤(way.length - j:Int)
 stp_:∀ j,m≤j→j<way.length→∃ e:Nat,(F.getD j default).e=e∧j<e∧e≤way.length∧qdH ld (seg way j e)≤k∧(F.getD j default).s=vI (stp p.tabs) (seg way j e)+(F.getD e default).s
def qkr (p:Pb) (ld:Int→Int) (k:Int) (x:Tr_):Prop:=x.ta≠[]∧x.pl=qdH ld x.ta∧x.st=vI (stp p.tabs) x.ta∧x.pl≤k
def qkJ (p:Pb) (ld:Int→Int) (k:Int) (stops:List Int) (ts:List Tr_):Prop:=((ts.map (·.ta)).flatten).Perm stops∧∀ x∈ts,qkr p ld k x
end Go.Proofs.Xx
namespace Go.Proofs.Xx
def qjf:(Nat→Int)→List Int→List Nat→Nat→Int
 | c,x :: q,w :: g=>qjf (fun v=>if v=w then c v+x else c v) q g
 | c,_,_=>c
def qku (n:Nat):Nat→List Nat→Prop
 | _,[]=>True
 | u,w :: g=>w<min (u+1) n∧qku n (max u (w+1)) g
def swW (a b v:Nat):Nat:=if v=a then b else if v=b then a else v
def qkp (c:Nat→Int):Nat→Int
 | 0=>0
 | n+1=>qkp c n+c n
end Go.Proofs.Xx
namespace Go.Proofs.Xx
def mxF (f:Nat→Int):Nat→Int
 | 0=>0
 | n+1=>max (mxF f n) (f n)
def lds (qs c:List Int):Nat→Int:=qjf (fun _=>0) qs (c.map Int.toNat)
def Lw (n:Nat) (qs c:List Int):Int:=mxF (lds qs c) n
def qh9 (n:Nat):Nat→Nat→List Int→List (List Int)
 | 0,_,done=>[done]
 | k+1,u,done=>(List.range (min (u+1) n)).flatMap fun w=>qh9 n k (max u (w+1)) (done ++ [(w:Int)])
def qk3 (n k u:Nat) (done:List Int) (i:Nat):List (List Int):=(List.range i).flatMap fun w=>qh9 n k (max u (w+1)) (done ++ [(w:Int)])
def cvF (b13 b16 b11 b14 b15 b5 b12 b17:Nat):Value:=.func (.func 103) #[] #[.pointer (some ⟨b13,0,none⟩),.pointer (some ⟨b16,0,none⟩),.pointer (some ⟨b11,0,none⟩),.pointer (some ⟨b14,0,none⟩),.pointer (some ⟨b15,0,none⟩),.pointer (some ⟨b5,0,none⟩),.pointer (some ⟨b12,0,none⟩),.pointer (some ⟨b17,0,none⟩)]
abbrev wtR (b13 b16 b11 b14 b15 b5 b12 b17:Nat) (vs vp vc:Value) (stops pl:List Int) (n:Nat) (vw vb:Value) (who best:List Int) (least:Int) (ca:List Int):List Rs :=
 [.sl vw 3 1 eI who,.sl vc 3 1 eI ca,.sl vb 3 1 eI best,.blk b16 [.int .i64 least] 3,.blk b14 [vw] 25,.blk b15 [vb] 25,.blk b13 [vc] 25,.sl vs 3 1 eI stops,.blk b11 [vs] 25,.sl vp 3 1 eI pl,.blk b12 [vp] 25,.blk b5 [.int .i64 n] 3,.blk b17 [cvF b13 b16 b11 b14 b15 b5 b12 b17] 142]
structure GL where
 sv:SlV
 r:List Int
instance:Inhabited GL:=⟨⟨⟨none,0,0⟩,[]⟩⟩
def qfV (x:GL):List Value:=[x.sv.val]
abbrev qkw (x:GL):Rs:=.sl x.sv.val 3 1 eI x.r
def qke (st best:List Int) (i w:Nat):List Int:=(((st.zip best).take i).filter fun x=>decide (x.2=(w:Int))).map (·.1)
noncomputable def qkF (p:Pb) (q:List Int) (n:Nat):qao:=(qh9 n (srv (zS p q)).length 0 []).foldl (qgZ (Lw n ((srv (zS p q)).map (ldP (zS p q))))) ([],-1)
theorem ZK {l:List Int} {i:Nat} (hi:i<l.length):l.take (i+1)=l.take i ++ [l.getD i default]:=by
 rw [List.take_add_one,zA4 hi,zA2,zA4 hi];rfl
def qkk (st B:List Int) (i:Nat):Nat→List Int
 | 0=>[]
 | n+1=>qkk st B i n ++ qke st B i n
def ldN (pl:List Int) (n:Int):Int:=max (mxF (fun i=>pl.getD i default) pl.length) (pl.sum / n+min 1 (pl.sum % n))
end Go.Proofs.Xx
