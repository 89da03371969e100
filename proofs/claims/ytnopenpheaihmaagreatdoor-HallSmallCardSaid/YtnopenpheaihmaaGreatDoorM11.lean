/-
  The reference's distances,honour seats and levels.
-/
import Derived.Test.YtnopenpheaihmaaGreatDoorM10
import Derived.Test.YtnopenpheaihmaaGreatDoorM8
import Derived.Test.YtnopenpheaihmaaGreatDoorM9
namespace Go.Proofs.Xx
open Go Go.Proofs
set_option linter.unusedSimpArgs false
set_option linter.unusedVariables false
set_option maxRecDepth 100000
set_option maxHeartbeats 4000000
def ZA (t:Tab) (k:Int):Prop:=∃ i,i<t.opn.length∧t.opn.getD i default=k
theorem VN {h0:AH} (w:WfH h0) (t:Tab) (r:TabR h0 t) (k:Int):Fn Tryz.prog Xh 130 [jg t,.int .i64 k] h0 (fun v h'=>BoolIs v (ZA t k)∧Hs h0 h' []):=by
 have S:=Hs.start w
 obtain ⟨hov,hnm,hol⟩:=r
 refine qF rfl Tryz.func130 rfl rfl ?_
 all_goals (repeat' (first|refine qi ?_|refine qm ?_|(refine qf 0 ?_;(refine bx S ?_;clear S;intro b h S);refine mv ?_;refine qg ?_)|(refine qf 1 ?_;refine mv ?_;refine qg ?_)))
 refine qE (σ:=Nat) (fun i h'=>Hs h0 h' [.blk b (eT t) 25]∧i≤t.opn.length∧∀ j,j<i→t.opn.getD j default≠k) (fun i=>t.opn.length - i) (fun i=>[(1,.int .i64 k),(2,.pointer (some ⟨b,0,none⟩)),(5,.int .i64 i)]) 0 (by repeat (first|exact Ks.le_nil _|refine Ks.qh rfl ?_)) ?_ ?_
 ·exact ⟨S,Nat.zero_le _,fun j hj=>absurd hj (Nat.not_lt_zero _)⟩
 clear S
 rintro i h ⟨S,h1,h2⟩
 all_goals (repeat' (first|refine qi ?_|refine ql rfl ?_|refine qo ?_|refine qA ?_|refine qm ?_|(refine qf 2 ?_;refine mv ?_;refine vl ?_;refine lB S rfl rfl ?_;refine QD S ?_;(first|(refine cS ?_ ?_<;>intro hc))<;>(refine qg ?_))|(refine qf 3 ?_;refine mv ?_;refine ad ?_;refine mv ?_;refine qg ?_)|(refine qf 4 ?_;refine vl ?_;refine lB S rfl rfl ?_;refine mv ?_;refine jv S ?_;refine zS S ?_;refine mv ?_;(first|(refine cS ?_ ?_<;>intro hc))<;>(refine qg ?_))|(refine qf 5 ?_;refine mv ?_;refine qg ?_)|(refine qf 6 ?_;refine mv ?_;refine qg ?_)))
 all_goals (try simp only [Int.toNat_natCast] at *)
 ·refine qx ⟨_,rfl,?_⟩
  exact ⟨.inl ⟨rfl,i,by omega,by assumption⟩,S.drop⟩
 ·refine ⟨i+1,?_,?_,(by repeat (first|exact Ks.le_nil _|refine Ks.qh rfl ?_))⟩
  ·show t.opn.length - (i+1)<t.opn.length - i;omega
  ·refine ⟨S,by omega,fun j hj=>?_⟩
   rcases Nat.lt_or_ge j i with q|q
   ·exact h2 j q
   ·obtain rfl:j=i:=by omega
    assumption
 ·refine qx ⟨_,rfl,?_⟩
  exact ⟨.inr ⟨rfl,fun ⟨j,hj,q⟩=>h2 j (by omega) q⟩,S.drop⟩
def ve (t:Tab) (X Y r:Int):Prop:=(r = -1∧∀ k:Nat,(k:Int)<qC t→¬ (Jf t.A t.B k=X∧Z7 t.A t.B k=Y))∨∃ k:Nat,r=k∧(k:Int)<qC t∧(Jf t.A t.B k=X∧Z7 t.A t.B k=Y)∧∀ j:Nat,j<k→¬ (Jf t.A t.B j=X∧Z7 t.A t.B j=Y)
theorem wJ {h0:AH} (w:WfH h0) (t:Tab) (X Y:Int) (hs:TabS t):Fn Tryz.prog Xh 171 [jg t,.agg #[.int .i64 X,.int .i64 Y]] h0 (fun v h'=>∃ r,v = .int .i64 r∧ve t X Y r∧Hs h0 h' []):=by
 have S:=Hs.start w
 have hB:=hs.b
 have hsz:=qK t
 refine qF rfl Tryz.func171 rfl rfl ?_
 all_goals (repeat' (first|refine qi ?_|refine qm ?_|(refine qf 0 ?_;(refine bx S ?_;clear S;intro b h S);(refine bx S ?_;clear S;intro b h S);refine mv ?_;refine qg ?_)|(refine qf 1 ?_;refine mv ?_;refine qg ?_)))
 obtain ⟨b2,hnm⟩:∃ x,x=b:=⟨_,rfl⟩;subst hnm
 refine qE (σ:=Nat) (fun i h'=>Hs h0 h' [.blk b2 [.int .i64 X,.int .i64 Y] 161,.blk b (eT t) 25]∧(i:Int)≤qC t∧∀ j:Nat,j<i→¬ (Jf t.A t.B j=X∧Z7 t.A t.B j=Y)) (fun i=>(qC t - i).toNat) (fun i=>[(2,.pointer (some ⟨b,0,none⟩)),(3,.pointer (some ⟨b2,0,none⟩)),(5,.int .i64 i)]) 0 (by repeat (first|exact Ks.le_nil _|refine Ks.qh rfl ?_)) ?_ ?_
 ·exact ⟨S,by omega,fun j hj=>absurd hj (Nat.not_lt_zero _)⟩
 clear S
 rintro i h ⟨S,h1,h2⟩
 all_goals (repeat' (first|refine qi ?_|(refine qf 2 ?_;refine mv ?_;refine lB S rfl rfl ?_)))
 (refine qw rfl rfl rfl rfl rfl ((jc S.wf t).mono ?_);rintro _ h ⟨rfl,x⟩)<;>(replace S:=S.qy x;clear x;(first|(refine cS ?_ ?_<;>intro hc))<;>(refine qg ?_))
 all_goals (repeat' (first|refine qi ?_|refine ql rfl ?_|refine qo ?_|refine qA ?_|refine qm ?_|(refine qf 6 ?_;refine mv ?_;refine qg ?_)))
 ·refine jG (id:=4) [(3,(0,1))] [some (b2)] ?_;refine qj ?_;(first|(refine lB S rfl rfl ?_<;>refine qg ⟨⟨by (first|exact True.intro),rfl⟩,?_⟩));refine qj ?_;(first|(refine mv ?_<;>refine qg ⟨⟨by (first|exact True.intro),rfl⟩,?_⟩))
  ((refine qj ?_;first|refine qw rfl rfl rfl rfl rfl ((ZT S.wf t i hB (by omega)).mono ?_));rintro _ h ⟨rfl,x⟩)<;>((refine qg ⟨⟨True.intro,?_⟩,?_⟩;(focus ((show keepsX _ _ _ _ _;simp only [keepsX];(repeat' (first|exact True.intro|refine And.intro ?_ ?_));all_goals (intro hw;first|exact x.ext.old _ S.bB)))));replace S:=S.qy x;clear x;refine qj ?_;(first|(refine lB S rfl rfl ?_<;>refine qg ⟨⟨by (first|exact Or.inr rfl),rfl⟩,?_⟩));refine qj ?_;(first|((refine pE ?_ ?_<;>intro hc)<;>refine qg ⟨⟨by (first|exact True.intro),rfl⟩,?_⟩))<;>(refine jd ?_))
  all_goals (repeat' (first|refine qi ?_|refine ql rfl ?_|refine qo ?_|(refine qf 3 ?_;refine mv ?_;refine ad ?_;refine mv ?_;refine qg ?_)|(refine qf 5 ?_;refine mv ?_;refine mv ?_;refine qg ?_)))
  ·refine qx ⟨_,rfl,?_⟩
   exact ⟨i,rfl,.inr ⟨i,rfl,by omega,by assumption,h2⟩,S.drop⟩
  ·refine ⟨i+1,?_,?_,(by repeat (first|exact Ks.le_nil _|refine Ks.qh rfl ?_))⟩
   ·show (qC t - ((i+1:Nat):Int)).toNat<(qC t - i).toNat;omega
   ·refine ⟨S,by omega,fun j hj=>?_⟩
    rcases Nat.lt_or_ge j i with q|q
    ·exact h2 j q
    ·obtain rfl:j=i:=by omega
     assumption
 ·refine qx ⟨_,rfl,?_⟩
  exact ⟨-1,rfl,.inl ⟨rfl,fun j hj=>h2 j (by omega)⟩,S.drop⟩
theorem vW {h0:AH} (w:WfH h0) (t:Tab) (hs:TabS t):Fn Tryz.prog Xh 174 [jg t] h0 (fun v h'=>v = .int .i64 (ZG t)∧Hs h0 h' []):=by
 have S:=Hs.start w
 have hB:=hs.b
 have hb:=hs.b
 obtain ⟨-,-,ha1,ha2,hb1,hb2⟩:=hb
 have hsp:=hs.shape
 have ed:t.A.tdiv 2=t.A / 2:=GV ha1
 have key:∀ (z:Int),ZG t=z→Value.int .i64 z=Value.int .i64 (ZG t):=fun z q=>by rw [q]
 refine qF rfl Tryz.func174 rfl rfl ?_
 all_goals (repeat' (first|refine qi ?_|refine ql rfl ?_|refine qo ?_|refine qm ?_|(refine qf 0 ?_;(refine bx S ?_;clear S;intro b h S);refine mv ?_;refine qg ?_)|(refine qf 1 ?_;refine vl ?_;refine lB S rfl rfl ?_;refine qg ?_)|(refine qf 2 ?_;(first|(refine cS ?_ ?_<;>intro hc))<;>(refine mv ?_;refine qg ?_))|(refine qf 3 ?_;refine mv ?_;refine qg ?_)|(refine qf 4 ?_;(first|(refine cS ?_ ?_<;>intro hc))<;>(refine mv ?_;refine qg ?_))|(refine qf 5 ?_;refine vl ?_;refine lB S rfl rfl ?_;(first|(refine cS ?_ ?_<;>intro hc))<;>(refine qg ?_))|(refine qf 6 ?_;refine lB S rfl rfl ?_;refine vl ?_;refine lB S rfl rfl ?_;refine vl ?_)|(refine qf 7 ?_;(first|(refine cS ?_ ?_<;>intro hc))<;>(refine mv ?_;refine qg ?_))|(refine qf 8 ?_;refine vl ?_;refine lB S rfl rfl ?_;refine vl ?_;refine lB S rfl rfl ?_;refine qu ?_;refine ad ?_;refine mv ?_;refine qg ?_)|(refine qf 9 ?_;refine vl ?_;refine lB S rfl rfl ?_;refine qu ?_;refine mv ?_;refine qg ?_)))
 ·refine qx ⟨_,rfl,?_⟩
  exact ⟨key _ (by unfold ZG WC;rw [if_neg (by omega),if_neg (by omega),if_neg (by omega)]),S.drop⟩
 ·have k:=hs.s2 (by assumption)
  (refine qw rfl rfl rfl rfl rfl ((wJ S.wf t t.A 1 hs).mono ?_);rintro _ h ⟨r,rfl,hr,x⟩)<;>(replace S:=S.qy x;clear x;refine mv ?_;refine qg ?_)
  all_goals (repeat' (fail))
  refine qx ⟨_,rfl,?_⟩
  refine ⟨key _ ?_,S.drop⟩
  unfold ZG WC X6
  rw [if_pos (by assumption),if_pos (by assumption)]
  rcases hr with ⟨-,g⟩|⟨j,rfl,g1,g2,g3⟩
  ·exact absurd ⟨by unfold Jf;split<;>(repeat' split)<;>omega,by unfold Z7;split<;>(repeat' split)<;>omega⟩ (g t.A.toNat (by omega))
  ·by_cases q:(j:Int)<t.A
   ·have:=g2.2
    unfold Z7 at this
    rw [if_pos q] at this
    omega
   ·rcases Int.lt_trichotomy j t.A with q1|q1|q1
    ·omega
    ·exact q1.symm
    ·refine absurd ⟨?_,?_⟩ (g3 t.A.toNat (by omega))
     ·rw [show ((t.A.toNat:Nat):Int)=t.A by omega]
      unfold Jf
      rw [if_neg (by omega),if_pos ⟨by assumption,rfl⟩]
     ·rw [show ((t.A.toNat:Nat):Int)=t.A by omega]
      unfold Z7
      rw [if_neg (by omega),if_pos ⟨by assumption,rfl⟩]
 ·refine qx ⟨_,rfl,?_⟩
  exact ⟨key _ (by unfold ZG WC X6;rw [if_pos (by assumption),if_neg (by assumption)]),S.drop⟩
 ·refine qx ⟨_,rfl,?_⟩
  exact ⟨key _ (by unfold ZG WC;rw [if_neg (by omega),if_pos (by assumption)]),S.drop⟩
 ·have h4:t.shape=4:=by omega
  refine qx ⟨_,rfl,?_⟩
  exact ⟨key _ (by unfold ZG WC;rw [if_neg (by omega),if_neg (by omega),if_pos h4]),S.drop⟩
theorem YG {h0:AH} (w:WfH h0) (t:Tab) (f n:Nat) (hs:TabS t) (hn:qC t=n) (hf:f<n):Fn Tryz.prog Xh 131 [jg t,.int .i64 f] h0 (fun v h'=>∃ l,DistL (zu t) n f l∧Hs h0 h' [.sl v 3 1 eI l]):=by
 have S:=Hs.start w
 have hsz:=qK t
 refine qF rfl Tryz.func131 rfl rfl ?_
 all_goals (repeat' (first|refine qi ?_|(refine qf 0 ?_;(refine bx S ?_;clear S;intro b h S);refine mv ?_;refine qg ?_)|(refine qf 1 ?_;refine lB S rfl rfl ?_)))
 (refine qw rfl rfl rfl rfl rfl ((jc S.wf t).mono ?_);rintro _ h ⟨rfl,x⟩)<;>(replace S:=S.qy x;clear x;rw [hn];refine mv ?_;refine qg ?_)
 all_goals (repeat' (first|refine qi ?_|refine qm ?_|(refine qf 2 ?_;refine mv ?_;refine qg ?_)|(refine qf 3 ?_;refine mv ?_;refine qg ?_)))
 refine qE (σ:=Nat×Value) (fun (i,v) h'=>Hs h0 h' [.sl v 3 1 eI (List.replicate i (-1)),.blk b (eT t) 25]∧i≤n) (fun (i,v)=>n - i) (fun (i,v)=>[(1,.int .i64 f),(2,.pointer (some ⟨b,0,none⟩)),(5,.int .i64 n),(6,v),(7,.int .i64 i)]) (0,.slice none 0 0) (by repeat (first|exact Ks.le_nil _|refine Ks.qh rfl ?_)) ?_ ?_
 ·exact ⟨S.jP,Nat.zero_le _⟩
 clear S
 rintro ⟨i,v⟩ h ⟨S,h1⟩
 all_goals (repeat' (first|refine qi ?_|refine ql rfl ?_|refine qo ?_|refine qA ?_|refine qm ?_|(refine qf 4 ?_;refine mv ?_;refine mv ?_;(first|(refine cS ?_ ?_<;>intro hc))<;>(refine qg ?_))|(refine qf 6 ?_;refine mv ?_;(refine one 1 S ?_;clear S;intro u h S))|(refine qf 7 ?_;refine mv ?_;refine mv ?_;refine qH S rfl rfl ?_;(first|(refine ZK S rfl rfl ?_;clear S;intro h S));refine qg ?_)|(refine qf 8 ?_;refine mv ?_;refine qg ?_)))
 ·refine app (y0:=(-1:Int)) S rfl rfl ?_;clear S;intro v h S;refine mv ?_;refine qg ?_
  all_goals (repeat' (first|(refine qf 5 ?_;refine mv ?_;refine ad ?_;refine mv ?_;refine qg ?_)))
  refine ⟨(i+1,v),?_,?_,(by repeat (first|exact Ks.le_nil _|refine Ks.qh rfl ?_))⟩
  ·show n - (i+1)<n - i;omega
  ·refine ⟨?_,by omega⟩
   rw [List.replicate_succ']
   exact S
 have hin:i=n:=by omega
 subst hin
 have B:Lev (zu t) i f 0 0 0 ((List.replicate i (-1:Int)).set f 0):=by
  refine Lev.start (by simp) hf ?_ fun y hy hne=>?_
  ·rw [J4 _ _ _ _ (by simpa using hf),if_pos rfl]
  ·rw [J4 _ _ _ _ (by simpa using hf),if_neg hne]
   simp [List.getD_eq_getElem?_getD,hy]
 (try simp only [Int.toNat_natCast] at *)
 refine qE (σ:=Nat×List Int) (fun (d,l) h'=>Hs h0 h' [.sl v 3 1 eI l,.blk b (eT t) 25]∧d≤i∧Lev (zu t) i f d 0 0 l) (fun (d,l)=>i - d) (fun (d,l)=>[(2,.pointer (some ⟨b,0,none⟩)),(5,.int .i64 i),(6,v),(8,.int .i64 d)]) (0,(List.replicate i (-1:Int)).set f 0) (by repeat (first|exact Ks.le_nil _|refine Ks.qh rfl ?_)) ?_ ?_
 ·exact ⟨S,Nat.zero_le _,B⟩
 clear S B
 rintro ⟨d,l⟩ h ⟨S,hd,B⟩
 all_goals (repeat' (first|refine qi ?_|refine ql rfl ?_|refine qo ?_|refine qA ?_|refine qm ?_|(refine qf 9 ?_;refine mv ?_;refine mv ?_;(first|(refine cS ?_ ?_<;>intro hc))<;>(refine qg ?_))|(refine qf 11 ?_;refine mv ?_;refine qg ?_)|(refine qf 19 ?_;refine mv ?_;refine mv ?_;refine qg ?_)))
 ·refine qE (σ:=Nat×List Int) (fun (a,l) h'=>Hs h0 h' [.sl v 3 1 eI l,.blk b (eT t) 25]∧a≤i∧Lev (zu t) i f d a 0 l) (fun (a,l)=>i - a) (fun (a,l)=>[(2,.pointer (some ⟨b,0,none⟩)),(5,.int .i64 i),(6,v),(8,.int .i64 d),(9,.int .i64 a)]) (0,l) (by repeat (first|exact Ks.le_nil _|refine Ks.qh rfl ?_)) ?_ ?_
  ·exact ⟨S,Nat.zero_le _,B⟩
  clear S B
  rintro ⟨a,l⟩ h ⟨S,ha,B⟩
  all_goals (repeat' (first|refine qi ?_|refine ql rfl ?_|refine qo ?_|refine qA ?_|refine qm ?_|(refine qf 10 ?_;refine mv ?_;refine ad ?_;refine mv ?_;refine qg ?_)|(refine qf 12 ?_;refine mv ?_;refine mv ?_;(first|(refine cS ?_ ?_<;>intro hc))<;>(refine qg ?_))|(refine qf 14 ?_;refine mv ?_;refine qg ?_)))
  ·refine qE (σ:=Nat×List Int) (fun (y,l) h'=>Hs h0 h' [.sl v 3 1 eI l,.blk b (eT t) 25]∧y≤i∧Lev (zu t) i f d a y l) (fun (y,l)=>i - y) (fun (y,l)=>[(2,.pointer (some ⟨b,0,none⟩)),(5,.int .i64 i),(6,v),(8,.int .i64 d),(9,.int .i64 a),(10,.int .i64 y)]) (0,l) (by repeat (first|exact Ks.le_nil _|refine Ks.qh rfl ?_)) ?_ ?_
   ·exact ⟨S,Nat.zero_le _,B⟩
   clear S B
   rintro ⟨y,l⟩ h ⟨S,hy,B⟩
   have hlen:=B.len
   all_goals (repeat' (first|refine qi ?_|refine ql rfl ?_|refine qo ?_|refine qA ?_|refine qm ?_|(refine qf 13 ?_;refine mv ?_;refine ad ?_;refine mv ?_;refine qg ?_)|(refine qf 15 ?_;refine mv ?_;refine mv ?_;(first|(refine cS ?_ ?_<;>intro hc))<;>(refine qg ?_))|(refine qf 16 ?_;refine mv ?_;refine ad ?_;refine mv ?_;refine qg ?_)|(refine qf 17 ?_;refine mv ?_;refine mv ?_;refine qH S rfl rfl ?_;refine qI S rfl rfl ?_;refine mv ?_;(first|(refine cS ?_ ?_<;>intro hc))<;>(refine mv ?_;(first|refine off ?_|refine mv ?_);(first|refine off ?_|refine mv ?_);(first|refine off ?_|(refine qH S rfl rfl ?_));(first|refine off ?_|(refine qI S rfl rfl ?_));(first|refine off ?_|(first|(refine cS ?_ ?_<;>intro hc)))<;>(refine vl ?_;refine mv ?_;(first|refine off ?_|(refine lB S rfl rfl ?_));(first|refine off ?_|refine mv ?_);(first|refine off ?_|refine mv ?_);(first|(refine off ?_;refine vl ?_;refine qg ?_)|skip))))))
   all_goals (try simp only [Int.toNat_natCast] at *)
   ·(refine qw rfl rfl rfl rfl rfl ((wX S.wf t a y hs (by omega) (by omega)).mono ?_);rintro _ h ⟨⟨rfl,hq⟩|⟨rfl,hq⟩,x⟩)<;>(replace S:=S.qy x;clear x;refine vl ?_;refine qg ?_)
    all_goals (repeat' (first|refine ql rfl ?_|refine qo ?_|(refine qf 16 ?_;refine mv ?_;refine ad ?_;refine mv ?_;refine qg ?_)|(refine qf 18 ?_;(iterate 3 refine mv ?_);refine ad ?_;refine qH S rfl rfl ?_;(first|(refine ZK S rfl rfl ?_;clear S;intro h S));refine qg ?_)))
    ·(try simp only [Int.toNat_natCast] at *)
     refine ⟨(y+1,l.set y ((d:Int)+1)),?_,?_,(by repeat (first|exact Ks.le_nil _|refine Ks.qh rfl ?_))⟩
     ·show i - (y+1)<i - y;omega
     ·exact ⟨S,by omega,B.put (by omega) (by omega) (by assumption) (by assumption) hq⟩
    ·refine ⟨(y+1,l),?_,?_,(by repeat (first|exact Ks.le_nil _|refine Ks.qh rfl ?_))⟩
     ·show i - (y+1)<i - y;omega
     ·exact ⟨S,by omega,B.keep (by omega) (by omega) fun q=>hq q.2.2⟩
   ·refine ⟨(y+1,l),?_,?_,(by repeat (first|exact Ks.le_nil _|refine Ks.qh rfl ?_))⟩
    ·show i - (y+1)<i - y;omega
    ·exact ⟨S,by omega,B.keep (by omega) (by omega) fun q=>absurd q.2.1 (by assumption)⟩
   ·refine ⟨(y+1,l),?_,?_,(by repeat (first|exact Ks.le_nil _|refine Ks.qh rfl ?_))⟩
    ·show i - (y+1)<i - y;omega
    ·exact ⟨S,by omega,B.keep (by omega) (by omega) fun q=>absurd q.1 (by assumption)⟩
   ·have hyi:y=i:=by omega
    subst hyi
    refine ⟨(a+1,l),?_,?_,(by repeat (first|exact Ks.le_nil _|refine Ks.qh rfl ?_))⟩
    ·show y - (a+1)<y - a;omega
    ·exact ⟨S,by omega,B.row⟩
  ·have hai:a=i:=by omega
   subst hai
   refine ⟨(d+1,l),?_,?_,(by repeat (first|exact Ks.le_nil _|refine Ks.qh rfl ?_))⟩
   ·show a - (d+1)<a - d;omega
   ·exact ⟨S,by omega,B.level⟩
 ·refine qx ⟨_,rfl,?_⟩
  have hdi:d=i:=by omega
  subst hdi
  exact ⟨l,B.done hf,S.only .here⟩
theorem Y4 {h0:AH} (w:WfH h0) (t:Tab) (n:Nat) (hs:TabS t) (hn:qC t=n):Fn Tryz.prog Xh 129 [jg t] h0 (fun v h'=>∃ l,DistL (zu t) n (ZG t).toNat l∧Hs h0 h' [.sl v 3 1 eI (Yj n l)]):=by
 have S:=Hs.start w
 have hh:=qd9 hs.b hs.pos
 have hsz:=qK t
 obtain ⟨f,hf⟩:=Int.eq_ofNat_of_zero_le hh.1
 refine qF rfl Tryz.func129 rfl rfl ?_
 all_goals (repeat' (first|refine qi ?_|(refine qf 0 ?_;(refine bx S ?_;clear S;intro b h S);refine mv ?_;refine qg ?_)))
 refine jG (id:=1) [(0,(0,1))] [some (b)] ?_;refine qj ?_;(first|(refine lB S rfl rfl ?_<;>refine qg ⟨⟨by (first|exact Or.inr rfl),rfl⟩,?_⟩));refine qj ?_;(first|(refine lB S rfl rfl ?_<;>refine qg ⟨⟨by (first|exact True.intro),rfl⟩,?_⟩))
 ((refine qj ?_;first|refine qw rfl rfl rfl rfl rfl ((vW S.wf t hs).mono ?_));rintro _ h ⟨rfl,x⟩)<;>((refine qg ⟨⟨True.intro,?_⟩,?_⟩;(focus ((show keepsX _ _ _ _ _;simp only [keepsX];(repeat' (first|exact True.intro|refine And.intro ?_ ?_));all_goals (intro hw;first|exact x.ext.old _ S.bB)))));replace S:=S.qy x;clear x;rw [hf])
 ((refine qj ?_;first|refine qw rfl rfl rfl rfl rfl ((YG S.wf t f n hs hn (by omega)).mono ?_));rintro v h ⟨l,hl,x⟩)<;>((refine qg ⟨⟨True.intro,?_⟩,?_⟩;(focus ((show keepsX _ _ _ _ _;simp only [keepsX];(repeat' (first|exact True.intro|refine And.intro ?_ ?_));all_goals (intro hw;first|exact x.ext.old _ S.bB)))));replace S:=S.jo x;clear x;refine qj ?_;(first|(refine mv ?_<;>refine qg ⟨⟨by (first|exact True.intro),rfl⟩,?_⟩));refine jd ?_)
 rw [Int.toNat_natCast]
 all_goals (repeat' (first|refine qi ?_|refine qm ?_|(refine qf 2 ?_;refine mv ?_;refine qg ?_)))
 have hlen:=hl.1
 replace S:=S.del (.there .here)
 refine qE (σ:=Nat) (fun i h'=>Hs h0 h' [.sl v 3 1 eI (Ju n l i)]∧i≤n) (fun i=>n - i) (fun i=>[(3,v),(4,.int .i64 i)]) 0 (by repeat (first|exact Ks.le_nil _|refine Ks.qh rfl ?_)) ?_ ?_
 ·refine ⟨?_,Nat.zero_le _⟩
  have:Ju n l 0=l:=by simp [Ju]
  rw [this];exact S
 clear S
 rintro i h ⟨S,h1⟩
 have hm:=yt n l i (by omega)
 all_goals (repeat' (first|refine qi ?_|refine ql rfl ?_|refine qo ?_|refine qA ?_|refine qm ?_|(refine qf 3 ?_;refine mv ?_;refine mv ?_;refine ZC S rfl rfl ?_;(first|(refine cS ?_ ?_<;>intro hc))<;>(refine qg ?_))|(refine qf 4 ?_;refine mv ?_;refine ad ?_;refine mv ?_;refine qg ?_)|(refine qf 5 ?_;refine mv ?_;refine mv ?_;refine qH S rfl rfl ?_;refine qI S rfl rfl ?_;(first|(refine cS ?_ ?_<;>intro hc))<;>(refine qg ?_))|(refine qf 6 ?_;(iterate 3 refine mv ?_);refine ZC S rfl rfl ?_;refine qH S rfl rfl ?_;(first|(refine ZK S rfl rfl ?_;clear S;intro h S));refine qg ?_)|(refine qf 7 ?_;refine mv ?_;refine mv ?_;refine qg ?_)))
 ·refine ⟨i+1,?_,?_,(by repeat (first|exact Ks.le_nil _|refine Ks.qh rfl ?_))⟩
  ·show n - (i+1)<n - i;omega
  ·simp only [Int.toNat_natCast] at hc S
   have hi:i<n:=by omega
   rw [XF n l i (by omega)] at hc
   have:=VH n l i (by omega)
   rw [if_pos hc] at this
   refine ⟨?_,by omega⟩
   rw [this]
   have:((Ju n l i).length:Int)=n:=by omega
   rw [this] at S
   exact S
 ·refine ⟨i+1,?_,?_,(by repeat (first|exact Ks.le_nil _|refine Ks.qh rfl ?_))⟩
  ·show n - (i+1)<n - i;omega
  ·simp only [Int.toNat_natCast] at hc S
   rw [XF n l i (by omega)] at hc
   refine ⟨?_,by omega⟩
   rw [wY n l i (by omega) hc]
   exact S
 ·refine qx ⟨_,rfl,?_⟩
  have hin:i=n:=by omega
  subst hin
  refine ⟨l,hl,?_⟩
  have e:Ju i l i=Yj i l:=by unfold Ju;rw [List.take_of_length_le (by simp [Yj];omega),List.drop_eq_nil_of_le (by omega)];simp
  rw [e] at S
  exact S
set_option maxHeartbeats 1000000
section
variable {l2 l:List Tab}
theorem SameAll.all (s:SameAll l2 l) (i:Nat):SameTab (tb l2 i) (tb l i):=by
 rcases Nat.lt_or_ge i l2.length with h|h
 ·exact s.2 i h
 ·have:=s.1
  simp only [tb,List.getD_eq_getElem?_getD,List.getElem?_eq_none h,List.getElem?_eq_none (show l.length≤i by omega)]
  rfl
theorem SameAll.chk (s:SameAll l2 l) (i:Nat):chk (tb l2 i)=chk (tb l i):=by have:=s.all i;unfold SameTab at this;rw [this];rfl
theorem SameAll.name (s:SameAll l2 l) (i:Nat):(tb l2 i).name=(tb l i).name:=by have:=s.all i;unfold SameTab at this;rw [this]
theorem SameAll.size (s:SameAll l2 l) (i:Nat):qC (tb l2 i)=qC (tb l i):=by have:=s.all i;unfold SameTab at this;rw [this];rfl
theorem SameAll.qgr {i e:Int} (s:SameAll l2 l) (k:ChkAll l2 i e):ChkAll l i e:=by
 unfold ChkAll Jv qar at k ⊢
 simp only [s.chk,s.name,s.1] at k
 exact k
theorem SameAll.valid (s:SameAll l2 l):ValidL l2↔ValidL l:=by
 unfold ValidL Jv qar
 simp only [s.chk,s.name,s.1]
theorem SameAll.sum (s:SameAll l2 l):∀ n,sumT l2 n=sumT l n
 | 0=>rfl
 | n+1=>by simp only [sumT,s.sum n,s.size]
theorem SameAll.first (s:SameAll l2 l) (t:Int):zY l2 t=zY l t:=by
 unfold zY
 by_cases q:0≤t∧t<l.length∧ValidL l
 ·rw [if_pos q,if_pos ⟨q.1,by rw [s.1];exact q.2.1,s.valid.2 q.2.2⟩,s.sum]
 ·rw [if_neg q,if_neg fun k=>q ⟨k.1,by rw [← s.1];exact k.2.1,s.valid.1 k.2.2⟩]
theorem SameAll.count (s:SameAll l2 l):Qx l2=Qx l:=by
 unfold Qx
 by_cases q:ValidL l
 ·rw [if_pos q,if_pos (s.valid.2 q),s.sum,s.1]
 ·rw [if_neg q,if_neg fun k=>q (s.valid.1 k)]
theorem SameAll.seats (s:SameAll l2 l) (i:Nat):Zv (tb l2 i)=Zv (tb l i):=by
 unfold Zv
 simp only [s.chk,s.size]
def Vy (l:List Tab) (nm:List UInt8) (k2:Int) (f2:Bool):Prop :=
 (f2=true∧∃ k:Nat,k2=k∧ValidL l∧k<l.length∧(tb l k).name=nm∧∀ j,j<k→¬ (tb l j).name=nm)∨(f2=false∧k2=0∧(¬ ValidL l∨∀ j,j<l.length→¬ (tb l j).name=nm))
theorem SameAll.qbX {nm:List UInt8} {a:Int} {b:Bool} (s:SameAll l2 l) (k:Vy l2 nm a b):Vy l nm a b:=by
 unfold Vy at k ⊢
 simp only [s.valid,s.name,s.1] at k
 exact k
theorem Vh {h0:AH} (w:WfH h0) (v:Value) (l:List Tab) (H:HallR h0 v l) (nm:List UInt8):Fn Tryz.prog Xh 32 [v,str nm] h0 (fun r h'=>∃ k2 f2,r = .tuple #[.int .i64 k2,.bool f2]∧Vy l nm k2 f2∧Hs h0 h' []):=by
 refine (find_ok w v l H nm).mono ?_
 rintro r h ⟨⟨k,rfl,q⟩|⟨rfl,q⟩,x⟩
 ·exact ⟨_,_,rfl,.inl ⟨rfl,k,rfl,q⟩,x⟩
 ·exact ⟨_,_,rfl,.inr ⟨rfl,rfl,q⟩,x⟩
theorem ValidL.one (k:ValidL l) {i j:Nat} (hi:i<l.length) (hj:j<l.length) (h:(tb l i).name=(tb l j).name):i=j:=by
 rcases Nat.lt_trichotomy i j with q|q|q
 ·exact absurd ⟨i,q,h⟩ (k.2 j hj).2
 ·exact q
 ·exact absurd ⟨j,q,h.symm⟩ (k.2 i hi).2
end
theorem qeo {h0:AH}:Fn Tryz.prog Xh 21 [] h0 (fun v h'=>v = .bool true∧h'=h0):=JO rfl ⟨rfl,rfl⟩
theorem kR {h0:AH} (w:WfH h0) (v:Value) (l:List Tab) (H:HallR h0 v l) (nm:List UInt8) (t:Int):Fn Tryz.prog Xh 23 [v,str nm,.int .i64 t] h0 (fun r h'=>r = .bool true∧Hs h0 h' []):=by
 have S:=Hs.start w
 have hl:=H.len
 refine qF rfl Tryz.func23 rfl rfl ?_
 all_goals (repeat' (first|refine qi ?_|(refine qf 0 ?_;refine mv ?_;refine qg ?_)|(refine qf 1 ?_;refine mv ?_)))
 (refine qw rfl rfl rfl rfl rfl ((xg S.wf v l H.rd H.len H.tab).mono ?_);rintro u g ⟨l2,sa,Hu,x⟩)<;>(replace S:=S.qy x;clear x;refine mv ?_;refine qg ?_)
 have T:=S
 have w1:=S.wf
 have H1:=H.ext w S.ext
 have hl2:=sa.1
 have hr1:=H1.rd
 have hru:=Hu.rd
 replace S:=Hs.start w1
 all_goals (repeat' (first|refine qi ?_|(refine qf 2 ?_;refine mv ?_)))
 (refine qw rfl rfl rfl rfl rfl ((WL S.wf u l2 (Hu.ext w1 S.ext)).mono ?_);rintro _ h ⟨ci,e,rfl,hk,x⟩)<;>(replace S:=S.qy x;clear x;refine mv ?_;refine vl ?_;refine vl ?_;refine mv ?_;refine mv ?_;refine qg ?_)
 all_goals (repeat' (first|refine qi ?_|(refine qf 3 ?_;refine mv ?_)))
 (refine qw rfl rfl rfl rfl rfl ((XC S.wf v l (H1.ext w1 S.ext)).mono ?_);rintro _ h ⟨i',e',rfl,hk2,x⟩)<;>(replace S:=S.qy x;clear x;obtain ⟨rfl,rfl⟩:=(sa.qgr hk).uniq hk2;refine mv ?_;refine vl ?_;refine vl ?_;refine mv ?_;refine mv ?_;refine qg ?_)
 all_goals (repeat' (first|refine qi ?_|refine ql rfl ?_|refine qo ?_|refine qm ?_|(refine qf 4 ?_;refine mv ?_;refine mv ?_;(refine cF ?_)<;>((iterate 3 refine mv ?_);(first|(refine cF ?_))<;>(refine vl ?_;refine qg ?_)))|(refine qf 6 ?_;refine mv ?_;refine QD S ?_;refine mv ?_;refine qg ?_)))
 refine qE (σ:=Nat) (fun i h'=>Hs g h' []∧i≤l.length) (fun i=>l.length - i) (fun i=>[(0,v),(1,str nm),(2,.int .i64 t),(7,u),(11,.int .i64 e),(42,u),(43,.int .i64 l2.length),(44,.int .i64 i)]) 0 (by repeat (first|exact Ks.le_nil _|refine Ks.qh rfl ?_)) ?_ ?_
 ·exact ⟨S,Nat.zero_le _⟩
 clear S
 rintro i h ⟨S,h1⟩
 all_goals (repeat' (first|refine qi ?_|refine ql rfl ?_|refine qo ?_|refine qA ?_|refine qm ?_|(refine qf 7 ?_;(first|(refine cS ?_ ?_<;>intro hc))<;>(refine qg ?_))|(refine qf 8 ?_;refine mv ?_;refine mv ?_;refine qg ?_)|(refine qf 9 ?_;refine mv ?_;refine mv ?_;refine jv S ?_;refine zS S ?_)|(refine qf 16 ?_;(iterate 4 refine mv ?_);refine qg ?_)|(refine qf 17 ?_;refine mv ?_;(first|(refine cS ?_ ?_<;>intro hc))<;>(refine qg ?_))|(refine qf 18 ?_;refine mv ?_)|(refine qf 27 ?_;refine mv ?_;refine mv ?_)))
 ·(try simp only [Int.toNat_natCast] at *)
  have hi:i<l.length:=by omega
  have e1:=sa.chk i
  have e2:=sa.seats i
  (refine qw rfl rfl rfl rfl rfl ((XB S.wf (tb l i) ((H1.ext w1 S.ext).tab i hi)).mono ?_);rintro _ h ⟨rfl,x⟩)<;>(replace S:=S.qy x;clear x;refine mv ?_;refine qg ?_)
  all_goals (repeat' (first|refine qi ?_|refine ql rfl ?_|refine qo ?_|(refine qf 10 ?_;refine mv ?_;refine qg ?_)|(refine qf 11 ?_;refine mv ?_;(first|(refine cS ?_ ?_<;>intro hc))<;>(refine qg ?_))|(refine qf 12 ?_;refine mv ?_;refine mv ?_;refine jv S ?_;refine zS S ?_)|(refine qf 13 ?_;refine mv ?_;refine mv ?_;refine jv S ?_;refine zS S ?_)))
  ·have e3:Zv (tb l i)=qC (tb l i):=by unfold Zv;rw [if_pos hc]
   (refine qw rfl rfl rfl rfl rfl ((jc S.wf (tb l i)).mono ?_);rintro _ h ⟨rfl,x⟩)<;>(replace S:=S.qy x;clear x;refine mv ?_;refine qg ?_)
   all_goals (repeat' (first|refine qi ?_|(refine qf 13 ?_;refine mv ?_;refine mv ?_;refine jv S ?_;refine zS S ?_)))
   (try simp only [Int.toNat_natCast] at *)
   (refine qw rfl rfl rfl rfl rfl ((XN S.wf (tb l2 i) ((Hu.ext w1 S.ext).tab i (by omega))).mono ?_);rintro _ h ⟨rfl,x⟩)<;>(replace S:=S.qy x;clear x;refine mv ?_;(refine cF ?_)<;>((iterate 3 refine mv ?_);(first|(refine jv S ?_));(first|(refine zS S ?_));(skip)))
   (try simp only [Int.toNat_natCast] at *)
   (refine qw rfl rfl rfl rfl rfl ((pq S.wf (tb l2 i) ((Hu.ext w1 S.ext).tab i (by omega))).mono ?_);rintro _ h ⟨rfl,x⟩)<;>(replace S:=S.qy x;clear x;refine mv ?_;(first|(refine cF ?_))<;>(refine vl ?_;refine qg ?_))
   all_goals (repeat' (first|refine ql rfl ?_|refine qo ?_|(refine qf 15 ?_;refine ad ?_;refine mv ?_;refine qg ?_)))
   refine ⟨i+1,?_,?_,(by repeat (first|exact Ks.le_nil _|refine Ks.qh rfl ?_))⟩
   ·show l.length - (i+1)<l.length - i;omega
   ·exact ⟨S,by omega⟩
  ·have e3:Zv (tb l i)=0:=by unfold Zv;rw [if_neg hc]
   (try simp only [Int.toNat_natCast] at *)
   (refine qw rfl rfl rfl rfl rfl ((XN S.wf (tb l2 i) ((Hu.ext w1 S.ext).tab i (by omega))).mono ?_);rintro _ h ⟨rfl,x⟩)<;>(replace S:=S.qy x;clear x;refine mv ?_;(refine cF ?_)<;>((iterate 3 refine mv ?_);(first|(refine jv S ?_));(first|(refine zS S ?_));(skip)))
   (try simp only [Int.toNat_natCast] at *)
   (refine qw rfl rfl rfl rfl rfl ((pq S.wf (tb l2 i) ((Hu.ext w1 S.ext).tab i (by omega))).mono ?_);rintro _ h ⟨rfl,x⟩)<;>(replace S:=S.qy x;clear x;refine mv ?_;(first|(refine cF ?_))<;>(refine vl ?_;refine qg ?_))
   all_goals (repeat' (first|refine ql rfl ?_|refine qo ?_|(refine qf 15 ?_;refine ad ?_;refine mv ?_;refine qg ?_)))
   refine ⟨i+1,?_,?_,(by repeat (first|exact Ks.le_nil _|refine Ks.qh rfl ?_))⟩
   ·show l.length - (i+1)<l.length - i;omega
   ·exact ⟨S,by omega⟩
 ·have hv:ValidL l:=hk2.valid.1 (by assumption)
  have hC:Qx l=sumT l l.length:=by unfold Qx;rw [if_pos hv]
  (refine qw rfl rfl rfl rfl rfl ((Wq S.wf v l (H1.ext w1 S.ext)).mono ?_);rintro so h ⟨out,ho,x⟩)<;>(replace S:=S.jo x;clear x;have ho1:=ho.1;refine ZC S rfl rfl ?_;refine mv ?_;refine qg ?_)
  all_goals (repeat' (first|refine qi ?_|refine ql rfl ?_|refine qo ?_|refine qm ?_|(refine qf 19 ?_;refine mv ?_;(first|(refine cS ?_ ?_<;>intro hc))<;>(refine mv ?_;(first|refine off ?_|refine mv ?_);(first|refine off ?_|refine mv ?_);(first|refine off ?_|(refine QD S ?_));(first|refine off ?_|(first|(refine cS ?_ ?_<;>intro hc)))<;>(refine vl ?_;refine qg ?_)))|(refine qf 20 ?_;refine mv ?_;refine mv ?_)|(refine qf 21 ?_;refine mv ?_;refine QD S ?_;refine mv ?_;refine qg ?_)))
  ·have hF:zY l t=sumT l t.toNat:=by unfold zY;rw [if_pos ⟨by omega,by omega,hv⟩]
   (refine qw rfl rfl rfl rfl rfl ((Kr S.wf v l (H1.ext w1 S.ext) t (by omega) (by omega)).mono ?_);rintro _ h ⟨rfl,x⟩)<;>(replace S:=S.qy x;clear x;refine mv ?_;refine qg ?_)
   all_goals (repeat' (first|refine qi ?_|refine qm ?_|(refine qf 21 ?_;refine mv ?_;refine QD S ?_;refine mv ?_;refine qg ?_)))
   refine qE (σ:=Nat×Int×Bool) (fun (i,a,fd) h'=>Hs g h' []∧i≤l.length∧((fd=false∧a=0∧∀ j,j<i→¬ (tb l j).name=nm)∨(fd=true∧∃ k:Nat,k<i∧a=k∧(tb l k).name=nm))) (fun (i,a,fd)=>l.length - i) (fun (i,a,fd)=>[(0,v),(1,str nm),(2,.int .i64 t),(7,u),(15,.int .i64 (zY l t)),(16,.int .i64 (Qx l)),(17,.int .i64 a),(18,.bool fd),(92,v),(93,.int .i64 l.length),(94,.int .i64 i)]) (0,0,false) (by repeat (first|exact Ks.le_nil _|refine Ks.qh rfl ?_|refine Ks.zf ?_)) ?_ ?_
   ·exact ⟨S.drop,Nat.zero_le _,.inl ⟨rfl,rfl,fun j hj=>absurd hj (Nat.not_lt_zero _)⟩⟩
   clear S
   rintro ⟨i,a,fd⟩ h ⟨S,h1,hfin⟩
   all_goals (repeat' (first|refine qi ?_|refine ql rfl ?_|refine qo ?_|refine qA ?_|refine qm ?_|(refine qf 22 ?_;(first|(refine cS ?_ ?_<;>intro hc))<;>(refine qg ?_))|(refine qf 23 ?_;refine mv ?_;refine mv ?_;refine qg ?_)|(refine qf 24 ?_;refine mv ?_;refine mv ?_;refine jv S ?_;refine fB S ?_;refine zS S ?_;refine mv ?_;(refine tS ?_ ?_<;>intro hc)<;>(refine qg ?_))|(refine qf 25 ?_;(iterate 3 refine mv ?_);refine qg ?_)|(refine qf 26 ?_;refine ad ?_;refine mv ?_;refine qg ?_)|(refine qf 27 ?_;refine mv ?_;refine mv ?_)))
   ·(try simp only [Int.toNat_natCast] at *)
    refine ⟨(i+1,(i:Int),true),?_,?_,(by repeat (first|exact Ks.le_nil _|refine Ks.qh rfl ?_))⟩
    ·show l.length - (i+1)<l.length - i;omega
    ·refine ⟨S,by omega,.inr ⟨rfl,i,by omega,rfl,by assumption⟩⟩
   ·(try simp only [Int.toNat_natCast] at *)
    refine ⟨(i+1,a,fd),?_,?_,(by repeat (first|exact Ks.le_nil _|refine Ks.qh rfl ?_))⟩
    ·show l.length - (i+1)<l.length - i;omega
    ·refine ⟨S,by omega,?_⟩
     rcases hfin with ⟨q1,q2,q3⟩|⟨q1,k,q2,q3,q4⟩
     ·refine .inl ⟨q1,q2,fun j hj=>?_⟩
      rcases Nat.lt_or_ge j i with q|q
      ·exact q3 j q
      ·obtain rfl:j=i:=by omega
       assumption
     ·exact .inr ⟨q1,k,by omega,q3,q4⟩
   have fin:∀ k2 f2,Vy l nm k2 f2→k2=a∧f2=fd:=by
    rintro k2 f2 (⟨e2,k,e1,g1,g2,g3,g4⟩|⟨e2,e1,g1⟩)
    ·rcases hfin with ⟨q1,q2,q3⟩|⟨q1,k,q2,q3,q4⟩
     ·exact absurd g3 (q3 _ (by omega))
     ·have:=hv.one (by omega) g2 (q4.trans g3.symm)
      exact ⟨by omega,by rw [e2,q1]⟩
    ·rcases hfin with ⟨q1,q2,q3⟩|⟨q1,k,q2,q3,q4⟩
     ·exact ⟨by omega,by rw [e2,q1]⟩
     ·rcases g1 with g1|g1
      ·exact absurd hv g1
      ·exact absurd q4 (g1 k (by omega))
   (refine qw rfl rfl rfl rfl rfl ((Vh S.wf u l2 (Hu.ext w1 S.ext) nm).mono ?_);rintro _ h ⟨k2,f2,rfl,hfi,x⟩)<;>(replace S:=S.qy x;clear x;obtain ⟨rfl,rfl⟩:=fin _ _ (sa.qbX hfi);refine mv ?_;refine vl ?_;refine vl ?_;refine mv ?_;refine mv ?_;refine qg ?_)
   all_goals (repeat' (first|refine qi ?_|(refine qf 28 ?_;refine mv ?_)))
   have hCC:=sa.count
   have hFF:=sa.first t
   (refine qw rfl rfl rfl rfl rfl ((Vp S.wf u l2 (Hu.ext w1 S.ext)).mono ?_);rintro _ h ⟨rfl,x⟩)<;>(replace S:=S.qy x;clear x;refine mv ?_;(refine cT ?_)<;>((iterate 3 refine mv ?_);(skip)))
   (refine qw rfl rfl rfl rfl rfl ((Jc S.wf u l2 (Hu.ext w1 S.ext) t).mono ?_);rintro _ h ⟨rfl,x⟩)<;>(replace S:=S.qy x;clear x;refine mv ?_;(first|(refine cT ?_))<;>(refine vl ?_;(iterate 3 refine mv ?_);(first|(refine cT ?_))<;>(refine vl ?_;(iterate 3 refine mv ?_);(first|(refine bT ?_));refine vl ?_;(iterate 3 refine mv ?_);(skip))))
   (refine qw rfl rfl rfl rfl rfl ((ZI S.wf u v l2 l (Hu.ext w1 S.ext).rd (H1.ext w1 S.ext).rd (Hu.ext w1 S.ext).tab (H1.ext w1 S.ext).tab (by omega) (by omega)).mono ?_);rintro _ h ⟨⟨rfl,hq⟩|⟨rfl,hq⟩,x⟩)<;>(replace S:=S.qy x;clear x;refine vl ?_;refine mv ?_;refine qg ?_)
   all_goals (repeat' (fail))
   all_goals (refine qx ⟨_,rfl,?_⟩)
   ·exact ⟨rfl,T.qy S.drop⟩
   ·exact absurd sa hq
  ·have hF:zY l t=0:=by unfold zY;rw [if_neg (by omega)]
   refine qE (σ:=Nat×Int×Bool) (fun (i,a,fd) h'=>Hs g h' []∧i≤l.length∧((fd=false∧a=0∧∀ j,j<i→¬ (tb l j).name=nm)∨(fd=true∧∃ k:Nat,k<i∧a=k∧(tb l k).name=nm))) (fun (i,a,fd)=>l.length - i) (fun (i,a,fd)=>[(0,v),(1,str nm),(2,.int .i64 t),(7,u),(15,.int .i64 (zY l t)),(16,.int .i64 (Qx l)),(17,.int .i64 a),(18,.bool fd),(92,v),(93,.int .i64 l.length),(94,.int .i64 i)]) (0,0,false) (by repeat (first|exact Ks.le_nil _|refine Ks.qh rfl ?_|refine Ks.zf ?_)) ?_ ?_
   ·exact ⟨S.drop,Nat.zero_le _,.inl ⟨rfl,rfl,fun j hj=>absurd hj (Nat.not_lt_zero _)⟩⟩
   clear S
   rintro ⟨i,a,fd⟩ h ⟨S,h1,hfin⟩
   all_goals (repeat' (first|refine qi ?_|refine ql rfl ?_|refine qo ?_|refine qA ?_|refine qm ?_|(refine qf 22 ?_;(first|(refine cS ?_ ?_<;>intro hc))<;>(refine qg ?_))|(refine qf 23 ?_;refine mv ?_;refine mv ?_;refine qg ?_)|(refine qf 24 ?_;refine mv ?_;refine mv ?_;refine jv S ?_;refine fB S ?_;refine zS S ?_;refine mv ?_;(refine tS ?_ ?_<;>intro hc)<;>(refine qg ?_))|(refine qf 25 ?_;(iterate 3 refine mv ?_);refine qg ?_)|(refine qf 26 ?_;refine ad ?_;refine mv ?_;refine qg ?_)|(refine qf 27 ?_;refine mv ?_;refine mv ?_)))
   ·(try simp only [Int.toNat_natCast] at *)
    refine ⟨(i+1,(i:Int),true),?_,?_,(by repeat (first|exact Ks.le_nil _|refine Ks.qh rfl ?_))⟩
    ·show l.length - (i+1)<l.length - i;omega
    ·refine ⟨S,by omega,.inr ⟨rfl,i,by omega,rfl,by assumption⟩⟩
   ·(try simp only [Int.toNat_natCast] at *)
    refine ⟨(i+1,a,fd),?_,?_,(by repeat (first|exact Ks.le_nil _|refine Ks.qh rfl ?_))⟩
    ·show l.length - (i+1)<l.length - i;omega
    ·refine ⟨S,by omega,?_⟩
     rcases hfin with ⟨q1,q2,q3⟩|⟨q1,k,q2,q3,q4⟩
     ·refine .inl ⟨q1,q2,fun j hj=>?_⟩
      rcases Nat.lt_or_ge j i with q|q
      ·exact q3 j q
      ·obtain rfl:j=i:=by omega
       assumption
     ·exact .inr ⟨q1,k,by omega,q3,q4⟩
   have fin:∀ k2 f2,Vy l nm k2 f2→k2=a∧f2=fd:=by
    rintro k2 f2 (⟨e2,k,e1,g1,g2,g3,g4⟩|⟨e2,e1,g1⟩)
    ·rcases hfin with ⟨q1,q2,q3⟩|⟨q1,k,q2,q3,q4⟩
     ·exact absurd g3 (q3 _ (by omega))
     ·have:=hv.one (by omega) g2 (q4.trans g3.symm)
      exact ⟨by omega,by rw [e2,q1]⟩
    ·rcases hfin with ⟨q1,q2,q3⟩|⟨q1,k,q2,q3,q4⟩
     ·exact ⟨by omega,by rw [e2,q1]⟩
     ·rcases g1 with g1|g1
      ·exact absurd hv g1
      ·exact absurd q4 (g1 k (by omega))
   (refine qw rfl rfl rfl rfl rfl ((Vh S.wf u l2 (Hu.ext w1 S.ext) nm).mono ?_);rintro _ h ⟨k2,f2,rfl,hfi,x⟩)<;>(replace S:=S.qy x;clear x;obtain ⟨rfl,rfl⟩:=fin _ _ (sa.qbX hfi);refine mv ?_;refine vl ?_;refine vl ?_;refine mv ?_;refine mv ?_;refine qg ?_)
   all_goals (repeat' (first|refine qi ?_|(refine qf 28 ?_;refine mv ?_)))
   have hCC:=sa.count
   have hFF:=sa.first t
   (refine qw rfl rfl rfl rfl rfl ((Vp S.wf u l2 (Hu.ext w1 S.ext)).mono ?_);rintro _ h ⟨rfl,x⟩)<;>(replace S:=S.qy x;clear x;refine mv ?_;(refine cT ?_)<;>((iterate 3 refine mv ?_);(skip)))
   (refine qw rfl rfl rfl rfl rfl ((Jc S.wf u l2 (Hu.ext w1 S.ext) t).mono ?_);rintro _ h ⟨rfl,x⟩)<;>(replace S:=S.qy x;clear x;refine mv ?_;(first|(refine cT ?_))<;>(refine vl ?_;(iterate 3 refine mv ?_);(first|(refine cT ?_))<;>(refine vl ?_;(iterate 3 refine mv ?_);(first|(refine bT ?_));refine vl ?_;(iterate 3 refine mv ?_);(skip))))
   (refine qw rfl rfl rfl rfl rfl ((ZI S.wf u v l2 l (Hu.ext w1 S.ext).rd (H1.ext w1 S.ext).rd (Hu.ext w1 S.ext).tab (H1.ext w1 S.ext).tab (by omega) (by omega)).mono ?_);rintro _ h ⟨⟨rfl,hq⟩|⟨rfl,hq⟩,x⟩)<;>(replace S:=S.qy x;clear x;refine vl ?_;refine mv ?_;refine qg ?_)
   all_goals (repeat' (fail))
   all_goals (refine qx ⟨_,rfl,?_⟩)
   ·exact ⟨rfl,T.qy S.drop⟩
   ·exact absurd sa hq
  ·have hF:zY l t=0:=by unfold zY;rw [if_neg (by omega)]
   refine qE (σ:=Nat×Int×Bool) (fun (i,a,fd) h'=>Hs g h' []∧i≤l.length∧((fd=false∧a=0∧∀ j,j<i→¬ (tb l j).name=nm)∨(fd=true∧∃ k:Nat,k<i∧a=k∧(tb l k).name=nm))) (fun (i,a,fd)=>l.length - i) (fun (i,a,fd)=>[(0,v),(1,str nm),(2,.int .i64 t),(7,u),(15,.int .i64 (zY l t)),(16,.int .i64 (Qx l)),(17,.int .i64 a),(18,.bool fd),(92,v),(93,.int .i64 l.length),(94,.int .i64 i)]) (0,0,false) (by repeat (first|exact Ks.le_nil _|refine Ks.qh rfl ?_|refine Ks.zf ?_)) ?_ ?_
   ·exact ⟨S.drop,Nat.zero_le _,.inl ⟨rfl,rfl,fun j hj=>absurd hj (Nat.not_lt_zero _)⟩⟩
   clear S
   rintro ⟨i,a,fd⟩ h ⟨S,h1,hfin⟩
   all_goals (repeat' (first|refine qi ?_|refine ql rfl ?_|refine qo ?_|refine qA ?_|refine qm ?_|(refine qf 22 ?_;(first|(refine cS ?_ ?_<;>intro hc))<;>(refine qg ?_))|(refine qf 23 ?_;refine mv ?_;refine mv ?_;refine qg ?_)|(refine qf 24 ?_;refine mv ?_;refine mv ?_;refine jv S ?_;refine fB S ?_;refine zS S ?_;refine mv ?_;(refine tS ?_ ?_<;>intro hc)<;>(refine qg ?_))|(refine qf 25 ?_;(iterate 3 refine mv ?_);refine qg ?_)|(refine qf 26 ?_;refine ad ?_;refine mv ?_;refine qg ?_)|(refine qf 27 ?_;refine mv ?_;refine mv ?_)))
   ·(try simp only [Int.toNat_natCast] at *)
    refine ⟨(i+1,(i:Int),true),?_,?_,(by repeat (first|exact Ks.le_nil _|refine Ks.qh rfl ?_))⟩
    ·show l.length - (i+1)<l.length - i;omega
    ·refine ⟨S,by omega,.inr ⟨rfl,i,by omega,rfl,by assumption⟩⟩
   ·(try simp only [Int.toNat_natCast] at *)
    refine ⟨(i+1,a,fd),?_,?_,(by repeat (first|exact Ks.le_nil _|refine Ks.qh rfl ?_))⟩
    ·show l.length - (i+1)<l.length - i;omega
    ·refine ⟨S,by omega,?_⟩
     rcases hfin with ⟨q1,q2,q3⟩|⟨q1,k,q2,q3,q4⟩
     ·refine .inl ⟨q1,q2,fun j hj=>?_⟩
      rcases Nat.lt_or_ge j i with q|q
      ·exact q3 j q
      ·obtain rfl:j=i:=by omega
       assumption
     ·exact .inr ⟨q1,k,by omega,q3,q4⟩
   have fin:∀ k2 f2,Vy l nm k2 f2→k2=a∧f2=fd:=by
    rintro k2 f2 (⟨e2,k,e1,g1,g2,g3,g4⟩|⟨e2,e1,g1⟩)
    ·rcases hfin with ⟨q1,q2,q3⟩|⟨q1,k,q2,q3,q4⟩
     ·exact absurd g3 (q3 _ (by omega))
     ·have:=hv.one (by omega) g2 (q4.trans g3.symm)
      exact ⟨by omega,by rw [e2,q1]⟩
    ·rcases hfin with ⟨q1,q2,q3⟩|⟨q1,k,q2,q3,q4⟩
     ·exact ⟨by omega,by rw [e2,q1]⟩
     ·rcases g1 with g1|g1
      ·exact absurd hv g1
      ·exact absurd q4 (g1 k (by omega))
   (refine qw rfl rfl rfl rfl rfl ((Vh S.wf u l2 (Hu.ext w1 S.ext) nm).mono ?_);rintro _ h ⟨k2,f2,rfl,hfi,x⟩)<;>(replace S:=S.qy x;clear x;obtain ⟨rfl,rfl⟩:=fin _ _ (sa.qbX hfi);refine mv ?_;refine vl ?_;refine vl ?_;refine mv ?_;refine mv ?_;refine qg ?_)
   all_goals (repeat' (first|refine qi ?_|(refine qf 28 ?_;refine mv ?_)))
   have hCC:=sa.count
   have hFF:=sa.first t
   (refine qw rfl rfl rfl rfl rfl ((Vp S.wf u l2 (Hu.ext w1 S.ext)).mono ?_);rintro _ h ⟨rfl,x⟩)<;>(replace S:=S.qy x;clear x;refine mv ?_;(refine cT ?_)<;>((iterate 3 refine mv ?_);(skip)))
   (refine qw rfl rfl rfl rfl rfl ((Jc S.wf u l2 (Hu.ext w1 S.ext) t).mono ?_);rintro _ h ⟨rfl,x⟩)<;>(replace S:=S.qy x;clear x;refine mv ?_;(first|(refine cT ?_))<;>(refine vl ?_;(iterate 3 refine mv ?_);(first|(refine cT ?_))<;>(refine vl ?_;(iterate 3 refine mv ?_);(first|(refine bT ?_));refine vl ?_;(iterate 3 refine mv ?_);(skip))))
   (refine qw rfl rfl rfl rfl rfl ((ZI S.wf u v l2 l (Hu.ext w1 S.ext).rd (H1.ext w1 S.ext).rd (Hu.ext w1 S.ext).tab (H1.ext w1 S.ext).tab (by omega) (by omega)).mono ?_);rintro _ h ⟨⟨rfl,hq⟩|⟨rfl,hq⟩,x⟩)<;>(replace S:=S.qy x;clear x;refine vl ?_;refine mv ?_;refine qg ?_)
   all_goals (repeat' (fail))
   all_goals (refine qx ⟨_,rfl,?_⟩)
   ·exact ⟨rfl,T.qy S.drop⟩
   ·exact absurd sa hq
 ·have hv:¬ ValidL l:=fun q=>absurd (hk2.valid.2 q) (by assumption)
  have hC:Qx l=0:=by unfold Qx;rw [if_neg hv]
  have hF:zY l t=0:=by unfold zY;rw [if_neg (fun q=>hv q.2.2)]
  have fin:∀ k2 f2,Vy l nm k2 f2→k2=0∧f2=false:=by
   rintro k2 f2 (⟨e2,k,e1,g1,g2,g3,g4⟩|⟨e2,e1,g1⟩)
   ·exact absurd g1 hv
   ·exact ⟨e1,e2⟩
  (refine qw rfl rfl rfl rfl rfl ((Vh S.wf u l2 (Hu.ext w1 S.ext) nm).mono ?_);rintro _ h ⟨k2,f2,rfl,hfi,x⟩)<;>(replace S:=S.qy x;clear x;obtain ⟨rfl,rfl⟩:=fin _ _ (sa.qbX hfi);refine mv ?_;refine vl ?_;refine vl ?_;refine mv ?_;refine mv ?_;refine qg ?_)
  all_goals (repeat' (first|refine qi ?_|(refine qf 28 ?_;refine mv ?_)))
  have hCC:=sa.count
  have hFF:=sa.first t
  (refine qw rfl rfl rfl rfl rfl ((Vp S.wf u l2 (Hu.ext w1 S.ext)).mono ?_);rintro _ h ⟨rfl,x⟩)<;>(replace S:=S.qy x;clear x;refine mv ?_;(refine cT ?_)<;>((iterate 3 refine mv ?_);(skip)))
  (refine qw rfl rfl rfl rfl rfl ((Jc S.wf u l2 (Hu.ext w1 S.ext) t).mono ?_);rintro _ h ⟨rfl,x⟩)<;>(replace S:=S.qy x;clear x;refine mv ?_;(first|(refine cT ?_))<;>(refine vl ?_;(iterate 3 refine mv ?_);(first|(refine cT ?_))<;>(refine vl ?_;(iterate 3 refine mv ?_);(first|(refine bT ?_));refine vl ?_;(iterate 3 refine mv ?_);(skip))))
  (refine qw rfl rfl rfl rfl rfl ((ZI S.wf u v l2 l (Hu.ext w1 S.ext).rd (H1.ext w1 S.ext).rd (Hu.ext w1 S.ext).tab (H1.ext w1 S.ext).tab (by omega) (by omega)).mono ?_);rintro _ h ⟨⟨rfl,hq⟩|⟨rfl,hq⟩,x⟩)<;>(replace S:=S.qy x;clear x;refine vl ?_;refine mv ?_;refine qg ?_)
  all_goals (repeat' (fail))
  all_goals (refine qx ⟨_,rfl,?_⟩)
  ·exact ⟨rfl,T.qy S.drop⟩
  ·exact absurd sa hq
set_option maxHeartbeats 4000000
def WhereI (l:List Tab) (s:Int) (i k:Nat):Prop:=ValidL l∧i<l.length∧(k:Int)<qC (tb l i)∧s=sumT l i+k
theorem XV (l:List Tab) {i j:Nat} (h:i≤j):sumT l i≤sumT l j:=by
 induction h with
 | refl=>exact Int.le_refl _
 | @step m _ ih=>have:=qK (tb l m);simp only [sumT];omega
theorem WhereI.unique {l:List Tab} {s:Int} {i k j m:Nat} (h:WhereI l s i k) (g:WhereI l s j m):i=j∧k=m:=by
 obtain ⟨-,h2,h3,h4⟩:=h
 obtain ⟨-,g2,g3,g4⟩:=g
 rcases Nat.lt_trichotomy i j with q|q|q
 ·have:=XV l (show i+1≤j by omega);simp only [sumT] at this;omega
 ·subst q;exact ⟨rfl,by omega⟩
 ·have:=XV l (show j+1≤i by omega);simp only [sumT] at this;omega
theorem WhereI.sz {l:List Tab} {s:Int} {i k:Nat} (h:WhereI l s i k):TabS (tb l i):=TabS.of _ (by have:=h.2.2.1;omega)
def WhereR (l:List Tab) (s a b:Int) (f:Bool):Prop:=(f=true∧∃ i k:Nat,a=i∧b=k∧WhereI l s i k)∨(f=false∧a=0∧b=0∧∀ i k,¬ WhereI l s i k)
theorem WhereR.unique {l:List Tab} {s a b a' b':Int} {f f':Bool} (h:WhereR l s a b f) (g:WhereR l s a' b' f'):a=a'∧b=b'∧f=f':=by
 rcases h with ⟨rfl,i,k,rfl,rfl,h⟩|⟨rfl,rfl,rfl,h⟩<;>rcases g with ⟨rfl,j,m,rfl,rfl,g⟩|⟨rfl,rfl,rfl,g⟩
 ·obtain ⟨rfl,rfl⟩:=h.unique g;exact ⟨rfl,rfl,rfl⟩
 ·exact absurd h (g _ _)
 ·exact absurd g (h _ _)
 ·exact ⟨rfl,rfl,rfl⟩
theorem ZY {h0:AH} (w:WfH h0) (v:Value) (l:List Tab) (H:HallR h0 v l) (s:Int) (hm:s≤9223372036854775807):Fn Tryz.prog Xh 30 [v,.int .i64 s] h0 (fun r h'=>∃ a b f,r = .tuple #[.int .i64 a,.int .i64 b,.bool f]∧WhereR l s a b f∧Hs h0 h' []):=by
 have S:=Hs.start w
 have hl:=H.len
 have hr:=H.rd
 refine qF rfl Tryz.func30 rfl rfl ?_
 all_goals (repeat' (first|refine qi ?_|refine ql rfl ?_|(refine qf 0 ?_;(iterate 3 refine mv ?_);refine qg ?_)|(refine qf 1 ?_;refine mv ?_;(first|(refine cS ?_ ?_<;>intro hc))<;>(refine mv ?_;(first|refine off ?_|refine mv ?_);(first|(refine off ?_;refine off ?_;refine vl ?_;refine qg ?_)|skip)))|(refine qf 2 ?_;(iterate 3 refine mv ?_);refine qg ?_)))
 ·refine qx ⟨_,rfl,?_⟩
  exact ⟨0,0,false,rfl,.inr ⟨rfl,rfl,rfl,fun i k q=>by have:=jJ l i;have:=q.2.2.2;omega⟩,S⟩
 ·(refine qw rfl rfl rfl rfl rfl ((Zj S.wf v l H).mono ?_);rintro _ h ⟨⟨rfl,hq⟩|⟨rfl,hq⟩,x⟩)<;>(replace S:=S.qy x;clear x;refine vl ?_;refine vl ?_;refine qg ?_)
  all_goals (repeat' (first|refine qi ?_|refine ql rfl ?_|refine qo ?_|refine qm ?_|(refine qf 2 ?_;(iterate 3 refine mv ?_);refine qg ?_)|(refine qf 3 ?_;refine mv ?_;refine QD S ?_;refine mv ?_;refine qg ?_)))
  ·have z0:sumT l 0=0:=rfl
   refine qE (σ:=Nat) (fun i h'=>Hs h0 h' []∧i≤l.length∧0≤s - sumT l i) (fun i=>l.length - i) (fun i=>[(1,.int .i64 (s - sumT l i)),(17,v),(18,.int .i64 l.length),(19,.int .i64 i)]) 0 (by repeat (first|exact Ks.le_nil _|refine Ks.qh rfl ?_|refine Ks.zf ?_)) ?_ ?_
   ·exact ⟨S,Nat.zero_le _,by simp only [sumT];omega⟩
   ·clear S
    rintro i h ⟨S,h1,h2⟩
    all_goals (repeat' (first|refine qi ?_|refine ql rfl ?_|refine qo ?_|refine qA ?_|refine qm ?_|(refine qf 4 ?_;(first|(refine cS ?_ ?_<;>intro hc))<;>(refine qg ?_))|(refine qf 5 ?_;refine mv ?_;refine jv S ?_;refine zS S ?_;(refine al S ?_;clear S;intro b h S);refine mv ?_;(first|(refine sB S rfl rfl ?_;clear S;intro h S));refine qg ?_)|(refine qf 6 ?_;refine lB S rfl rfl ?_)|(refine qf 11 ?_;(iterate 3 refine mv ?_);refine qg ?_)))
    ·(try simp only [Int.toNat_natCast] at *)
     have hi:i<l.length:=by omega
     have b2:=qK (tb l i)
     have b1:=jJ l i
     have z1:sumT l (i+1)=sumT l i+qC (tb l i):=rfl
     (refine qw rfl rfl rfl rfl rfl ((Ze S.wf (tb l i)).mono ?_);rintro _ h ⟨rfl,x⟩)<;>(replace S:=S.qy x;clear x;refine mv ?_;refine qg ?_)
     all_goals (repeat' (first|refine qi ?_|refine ql rfl ?_|refine qo ?_|(refine qf 7 ?_;refine mv ?_;refine mv ?_;(first|(refine cS ?_ ?_<;>intro hc))<;>(refine qg ?_))|(refine qf 8 ?_;(iterate 5 refine mv ?_);refine qg ?_)|(refine qf 9 ?_;refine mv ?_;refine mv ?_;refine sb ?_;refine mv ?_;refine qg ?_)|(refine qf 10 ?_;refine ad ?_;refine mv ?_;refine qg ?_)))
     ·refine qx ⟨_,rfl,?_⟩
      obtain ⟨k,hk⟩:=Int.eq_ofNat_of_zero_le h2
      exact ⟨i,s - sumT l i,true,rfl,.inl ⟨rfl,i,k,rfl,hk,hq,hi,by omega,by omega⟩,S.drop⟩
     ·refine ⟨i+1,?_,?_,(by repeat (first|exact Ks.le_nil _|refine Ks.qh rfl ?_|refine Ks.zf ?_))⟩
      ·show l.length - (i+1)<l.length - i;omega
      ·exact ⟨S.drop,by omega,by simp only [sumT];omega⟩
    ·refine qx ⟨_,rfl,?_⟩
     refine ⟨0,0,false,rfl,.inr ⟨rfl,rfl,rfl,fun j k q=>?_⟩,S⟩
     obtain ⟨-,q2,q3,q4⟩:=q
     have hil:i=l.length:=by omega
     subst hil
     have:=XV l (show j+1≤l.length by omega)
     simp only [sumT] at this
     omega
  ·refine qx ⟨_,rfl,?_⟩
   exact ⟨0,0,false,rfl,.inr ⟨rfl,rfl,rfl,fun i k q=>hq q.1⟩,S⟩
def qhD (l:List Tab) (a b:Int) (t:Tab) (x y:Int) (f:Bool):Prop:=(f=true∧∃ i k m:Nat,t=tb l i∧x=k∧y=m∧WhereI l a i k∧WhereI l b i m)∨(f=false∧t=default∧x=0∧y=0∧∀ i k m,WhereI l a i k→¬ WhereI l b i m)
theorem WZ {h0:AH} (w:WfH h0) (v:Value) (l:List Tab) (H:HallR h0 v l) (a b:Int) (ha:a≤9223372036854775807) (hb:b≤9223372036854775807) :
 Fn Tryz.prog Xh 92 [v,.int .i64 a,.int .i64 b] h0 (fun r h'=>∃ t x y f,r = .tuple #[jg t,.int .i64 x,.int .i64 y,.bool f]∧qhD l a b t x y f∧Hs h0 h' []):=by
 have S:=Hs.start w
 have hl:=H.len
 have hr:=H.rd
 refine qF rfl Tryz.func92 rfl rfl ?_
 all_goals (repeat' (first|refine qi ?_|(refine qf 0 ?_;(refine al S ?_;clear S;intro b h S);(iterate 3 refine mv ?_);refine qg ?_)|(refine qf 1 ?_;refine mv ?_;refine mv ?_)))
 obtain ⟨bt,hnm⟩:∃ x,x=b:=⟨_,rfl⟩;subst hnm
 (refine qw rfl rfl rfl rfl rfl ((ZY S.wf v l (H.ext w S.ext) a ha).mono ?_);rintro _ h ⟨_,_,_,rfl,⟨rfl,i,k,rfl,rfl,w1⟩|⟨rfl,rfl,rfl,w1⟩,x⟩)<;>(replace S:=S.qy x;clear x;refine mv ?_;refine vl ?_;refine vl ?_;refine vl ?_;(iterate 3 refine mv ?_);refine qg ?_)
 all_goals (all_goals (repeat' (first|refine qi ?_|(refine qf 2 ?_;refine mv ?_;refine mv ?_))))
 all_goals ((refine qw rfl rfl rfl rfl rfl ((ZY S.wf v l (H.ext w S.ext) b hb).mono ?_);rintro _ h ⟨_,_,_,rfl,⟨rfl,j,m,rfl,rfl,w2⟩|⟨rfl,rfl,rfl,w2⟩,x⟩)<;>(replace S:=S.qy x;clear x;refine mv ?_;refine vl ?_;refine vl ?_;refine vl ?_;(iterate 3 refine mv ?_);refine qg ?_))
 ·have hi:=w1.2.1
  all_goals (repeat' (first|refine qi ?_|refine ql rfl ?_|refine qo ?_|(refine qf 3 ?_;refine mv ?_;refine vl ?_;refine mv ?_;refine mv ?_;refine vl ?_;refine vl ?_;(iterate 3 refine mv ?_);(first|(first|(refine cS ?_ ?_<;>intro hc)))<;>(refine vl ?_;refine qg ?_))|(refine qf 4 ?_;refine vl ?_;(first|(refine sB S rfl rfl ?_;clear S;intro h S));(iterate 3 refine mv ?_);refine qg ?_)|(refine qf 5 ?_;refine mv ?_;refine mv ?_;refine jv S ?_;refine zS S ?_;refine mv ?_;refine mv ?_;(first|(refine sB S rfl rfl ?_;clear S;intro h S));(iterate 3 refine mv ?_);refine qg ?_)))
  ·refine qx ⟨_,zK S rfl (by first|exact .here) (by exact rfl) (by exact rfl),?_⟩
   refine ⟨default,0,0,false,rfl,.inr ⟨rfl,rfl,rfl,rfl,fun i' k' m' q1 q2=>?_⟩,S.drop⟩
   obtain ⟨rfl,rfl⟩:=w1.unique q1
   obtain ⟨rfl,rfl⟩:=w2.unique q2
   exact hc rfl
  ·have hij:i=j:=by omega
   subst hij
   refine qx ⟨_,zK S rfl (by first|exact .here) (by exact rfl) (by exact rfl),?_⟩
   exact ⟨tb l i,k,m,true,rfl,.inl ⟨rfl,i,k,m,rfl,rfl,rfl,w1,w2⟩,S.drop⟩
 ·all_goals (repeat' (first|refine qi ?_|refine ql rfl ?_|(refine qf 3 ?_;refine mv ?_;refine vl ?_;refine mv ?_;refine mv ?_;refine vl ?_;refine vl ?_;refine mv ?_;refine off ?_;refine off ?_;(refine off ?_)<;>(refine vl ?_;refine qg ?_))|(refine qf 4 ?_;refine vl ?_;(first|(refine sB S rfl rfl ?_;clear S;intro h S));(iterate 3 refine mv ?_);refine qg ?_)))
  refine qx ⟨_,zK S rfl (by first|exact .here) (by exact rfl) (by exact rfl),?_⟩
  exact ⟨default,0,0,false,rfl,.inr ⟨rfl,rfl,rfl,rfl,fun i' k' m' q1 q2=>w2 _ _ q2⟩,S.drop⟩
 ·all_goals (repeat' (first|refine qi ?_|refine ql rfl ?_|(refine qf 3 ?_;refine mv ?_;refine vl ?_;refine mv ?_;refine off ?_;refine off ?_;refine vl ?_;refine mv ?_;refine off ?_;refine off ?_;(refine off ?_)<;>(refine vl ?_;refine qg ?_))|(refine qf 4 ?_;refine vl ?_;(first|(refine sB S rfl rfl ?_;clear S;intro h S));(iterate 3 refine mv ?_);refine qg ?_)))
  refine qx ⟨_,zK S rfl (by first|exact .here) (by exact rfl) (by exact rfl),?_⟩
  exact ⟨default,0,0,false,rfl,.inr ⟨rfl,rfl,rfl,rfl,fun i' k' m' q1 q2=>w1 _ _ q1⟩,S.drop⟩
 ·all_goals (repeat' (first|refine qi ?_|refine ql rfl ?_|(refine qf 3 ?_;refine mv ?_;refine vl ?_;refine mv ?_;refine off ?_;refine off ?_;refine vl ?_;refine mv ?_;refine off ?_;refine off ?_;(refine off ?_)<;>(refine vl ?_;refine qg ?_))|(refine qf 4 ?_;refine vl ?_;(first|(refine sB S rfl rfl ?_;clear S;intro h S));(iterate 3 refine mv ?_);refine qg ?_)))
  refine qx ⟨_,zK S rfl (by first|exact .here) (by exact rfl) (by exact rfl),?_⟩
  exact ⟨default,0,0,false,rfl,.inr ⟨rfl,rfl,rfl,rfl,fun i' k' m' q1 q2=>w1 _ _ q1⟩,S.drop⟩
def Ql (P:Tab→Int→Int→Prop) (l:List Tab) (a b:Int):Prop:=∃ i k m:Nat,WhereI l a i k∧WhereI l b i m∧P (tb l i) k m
theorem jV {h0:AH} (w:WfH h0) (v:Value) (l:List Tab) (H:HallR h0 v l) (a b:Int) (ha:a≤9223372036854775807) (hb:b≤9223372036854775807) :
 Fn Tryz.prog Xh 44 [v,.int .i64 a,.int .i64 b] h0 (fun r h'=>BoolIs r (Ql zk l a b)∧Hs h0 h' []):=by
 have S:=Hs.start w
 refine qF rfl Tryz.func44 rfl rfl ?_
 all_goals (repeat' (first|refine qi ?_|(refine qf 0 ?_;refine mv ?_;refine qg ?_)|(refine qf 1 ?_;(iterate 3 refine mv ?_);skip)))
 (refine qw rfl rfl rfl rfl rfl ((WZ S.wf v l H a b ha hb).mono ?_);rintro _ h ⟨_,_,_,_,rfl,⟨rfl,i,k,m,rfl,rfl,rfl,w1,w2⟩|⟨rfl,rfl,rfl,rfl,w1⟩,x⟩)<;>(replace S:=S.qy x;clear x;refine mv ?_;refine vl ?_;refine vl ?_;refine vl ?_;refine vl ?_;(refine al S ?_;clear S;intro b h S);(first|(refine sB S rfl rfl ?_;clear S;intro h S));(iterate 3 refine mv ?_);refine qg ?_)
 ·all_goals (repeat' (first|refine qi ?_|(refine qf 2 ?_;refine mv ?_;refine mv ?_;(first|(refine lB S rfl rfl ?_));refine mv ?_;refine mv ?_;(skip))))
  have t1:=qK (tb l i)
  have k1:=w1.2.2.1
  have k2:=w2.2.2.1
  (refine qw rfl rfl rfl rfl rfl ((Yc S.wf (tb l i) k m w1.sz.b (by omega) (by omega)).mono ?_);rintro _ h ⟨⟨rfl,hq⟩|⟨rfl,hq⟩,x⟩)<;>(replace S:=S.qy x;clear x;refine vl ?_;refine mv ?_;refine qg ?_)
  all_goals (repeat' (fail))
  all_goals (refine qx ⟨_,rfl,?_⟩)
  ·exact ⟨.inl ⟨rfl,i,k,m,w1,w2,hq⟩,S.drop⟩
  ·refine ⟨.inr ⟨rfl,fun ⟨i',k',m',q1,q2,q3⟩=>?_⟩,S.drop⟩
   obtain ⟨rfl,rfl⟩:=w1.unique q1
   obtain ⟨-,rfl⟩:=w2.unique q2
   exact hq q3
 ·all_goals (repeat' (first|refine qi ?_|(refine qf 2 ?_;refine mv ?_;refine mv ?_;refine off ?_;refine off ?_;refine off ?_;(first|(refine off ?_;refine vl ?_;refine mv ?_;refine qg ?_)))))
  refine qx ⟨_,rfl,?_⟩
  exact ⟨.inr ⟨rfl,fun ⟨i',k',m',q1,q2,q3⟩=>w1 _ _ _ q1 q2⟩,S.drop⟩
theorem jW {h0:AH} (w:WfH h0) (v:Value) (l:List Tab) (H:HallR h0 v l) (a b:Int) (ha:a≤9223372036854775807) (hb:b≤9223372036854775807) :
 Fn Tryz.prog Xh 45 [v,.int .i64 a,.int .i64 b] h0 (fun r h'=>BoolIs r (Ql zt l a b)∧Hs h0 h' []):=by
 have S:=Hs.start w
 refine qF rfl Tryz.func45 rfl rfl ?_
 all_goals (repeat' (first|refine qi ?_|(refine qf 0 ?_;refine mv ?_;refine qg ?_)|(refine qf 1 ?_;(iterate 3 refine mv ?_);skip)))
 (refine qw rfl rfl rfl rfl rfl ((WZ S.wf v l H a b ha hb).mono ?_);rintro _ h ⟨_,_,_,_,rfl,⟨rfl,i,k,m,rfl,rfl,rfl,w1,w2⟩|⟨rfl,rfl,rfl,rfl,w1⟩,x⟩)<;>(replace S:=S.qy x;clear x;refine mv ?_;refine vl ?_;refine vl ?_;refine vl ?_;refine vl ?_;(refine al S ?_;clear S;intro b h S);(first|(refine sB S rfl rfl ?_;clear S;intro h S));(iterate 3 refine mv ?_);refine qg ?_)
 ·all_goals (repeat' (first|refine qi ?_|(refine qf 2 ?_;refine mv ?_;refine mv ?_;(first|(refine lB S rfl rfl ?_));refine mv ?_;refine mv ?_;(skip))))
  have t1:=qK (tb l i)
  have k1:=w1.2.2.1
  have k2:=w2.2.2.1
  (refine qw rfl rfl rfl rfl rfl ((ZW S.wf (tb l i) k m w1.sz.b (by omega) (by omega)).mono ?_);rintro _ h ⟨⟨rfl,hq⟩|⟨rfl,hq⟩,x⟩)<;>(replace S:=S.qy x;clear x;refine vl ?_;refine mv ?_;refine qg ?_)
  all_goals (repeat' (fail))
  all_goals (refine qx ⟨_,rfl,?_⟩)
  ·exact ⟨.inl ⟨rfl,i,k,m,w1,w2,hq⟩,S.drop⟩
  ·refine ⟨.inr ⟨rfl,fun ⟨i',k',m',q1,q2,q3⟩=>?_⟩,S.drop⟩
   obtain ⟨rfl,rfl⟩:=w1.unique q1
   obtain ⟨-,rfl⟩:=w2.unique q2
   exact hq q3
 ·all_goals (repeat' (first|refine qi ?_|(refine qf 2 ?_;refine mv ?_;refine mv ?_;refine off ?_;refine off ?_;refine off ?_;(first|(refine off ?_;refine vl ?_;refine mv ?_;refine qg ?_)))))
  refine qx ⟨_,rfl,?_⟩
  exact ⟨.inr ⟨rfl,fun ⟨i',k',m',q1,q2,q3⟩=>w1 _ _ _ q1 q2⟩,S.drop⟩
theorem QE {h0:AH} (w:WfH h0) (v:Value) (l:List Tab) (H:HallR h0 v l) (a b:Int) (ha:a≤9223372036854775807) (hb:b≤9223372036854775807) :
 Fn Tryz.prog Xh 43 [v,.int .i64 a,.int .i64 b] h0 (fun r h'=>BoolIs r (Ql zu l a b)∧Hs h0 h' []):=by
 have S:=Hs.start w
 refine qF rfl Tryz.func43 rfl rfl ?_
 all_goals (repeat' (first|refine qi ?_|(refine qf 0 ?_;refine mv ?_;refine qg ?_)|(refine qf 1 ?_;(iterate 3 refine mv ?_);skip)))
 (refine qw rfl rfl rfl rfl rfl ((WZ S.wf v l H a b ha hb).mono ?_);rintro _ h ⟨_,_,_,_,rfl,⟨rfl,i,k,m,rfl,rfl,rfl,w1,w2⟩|⟨rfl,rfl,rfl,rfl,w1⟩,x⟩)<;>(replace S:=S.qy x;clear x;refine mv ?_;refine vl ?_;refine vl ?_;refine vl ?_;refine vl ?_;(refine al S ?_;clear S;intro b h S);(first|(refine sB S rfl rfl ?_;clear S;intro h S));(iterate 3 refine mv ?_);refine qg ?_)
 ·all_goals (repeat' (first|refine qi ?_|(refine qf 2 ?_;refine mv ?_;refine mv ?_;(first|(refine lB S rfl rfl ?_));refine mv ?_;refine mv ?_;(skip))))
  have t1:=qK (tb l i)
  have k1:=w1.2.2.1
  have k2:=w2.2.2.1
  (refine qw rfl rfl rfl rfl rfl ((KC S.wf (tb l i) k m w1.sz.b (by omega) (by omega)).mono ?_);rintro _ h ⟨⟨rfl,hq⟩|⟨rfl,hq⟩,x⟩)<;>(replace S:=S.qy x;clear x;refine vl ?_;refine mv ?_;refine qg ?_)
  all_goals (repeat' (fail))
  all_goals (refine qx ⟨_,rfl,?_⟩)
  ·exact ⟨.inl ⟨rfl,i,k,m,w1,w2,hq⟩,S.drop⟩
  ·refine ⟨.inr ⟨rfl,fun ⟨i',k',m',q1,q2,q3⟩=>?_⟩,S.drop⟩
   obtain ⟨rfl,rfl⟩:=w1.unique q1
   obtain ⟨-,rfl⟩:=w2.unique q2
   exact hq q3
 ·all_goals (repeat' (first|refine qi ?_|(refine qf 2 ?_;refine mv ?_;refine mv ?_;refine off ?_;refine off ?_;refine off ?_;(first|(refine off ?_;refine vl ?_;refine mv ?_;refine qg ?_)))))
  refine qx ⟨_,rfl,?_⟩
  exact ⟨.inr ⟨rfl,fun ⟨i',k',m',q1,q2,q3⟩=>w1 _ _ _ q1 q2⟩,S.drop⟩
def DistR (l:List Tab) (a b d:Int) (f:Bool):Prop:=(f=true∧∃ (i k m:Nat) (e:Nat),WhereI l a i k∧WhereI l b i m∧d=e∧IsDist (zu (tb l i)) (qC (tb l i)).toNat k e m)∨(f=false∧d=0∧∀ i k m e,WhereI l a i k→WhereI l b i m→¬ IsDist (zu (tb l i)) (qC (tb l i)).toNat k e m)
theorem jw {h0:AH} (w:WfH h0) (v:Value) (l:List Tab) (H:HallR h0 v l) (a b:Int) (ha:a≤9223372036854775807) (hb:b≤9223372036854775807) :
 Fn Tryz.prog Xh 37 [v,.int .i64 a,.int .i64 b] h0 (fun r h'=>∃ d f,r = .tuple #[.int .i64 d,.bool f]∧DistR l a b d f∧Hs h0 h' []):=by
 have S:=Hs.start w
 refine qF rfl Tryz.func37 rfl rfl ?_
 all_goals (repeat' (first|refine qi ?_|(refine qf 0 ?_;refine mv ?_;refine mv ?_;refine qg ?_)|(refine qf 1 ?_;(iterate 3 refine mv ?_);skip)))
 (refine qw rfl rfl rfl rfl rfl ((WZ S.wf v l H a b ha hb).mono ?_);rintro _ h ⟨_,_,_,_,rfl,⟨rfl,i,k,m,rfl,rfl,rfl,w1,w2⟩|⟨rfl,rfl,rfl,rfl,w1⟩,x⟩)<;>(replace S:=S.qy x;clear x;refine mv ?_;refine vl ?_;refine vl ?_;refine vl ?_;refine vl ?_;(refine al S ?_;clear S;intro b h S);(first|(refine sB S rfl rfl ?_;clear S;intro h S));(iterate 3 refine mv ?_);refine qg ?_)
 ·all_goals (repeat' (first|refine qi ?_|refine ql rfl ?_|refine qo ?_|(refine qf 2 ?_;refine mv ?_;refine vl ?_;refine qg ?_)|(refine qf 4 ?_;refine lB S rfl rfl ?_;refine mv ?_)))
  have t1:=qK (tb l i)
  have k1:=w1.2.2.1
  have k2:=w2.2.2.1
  obtain ⟨n,hn⟩:=Int.eq_ofNat_of_zero_le t1.1
  have hnn:(qC (tb l i)).toNat=n:=by omega
  (refine qw rfl rfl rfl rfl rfl ((xA S.wf (tb l i) k n w1.sz.b hn (by omega) (by omega)).mono ?_);rintro vd h ⟨ld,hd,x⟩)<;>(replace S:=S.jo x;clear x;have hdl:=hd.1;refine mv ?_;refine qH S rfl rfl ?_;refine qI S rfl rfl ?_;refine mv ?_;refine qg ?_)
  all_goals (repeat' (first|refine qi ?_|refine ql rfl ?_|refine qo ?_|(refine qf 5 ?_;refine mv ?_;(first|(refine cS ?_ ?_<;>intro hc))<;>(refine qg ?_))|(refine qf 6 ?_;(iterate 3 refine mv ?_);refine qg ?_)|(refine qf 7 ?_;refine mv ?_;refine mv ?_;refine qg ?_)))
  all_goals (try simp only [Int.toNat_natCast] at *)
  ·refine qx ⟨_,rfl,?_⟩
   rcases hd.2 m (by omega) with ⟨g,-⟩|⟨e,g1,g2⟩
   ·omega
   ·exact ⟨_,true,rfl,.inl ⟨rfl,i,k,m,e,w1,w2,g1,by rw [hnn];exact g2⟩,S.drop⟩
  ·refine qx ⟨_,rfl,?_⟩
   refine ⟨0,false,rfl,.inr ⟨rfl,rfl,fun i' k' m' e' q1 q2 q3=>?_⟩,S.drop⟩
   obtain ⟨rfl,rfl⟩:=w1.unique q1
   obtain ⟨-,rfl⟩:=w2.unique q2
   rw [hnn] at q3
   rcases hd.2 m (by omega) with ⟨-,g⟩|⟨e,g1,g2⟩
   ·exact g _ q3.1
   ·omega
 ·all_goals (repeat' (first|refine qi ?_|refine ql rfl ?_|(refine qf 2 ?_;refine mv ?_;refine vl ?_;refine qg ?_)|(refine qf 3 ?_;refine mv ?_;refine mv ?_;refine qg ?_)))
  refine qx ⟨_,rfl,?_⟩
  exact ⟨0,false,rfl,.inr ⟨rfl,rfl,fun i' k' m' e' q1 q2 q3=>w1 _ _ _ q1 q2⟩,S.drop⟩
def LevR (l:List Tab) (a v:Int):Prop:=(∃ (i k:Nat) (ld:List Int),WhereI l a i k∧DistL (zu (tb l i)) (qC (tb l i)).toNat (ZG (tb l i)).toNat ld∧v=(Yj (qC (tb l i)).toNat ld).getD k default)∨(v=0∧∀ i k,¬ WhereI l a i k)
theorem Ve {h0:AH} (w:WfH h0) (v:Value) (l:List Tab) (H:HallR h0 v l) (a:Int) (ha:a≤9223372036854775807) :
 Fn Tryz.prog Xh 35 [v,.int .i64 a] h0 (fun r h'=>∃ d,r = .int .i64 d∧LevR l a d∧Hs h0 h' []):=by
 have S:=Hs.start w
 have hr:=H.rd
 have hl:=H.len
 refine qF rfl Tryz.func35 rfl rfl ?_
 all_goals (repeat' (first|refine qi ?_|(refine qf 0 ?_;refine mv ?_;refine qg ?_)|(refine qf 1 ?_;refine mv ?_;refine mv ?_)))
 (refine qw rfl rfl rfl rfl rfl ((ZY S.wf v l H a ha).mono ?_);rintro _ h ⟨_,_,_,rfl,⟨rfl,i,k,rfl,rfl,w1⟩|⟨rfl,rfl,rfl,w1⟩,x⟩)<;>(replace S:=S.qy x;clear x;refine mv ?_;refine vl ?_;refine vl ?_;refine vl ?_;(iterate 3 refine mv ?_);refine qg ?_)
 ·have hi:=w1.2.1
  have t1:=qK (tb l i)
  have k1:=w1.2.2.1
  obtain ⟨n,hn⟩:=Int.eq_ofNat_of_zero_le t1.1
  have hnn:(qC (tb l i)).toNat=n:=by omega
  all_goals (repeat' (first|refine qi ?_|refine ql rfl ?_|refine qo ?_|(refine qf 2 ?_;refine mv ?_;refine vl ?_;refine qg ?_)|(refine qf 4 ?_;refine mv ?_;refine mv ?_;refine jv S ?_;refine zS S ?_)))
  (try simp only [Int.toNat_natCast] at *)
  (refine qw rfl rfl rfl rfl rfl ((kz S.wf (tb l i) n w1.sz.b hn (by omega) (by omega)).mono ?_);rintro vd h ⟨ld,hd,x⟩)<;>(replace S:=S.jo x;clear x;have hdl:=hd.1;have hdm:(Yj n ld).length=ld.length:=List.length_map ..;refine mv ?_;refine qH S rfl rfl ?_;refine qI S rfl rfl ?_;refine mv ?_;refine qg ?_)
  all_goals (repeat' (fail))
  refine qx ⟨_,rfl,?_⟩
  exact ⟨_,rfl,.inl ⟨i,k,ld,w1,by rw [hnn];exact hd,by rw [hnn,Int.toNat_natCast]⟩,S.drop⟩
 ·all_goals (repeat' (first|refine qi ?_|refine ql rfl ?_|(refine qf 2 ?_;refine mv ?_;refine vl ?_;refine qg ?_)|(refine qf 3 ?_;refine mv ?_;refine qg ?_)))
  refine qx ⟨_,rfl,?_⟩
  exact ⟨0,rfl,.inr ⟨rfl,w1⟩,S⟩
theorem qd8 {h0:AH} (w:WfH h0) (v:Value) (l:List Int) (hr:RdL h0 v 1 eI l) (hl:l.length≤1000000) (k:Int):Fn Tryz.prog Xh 105 [v,.int .i64 k] h0 (fun r h'=>qfU r (fun i=>l.getD i default=k) l.length∧Hs h0 h' []):=by
 have S:=Hs.start w
 refine qF rfl Tryz.func105 rfl rfl ?_
 all_goals (repeat' (first|refine qi ?_|refine qm ?_|(refine qf 0 ?_;refine mv ?_;refine qg ?_)|(refine qf 1 ?_;refine mv ?_;refine QD S ?_;refine mv ?_;refine qg ?_)))
 refine qE (σ:=Nat) (fun i h'=>Hs h0 h' []∧i≤l.length∧∀ j,j<i→¬ l.getD j default=k) (fun i=>l.length - i) (fun i=>[(0,v),(1,.int .i64 k),(7,.int .i64 l.length),(8,.int .i64 i)]) 0 (by repeat (first|exact Ks.le_nil _|refine Ks.qh rfl ?_)) ?_ ?_
 ·exact ⟨S,Nat.zero_le _,fun j hj=>absurd hj (Nat.not_lt_zero _)⟩
 clear S
 rintro i h ⟨S,h1,h2⟩
 all_goals (repeat' (first|refine qi ?_|refine ql rfl ?_|refine qo ?_|refine qA ?_|refine qm ?_|(refine qf 2 ?_;(first|(refine cS ?_ ?_<;>intro hc))<;>(refine qg ?_))|(refine qf 3 ?_;refine mv ?_;refine mv ?_;refine qg ?_)|(refine qf 4 ?_;(iterate 3 refine mv ?_);refine jv S ?_;refine zS S ?_;(first|(refine cS ?_ ?_<;>intro hc))<;>(refine qg ?_))|(refine qf 5 ?_;refine mv ?_;refine mv ?_;refine qg ?_)|(refine qf 6 ?_;refine ad ?_;refine mv ?_;refine qg ?_)|(refine qf 7 ?_;refine mv ?_;refine qg ?_)))
 all_goals (try simp only [Int.toNat_natCast] at *)
 ·refine qx ⟨_,rfl,?_⟩
  exact ⟨.inl ⟨i,by omega,rfl,hc.symm,h2⟩,S⟩
 ·refine ⟨i+1,?_,?_,(by repeat (first|exact Ks.le_nil _|refine Ks.qh rfl ?_))⟩
  ·show l.length - (i+1)<l.length - i;omega
  ·refine ⟨S,by omega,fun j hj=>?_⟩
   rcases Nat.lt_or_ge j i with q|q
   ·exact h2 j q
   ·obtain rfl:j=i:=by omega
    exact fun q=>hc q.symm
 ·refine qx ⟨_,rfl,?_⟩
  exact ⟨.inr ⟨rfl,fun j hj=>h2 j (by omega)⟩,S⟩
theorem J9 {h0:AH} (w:WfH h0) (v:Value) (l:List Int) (hr:RdL h0 v 1 eI l) (hl:l.length≤1000000) (k:Int):Fn Tryz.prog Xh 48 [v,.int .i64 k] h0 (fun r h'=>BoolIs r (∃ i,i<l.length∧l.getD i default=k)∧Hs h0 h' []):=by
 have S:=Hs.start w
 refine qF rfl Tryz.func48 rfl rfl ?_
 all_goals (repeat' (first|refine qi ?_|(refine qf 0 ?_;refine mv ?_;refine qg ?_)|(refine qf 1 ?_;refine mv ?_;refine mv ?_)))
 (refine qw rfl rfl rfl rfl rfl ((qd8 S.wf v l hr hl k).mono ?_);rintro _ h ⟨⟨i,hi,rfl,hq,hn⟩|⟨rfl,hn⟩,x⟩)<;>(replace S:=S.qy x;clear x;(first|refine cT ?_|refine cF ?_)<;>(refine mv ?_;refine qg ?_))
 all_goals (repeat' (fail))
 all_goals (try omega)
 all_goals (refine qx ⟨_,rfl,?_⟩)
 ·exact ⟨.inl ⟨rfl,i,hi,hq⟩,S⟩
 ·exact ⟨.inr ⟨rfl,fun ⟨j,hj,hp⟩=>hn j hj hp⟩,S⟩
def kW (l:List Tab) (a:Int):Prop:=∃ i k:Nat,WhereI l a i k∧ZA (tb l i) k
theorem WE {h0:AH} (w:WfH h0) (v:Value) (l:List Tab) (H:HallR h0 v l) (a:Int) (ha:a≤9223372036854775807) :
 Fn Tryz.prog Xh 50 [v,.int .i64 a] h0 (fun r h'=>BoolIs r (kW l a)∧Hs h0 h' []):=by
 have S:=Hs.start w
 have hr:=H.rd
 have hl:=H.len
 refine qF rfl Tryz.func50 rfl rfl ?_
 all_goals (repeat' (first|refine qi ?_|(refine qf 0 ?_;refine mv ?_;refine qg ?_)|(refine qf 1 ?_;refine mv ?_;refine mv ?_)))
 (refine qw rfl rfl rfl rfl rfl ((ZY S.wf v l H a ha).mono ?_);rintro _ h ⟨_,_,_,rfl,⟨rfl,i,k,rfl,rfl,w1⟩|⟨rfl,rfl,rfl,w1⟩,x⟩)<;>(replace S:=S.qy x;clear x;refine mv ?_;refine vl ?_;refine vl ?_;refine vl ?_;(iterate 3 refine mv ?_);refine qg ?_)
 ·have hi:=w1.2.1
  have ht:=(H.ext w S.ext).tab i hi
  all_goals (repeat' (first|refine qi ?_|(refine qf 2 ?_;(iterate 4 refine mv ?_);(first|(refine jv S ?_));(first|(refine fB S ?_));(first|(refine zS S ?_));refine mv ?_;(skip))))
  (try simp only [Int.toNat_natCast] at *)
  (refine qw rfl rfl rfl rfl rfl ((J9 S.wf (tb l i).ov (tb l i).opn ht.1 (Nat.le_trans ht.2.2 (by omega)) k).mono ?_);rintro _ h ⟨⟨rfl,hq⟩|⟨rfl,hq⟩,x⟩)<;>(replace S:=S.qy x;clear x;refine vl ?_;refine mv ?_;refine qg ?_)
  all_goals (repeat' (fail))
  all_goals (refine qx ⟨_,rfl,?_⟩)
  ·exact ⟨.inl ⟨rfl,i,k,w1,hq⟩,S⟩
  ·refine ⟨.inr ⟨rfl,fun ⟨i',k',q1,q2⟩=>?_⟩,S⟩
   obtain ⟨rfl,rfl⟩:=w1.unique q1
   exact hq q2
 ·all_goals (repeat' (first|refine qi ?_|(refine qf 2 ?_;refine mv ?_;refine mv ?_;refine off ?_;refine off ?_;refine off ?_;refine off ?_;refine off ?_;refine off ?_;(first|(refine off ?_;refine vl ?_;refine mv ?_;refine qg ?_)))))
  refine qx ⟨_,rfl,?_⟩
  exact ⟨.inr ⟨rfl,fun ⟨i',k',q1,q2⟩=>w1 _ _ q1⟩,S⟩
open Classical in
noncomputable def Jg (N:Int→Int→Prop) (k a:Int):Nat→List Int
 | 0=>[]
 | m+1=>if N k m then Jg N k a m ++ [a - k+m] else Jg N k a m
theorem Vb (N:Int→Int→Prop) (k a:Int):∀ m,(Jg N k a m).length≤m
 | 0=>Nat.le_refl _
 | m+1=>by
  have:=Vb N k a m
  unfold Jg
  split
  ·simp;omega
  ·omega
def NbR (l:List Tab) (a:Int) (out:List Int):Prop:=(∃ i k:Nat,WhereI l a i k∧out=Jg (zu (tb l i)) k a (qC (tb l i)).toNat)∨(out=[]∧∀ i k,¬ WhereI l a i k)
theorem Jm {h0:AH} (w:WfH h0) (v:Value) (l:List Tab) (H:HallR h0 v l) (a:Int) (ha:a≤9223372036854775807) :
 Fn Tryz.prog Xh 36 [v,.int .i64 a] h0 (fun r h'=>∃ out,NbR l a out∧out.length≤1000∧Hs h0 h' [.sl r 3 1 eI out]):=by
 have S:=Hs.start w
 have hr:=H.rd
 have hl:=H.len
 refine qF rfl Tryz.func36 rfl rfl ?_
 all_goals (repeat' (first|refine qi ?_|(refine qf 0 ?_;refine mv ?_;refine qg ?_)|(refine qf 1 ?_;refine mv ?_;refine mv ?_)))
 (refine qw rfl rfl rfl rfl rfl ((ZY S.wf v l H a ha).mono ?_);rintro _ h ⟨_,_,_,rfl,⟨rfl,i,k,rfl,rfl,w1⟩|⟨rfl,rfl,rfl,w1⟩,x⟩)<;>(replace S:=S.qy x;clear x;refine mv ?_;refine vl ?_;refine vl ?_;refine vl ?_;(iterate 3 refine mv ?_);refine qg ?_)
 ·have hi:=w1.2.1
  have t1:=qK (tb l i)
  have k1:=w1.2.2.1
  have a1:=w1.2.2.2
  have b1:=jJ l i
  obtain ⟨n,hn⟩:=Int.eq_ofNat_of_zero_le t1.1
  have hnn:(qC (tb l i)).toNat=n:=by omega
  all_goals (repeat' (first|refine qi ?_|refine ql rfl ?_|refine qo ?_|(refine qf 2 ?_;refine mv ?_;refine vl ?_;refine qg ?_)|(refine qf 4 ?_;refine mv ?_;refine qg ?_)|(refine qf 5 ?_;refine mv ?_;refine mv ?_;refine jv S ?_;refine zS S ?_)))
  (try simp only [Int.toNat_natCast] at *)
  (refine qw rfl rfl rfl rfl rfl ((Ze S.wf (tb l i)).mono ?_);rintro _ h ⟨rfl,x⟩)<;>(replace S:=S.qy x;clear x;rw [hn];refine mv ?_;refine qg ?_)
  all_goals (repeat' (refine qm ?_))
  refine qE (σ:=Nat×Value) (fun (m,vo) h'=>Hs h0 h' [.sl vo 3 1 eI (Jg (zu (tb l i)) k a m)]∧m≤n) (fun (m,vo)=>n - m) (fun (m,vo)=>[(0,v),(1,.int .i64 a),(5,.int .i64 i),(6,.int .i64 k),(8,vo),(23,.int .i64 n),(24,.int .i64 m)]) (0,.slice none 0 0) (by repeat (first|exact Ks.le_nil _|refine Ks.qh rfl ?_)) ?_ ?_
  ·exact ⟨S.jP,Nat.zero_le _⟩
  clear S
  rintro ⟨m,vo⟩ h ⟨S,h1⟩
  have hnl:=Vb (zu (tb l i)) k a m
  all_goals (repeat' (first|refine qi ?_|refine ql rfl ?_|refine qo ?_|refine qA ?_|refine qm ?_|(refine qf 6 ?_;(first|(refine cS ?_ ?_<;>intro hc))<;>(refine qg ?_))|(refine qf 7 ?_;refine mv ?_;refine mv ?_;refine qg ?_)|(refine qf 8 ?_;refine mv ?_;refine mv ?_;refine jv S ?_;refine zS S ?_;refine mv ?_;refine mv ?_)|(refine qf 11 ?_;refine mv ?_;refine mv ?_;refine qg ?_)))
  ·(try simp only [Int.toNat_natCast] at *)
   (refine qw rfl rfl rfl rfl rfl ((KC S.wf (tb l i) k m w1.sz.b (by omega) (by omega)).mono ?_);rintro _ h ⟨⟨rfl,hq⟩|⟨rfl,hq⟩,x⟩)<;>(replace S:=S.qy x;clear x;refine qg ?_)
   ·all_goals (repeat' (first|refine ql rfl ?_|(refine qf 9 ?_;(iterate 3 refine mv ?_);refine sb ?_;refine mv ?_;refine ad ?_;(refine one 1 S ?_;clear S;intro u h S))))
    refine app (y0:=(a - k+m)) S rfl rfl ?_;clear S;intro v h S;refine mv ?_;refine qg ?_
    all_goals (repeat' (first|(refine qf 10 ?_;refine ad ?_;refine mv ?_;refine qg ?_)))
    refine ⟨(m+1,v),?_,?_,(by repeat (first|exact Ks.le_nil _|refine Ks.qh rfl ?_))⟩
    ·show n - (m+1)<n - m;omega
    ·refine ⟨?_,by omega⟩
     have e:Jg (zu (tb l i)) k a (m+1)=Jg (zu (tb l i)) k a m ++ [a - k+m]:=by rw [Jg,if_pos hq]
     rw [e];exact S
   ·all_goals (repeat' (first|refine ql rfl ?_|refine qo ?_|(refine qf 10 ?_;refine ad ?_;refine mv ?_;refine qg ?_)))
    refine ⟨(m+1,vo),?_,?_,(by repeat (first|exact Ks.le_nil _|refine Ks.qh rfl ?_))⟩
    ·show n - (m+1)<n - m;omega
    ·refine ⟨?_,by omega⟩
     have e:Jg (zu (tb l i)) k a (m+1)=Jg (zu (tb l i)) k a m:=by rw [Jg,if_neg hq]
     rw [e];exact S
  ·refine qx ⟨_,rfl,?_⟩
   have hmn:m=n:=by omega
   subst hmn
   exact ⟨_,.inl ⟨i,k,w1,by rw [hnn]⟩,by omega,S⟩
 ·all_goals (repeat' (first|refine qi ?_|refine ql rfl ?_|(refine qf 2 ?_;refine mv ?_;refine vl ?_;refine qg ?_)|(refine qf 3 ?_;refine mv ?_;refine qg ?_)))
  refine qx ⟨_,rfl,?_⟩
  exact ⟨[],.inr ⟨rfl,w1⟩,by simp,S.jP⟩
theorem WhereR.is {l:List Tab} {s a b:Int} {f:Bool} (h:WhereR l s a b f) {i k:Nat} (q:WhereI l s i k):a=i∧b=k∧f=true:=h.unique (.inl ⟨rfl,i,k,rfl,rfl,q⟩)
theorem WhereR.no {l:List Tab} {s a b:Int} {f:Bool} (h:WhereR l s a b f) (q:∀ i k,¬ WhereI l s i k):a=0∧b=0∧f=false:=h.unique (.inr ⟨rfl,rfl,rfl,q⟩)
theorem MadeH.sz {cs:List wz} {l:List Tab} (m:MadeH cs l) {i:Nat} (h:i<l.length):TabS (tb l i):=by
 obtain ⟨t,h1,h2⟩:=m.tab i h
 refine TabS.of _ ?_
 rw [h2,GR];exact h1.ts.pos
theorem MadeH.seats {cs:List wz} {l:List Tab} (m:MadeH cs l) {i:Nat} (h:i<l.length):Zv (tb l i)=qC (tb l i):=by
 unfold Zv;rw [if_pos (m.chk h)]
theorem MadeH.first {cs:List wz} {l:List Tab} (m:MadeH cs l) {i:Nat} (h:i<l.length):zY l i=sumT l i:=by
 unfold zY;rw [if_pos ⟨by omega,by omega,m.valid⟩,Int.toNat_natCast]
theorem MadeH.count {cs:List wz} {l:List Tab} (m:MadeH cs l):Qx l=sumT l l.length:=by
 unfold Qx;rw [if_pos m.valid]
theorem MadeH.find {cs:List wz} {l:List Tab} (m:MadeH cs l) {i:Nat} (hi:i<l.length) {k:Int} {f:Bool} (h:Vy l (tb l i).name k f):k=i∧f=true:=by
 rcases h with ⟨rfl,j,rfl,h1,h2,h3,h4⟩|⟨rfl,rfl,h1|h1⟩
 ·have:=m.valid.one h2 hi h3
  exact ⟨by rw [this],rfl⟩
 ·exact absurd m.valid h1
 ·exact absurd rfl (h1 i hi)
def qhM:List UInt8:=[122,101,98,114,97]
end Go.Proofs.Xx
