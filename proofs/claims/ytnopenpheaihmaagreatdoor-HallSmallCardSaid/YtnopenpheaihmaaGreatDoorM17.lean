/-
  HallSeats: what is asked of seats and pairs of seats.
-/
import Derived.Test.YtnopenpheaihmaaGreatDoorM11
import Derived.Test.YtnopenpheaihmaaGreatDoorM16
import Derived.Test.YtnopenpheaihmaaGreatDoorM6
import Derived.Test.YtnopenpheaihmaaGreatDoorM9
import Derived.Test.YtnopenpheaihmaaGreatDoorM13
namespace Go.Proofs.Xx
open Go Go.Proofs
set_option linter.unusedSimpArgs false
set_option linter.unusedVariables false
set_option maxRecDepth 100000
set_option maxHeartbeats 8000000
section
variable {t u:Tab}
theorem SameTab.beside (h:SameTab t u):zk t=zk u:=by unfold SameTab at h;rw [h];rfl
theorem SameTab.across (h:SameTab t u):zt t=zt u:=by unfold SameTab at h;rw [h];rfl
theorem SameTab.near (h:SameTab t u):zu t=zu u:=by unfold SameTab at h;rw [h];rfl
theorem SameTab.hon (h:SameTab t u):ZG t=ZG u:=by unfold SameTab at h;rw [h];rfl
theorem SameTab.opn (h:SameTab t u):ZA t=ZA u:=by unfold SameTab at h;rw [h];rfl
end
section
variable {l2 l:List Tab}
theorem SameAll.Xv (s:SameAll l2 l) {a:Int} {i k:Nat}:WhereI l2 a i k↔WhereI l a i k:=by
 unfold WhereI
 simp only [s.valid,s.1,s.size,s.sum]
theorem SameAll.qdm (s:SameAll l2 l) {a x y:Int} {f:Bool} (h:WhereR l2 a x y f):WhereR l a x y f:=by
 unfold WhereR at h ⊢
 simp only [s.Xv] at h
 exact h
theorem SameAll.kP (s:SameAll l2 l) {a b d:Int} {f:Bool} (h:DistR l2 a b d f):DistR l a b d f:=by
 unfold DistR at h ⊢
 simp only [s.Xv,(s.all _).near,s.size] at h
 exact h
theorem SameAll.qhf (s:SameAll l2 l) {a d:Int} (h:LevR l2 a d):LevR l a d:=by
 unfold LevR at h ⊢
 simp only [s.Xv,(s.all _).near,(s.all _).hon,s.size] at h
 exact h
theorem SameAll.qdL (s:SameAll l2 l) {a:Int}:kW l2 a↔kW l a:=by
 unfold kW
 simp only [s.Xv,(s.all _).opn]
theorem SameAll.nbR (s:SameAll l2 l) {a:Int} {out:List Int} (h:NbR l2 a out):NbR l a out:=by
 unfold NbR at h ⊢
 simp only [s.Xv,(s.all _).near,s.size] at h
 exact h
theorem SameAll.XP (s:SameAll l2 l) {a b:Int}:Ql zk l2 a b↔Ql zk l a b:=by
 unfold Ql
 simp only [s.Xv,(s.all _).beside]
theorem SameAll.XQ (s:SameAll l2 l) {a b:Int}:Ql zt l2 a b↔Ql zt l a b:=by
 unfold Ql
 simp only [s.Xv,(s.all _).across]
theorem SameAll.Jz (s:SameAll l2 l) {a b:Int}:Ql zu l2 a b↔(Ql zk l a b∨Ql zt l a b):=by
 unfold Ql
 simp only [s.Xv,(s.all _).near]
 constructor
 ·rintro ⟨i,k,m,h1,h2,h3|h3⟩
  ·exact .inl ⟨i,k,m,h1,h2,h3⟩
  ·exact .inr ⟨i,k,m,h1,h2,h3⟩
 ·rintro (⟨i,k,m,h1,h2,h3⟩|⟨i,k,m,h1,h2,h3⟩)
  ·exact ⟨i,k,m,h1,h2,.inl h3⟩
  ·exact ⟨i,k,m,h1,h2,.inr h3⟩
end
theorem DistR.unique {l:List Tab} {a b d d':Int} {f f':Bool} (h:DistR l a b d f) (g:DistR l a b d' f'):d=d'∧f=f':=by
 rcases h with ⟨rfl,i,k,m,e,h1,h2,rfl,h3⟩|⟨rfl,rfl,h⟩<;>rcases g with ⟨rfl,i',k',m',e',g1,g2,rfl,g3⟩|⟨rfl,rfl,g⟩
 ·obtain ⟨rfl,rfl⟩:=h1.unique g1
  obtain ⟨-,rfl⟩:=h2.unique g2
  rw [h3.unique g3]
  exact ⟨rfl,rfl⟩
 ·exact absurd h3 (g _ _ _ _ h1 h2)
 ·exact absurd g3 (h _ _ _ _ g1 g2)
 ·exact ⟨rfl,rfl⟩
theorem LevR.unique {l:List Tab} {a d d':Int} (h:LevR l a d) (g:LevR l a d'):d=d':=by
 rcases h with ⟨i,k,ld,h1,h2,rfl⟩|⟨rfl,h⟩<;>rcases g with ⟨i',k',ld',g1,g2,rfl⟩|⟨rfl,g⟩
 ·obtain ⟨rfl,rfl⟩:=h1.unique g1
  rw [h2.unique g2]
 ·exact absurd h1 (g _ _)
 ·exact absurd g1 (h _ _)
 ·rfl
theorem NbR.unique {l:List Tab} {a:Int} {o o':List Int} (h:NbR l a o) (g:NbR l a o'):o=o':=by
 rcases h with ⟨i,k,h1,rfl⟩|⟨rfl,h⟩<;>rcases g with ⟨i',k',g1,rfl⟩|⟨rfl,g⟩
 ·obtain ⟨rfl,rfl⟩:=h1.unique g1;rfl
 ·exact absurd h1 (g _ _)
 ·exact absurd g1 (h _ _)
 ·rfl
def AllR (l:List Tab) (out:List (Nat×Nat)):Prop:=(ValidL l∧xk l l.length 0 out)∨(¬ ValidL l∧out=[])
theorem AllR.in_ {l:List Tab} {out:List (Nat×Nat)} (a:AllR l out) {x:Nat} (h:x<out.length):WhereI l x (out.getD x default).1 (out.getD x default).2:=by
 rcases a with ⟨v,s⟩|⟨-,rfl⟩
 ·have:=s.2 x h
  exact ⟨v,by omega,this.2.1,this.2.2⟩
 ·simp at h
theorem AllR.out {l:List Tab} {out:List (Nat×Nat)} (a:AllR l out) {x:Int} (h:x<0∨(out.length:Int)≤x) (i k:Nat):¬ WhereI l x i k:=by
 rintro ⟨w1,w2,w3,w4⟩
 rcases a with ⟨v,s⟩|⟨v,rfl⟩
 ·have h1:=s.1
  have b1:=jJ l i
  have:=XV l (show i+1≤l.length by omega)
  simp only [sumT] at this
  omega
 ·exact v w1
theorem AllR.len {l:List Tab} {out:List (Nat×Nat)} (a:AllR l out) (hl:l.length≤1000):out.length≤24000:=by
 rcases a with ⟨v,s⟩|⟨v,rfl⟩
 ·have h1:=s.1
  have b1:=jJ l l.length
  omega
 ·simp
theorem yC {h0:AH} (w:WfH h0) (vs:Value) (l:List Tab) (out:List (Nat×Nat)) (hr:RdL h0 vs 2 eSt out) (ao:AllR l out) (hl:l.length≤1000) (x:Int):Fn Tryz.prog Xh 128 [vs,.int .i64 x] h0 (fun r h'=>∃ a b f,r = .tuple #[.agg #[.int .i64 a,.int .i64 b],.bool f]∧WhereR l x a b f∧Hs h0 h' []):=by
 have S:=Hs.start w
 have hol:=ao.len hl
 by_cases hx:x<0
 ·refine qF rfl Tryz.func128 rfl rfl ?_
  all_goals (repeat' (first|refine qi ?_|refine ql rfl ?_|(refine qf 0 ?_;(refine al S ?_;clear S;intro b h S);refine mv ?_;refine qg ?_)|(refine qf 1 ?_;refine mv ?_;(refine cT ?_)<;>(refine mv ?_;refine off ?_;refine off ?_;refine off ?_;(refine off ?_)<;>(refine vl ?_;refine qg ?_)))|(refine qf 2 ?_;refine vl ?_;(first|(refine sB S rfl rfl ?_;clear S;intro h S));refine mv ?_;refine qg ?_)))
  all_goals (try omega)
  refine qx ⟨_,zK S rfl (by first|exact .here) (by exact rfl) (by exact rfl),?_⟩
  exact ⟨0,0,false,rfl,.inr ⟨rfl,rfl,rfl,ao.out (.inl hx)⟩,S.drop⟩
 obtain ⟨n,rfl⟩:=Int.eq_ofNat_of_zero_le (show 0≤x by omega)
 refine qF rfl Tryz.func128 rfl rfl ?_
 all_goals (repeat' (first|refine qi ?_|refine ql rfl ?_|refine qo ?_|(refine qf 0 ?_;(refine al S ?_;clear S;intro b h S);refine mv ?_;refine qg ?_)|(refine qf 1 ?_;refine mv ?_;(refine cF ?_)<;>((iterate 3 refine mv ?_);(first|(refine QD S ?_));(first|(first|(refine cS ?_ ?_<;>intro hc)))<;>(refine vl ?_;refine qg ?_)))|(refine qf 2 ?_;refine vl ?_;(first|(refine sB S rfl rfl ?_;clear S;intro h S));refine mv ?_;refine qg ?_)|(refine qf 3 ?_;refine mv ?_;refine mv ?_;refine jv S ?_;refine zS S ?_;(first|(refine sB S rfl rfl ?_;clear S;intro h S));refine mv ?_;refine qg ?_)))
 all_goals (try omega)
 all_goals (try simp only [Int.toNat_natCast] at *)
 ·refine qx ⟨_,zK S rfl (by first|exact .here) (by exact rfl) (by exact rfl),?_⟩
  exact ⟨0,0,false,rfl,.inr ⟨rfl,rfl,rfl,ao.out (.inr (by omega))⟩,S.drop⟩
 ·refine qx ⟨_,zK S rfl (by first|exact .here) (by exact rfl) (by exact rfl),?_⟩
  exact ⟨_,_,true,rfl,.inl ⟨rfl,_,_,rfl,rfl,ao.in_ (by omega)⟩,S.drop⟩
theorem BoolIs.T {v:Value} {p:Prop} (h:BoolIs v p) (q:p):v = .bool true:=by
 rcases h with ⟨h,-⟩|⟨-,h⟩
 ·exact h
 ·exact absurd q h
theorem BoolIs.F {v:Value} {p:Prop} (h:BoolIs v p) (q:¬ p):v = .bool false:=by
 rcases h with ⟨-,h⟩|⟨h,-⟩
 ·exact absurd h q
 ·exact h
theorem BoolIs.iff {v:Value} {p q:Prop} (h:BoolIs v p) (e:p↔q):BoolIs v q:=by
 rcases h with ⟨h1,h2⟩|⟨h1,h2⟩
 ·exact .inl ⟨h1,e.1 h2⟩
 ·exact .inr ⟨h1,fun k=>h2 (e.2 k)⟩
theorem qaz {P:Tab→Int→Int→Prop} {l:List Tab} {a b:Int} {i k m:Nat} (h1:WhereI l a i k) (h2:WhereI l b i m):P (tb l i) k m↔Ql P l a b:=by
 constructor
 ·exact fun h=>⟨i,k,m,h1,h2,h⟩
 ·rintro ⟨i',k',m',q1,q2,q3⟩
  obtain ⟨rfl,rfl⟩:=h1.unique q1
  obtain ⟨-,rfl⟩:=h2.unique q2
  exact q3
theorem yB {h0:AH} (w:WfH h0) (vo v vs vf:Value) (l2 l:List Tab) (out:List (Nat×Nat)) (ld:List Int) (ya yb:Int) (H2:HallR h0 vo l2) (H:HallR h0 v l) (sa:SameAll l2 l) (hs:RdL h0 vs 2 eSt out) (ao:AllR l out) (ha0:ya≤9223372036854775807) (hb0:yb≤9223372036854775807)
 (hf:RdL h0 vf 1 eI ld) (hd:∀ i k,WhereI l ya i k→DistL (zu (tb l i)) (qC (tb l i)).toNat k ld):Fn Tryz.prog Xh 133 [vo,v,vs,.int .i64 ya,.int .i64 yb,vf] h0 (fun r h'=>r = .bool true∧Hs h0 h' []):=by
 have S:=Hs.start w
 have hr:=H.rd
 have hl:=H.len
 refine qF rfl Tryz.func133 rfl rfl ?_
 all_goals (repeat' (first|refine qi ?_|(refine qf 0 ?_;refine mv ?_;refine qg ?_)|(refine qf 1 ?_;refine mv ?_;refine mv ?_)))
 (refine qw rfl rfl rfl rfl rfl ((yC S.wf vs l out hs ao H.len ya).mono ?_);rintro _ h ⟨_,_,_,rfl,⟨rfl,i,k,rfl,rfl,w1⟩|⟨rfl,rfl,rfl,w1⟩,x⟩)<;>(replace S:=S.qy x;clear x;refine mv ?_;refine vl ?_;refine vl ?_;(refine al S ?_;clear S;intro b h S);(first|(refine sB S rfl rfl ?_;clear S;intro h S));refine mv ?_;refine qg ?_)
 all_goals (all_goals (repeat' (first|refine qi ?_|(refine qf 2 ?_;refine mv ?_;refine mv ?_))))
 all_goals (obtain ⟨bs,hnm⟩:∃ x,x=b:=⟨_,rfl⟩;subst hnm)
 all_goals ((refine qw rfl rfl rfl rfl rfl ((yC S.wf vs l out (hs.ext w S.ext) ao H.len yb).mono ?_);rintro _ h ⟨_,_,_,rfl,⟨rfl,j,m,rfl,rfl,w2⟩|⟨rfl,rfl,rfl,w2⟩,x⟩)<;>(replace S:=S.qy x;clear x;refine mv ?_;refine vl ?_;refine vl ?_;(refine al S ?_;clear S;intro b h S);(first|(refine sB S rfl rfl ?_;clear S;intro h S));refine mv ?_;refine qg ?_))
 all_goals (obtain ⟨bu,hnm⟩:∃ x,x=b:=⟨_,rfl⟩;subst hnm)
 ·have hi:=w1.2.1
  all_goals (all_goals (repeat' (first|refine qi ?_|refine ql rfl ?_|refine qo ?_|(refine qf 3 ?_;(iterate 4 refine mv ?_);refine qg ?_)|(refine qf 4 ?_;(iterate 3 refine mv ?_);refine vl ?_;refine mv ?_;(first|(refine vl ?_));(first|(refine lB S rfl rfl ?_));(first|(refine vl ?_));(first|(refine lB S rfl rfl ?_));(first|(first|(refine cS ?_ ?_<;>intro hc)))<;>(refine vl ?_;refine qg ?_))|(refine qf 5 ?_;refine mv ?_;refine vl ?_;refine lB S rfl rfl ?_;refine jv S ?_;refine zS S ?_;(refine al S ?_;clear S;intro b h S);(first|(refine sB S rfl rfl ?_;clear S;intro h S));refine qg ?_)|(refine qf 9 ?_;(iterate 3 refine mv ?_);skip))))
  rotate_left
  ·have fd:DistR l ya yb 0 false:=.inr ⟨rfl,rfl,fun i' k' m' e' q1 q2 q3=>by obtain ⟨rfl,rfl⟩:=w1.unique q1;obtain ⟨rfl,rfl⟩:=w2.unique q2;omega⟩
   have hvb':BoolIs (.bool false) (Ql zk l ya yb):=.inr ⟨rfl,fun ⟨i',k',m',q1,q2,q3⟩=>by obtain ⟨rfl,rfl⟩:=w1.unique q1;obtain ⟨rfl,rfl⟩:=w2.unique q2;omega⟩
   have hva':BoolIs (.bool false) (Ql zt l ya yb):=.inr ⟨rfl,fun ⟨i',k',m',q1,q2,q3⟩=>by obtain ⟨rfl,rfl⟩:=w1.unique q1;obtain ⟨rfl,rfl⟩:=w2.unique q2;omega⟩
   rcases hvb' with ⟨e,hb⟩|⟨e,hb⟩<;>cases e<;>rcases hva' with ⟨e,ha⟩|⟨e,ha⟩<;>cases e
   all_goals
    (refine qw rfl rfl rfl rfl rfl ((jw S.wf vo l2 (H2.ext w S.ext) ya yb ha0 hb0).mono ?_);rintro _ h ⟨_,_,rfl,hdd,x⟩)<;>(replace S:=S.qy x;clear x;obtain ⟨rfl,rfl⟩:=(sa.kP hdd).unique fd;refine mv ?_;refine vl ?_;refine vl ?_;refine mv ?_;refine mv ?_;refine qg ?_)
    all_goals (repeat' (first|refine qi ?_|(refine qf 10 ?_;(iterate 3 refine mv ?_);skip)))
    (refine qw rfl rfl rfl rfl rfl ((jV S.wf vo l2 (H2.ext w S.ext) ya yb ha0 hb0).mono ?_);rintro _ h ⟨hv,x⟩)<;>(replace S:=S.qy x;clear x;(first|(have e9:=hv.F (fun q=>hb (sa.XP.1 q));subst e9));refine mv ?_;refine bT ?_;(iterate 4 refine mv ?_);(skip))
    (refine qw rfl rfl rfl rfl rfl ((jW S.wf vo l2 (H2.ext w S.ext) ya yb ha0 hb0).mono ?_);rintro _ h ⟨hv,x⟩)<;>(replace S:=S.qy x;clear x;(first|(have e9:=hv.F (fun q=>ha (sa.XQ.1 q));subst e9));refine mv ?_;(first|(refine bT ?_));refine vl ?_;(iterate 4 refine mv ?_);(skip))
    (refine qw rfl rfl rfl rfl rfl ((QE S.wf vo l2 (H2.ext w S.ext) ya yb ha0 hb0).mono ?_);rintro _ h ⟨hv,x⟩)<;>(replace S:=S.qy x;clear x;(first|(have e9:=hv.F (fun q=>(sa.Jz.1 q).elim hb ha);subst e9));(iterate 3 refine mv ?_);refine vl ?_;(first|(refine bT ?_));refine vl ?_;(iterate 3 refine mv ?_);(first|(refine cT ?_))<;>(refine vl ?_;(iterate 3 refine mv ?_);(first|(refine bT ?_));refine vl ?_;refine mv ?_;refine qg ?_))
    all_goals (repeat' (fail))
    refine qx ⟨_,rfl,?_⟩
    exact ⟨rfl,S.drop⟩
  have hij:i=j:=by omega
  subst hij
  obtain ⟨bt,hnm⟩:∃ x,x=b:=⟨_,rfl⟩;subst hnm
  have hs1:=w1.sz
  have t1:=qK (tb l i)
  have k1:=w1.2.2.1
  have k2:=w2.2.2.1
  have hdi:=hd i k w1
  have hdl:=hdi.1
  (repeat (refine qi ?_));refine jG (id:=6) [(6,(0,1)),(8,(0,1)),(10,(0,1))] [some (bt),some (bs),some (bu)] ?_;refine qj ?_;(first|(refine lB S rfl rfl ?_<;>refine qg ⟨⟨by (first|exact True.intro),rfl⟩,?_⟩));refine qj ?_;(first|(refine vl ?_<;>refine qg ⟨⟨by (first|exact True.intro),rfl⟩,?_⟩));refine qj ?_;(first|(refine lB S rfl rfl ?_<;>refine qg ⟨⟨by (first|exact True.intro),rfl⟩,?_⟩));refine qj ?_;(first|(refine vl ?_<;>refine qg ⟨⟨by (first|exact True.intro),rfl⟩,?_⟩));refine qj ?_;(first|(refine lB S rfl rfl ?_<;>refine qg ⟨⟨by (first|exact True.intro),rfl⟩,?_⟩))
  ((refine qj ?_;first|refine qw rfl rfl rfl rfl rfl ((Jq S.wf (tb l i) k m hs1 (by omega) (by omega)).mono ?_));rintro vb h ⟨hvb,x⟩)<;>((refine qg ⟨⟨True.intro,?_⟩,?_⟩;(focus ((show keepsX _ _ _ _ _;simp only [keepsX];(repeat' (first|exact True.intro|refine And.intro ?_ ?_));all_goals (intro hw;first|exact x.ext.old _ S.bB)))));replace S:=S.qy x;clear x;refine qj ?_;(first|(refine lB S rfl rfl ?_<;>refine qg ⟨⟨by (first|exact Or.inr rfl),rfl⟩,?_⟩));refine qj ?_;(first|(refine vl ?_<;>refine qg ⟨⟨by (first|exact True.intro),rfl⟩,?_⟩));refine qj ?_;(first|(refine lB S rfl rfl ?_<;>refine qg ⟨⟨by (first|exact Or.inr rfl),rfl⟩,?_⟩));refine qj ?_;(first|(refine vl ?_<;>refine qg ⟨⟨by (first|exact True.intro),rfl⟩,?_⟩));refine qj ?_;(first|(refine lB S rfl rfl ?_<;>refine qg ⟨⟨by (first|exact Or.inr rfl),rfl⟩,?_⟩)))
  ((refine qj ?_;first|refine qw rfl rfl rfl rfl rfl ((QF S.wf (tb l i) k m hs1 (by omega) (by omega)).mono ?_));rintro va h ⟨hva,x⟩)<;>((refine qg ⟨⟨True.intro,?_⟩,?_⟩;(focus ((show keepsX _ _ _ _ _;simp only [keepsX];(repeat' (first|exact True.intro|refine And.intro ?_ ?_));all_goals (intro hw;first|exact x.ext.old _ S.bB)))));replace S:=S.qy x;clear x;refine qj ?_;(first|(refine mv ?_<;>refine qg ⟨⟨by (first|exact True.intro),rfl⟩,?_⟩));refine qj ?_;(first|(refine mv ?_<;>refine qg ⟨⟨by (first|exact True.intro),rfl⟩,?_⟩));refine jd ?_)
  have hvb':=hvb.iff (qaz w1 w2)
  have hva':=hva.iff (qaz w1 w2)
  clear hvb hva
  all_goals (repeat' (first|refine qi ?_|(refine qf 7 ?_;refine mv ?_;refine vl ?_;refine lB S rfl rfl ?_;refine jv S ?_;refine zS S ?_;(first|(refine cS ?_ ?_<;>intro hc))<;>(refine mv ?_;refine qg ?_))|(refine qf 8 ?_;refine mv ?_;refine vl ?_;refine lB S rfl rfl ?_;refine jv S ?_;refine zS S ?_;refine mx ?_;refine mv ?_;refine qg ?_)|(refine qf 9 ?_;(iterate 3 refine mv ?_);skip)))
  all_goals (try simp only [Int.toNat_natCast] at *)
  ·have fd:DistR l ya yb (max (ld.getD m default) 0) true:=by
    rcases hdi.2 m (by omega) with ⟨g,-⟩|⟨e,g1,g2⟩
    ·omega
    ·exact .inl ⟨rfl,i,k,m,e,w1,w2,by omega,g2⟩
   rcases hvb' with ⟨e,hb⟩|⟨e,hb⟩<;>cases e<;>rcases hva' with ⟨e,ha⟩|⟨e,ha⟩<;>cases e
   all_goals
    (refine qw rfl rfl rfl rfl rfl ((jw S.wf vo l2 (H2.ext w S.ext) ya yb ha0 hb0).mono ?_);rintro _ h ⟨_,_,rfl,hdd,x⟩)<;>(replace S:=S.qy x;clear x;obtain ⟨rfl,rfl⟩:=(sa.kP hdd).unique fd;refine mv ?_;refine vl ?_;refine vl ?_;refine mv ?_;refine mv ?_;refine qg ?_)
    all_goals (repeat' (first|refine qi ?_|(refine qf 10 ?_;(iterate 3 refine mv ?_);skip)))
    (refine qw rfl rfl rfl rfl rfl ((jV S.wf vo l2 (H2.ext w S.ext) ya yb ha0 hb0).mono ?_);rintro _ h ⟨hv,x⟩)<;>(replace S:=S.qy x;clear x;(first|(have e9:=hv.T (sa.XP.2 hb);subst e9)|(have e9:=hv.F (fun q=>hb (sa.XP.1 q));subst e9));refine mv ?_;refine bT ?_;(iterate 4 refine mv ?_);(skip))
    (refine qw rfl rfl rfl rfl rfl ((jW S.wf vo l2 (H2.ext w S.ext) ya yb ha0 hb0).mono ?_);rintro _ h ⟨hv,x⟩)<;>(replace S:=S.qy x;clear x;(first|(have e9:=hv.T (sa.XQ.2 ha);subst e9)|(have e9:=hv.F (fun q=>ha (sa.XQ.1 q));subst e9));refine mv ?_;(first|(refine bT ?_));refine vl ?_;(iterate 4 refine mv ?_);(skip))
    (refine qw rfl rfl rfl rfl rfl ((QE S.wf vo l2 (H2.ext w S.ext) ya yb ha0 hb0).mono ?_);rintro _ h ⟨hv,x⟩)<;>(replace S:=S.qy x;clear x;(first|(have e9:=hv.T (sa.Jz.2 (.inl hb));subst e9)|(have e9:=hv.T (sa.Jz.2 (.inr ha));subst e9)|(have e9:=hv.F (fun q=>(sa.Jz.1 q).elim hb ha);subst e9));refine mv ?_;refine mv ?_;(first|refine off ?_|refine mv ?_);refine vl ?_;(first|(refine bT ?_));refine vl ?_;(iterate 3 refine mv ?_);(first|(refine cT ?_))<;>(refine vl ?_;(iterate 3 refine mv ?_);(first|(refine bT ?_));refine vl ?_;refine mv ?_;refine qg ?_))
    all_goals (repeat' (fail))
    refine qx ⟨_,rfl,?_⟩
    exact ⟨rfl,S.drop⟩
  ·have fd:DistR l ya yb (max (ld.getD m default) 0) false:=by
    refine .inr ⟨rfl,by omega,fun i' k' m' e' q1 q2 q3=>?_⟩
    obtain ⟨rfl,rfl⟩:=w1.unique q1
    obtain ⟨-,rfl⟩:=w2.unique q2
    rcases hdi.2 m (by omega) with ⟨-,g⟩|⟨e,g1,g2⟩
    ·exact g _ q3.1
    ·omega
   rcases hvb' with ⟨e,hb⟩|⟨e,hb⟩<;>cases e<;>rcases hva' with ⟨e,ha⟩|⟨e,ha⟩<;>cases e
   all_goals
    (refine qw rfl rfl rfl rfl rfl ((jw S.wf vo l2 (H2.ext w S.ext) ya yb ha0 hb0).mono ?_);rintro _ h ⟨_,_,rfl,hdd,x⟩)<;>(replace S:=S.qy x;clear x;obtain ⟨rfl,rfl⟩:=(sa.kP hdd).unique fd;refine mv ?_;refine vl ?_;refine vl ?_;refine mv ?_;refine mv ?_;refine qg ?_)
    all_goals (repeat' (first|refine qi ?_|(refine qf 10 ?_;(iterate 3 refine mv ?_);skip)))
    (refine qw rfl rfl rfl rfl rfl ((jV S.wf vo l2 (H2.ext w S.ext) ya yb ha0 hb0).mono ?_);rintro _ h ⟨hv,x⟩)<;>(replace S:=S.qy x;clear x;(first|(have e9:=hv.T (sa.XP.2 hb);subst e9)|(have e9:=hv.F (fun q=>hb (sa.XP.1 q));subst e9));refine mv ?_;refine bT ?_;(iterate 4 refine mv ?_);(skip))
    (refine qw rfl rfl rfl rfl rfl ((jW S.wf vo l2 (H2.ext w S.ext) ya yb ha0 hb0).mono ?_);rintro _ h ⟨hv,x⟩)<;>(replace S:=S.qy x;clear x;(first|(have e9:=hv.T (sa.XQ.2 ha);subst e9)|(have e9:=hv.F (fun q=>ha (sa.XQ.1 q));subst e9));refine mv ?_;(first|(refine bT ?_));refine vl ?_;(iterate 4 refine mv ?_);(skip))
    (refine qw rfl rfl rfl rfl rfl ((QE S.wf vo l2 (H2.ext w S.ext) ya yb ha0 hb0).mono ?_);rintro _ h ⟨hv,x⟩)<;>(replace S:=S.qy x;clear x;(first|(have e9:=hv.T (sa.Jz.2 (.inl hb));subst e9)|(have e9:=hv.T (sa.Jz.2 (.inr ha));subst e9)|(have e9:=hv.F (fun q=>(sa.Jz.1 q).elim hb ha);subst e9));refine mv ?_;refine mv ?_;(first|refine off ?_|refine mv ?_);refine vl ?_;(first|(refine bT ?_));refine vl ?_;(iterate 3 refine mv ?_);(first|(refine cT ?_))<;>(refine vl ?_;(iterate 3 refine mv ?_);(first|(refine bT ?_));refine vl ?_;refine mv ?_;refine qg ?_))
    all_goals (repeat' (fail))
    refine qx ⟨_,rfl,?_⟩
    exact ⟨rfl,S.drop⟩
 ·all_goals (repeat' (first|refine qi ?_|refine ql rfl ?_|refine qo ?_|(refine qf 3 ?_;(iterate 4 refine mv ?_);refine qg ?_)|(refine qf 4 ?_;(iterate 3 refine mv ?_);refine vl ?_;refine mv ?_;refine off ?_;refine off ?_;refine off ?_;refine off ?_;(refine off ?_)<;>(refine vl ?_;refine qg ?_))|(refine qf 9 ?_;(iterate 3 refine mv ?_);skip)))
  have fd:DistR l ya yb 0 false:=.inr ⟨rfl,rfl,fun i' k' m' e' q1 q2 q3=>w2 _ _ q2⟩
  have hvb':BoolIs (.bool false) (Ql zk l ya yb):=.inr ⟨rfl,fun ⟨i',k',m',q1,q2,q3⟩=>w2 _ _ q2⟩
  have hva':BoolIs (.bool false) (Ql zt l ya yb):=.inr ⟨rfl,fun ⟨i',k',m',q1,q2,q3⟩=>w2 _ _ q2⟩
  rcases hvb' with ⟨e,hb⟩|⟨e,hb⟩<;>cases e<;>rcases hva' with ⟨e,ha⟩|⟨e,ha⟩<;>cases e
  all_goals
   (refine qw rfl rfl rfl rfl rfl ((jw S.wf vo l2 (H2.ext w S.ext) ya yb ha0 hb0).mono ?_);rintro _ h ⟨_,_,rfl,hdd,x⟩)<;>(replace S:=S.qy x;clear x;obtain ⟨rfl,rfl⟩:=(sa.kP hdd).unique fd;refine mv ?_;refine vl ?_;refine vl ?_;refine mv ?_;refine mv ?_;refine qg ?_)
   all_goals (repeat' (first|refine qi ?_|(refine qf 10 ?_;(iterate 3 refine mv ?_);skip)))
   (refine qw rfl rfl rfl rfl rfl ((jV S.wf vo l2 (H2.ext w S.ext) ya yb ha0 hb0).mono ?_);rintro _ h ⟨hv,x⟩)<;>(replace S:=S.qy x;clear x;(first|(have e9:=hv.F (fun q=>hb (sa.XP.1 q));subst e9));refine mv ?_;refine bT ?_;(iterate 4 refine mv ?_);(skip))
   (refine qw rfl rfl rfl rfl rfl ((jW S.wf vo l2 (H2.ext w S.ext) ya yb ha0 hb0).mono ?_);rintro _ h ⟨hv,x⟩)<;>(replace S:=S.qy x;clear x;(first|(have e9:=hv.F (fun q=>ha (sa.XQ.1 q));subst e9));refine mv ?_;(first|(refine bT ?_));refine vl ?_;(iterate 4 refine mv ?_);(skip))
   (refine qw rfl rfl rfl rfl rfl ((QE S.wf vo l2 (H2.ext w S.ext) ya yb ha0 hb0).mono ?_);rintro _ h ⟨hv,x⟩)<;>(replace S:=S.qy x;clear x;(first|(have e9:=hv.F (fun q=>(sa.Jz.1 q).elim hb ha);subst e9));(iterate 3 refine mv ?_);refine vl ?_;(first|(refine bT ?_));refine vl ?_;(iterate 3 refine mv ?_);(first|(refine cT ?_))<;>(refine vl ?_;(iterate 3 refine mv ?_);(first|(refine bT ?_));refine vl ?_;refine mv ?_;refine qg ?_))
   all_goals (repeat' (fail))
   refine qx ⟨_,rfl,?_⟩
   exact ⟨rfl,S.drop⟩
 ·all_goals (repeat' (first|refine qi ?_|refine ql rfl ?_|refine qo ?_|(refine qf 3 ?_;(iterate 4 refine mv ?_);refine qg ?_)|(refine qf 4 ?_;refine mv ?_;refine mv ?_;refine off ?_;refine vl ?_;refine mv ?_;refine off ?_;refine off ?_;refine off ?_;refine off ?_;(refine off ?_)<;>(refine vl ?_;refine qg ?_))|(refine qf 9 ?_;(iterate 3 refine mv ?_);skip)))
  have fd:DistR l ya yb 0 false:=.inr ⟨rfl,rfl,fun i' k' m' e' q1 q2 q3=>w1 _ _ q1⟩
  have hvb':BoolIs (.bool false) (Ql zk l ya yb):=.inr ⟨rfl,fun ⟨i',k',m',q1,q2,q3⟩=>w1 _ _ q1⟩
  have hva':BoolIs (.bool false) (Ql zt l ya yb):=.inr ⟨rfl,fun ⟨i',k',m',q1,q2,q3⟩=>w1 _ _ q1⟩
  rcases hvb' with ⟨e,hb⟩|⟨e,hb⟩<;>cases e<;>rcases hva' with ⟨e,ha⟩|⟨e,ha⟩<;>cases e
  all_goals
   (refine qw rfl rfl rfl rfl rfl ((jw S.wf vo l2 (H2.ext w S.ext) ya yb ha0 hb0).mono ?_);rintro _ h ⟨_,_,rfl,hdd,x⟩)<;>(replace S:=S.qy x;clear x;obtain ⟨rfl,rfl⟩:=(sa.kP hdd).unique fd;refine mv ?_;refine vl ?_;refine vl ?_;refine mv ?_;refine mv ?_;refine qg ?_)
   all_goals (repeat' (first|refine qi ?_|(refine qf 10 ?_;(iterate 3 refine mv ?_);skip)))
   (refine qw rfl rfl rfl rfl rfl ((jV S.wf vo l2 (H2.ext w S.ext) ya yb ha0 hb0).mono ?_);rintro _ h ⟨hv,x⟩)<;>(replace S:=S.qy x;clear x;(first|(have e9:=hv.F (fun q=>hb (sa.XP.1 q));subst e9));refine mv ?_;refine bT ?_;(iterate 4 refine mv ?_);(skip))
   (refine qw rfl rfl rfl rfl rfl ((jW S.wf vo l2 (H2.ext w S.ext) ya yb ha0 hb0).mono ?_);rintro _ h ⟨hv,x⟩)<;>(replace S:=S.qy x;clear x;(first|(have e9:=hv.F (fun q=>ha (sa.XQ.1 q));subst e9));refine mv ?_;(first|(refine bT ?_));refine vl ?_;(iterate 4 refine mv ?_);(skip))
   (refine qw rfl rfl rfl rfl rfl ((QE S.wf vo l2 (H2.ext w S.ext) ya yb ha0 hb0).mono ?_);rintro _ h ⟨hv,x⟩)<;>(replace S:=S.qy x;clear x;(first|(have e9:=hv.F (fun q=>(sa.Jz.1 q).elim hb ha);subst e9));(iterate 3 refine mv ?_);refine vl ?_;(first|(refine bT ?_));refine vl ?_;(iterate 3 refine mv ?_);(first|(refine cT ?_))<;>(refine vl ?_;(iterate 3 refine mv ?_);(first|(refine bT ?_));refine vl ?_;refine mv ?_;refine qg ?_))
   all_goals (repeat' (fail))
   refine qx ⟨_,rfl,?_⟩
   exact ⟨rfl,S.drop⟩
 ·all_goals (repeat' (first|refine qi ?_|refine ql rfl ?_|refine qo ?_|(refine qf 3 ?_;(iterate 4 refine mv ?_);refine qg ?_)|(refine qf 4 ?_;refine mv ?_;refine mv ?_;refine off ?_;refine vl ?_;refine mv ?_;refine off ?_;refine off ?_;refine off ?_;refine off ?_;(refine off ?_)<;>(refine vl ?_;refine qg ?_))|(refine qf 9 ?_;(iterate 3 refine mv ?_);skip)))
  have fd:DistR l ya yb 0 false:=.inr ⟨rfl,rfl,fun i' k' m' e' q1 q2 q3=>w1 _ _ q1⟩
  have hvb':BoolIs (.bool false) (Ql zk l ya yb):=.inr ⟨rfl,fun ⟨i',k',m',q1,q2,q3⟩=>w1 _ _ q1⟩
  have hva':BoolIs (.bool false) (Ql zt l ya yb):=.inr ⟨rfl,fun ⟨i',k',m',q1,q2,q3⟩=>w1 _ _ q1⟩
  rcases hvb' with ⟨e,hb⟩|⟨e,hb⟩<;>cases e<;>rcases hva' with ⟨e,ha⟩|⟨e,ha⟩<;>cases e
  all_goals
   (refine qw rfl rfl rfl rfl rfl ((jw S.wf vo l2 (H2.ext w S.ext) ya yb ha0 hb0).mono ?_);rintro _ h ⟨_,_,rfl,hdd,x⟩)<;>(replace S:=S.qy x;clear x;obtain ⟨rfl,rfl⟩:=(sa.kP hdd).unique fd;refine mv ?_;refine vl ?_;refine vl ?_;refine mv ?_;refine mv ?_;refine qg ?_)
   all_goals (repeat' (first|refine qi ?_|(refine qf 10 ?_;(iterate 3 refine mv ?_);skip)))
   (refine qw rfl rfl rfl rfl rfl ((jV S.wf vo l2 (H2.ext w S.ext) ya yb ha0 hb0).mono ?_);rintro _ h ⟨hv,x⟩)<;>(replace S:=S.qy x;clear x;(first|(have e9:=hv.F (fun q=>hb (sa.XP.1 q));subst e9));refine mv ?_;refine bT ?_;(iterate 4 refine mv ?_);(skip))
   (refine qw rfl rfl rfl rfl rfl ((jW S.wf vo l2 (H2.ext w S.ext) ya yb ha0 hb0).mono ?_);rintro _ h ⟨hv,x⟩)<;>(replace S:=S.qy x;clear x;(first|(have e9:=hv.F (fun q=>ha (sa.XQ.1 q));subst e9));refine mv ?_;(first|(refine bT ?_));refine vl ?_;(iterate 4 refine mv ?_);(skip))
   (refine qw rfl rfl rfl rfl rfl ((QE S.wf vo l2 (H2.ext w S.ext) ya yb ha0 hb0).mono ?_);rintro _ h ⟨hv,x⟩)<;>(replace S:=S.qy x;clear x;(first|(have e9:=hv.F (fun q=>(sa.Jz.1 q).elim hb ha);subst e9));(iterate 3 refine mv ?_);refine vl ?_;(first|(refine bT ?_));refine vl ?_;(iterate 3 refine mv ?_);(first|(refine cT ?_))<;>(refine vl ?_;(iterate 3 refine mv ?_);(first|(refine bT ?_));refine vl ?_;refine mv ?_;refine qg ?_))
   all_goals (repeat' (fail))
   refine qx ⟨_,rfl,?_⟩
   exact ⟨rfl,S.drop⟩
theorem yA {h0:AH} (w:WfH h0) (vo v vs vq:Value) (l2 l:List Tab) (out:List (Nat×Nat)) (qs:List Int) (ya:Int) (H2:HallR h0 vo l2) (H:HallR h0 v l) (sa:SameAll l2 l) (hs:RdL h0 vs 2 eSt out) (ao:AllR l out) (ha0:ya≤9223372036854775807) (hq:RdL h0 vq 1 eI qs) (hql:qs.length≤1000)
 (hqm:∀ j,j<qs.length→qs.getD j default≤9223372036854775807):Fn Tryz.prog Xh 77 [vo,v,vs,.int .i64 ya,vq] h0 (fun r h'=>r = .bool true∧Hs h0 h' []):=by
 have S:=Hs.start w
 have hr:=H.rd
 have hl:=H.len
 refine qF rfl Tryz.func77 rfl rfl ?_
 all_goals (repeat' (first|refine qi ?_|(refine qf 0 ?_;refine mv ?_;refine qg ?_)|(refine qf 1 ?_;refine mv ?_;refine mv ?_)))
 (refine qw rfl rfl rfl rfl rfl ((yC S.wf vs l out hs ao H.len ya).mono ?_);rintro _ h ⟨_,_,_,rfl,⟨rfl,i,k,rfl,rfl,w1⟩|⟨rfl,rfl,rfl,w1⟩,x⟩)<;>(replace S:=S.qy x;clear x;refine mv ?_;refine vl ?_;refine vl ?_;(refine al S ?_;clear S;intro b h S);(first|(refine sB S rfl rfl ?_;clear S;intro h S));refine mv ?_;refine qg ?_)
 all_goals (all_goals (repeat' (first|refine qi ?_|(refine qf 2 ?_;refine mv ?_;refine mv ?_))))
 all_goals (obtain ⟨bs,hnm⟩:∃ x,x=b:=⟨_,rfl⟩;subst hnm)
 ·have W:WhereR l ya i k true:=.inl ⟨rfl,i,k,rfl,rfl,w1⟩
  have hi:=w1.2.1
  have hs1:=w1.sz
  have t1:=qK (tb l i)
  have k1:=w1.2.2.1
  have a1:=w1.2.2.2
  have b1:=jJ l i
  obtain ⟨n,hn⟩:=Int.eq_ofNat_of_zero_le t1.1
  have hnn:(qC (tb l i)).toNat=n:=by omega
  (refine qw rfl rfl rfl rfl rfl ((ZY S.wf vo l2 (H2.ext w S.ext) ya ha0).mono ?_);rintro _ h ⟨_,_,_,rfl,w3,x⟩)<;>(replace S:=S.qy x;clear x;obtain ⟨rfl,rfl,rfl⟩:=(sa.qdm w3).unique W;refine mv ?_;refine vl ?_;refine vl ?_;refine vl ?_;(iterate 3 refine mv ?_);refine qg ?_)
  all_goals (repeat' (first|refine qi ?_|refine ql rfl ?_|refine qo ?_|(refine qf 3 ?_;refine mv ?_;refine vl ?_;refine lB S rfl rfl ?_;(refine cF ?_)<;>(refine mv ?_;refine mv ?_;(first|(refine vl ?_));(first|(refine lB S rfl rfl ?_));(first|(refine cF ?_))<;>(refine vl ?_;(iterate 3 refine mv ?_);refine vl ?_;refine vl ?_;refine qg ?_)))|(refine qf 5 ?_;refine mv ?_;refine mv ?_;refine qg ?_)|(refine qf 6 ?_;refine mv ?_;refine mv ?_;refine qg ?_)|(refine qf 7 ?_;refine mv ?_;refine qg ?_)))
  (repeat (refine qi ?_));refine jG (id:=8) [(7,(1,2)),(11,(0,1))] [some (0),some (Qi v)] ?_;refine qj ?_;(first|(refine mv ?_<;>refine qg ⟨⟨by (first|exact True.intro),rfl⟩,?_⟩));refine qj ?_;(first|(refine mv ?_<;>refine qg ⟨⟨by (first|exact True.intro),rfl⟩,?_⟩));refine qj ?_;(first|(refine jv S ?_<;>refine qg ⟨⟨by (first|exact True.intro),rfl⟩,?_⟩));refine qj ?_;(first|(refine zS S ?_<;>refine qg ⟨⟨by (first|exact True.intro),rfl⟩,?_⟩))
  ((refine qj ?_;first|refine qw rfl rfl rfl rfl rfl ((Y4 S.wf (tb l i) n hs1 hn).mono ?_));rintro vL h ⟨lL,hL,x⟩)<;>((refine qg ⟨⟨True.intro,?_⟩,?_⟩;(focus ((show keepsX _ _ _ _ _;simp only [keepsX];(repeat' (first|exact True.intro|refine And.intro ?_ ?_));all_goals (intro hw;first|exact x.ext.old _ (S.bX (by assumption) (by assumption) (by first|omega))|exact absurd hw (by decide +kernel))))));replace S:=S.jo x;clear x;have hLl:=hL.1;have hdm:(Yj n lL).length=lL.length:=List.length_map ..;(refine qeD [some (Qi vL),some (Qi v)] (And.intro trivial (And.intro rfl trivial)) ?_);refine qj ?_;(first|(refine mv ?_<;>refine qg ⟨⟨by (first|exact True.intro),rfl⟩,?_⟩));refine qj ?_;(first|(refine qH S rfl rfl ?_<;>refine qg ⟨⟨by (first|exact True.intro),rfl⟩,?_⟩));refine qj ?_;(first|(refine qI S rfl rfl ?_<;>refine qg ⟨⟨by (first|exact Or.inr (congrArg some (zn _ _ _ _))),rfl⟩,?_⟩));refine qj ?_;(first|(refine mv ?_<;>refine qg ⟨⟨by (first|exact True.intro),rfl⟩,?_⟩));refine qj ?_;(first|(refine mv ?_<;>refine qg ⟨⟨by (first|exact True.intro),rfl⟩,?_⟩));refine qj ?_;(first|(refine jv S ?_<;>refine qg ⟨⟨by (first|exact True.intro),rfl⟩,?_⟩));refine qj ?_;(first|(refine zS S ?_<;>refine qg ⟨⟨by (first|exact Or.inr (congrArg some (zn _ _ _ _))),rfl⟩,?_⟩));refine qj ?_;(first|(refine mv ?_<;>refine qg ⟨⟨by (first|exact True.intro),rfl⟩,?_⟩)))
  ((refine qj ?_;first|refine qw rfl rfl rfl rfl rfl ((VN S.wf (tb l i) ((H.ext w S.ext).tab i hi) k).mono ?_));rintro vop h ⟨hop,x⟩)<;>((refine qg ⟨⟨True.intro,?_⟩,?_⟩;(focus ((show keepsX _ _ _ _ _;simp only [keepsX];(repeat' (first|exact True.intro|refine And.intro ?_ ?_));all_goals (intro hw;first|exact x.ext.old _ (S.bR (by first|omega))|exact x.ext.old _ (S.bX (by assumption) (by assumption) (by first|omega)))))));replace S:=S.qy x;clear x;refine qj ?_;(first|(refine mv ?_<;>refine qg ⟨⟨by (first|exact True.intro),rfl⟩,?_⟩));refine qj ?_;(first|(refine mv ?_<;>refine qg ⟨⟨by (first|exact True.intro),rfl⟩,?_⟩));refine jd ?_)
  all_goals (repeat' (first|refine qi ?_|(refine qf 9 ?_;refine mv ?_;refine mv ?_;refine jv S ?_;refine zS S ?_;refine mv ?_)))
  (refine qw rfl rfl rfl rfl rfl ((YG S.wf (tb l i) k n hs1 hn (by omega)).mono ?_);rintro vD h ⟨lD,hD,x⟩)<;>(replace S:=S.jo x;clear x;have hDl:=hD.1;refine mv ?_;refine qg ?_)
  all_goals (repeat' (first|refine qi ?_|refine qm ?_|(refine qf 10 ?_;refine mv ?_;refine ZC S rfl rfl ?_;refine mv ?_;refine qg ?_)))
  have levF:LevR l ya ((Yj n lL).getD k default):=.inl ⟨i,k,lL,w1,by rw [hnn];exact hL,by rw [hnn]⟩
  have opF:BoolIs vop (kW l ya):=hop.iff ⟨fun q=>⟨i,k,w1,q⟩,fun ⟨i',k',q1,q2⟩=>by obtain ⟨rfl,rfl⟩:=w1.unique q1;exact q2⟩
  have nbF:NbR l ya (Jg (zu (tb l i)) k ya n):=.inl ⟨i,k,w1,by rw [hnn]⟩
  have nbl:=Vb (zu (tb l i)) k ya n
  have hd:∀ i' k',WhereI l ya i' k'→DistL (zu (tb l i')) (qC (tb l i')).toNat k' lD:=fun i' k' q=>by
   obtain ⟨rfl,rfl⟩:=w1.unique q
   rw [hnn];exact hD
  replace S:=(S.only .here).jP (e:=3) (z:=1) (enc:=eI)
  refine qE (σ:=Nat×Value) (fun (m,vn) h'=>Hs h0 h' [.sl vn 3 1 eI (Jg (zu (tb l i)) k ya m),.sl vD 3 1 eI lD]∧m≤n) (fun (m,vn)=>n - m) (fun (m,vn)=>[(0,vo),(1,v),(2,vs),(3,.int .i64 ya),(4,vq),(13,.int .i64 i),(14,.int .i64 k),(16,.int .i64 ((Yj n lL).getD k default)),(17,vop),(18,vn),(19,vD),(72,vD),(73,.int .i64 lD.length),(74,.int .i64 m)]) (0,.slice none 0 0) (by repeat (first|exact Ks.le_nil _|refine Ks.qh rfl ?_)) ?_ ?_
  ·exact ⟨S,Nat.zero_le _⟩
  clear S
  rintro ⟨m,vn⟩ h ⟨S,hm1⟩
  have hnl:=Vb (zu (tb l i)) k ya m
  all_goals (repeat' (first|refine qi ?_|refine ql rfl ?_|refine qo ?_|refine qA ?_|refine qm ?_|(refine qf 11 ?_;(first|(refine cS ?_ ?_<;>intro hc))<;>(refine qg ?_))|(refine qf 12 ?_;refine mv ?_;refine mv ?_;refine qg ?_)|(refine qf 13 ?_;refine mv ?_;refine mv ?_;refine jv S ?_;refine zS S ?_;refine mv ?_;refine mv ?_)|(refine qf 16 ?_;refine mv ?_;refine QD S ?_;refine mv ?_;refine qg ?_)))
  ·(try simp only [Int.toNat_natCast] at *)
   (refine qw rfl rfl rfl rfl rfl ((wX S.wf (tb l i) k m hs1 (by omega) (by omega)).mono ?_);rintro _ h ⟨⟨rfl,hq2⟩|⟨rfl,hq2⟩,x⟩)<;>(replace S:=S.qy x;clear x;refine qg ?_)
   ·all_goals (repeat' (first|refine ql rfl ?_|(refine qf 14 ?_;(iterate 3 refine mv ?_);refine sb ?_;refine mv ?_;refine ad ?_;(refine one 1 S ?_;clear S;intro u h S))))
    refine app (y0:=(ya - k+m)) S rfl rfl ?_;clear S;intro v h S;refine mv ?_;refine qg ?_
    all_goals (repeat' (first|(refine qf 15 ?_;refine ad ?_;refine mv ?_;refine qg ?_)))
    refine ⟨(m+1,v),?_,?_,(by repeat (first|exact Ks.le_nil _|refine Ks.qh rfl ?_))⟩
    ·show n - (m+1)<n - m;omega
    ·refine ⟨?_,by omega⟩
     have e:Jg (zu (tb l i)) k ya (m+1)=Jg (zu (tb l i)) k ya m ++ [ya - k+m]:=by rw [Jg,if_pos hq2]
     rw [e];exact S
   ·all_goals (repeat' (first|refine ql rfl ?_|refine qo ?_|(refine qf 15 ?_;refine ad ?_;refine mv ?_;refine qg ?_)))
    refine ⟨(m+1,vn),?_,?_,(by repeat (first|exact Ks.le_nil _|refine Ks.qh rfl ?_))⟩
    ·show n - (m+1)<n - m;omega
    ·refine ⟨?_,by omega⟩
     have e:Jg (zu (tb l i)) k ya (m+1)=Jg (zu (tb l i)) k ya m:=by rw [Jg,if_neg hq2]
     rw [e];exact S
  have hmn:m=n:=by omega
  subst hmn
  refine qE (σ:=Nat) (fun j h'=>Hs h0 h' [.sl vn 3 1 eI (Jg (zu (tb l i)) k ya m),.sl vD 3 1 eI lD]∧j≤qs.length) (fun j=>qs.length - j) (fun j=>[(0,vo),(1,v),(2,vs),(3,.int .i64 ya),(16,.int .i64 ((Yj m lL).getD k default)),(17,vop),(18,vn),(19,vD),(93,vq),(94,.int .i64 qs.length),(95,.int .i64 j)]) 0 (by repeat (first|exact Ks.le_nil _|refine Ks.qh rfl ?_)) ?_ ?_
  ·exact ⟨S,Nat.zero_le _⟩
  clear S
  rintro j h ⟨S,hj⟩
  all_goals (repeat' (first|refine qi ?_|refine ql rfl ?_|refine qo ?_|refine qA ?_|refine qm ?_|(refine qf 17 ?_;(first|(refine cS ?_ ?_<;>intro hc))<;>(refine qg ?_))|(refine qf 18 ?_;refine jv S ?_;refine zS S ?_;refine mv ?_;refine qg ?_)|(refine qf 19 ?_;(iterate 6 refine mv ?_);skip)|(refine qf 22 ?_;refine mv ?_;refine mv ?_)))
  ·(try simp only [Int.toNat_natCast] at *)
   have hj2:j<qs.length:=by omega
   (refine qw rfl rfl rfl rfl rfl ((yB S.wf vo v vs vD l2 l out lD ya (qs.getD j default) (H2.ext w S.ext) (H.ext w S.ext) sa (hs.ext w S.ext) ao ha0 (hqm j hj2) (Rd.zo S (.there .here)) hd).mono ?_);rintro _ h ⟨rfl,x⟩)<;>(replace S:=S.qy x;clear x;refine vl ?_;refine qg ?_)
   all_goals (repeat' (first|refine ql rfl ?_|refine qo ?_|(refine qf 21 ?_;refine ad ?_;refine mv ?_;refine qg ?_)))
   refine ⟨j+1,?_,?_,(by repeat (first|exact Ks.le_nil _|refine Ks.qh rfl ?_))⟩
   ·show qs.length - (j+1)<qs.length - j;omega
   ·exact ⟨S,by omega⟩
  rcases opF with ⟨e,ho⟩|⟨e,ho⟩<;>cases e
  all_goals
   (refine qw rfl rfl rfl rfl rfl ((Ve S.wf vo l2 (H2.ext w S.ext) ya ha0).mono ?_);rintro _ h ⟨d,rfl,hlv,x⟩)<;>(replace S:=S.qy x;clear x;have e9:=(sa.qhf hlv).unique levF;subst e9;refine mv ?_;(refine cT ?_)<;>((iterate 3 refine mv ?_);(skip)))
   (refine qw rfl rfl rfl rfl rfl ((WE S.wf vo l2 (H2.ext w S.ext) ya ha0).mono ?_);rintro _ h ⟨hv,x⟩)<;>(replace S:=S.qy x;clear x;(first|(have e9:=hv.T (sa.qdL.2 ho);subst e9)|(have e9:=hv.F (fun q=>ho (sa.qdL.1 q));subst e9));refine mv ?_;(first|(refine bT ?_));refine vl ?_;(iterate 3 refine mv ?_);(skip))
   (refine qw rfl rfl rfl rfl rfl ((Jm S.wf vo l2 (H2.ext w S.ext) ya ha0).mono ?_);rintro vN2 h ⟨on,hn2,hnl,x⟩)<;>(replace S:=S.jo x;clear x;have e9:=(sa.nbR hn2).unique nbF;subst e9;refine mv ?_;(skip))
   (refine qw rfl rfl rfl rfl rfl ((Jd S.wf vN2 vn _ _ (Rd.zo S .here) (Rd.zo S (.there .here)) (by omega) (by omega)).mono ?_);rintro _ h ⟨⟨rfl,hq9⟩|⟨rfl,hq9⟩,x⟩)<;>(replace S:=S.qy x;clear x;refine vl ?_;refine mv ?_;refine qg ?_)
   all_goals (repeat' (fail))
   all_goals (refine qx ⟨_,rfl,?_⟩)
   ·exact ⟨rfl,S.drop⟩
   ·exact absurd rfl hq9
 ·have W:WhereR l ya 0 0 false:=.inr ⟨rfl,rfl,rfl,w1⟩
  (refine qw rfl rfl rfl rfl rfl ((ZY S.wf vo l2 (H2.ext w S.ext) ya ha0).mono ?_);rintro _ h ⟨_,_,_,rfl,w3,x⟩)<;>(replace S:=S.qy x;clear x;obtain ⟨rfl,rfl,rfl⟩:=(sa.qdm w3).unique W;refine mv ?_;refine vl ?_;refine vl ?_;refine vl ?_;(iterate 3 refine mv ?_);refine qg ?_)
  all_goals (repeat' (first|refine qi ?_|refine ql rfl ?_|refine qo ?_|refine qm ?_|(refine qf 3 ?_;refine mv ?_;refine vl ?_;refine lB S rfl rfl ?_;(refine cF ?_)<;>(refine mv ?_;refine mv ?_;(first|(refine vl ?_));(first|(refine lB S rfl rfl ?_));(first|(refine cF ?_))<;>(refine vl ?_;(iterate 3 refine mv ?_);refine vl ?_;refine vl ?_;refine qg ?_)))|(refine qf 5 ?_;refine mv ?_;refine mv ?_;refine qg ?_)|(refine qf 6 ?_;refine mv ?_;refine mv ?_;refine qg ?_)|(refine qf 7 ?_;refine mv ?_;refine qg ?_)|(refine qf 16 ?_;refine mv ?_;refine QD S ?_;refine mv ?_;refine qg ?_)))
  have levF:LevR l ya 0:=.inr ⟨rfl,w1⟩
  have opF:BoolIs (.bool false) (kW l ya):=.inr ⟨rfl,fun ⟨i',k',q1,q2⟩=>w1 _ _ q1⟩
  have nbF:NbR l ya []:=.inr ⟨rfl,w1⟩
  have nbl:([]:List Int).length≤1000:=by simp
  have hd:∀ i' k',WhereI l ya i' k'→DistL (zu (tb l i')) (qC (tb l i')).toNat k' []:=fun i' k' q=>absurd q (w1 _ _)
  replace S:=(S.drop.jP (e:=3) (z:=1) (enc:=eI)).jP (e:=3) (z:=1) (enc:=eI)
  refine qE (σ:=Nat) (fun j h'=>Hs h0 h' [.sl (.slice none 0 0) 3 1 eI ([]:List Int),.sl (.slice none 0 0) 3 1 eI ([]:List Int)]∧j≤qs.length) (fun j=>qs.length - j) (fun j=>[(0,vo),(1,v),(2,vs),(3,.int .i64 ya),(16,.int .i64 0),(17,(.bool false)),(18,(.slice none 0 0)),(19,(.slice none 0 0)),(93,vq),(94,.int .i64 qs.length),(95,.int .i64 j)]) 0 (by repeat (first|exact Ks.le_nil _|refine Ks.qh rfl ?_)) ?_ ?_
  ·exact ⟨S,Nat.zero_le _⟩
  clear S
  rintro j h ⟨S,hj⟩
  all_goals (repeat' (first|refine qi ?_|refine ql rfl ?_|refine qo ?_|refine qA ?_|refine qm ?_|(refine qf 17 ?_;(first|(refine cS ?_ ?_<;>intro hc))<;>(refine qg ?_))|(refine qf 18 ?_;refine jv S ?_;refine zS S ?_;refine mv ?_;refine qg ?_)|(refine qf 19 ?_;(iterate 6 refine mv ?_);skip)|(refine qf 22 ?_;refine mv ?_;refine mv ?_)))
  ·(try simp only [Int.toNat_natCast] at *)
   have hj2:j<qs.length:=by omega
   (refine qw rfl rfl rfl rfl rfl ((yB S.wf vo v vs (.slice none 0 0) l2 l out ([]:List Int) ya (qs.getD j default) (H2.ext w S.ext) (H.ext w S.ext) sa (hs.ext w S.ext) ao ha0 (hqm j hj2) (Rd.zo S (.there .here)) hd).mono ?_);rintro _ h ⟨rfl,x⟩)<;>(replace S:=S.qy x;clear x;refine vl ?_;refine qg ?_)
   all_goals (repeat' (first|refine ql rfl ?_|refine qo ?_|(refine qf 21 ?_;refine ad ?_;refine mv ?_;refine qg ?_)))
   refine ⟨j+1,?_,?_,(by repeat (first|exact Ks.le_nil _|refine Ks.qh rfl ?_))⟩
   ·show qs.length - (j+1)<qs.length - j;omega
   ·exact ⟨S,by omega⟩
  rcases opF with ⟨e,ho⟩|⟨e,ho⟩<;>cases e
  all_goals
   (refine qw rfl rfl rfl rfl rfl ((Ve S.wf vo l2 (H2.ext w S.ext) ya ha0).mono ?_);rintro _ h ⟨d,rfl,hlv,x⟩)<;>(replace S:=S.qy x;clear x;have e9:=(sa.qhf hlv).unique levF;subst e9;refine mv ?_;(refine cT ?_)<;>((iterate 3 refine mv ?_);(skip)))
   (refine qw rfl rfl rfl rfl rfl ((WE S.wf vo l2 (H2.ext w S.ext) ya ha0).mono ?_);rintro _ h ⟨hv,x⟩)<;>(replace S:=S.qy x;clear x;(first|(have e9:=hv.F (fun q=>ho (sa.qdL.1 q));subst e9));refine mv ?_;(first|(refine bT ?_));refine vl ?_;(iterate 3 refine mv ?_);(skip))
   (refine qw rfl rfl rfl rfl rfl ((Jm S.wf vo l2 (H2.ext w S.ext) ya ha0).mono ?_);rintro vN2 h ⟨on,hn2,hnl,x⟩)<;>(replace S:=S.jo x;clear x;have e9:=(sa.nbR hn2).unique nbF;subst e9;refine mv ?_;(skip))
   (refine qw rfl rfl rfl rfl rfl ((Jd S.wf vN2 (.slice none 0 0) _ _ (Rd.zo S .here) (Rd.zo S (.there .here)) (by omega) (by omega)).mono ?_);rintro _ h ⟨⟨rfl,hq9⟩|⟨rfl,hq9⟩,x⟩)<;>(replace S:=S.qy x;clear x;refine vl ?_;refine mv ?_;refine qg ?_)
   all_goals (repeat' (fail))
   all_goals (refine qx ⟨_,rfl,?_⟩)
   ·exact ⟨rfl,S.drop⟩
   ·exact absurd rfl hq9
section
variable {P:Program} {X:Extern} {sz:Nat} {L:Ks} {h h0:AH} {rs:List Rs} {ops:Array Oper} {os:List Oper} {o:Oper} {R:Ks→AH→Prop}
theorem bsn {ty:TypeId} {n:Nat} {ps:Array (Nat×Operand)} {vs:List (Nat×Value)} {c:List Value} {e:TypeId} {α:Type} {z:Nat} {d:Tmp} (enc:α→List Value) (l:List α) (S:Hs h0 h rs) (w:∀ u h',Hs h0 h' (.sl u e z enc l :: rs)→KO P X sz ops os (L.put d u) h' R) (ho:o.op = .buildSlice ty n ps:=by exact rfl) (hg:qB ops L.tree o.guard=some true:=by exact rfl)
 (hx:JY L ps.toList=some vs:=by exact rfl) (hv:jl P ty n vs h=some (.slice (some ⟨h.next,0,none⟩) n n,h.add (.cells c e none false)):=by exact rfl) (hl:l.length=n:=by exact rfl) (hc:c=l.flatMap enc:=by exact rfl) (hz:c.length=l.length*z:=by exact rfl) (hdst:o.dst=some d:=by exact rfl) (hds:Nat.blt d sz=true:=by exact rfl):KO P X sz ops (o :: os) L h R:=by
 subst hl
 exact Yi ho hg hx hv (by simp only [qM,hdst,hds]) (w _ _ ((S.add c e).qgv (z:=z) enc l hc hz))
end
theorem qah {h0:AH} (w:WfH h0) (v:Value) (l:List Tab) (H:HallR h0 v l) (ya yb:Int) (ha:ya≤9223372036854775807) (hb:yb≤9223372036854775807):Fn Tryz.prog Xh 24 [v,.int .i64 ya,.int .i64 yb] h0 (fun r h'=>r = .bool true∧Hs h0 h' []):=by
 have S:=Hs.start w
 have hl:=H.len
 refine qF rfl Tryz.func24 rfl rfl ?_
 all_goals (repeat' (first|refine qi ?_|(refine qf 0 ?_;refine mv ?_;refine qg ?_)|(refine qf 1 ?_;refine mv ?_)))
 (refine qw rfl rfl rfl rfl rfl ((xg S.wf v l H.rd H.len H.tab).mono ?_);rintro u g ⟨l2,sa,Hu,x⟩)<;>(replace S:=S.qy x;clear x;refine mv ?_;refine qg ?_)
 have T:=S
 have w1:=S.wf
 have H1:=H.ext w S.ext
 have hl2:=sa.1
 replace S:=Hs.start w1
 all_goals (repeat' (first|refine qi ?_|(refine qf 2 ?_;refine mv ?_;refine qg ?_)|(refine qf 3 ?_;refine mv ?_)))
 (refine qw rfl rfl rfl rfl rfl ((Jj S.wf v l H1).mono ?_);rintro _ h ⟨⟨rfl,hv⟩|⟨rfl,hv⟩,x⟩)<;>(replace S:=S.qy x;clear x;refine qg ?_)
 ·all_goals (repeat' (first|refine ql rfl ?_|(refine qf 4 ?_;refine mv ?_)))
  (refine qw rfl rfl rfl rfl rfl ((Wq S.wf v l (H1.ext w1 S.ext)).mono ?_);rintro vs h ⟨out,ho,x⟩)<;>(replace S:=S.jo x;clear x;refine mv ?_;refine qg ?_)
  have ao:AllR l out:=.inl ⟨hv,ho⟩
  have hol:=ao.len hl
  all_goals (repeat' (first|refine qi ?_|(refine qf 5 ?_;(iterate 3 refine mv ?_);refine ZC S rfl rfl ?_)))
  refine bsn (z:=1) eI [ya,yb,-1,(out.length:Int)] S ?_;clear S;intro vq h S;(refine mv ?_;refine qg ?_)
  all_goals (repeat' (first|refine qi ?_|refine qm ?_|(refine qf 6 ?_;refine mv ?_;refine ZC S rfl rfl ?_;refine mn ?_;refine mv ?_;refine qg ?_)))
  refine qE (σ:=Nat×List Int×Value) (fun (x,qs,vq) h'=>Hs g h' [.sl vq 3 1 eI qs,.sl vs 143 2 eSt out]∧(x:Int)≤min (out.length:Int) 30∧qs.length=4+x∧∀ j,j<qs.length→qs.getD j default≤9223372036854775807) (fun (x,qs,vq)=>30 - x) (fun (x,qs,vq)=>[(0,v),(7,u),(8,vs),(9,vq),(26,.int .i64 (min (out.length:Int) 30)),(27,.int .i64 x)]) (0,[ya,yb,-1,(out.length:Int)],vq) (by repeat (first|exact Ks.le_nil _|refine Ks.qh rfl ?_)) ?_ ?_
  ·refine ⟨S,by omega,rfl,fun j hj=>?_⟩
   match j,hj with
   | 0,_=>exact ha
   | 1,_=>exact hb
   | 2,_=>show (-1:Int)≤_;omega
   | 3,_=>show (out.length:Int)≤_;omega
  clear S
  rintro ⟨x,qs,vq⟩ h ⟨S,h1,h2,h3⟩
  all_goals (repeat' (first|refine qi ?_|refine ql rfl ?_|refine qo ?_|refine qA ?_|refine qm ?_|(refine qf 7 ?_;(first|(refine cS ?_ ?_<;>intro hc))<;>(refine qg ?_))|(refine qf 8 ?_;refine mv ?_;refine mv ?_;refine qg ?_)|(refine qf 9 ?_;refine mv ?_;refine mv ?_;(refine one 1 S ?_;clear S;intro u h S))|(refine qf 11 ?_;refine mv ?_;refine ZC S rfl rfl ?_;refine mv ?_;refine qg ?_)))
  ·refine app (y0:=(x:Int)) S rfl rfl ?_;clear S;intro v h S;refine mv ?_;refine qg ?_
   all_goals (repeat' (first|(refine qf 10 ?_;refine ad ?_;refine mv ?_;refine qg ?_)))
   refine ⟨(x+1,qs ++ [(x:Int)],v),?_,?_,(by repeat (first|exact Ks.le_nil _|refine Ks.qh rfl ?_))⟩
   ·show 30 - (x+1)<30 - x;omega
   ·refine ⟨S,by omega,by simp;omega,fun j hj=>?_⟩
    rcases Nat.lt_or_ge j qs.length with q|q
    ·have e:(qs ++ [(x:Int)]).getD j default=qs.getD j default:=by simp only [List.getD_eq_getElem?_getD,List.getElem?_append_left q]
     show (qs ++ [(x:Int)]).getD j default≤_
     rw [e];exact h3 j q
    ·have hj':j<qs.length+1:=by simpa using hj
     obtain rfl:j=qs.length:=by omega
     have e:(qs ++ [(x:Int)]).getD qs.length default=(x:Int):=by simp only [List.getD_eq_getElem?_getD,List.getElem?_append_right (Nat.le_refl _),Nat.sub_self];rfl
     show (qs ++ [(x:Int)]).getD qs.length default≤_
     rw [e];omega
  refine qE (σ:=Nat) (fun j h'=>Hs g h' [.sl vq 3 1 eI qs,.sl vs 143 2 eSt out]∧j≤qs.length) (fun j=>qs.length - j) (fun j=>[(0,v),(7,u),(8,vs),(9,vq),(35,vq),(36,.int .i64 qs.length),(37,.int .i64 j)]) 0 (by repeat (first|exact Ks.le_nil _|refine Ks.qh rfl ?_)) ?_ ?_
  ·exact ⟨S,Nat.zero_le _⟩
  clear S
  rintro j h ⟨S,hj⟩
  all_goals (repeat' (first|refine qi ?_|refine ql rfl ?_|refine qo ?_|refine qA ?_|refine qm ?_|(refine qf 12 ?_;(first|(refine cS ?_ ?_<;>intro hc))<;>(refine qg ?_))|(refine qf 13 ?_;refine qH S rfl rfl ?_;refine qI S rfl rfl ?_;refine mv ?_;refine qg ?_)|(refine qf 14 ?_;(iterate 5 refine mv ?_);skip)|(refine qf 17 ?_;refine mv ?_;refine mv ?_)))
  ·(try simp only [Int.toNat_natCast] at *)
   (refine qw rfl rfl rfl rfl rfl ((yA S.wf u v vs vq l2 l out qs (qs.getD j default) (Hu.ext w1 S.ext) (H1.ext w1 S.ext) sa (Rd.zo S (.there .here)) ao (h3 j (by omega)) (Rd.zo S .here) (by omega) h3).mono ?_);rintro _ h ⟨rfl,x⟩)<;>(replace S:=S.qy x;clear x;refine vl ?_;refine qg ?_)
   all_goals (repeat' (first|refine ql rfl ?_|refine qo ?_|(refine qf 16 ?_;refine ad ?_;refine mv ?_;refine qg ?_)))
   refine ⟨j+1,?_,?_,(by repeat (first|exact Ks.le_nil _|refine Ks.qh rfl ?_))⟩
   ·show qs.length - (j+1)<qs.length - j;omega
   ·exact ⟨S,by omega⟩
  (refine qw rfl rfl rfl rfl rfl ((ZI S.wf u v l2 l (Hu.ext w1 S.ext).rd (H1.ext w1 S.ext).rd (Hu.ext w1 S.ext).tab (H1.ext w1 S.ext).tab (by omega) (by omega)).mono ?_);rintro _ h ⟨⟨rfl,hq⟩|⟨rfl,hq⟩,x⟩)<;>(replace S:=S.qy x;clear x;refine mv ?_;refine qg ?_)
  all_goals (repeat' (fail))
  all_goals (refine qx ⟨_,rfl,?_⟩)
  ·exact ⟨rfl,T.qy S.drop⟩
  ·exact absurd sa hq
 ·replace S:=S.jP (e:=143) (z:=2) (enc:=eSt)
  all_goals (repeat' (first|refine qi ?_|refine ql rfl ?_|refine qo ?_|(refine qf 5 ?_;(iterate 3 refine mv ?_);refine ZC S rfl rfl ?_)))
  have ao:AllR l []:=.inr ⟨hv,rfl⟩
  have hol:([]:List (Nat×Nat)).length≤24000:=by simp
  refine bsn (z:=1) eI [ya,yb,-1,(([]:List (Nat×Nat)).length:Int)] S ?_;clear S;intro vq h S;(refine mv ?_;refine qg ?_)
  all_goals (repeat' (first|refine qi ?_|refine qm ?_|(refine qf 6 ?_;refine mv ?_;refine ZC S rfl rfl ?_;refine mn ?_;refine mv ?_;refine qg ?_)))
  refine qE (σ:=Nat×List Int×Value) (fun (x,qs,vq) h'=>Hs g h' [.sl vq 3 1 eI qs,.sl (.slice none 0 0) 143 2 eSt ([]:List (Nat×Nat))]∧(x:Int)≤min (([]:List (Nat×Nat)).length:Int) 30∧qs.length=4+x∧∀ j,j<qs.length→qs.getD j default≤9223372036854775807) (fun (x,qs,vq)=>30 - x) (fun (x,qs,vq)=>[(0,v),(7,u),(8,(.slice none 0 0)),(9,vq),(26,.int .i64 (min (([]:List (Nat×Nat)).length:Int) 30)),(27,.int .i64 x)]) (0,[ya,yb,-1,(([]:List (Nat×Nat)).length:Int)],vq) (by repeat (first|exact Ks.le_nil _|refine Ks.qh rfl ?_)) ?_ ?_
  ·refine ⟨S,by omega,rfl,fun j hj=>?_⟩
   match j,hj with
   | 0,_=>exact ha
   | 1,_=>exact hb
   | 2,_=>show (-1:Int)≤_;omega
   | 3,_=>show (([]:List (Nat×Nat)).length:Int)≤_;omega
  clear S
  rintro ⟨x,qs,vq⟩ h ⟨S,h1,h2,h3⟩
  all_goals (repeat' (first|refine qi ?_|refine ql rfl ?_|refine qo ?_|refine qA ?_|refine qm ?_|(refine qf 7 ?_;(first|(refine cS ?_ ?_<;>intro hc))<;>(refine qg ?_))|(refine qf 8 ?_;refine mv ?_;refine mv ?_;refine qg ?_)|(refine qf 9 ?_;refine mv ?_;refine mv ?_;(refine one 1 S ?_;clear S;intro u h S))|(refine qf 11 ?_;refine mv ?_;refine ZC S rfl rfl ?_;refine mv ?_;refine qg ?_)))
  ·refine app (y0:=(x:Int)) S rfl rfl ?_;clear S;intro v h S;refine mv ?_;refine qg ?_
   all_goals (repeat' (first|(refine qf 10 ?_;refine ad ?_;refine mv ?_;refine qg ?_)))
   refine ⟨(x+1,qs ++ [(x:Int)],v),?_,?_,(by repeat (first|exact Ks.le_nil _|refine Ks.qh rfl ?_))⟩
   ·show 30 - (x+1)<30 - x;omega
   ·refine ⟨S,by omega,by simp;omega,fun j hj=>?_⟩
    rcases Nat.lt_or_ge j qs.length with q|q
    ·have e:(qs ++ [(x:Int)]).getD j default=qs.getD j default:=by simp only [List.getD_eq_getElem?_getD,List.getElem?_append_left q]
     show (qs ++ [(x:Int)]).getD j default≤_
     rw [e];exact h3 j q
    ·have hj':j<qs.length+1:=by simpa using hj
     obtain rfl:j=qs.length:=by omega
     have e:(qs ++ [(x:Int)]).getD qs.length default=(x:Int):=by simp only [List.getD_eq_getElem?_getD,List.getElem?_append_right (Nat.le_refl _),Nat.sub_self];rfl
     show (qs ++ [(x:Int)]).getD qs.length default≤_
     rw [e];omega
  refine qE (σ:=Nat) (fun j h'=>Hs g h' [.sl vq 3 1 eI qs,.sl (.slice none 0 0) 143 2 eSt ([]:List (Nat×Nat))]∧j≤qs.length) (fun j=>qs.length - j) (fun j=>[(0,v),(7,u),(8,(.slice none 0 0)),(9,vq),(35,vq),(36,.int .i64 qs.length),(37,.int .i64 j)]) 0 (by repeat (first|exact Ks.le_nil _|refine Ks.qh rfl ?_)) ?_ ?_
  ·exact ⟨S,Nat.zero_le _⟩
  clear S
  rintro j h ⟨S,hj⟩
  all_goals (repeat' (first|refine qi ?_|refine ql rfl ?_|refine qo ?_|refine qA ?_|refine qm ?_|(refine qf 12 ?_;(first|(refine cS ?_ ?_<;>intro hc))<;>(refine qg ?_))|(refine qf 13 ?_;refine qH S rfl rfl ?_;refine qI S rfl rfl ?_;refine mv ?_;refine qg ?_)|(refine qf 14 ?_;(iterate 5 refine mv ?_);skip)|(refine qf 17 ?_;refine mv ?_;refine mv ?_)))
  ·(try simp only [Int.toNat_natCast] at *)
   (refine qw rfl rfl rfl rfl rfl ((yA S.wf u v (.slice none 0 0) vq l2 l ([]:List (Nat×Nat)) qs (qs.getD j default) (Hu.ext w1 S.ext) (H1.ext w1 S.ext) sa (Rd.zo S (.there .here)) ao (h3 j (by omega)) (Rd.zo S .here) (by omega) h3).mono ?_);rintro _ h ⟨rfl,x⟩)<;>(replace S:=S.qy x;clear x;refine vl ?_;refine qg ?_)
   all_goals (repeat' (first|refine ql rfl ?_|refine qo ?_|(refine qf 16 ?_;refine ad ?_;refine mv ?_;refine qg ?_)))
   refine ⟨j+1,?_,?_,(by repeat (first|exact Ks.le_nil _|refine Ks.qh rfl ?_))⟩
   ·show qs.length - (j+1)<qs.length - j;omega
   ·exact ⟨S,by omega⟩
  (refine qw rfl rfl rfl rfl rfl ((ZI S.wf u v l2 l (Hu.ext w1 S.ext).rd (H1.ext w1 S.ext).rd (Hu.ext w1 S.ext).tab (H1.ext w1 S.ext).tab (by omega) (by omega)).mono ?_);rintro _ h ⟨⟨rfl,hq⟩|⟨rfl,hq⟩,x⟩)<;>(replace S:=S.qy x;clear x;refine mv ?_;refine qg ?_)
  all_goals (repeat' (fail))
  all_goals (refine qx ⟨_,rfl,?_⟩)
  ·exact ⟨rfl,T.qy S.drop⟩
  ·exact absurd sa hq
set_option maxHeartbeats 4000000
def wTab:Tab:=⟨[119],1,1,0,⟨none,0,0⟩,[],0,0⟩
theorem qfY (h:AH):TabR h wTab:=⟨Rd.none_ h 1,by decide,by decide⟩
theorem qcK {h0 h:AH} {rs:List Rs} {u:Value} {t:Tab} (S:Hs h0 h rs) (a:At rs (.sl u 25 7 eT [wTab,t])) (r:TabR h t):HallR h u [wTab,t] :=
 ⟨Rd.zo S a,fun i hi=>by
  match i,hi with
  | 0,_=>exact qfY h
  | 1,_=>exact r,by simp,S.qcZ a⟩
theorem qdz {h0:AH} (w:WfH h0) (t:Tab) (hnm:t.name.length≤1000) (n:Int) (hn:n≤1000):Fn Tryz.prog Xh 52 [jg t,.int .i64 n] h0 (fun r h'=>r = .bool true∧Hs h0 h' []):=by
 have S:=Hs.start w
 refine qF rfl Tryz.func52 rfl rfl ?_
 all_goals (repeat' (first|refine qi ?_|refine qm ?_|(refine qf 0 ?_;(refine bx S ?_;clear S;intro b h S);refine mv ?_;refine qg ?_)|(refine qf 1 ?_;refine mv ?_;refine qg ?_)))
 obtain ⟨bt,hnm⟩:∃ x,x=b:=⟨_,rfl⟩;subst hnm
 refine qE (σ:=Int×SlV) (fun (i,s) h'=>Hs h0 h' [.blk bt (eT { t with os:=s }) 25]∧-1≤i∧(i≤n∨i = -1)) (fun (i,s)=>(n - i).toNat) (fun (i,s)=>[(1,.int .i64 n),(2,.pointer (some ⟨bt,0,none⟩)),(5,.int .i64 i)]) (-1,t.os) (by repeat (first|exact Ks.le_nil _|refine Ks.qh rfl ?_)) ?_ ?_
 ·exact ⟨S,by omega,.inr rfl⟩
 clear S
 rintro ⟨i,s⟩ h ⟨S,hi0,hi1⟩
 all_goals (repeat' (first|refine qi ?_|refine ql rfl ?_|refine qo ?_|refine qA ?_|refine qm ?_|(refine qf 2 ?_;refine mv ?_;refine mv ?_;(first|(refine cS ?_ ?_<;>intro hc))<;>(refine qg ?_))|(refine qf 4 ?_;refine mv ?_;refine qg ?_)))
 ·have hi:i<n:=by omega
  refine qE (σ:=Int×SlV) (fun (k,s) h'=>Hs h0 h' [.blk bt (eT { t with os:=s }) 25]∧-1≤k∧(k≤n∨k = -1)) (fun (k,s)=>(n - k).toNat) (fun (k,s)=>[(1,.int .i64 n),(2,.pointer (some ⟨bt,0,none⟩)),(5,.int .i64 i),(6,.int .i64 k)]) (-1,s) (by repeat (first|exact Ks.le_nil _|refine Ks.qh rfl ?_)) ?_ ?_
  ·exact ⟨S,by omega,.inr rfl⟩
  clear S
  rintro ⟨k,s⟩ h ⟨S,hk0,hk1⟩
  all_goals (repeat' (first|refine qi ?_|refine ql rfl ?_|refine qo ?_|refine qA ?_|refine qm ?_|(refine qf 5 ?_;refine mv ?_;refine mv ?_;(first|(refine cS ?_ ?_<;>intro hc))<;>(refine qg ?_))))
  ·have hk:k<n:=by omega
   (repeat (refine qi ?_));first|refine Vu (σ:=Bool) (fun v h'=>Hs h0 h' [.blk bt (eT { t with os:=s }) 25]) (fun v=>[(1,.int .i64 n),(2,.pointer (some ⟨bt,0,none⟩)),(5,.int .i64 i),(6,.int .i64 k),(30,.bool v)]) ?_ ?_
   ·all_goals (repeat' (first|(refine qf 7 ?_;refine mv ?_;(first|(refine cS ?_ ?_<;>intro hc))<;>(refine mv ?_;(first|refine off ?_|refine mv ?_);(first|refine off ?_|(first|(refine cS ?_ ?_<;>intro hc)))<;>(refine vl ?_;refine mv ?_;(first|refine off ?_|refine mv ?_);(first|refine off ?_|refine mv ?_);(first|refine off ?_|(refine ad ?_));(first|refine off ?_|(refine vl ?_));(first|refine off ?_|(first|(refine cS ?_ ?_<;>intro hc)))<;>(refine vl ?_;refine qg ?_))))))
    ·exact ⟨true,S,((by repeat (first|exact Ks.le_nil _|refine Ks.qh rfl ?_)))⟩
    ·exact ⟨false,S,((by repeat (first|exact Ks.le_nil _|refine Ks.qh rfl ?_)))⟩
    ·exact ⟨false,S,((by repeat (first|exact Ks.le_nil _|refine Ks.qh rfl ?_)))⟩
    ·exact ⟨false,S,((by repeat (first|exact Ks.le_nil _|refine Ks.qh rfl ?_)))⟩
   clear S
   rintro v h S
   cases v
   ·skip
    all_goals (repeat' (first|refine qi ?_|refine ql rfl ?_|refine qo ?_|(refine qf 8 ?_;refine vl ?_;(first|(refine sB S rfl rfl ?_;clear S;intro h S));refine qg ?_)))
    replace S:=S.jP (e:=3) (z:=1) (enc:=eI)
    (repeat (refine qi ?_));first|refine JB (σ:=SlV×List Int) (fun (s,L) h'=>Hs h0 h' [.sl s.val 3 1 eI L,.blk bt (eT { t with os:=s }) 25]∧L.length≤1) (fun (s,L)=>[(1,.int .i64 n),(2,.pointer (some ⟨bt,0,none⟩)),(5,.int .i64 i),(6,.int .i64 k)]) ?_ ?_
    ·all_goals (repeat' (first|refine ql rfl ?_|refine qo ?_|(refine qf 9 ?_;refine mv ?_;(first|(refine cS ?_ ?_<;>intro hc))<;>(refine qg ?_))|(refine qf 10 ?_;refine vl ?_;refine lB S rfl rfl ?_;refine mv ?_;(refine one 1 S ?_;clear S;intro u h S))))
     ·refine app  S rfl rfl ?_;clear S;intro v h S;obtain ⟨s',rfl⟩:=Rd.Xq (Rd.zo S .here);refine vl ?_;(first|(refine sB S rfl rfl ?_;clear S;intro h S));refine qg ?_
      exact ⟨(s',[i]),⟨S,by simp⟩,((by repeat (first|exact Ks.le_nil _|refine Ks.qh rfl ?_)))⟩
     ·exact ⟨(⟨none,0,0⟩,[]),⟨S,by simp⟩,((by repeat (first|exact Ks.le_nil _|refine Ks.qh rfl ?_)))⟩
    clear S
    rintro ⟨s,L⟩ h ⟨S,hL⟩
    skip
    (repeat (refine qi ?_));first|refine JB (σ:=SlV×List Int) (fun (s,L) h'=>Hs h0 h' [.sl s.val 3 1 eI L,.blk bt (eT { t with os:=s }) 25]∧L.length≤2) (fun (s,L)=>[(1,.int .i64 n),(2,.pointer (some ⟨bt,0,none⟩)),(5,.int .i64 i),(6,.int .i64 k)]) ?_ ?_
    ·all_goals (repeat' (first|refine ql rfl ?_|refine qo ?_|(refine qf 11 ?_;refine mv ?_;refine mv ?_;(first|(refine cS ?_ ?_<;>intro hc))<;>(refine qg ?_))|(refine qf 12 ?_;refine vl ?_;refine lB S rfl rfl ?_;refine mv ?_;(refine one 1 S ?_;clear S;intro u h S))))
     ·refine app  S rfl rfl ?_;clear S;intro v h S;obtain ⟨s',rfl⟩:=Rd.Xq (Rd.zo S .here);refine vl ?_;(first|(refine sB S rfl rfl ?_;clear S;intro h S));refine qg ?_
      exact ⟨(s',L ++ [k]),⟨S,by simp;omega⟩,((by repeat (first|exact Ks.le_nil _|refine Ks.qh rfl ?_)))⟩
     ·exact ⟨(s,L),⟨S,by omega⟩,((by repeat (first|exact Ks.le_nil _|refine Ks.qh rfl ?_)))⟩
    clear S
    rintro ⟨s,L⟩ h ⟨S,hL⟩
    skip
    all_goals (repeat' (first|refine qi ?_|(refine qf 13 ?_;refine vl ?_;refine lB S rfl rfl ?_)))
    refine Gj (z:=7) eT [wTab,{ t with os:=s,opn:=L }] S ?_;clear S;intro u h S
    refine mv ?_;refine qg ?_
    have r:TabR h { t with os:=s,opn:=L }:=⟨Rd.zo S (.there .here),hnm,by show L.length≤1000;omega⟩
    have H:=qcK S .here r
    have hsr:RdL h s.val 1 eI L:=Rd.zo S (.there .here)
    all_goals (repeat' (first|refine qi ?_|(refine qf 14 ?_;refine lB S rfl rfl ?_;refine vl ?_;refine lB S rfl rfl ?_)))
    (refine qw rfl rfl rfl rfl rfl ((qag S.wf { t with os:=s,opn:=L } r s.val L hsr (by omega)).mono ?_);rintro _ h ⟨rfl,x⟩)<;>(replace H:=H.ext S.wf x.ext;replace S:=S.qy x;clear x;refine vl ?_;refine mv ?_;refine mv ?_;(skip))
    (refine qw rfl rfl rfl rfl rfl ((qa9 S.wf u _ H 1).mono ?_);rintro _ h ⟨rfl,x⟩)<;>(replace H:=H.ext S.wf x.ext;replace S:=S.qy x;clear x;refine vl ?_;refine vl ?_;refine mv ?_;refine mv ?_;(skip))
    (refine qw rfl rfl rfl rfl rfl ((yI S.wf u _ H).mono ?_);rintro _ h ⟨rfl,x⟩)<;>(replace H:=H.ext S.wf x.ext;replace S:=S.qy x;clear x;refine vl ?_;refine vl ?_;refine mv ?_;refine mv ?_;(first|(first|(refine cS ?_ ?_<;>intro hc)))<;>((refine mv ?_);(first|refine off ?_|refine mv ?_);(first|refine off ?_|refine mv ?_);(first|refine off ?_|refine mv ?_);(first|(refine off ?_;refine off ?_;refine vl ?_;refine vl ?_;refine qg ?_)|skip)))
    ·(refine qw rfl rfl rfl rfl rfl ((qah S.wf u _ H i n (by omega) (by omega)).mono ?_);rintro _ h ⟨rfl,x⟩)<;>(replace S:=S.qy x;clear x;refine vl ?_;refine vl ?_;refine vl ?_;refine qg ?_)
     all_goals (repeat' (first|refine ql rfl ?_|refine qo ?_|(refine qf 6 ?_;refine mv ?_;refine ad ?_;refine mv ?_;refine qg ?_)))
     refine ⟨(k+1,s),?_,?_,(by repeat (first|exact Ks.le_nil _|refine Ks.qh rfl ?_))⟩
     ·show (n - (k+1)).toNat<(n - k).toNat;omega
     ·exact ⟨S.del .here |>.del .here,by omega,by omega⟩
    ·all_goals (repeat' (first|refine ql rfl ?_|refine qo ?_|(refine qf 6 ?_;refine mv ?_;refine ad ?_;refine mv ?_;refine qg ?_)))
     refine ⟨(k+1,s),?_,?_,(by repeat (first|exact Ks.le_nil _|refine Ks.qh rfl ?_))⟩
     ·show (n - (k+1)).toNat<(n - k).toNat;omega
     ·exact ⟨S.del .here |>.del .here,by omega,by omega⟩
   ·all_goals (repeat' (first|refine ql rfl ?_|refine qA ?_|(refine qf 6 ?_;refine mv ?_;refine ad ?_;refine mv ?_;refine qg ?_)))
    refine ⟨(k+1,s),?_,?_,(by repeat (first|exact Ks.le_nil _|refine Ks.qh rfl ?_))⟩
    ·show (n - (k+1)).toNat<(n - k).toNat;omega
    ·exact ⟨S,by omega,by omega⟩
  ·all_goals (repeat' (first|(refine qf 3 ?_;refine mv ?_;refine ad ?_;refine mv ?_;refine qg ?_)))
   refine ⟨(i+1,s),?_,?_,(by repeat (first|exact Ks.le_nil _|refine Ks.qh rfl ?_))⟩
   ·show (n - (i+1)).toNat<(n - i).toNat;omega
   ·exact ⟨S,by omega,by omega⟩
 ·skip
  all_goals (repeat' (first|(refine qf 16 ?_;refine mv ?_;refine qg ?_)))
  refine qx ⟨_,rfl,?_⟩
  exact ⟨rfl,S.drop⟩
section
variable {P:Program} {X:Extern} {inR:Bool} {sz:Nat} {L:Ks} {h h0:AH} {rs:List Rs} {ops:Array Oper} {os:List Oper} {o:Oper} {R:Ks→AH→Prop}
theorem qbe {n:Nat} (hn:n<128):(Go.Utf8.encode (n:Int))=⟨#[UInt8.ofNat n]⟩:=by
 have hv:Go.Utf8.valid (n:Int)=true:=by
  have h1:(0:Int)≤n∧(n:Int)<55296:=by omega
  simp only [Go.Utf8.valid,decide_eq_true h1.1,decide_eq_true h1.2,Bool.and_self,Bool.true_or]
 unfold Go.Utf8.encode
 simp only [hv,if_true,Int.toNat_natCast]
 rw [if_pos (by omega)]
theorem wrap_i32 {n:Int} (h : -2147483648≤n∧n≤2147483647):IntKind.i32.wrap n=n:=Gf (by simpa [IntKind.min,IntKind.max,IntKind.signed,IntKind.bits] using h)
theorem qhY {L':Ks} {x:Operand} {s d:TypeId} {k k2:IntKind} {a:Int} (w:KO P X sz ops os L' h R) (ho:o.op = .convert s d x:=by exact rfl) (hg:qB ops L.tree o.guard=some true:=by exact rfl) (hx:kA L x=some (.int k a):=by exact rfl) (hs:P.underlying s=some (.int k2):=by exact rfl) (hd:P.underlying d=some (.int .i32):=by exact rfl)
 (hb : -2147483648≤a∧a≤2147483647:=by first|omega|grind) (hp:qM sz L o.dst (.int .i32 a)=some L':=by exact rfl):KO P X sz ops (o :: os) L h R :=
 qY hg (by rw [ho];simp only [jI,qL hx,jf,hs,hd,wrap_i32 hb]) hp w
theorem cR {L':Ks} {x:Operand} {s d:TypeId} {k k2:IntKind} {n:Nat} (w:KO P X sz ops os L' h R) (hn:n<128) (ho:o.op = .convert s d x:=by exact rfl) (hg:qB ops L.tree o.guard=some true:=by exact rfl) (hx:kA L x=some (.int k n):=by exact rfl) (hs:P.underlying s=some (.int k2):=by exact rfl) (hd:P.underlying d=some .string:=by exact rfl)
 (hp:qM sz L o.dst (str [UInt8.ofNat n])=some L':=by exact rfl):KO P X sz ops (o :: os) L h R:=by
 refine qY hg ?_ hp w
 rw [ho]
 have e1:jf P s d (.int k n)=some (str [UInt8.ofNat n]):=by
  unfold jf
  rw [hs,hd]
  show some (Value.string (Go.Utf8.encode (n:Int)))=_
  rw [qbe hn];rfl
 simp only [jI,qL hx,e1]
end
def YH (a:List UInt8):List (List UInt8)→List (List UInt8)
 | []=>[a]
 | w :: r=>(a ++ w) :: r
def jA (c:UInt8):List UInt8→List (List UInt8)
 | []=>[[]]
 | x :: s=>if x=c then [] :: jA c s else YH [x] (jA c s)
theorem Y7:∀ {l:List (List UInt8)},l≠[]→YH [] l=l
 | [],h=>absurd rfl h
 | w :: r,_=>rfl
theorem qeU {a:List UInt8}:∀ {l:List (List UInt8)},YH a l≠[]
 | []=>by simp [YH]
 | _ :: _=>by simp [YH]
theorem wS {a b:List UInt8}:∀ {l:List (List UInt8)},l≠[]→YH a (YH b l)=YH (a ++ b) l
 | [],h=>absurd rfl h
 | w :: r,_=>by simp [YH]
theorem qdJ {a:List UInt8}:∀ {l:List (List UInt8)},l≠[]→(YH a l).length=l.length
 | [],h=>absurd rfl h
 | w :: r,_=>rfl
theorem Z4 (c:UInt8):∀ s,jA c s≠[]
 | []=>by simp [jA]
 | x :: s=>by
  unfold jA
  split
  ·simp
  ·exact qeU
theorem Z5 (c:UInt8):∀ s,(jA c s).length=s.countP (· == c)+1
 | []=>rfl
 | x :: s=>by
  unfold jA
  split
  ·rename_i h;subst h;simp [Z5 x s]
  ·rename_i h;rw [qdJ (Z4 c s),Z5 c s,List.countP_cons_of_neg (by simpa using h)]
theorem YY {c:UInt8}:∀ {s:List UInt8},c ∉ s→jA c s=[s]
 | [],_=>rfl
 | x :: s,h=>by
  have h1:x≠c:=fun e=>h (by simp [e])
  have h2:c ∉ s:=fun q=>h (List.mem_cons_of_mem _ q)
  rw [jA,if_neg h1,YY h2];rfl
theorem qbE {c:UInt8}:∀ {a b:List UInt8},c ∉ a→jA c (a ++ c :: b)=a :: jA c b
 | [],b,_=>by simp [jA]
 | x :: a,b,h=>by
  have h1:x≠c:=fun e=>h (by simp [e])
  have h2:c ∉ a:=fun q=>h (List.mem_cons_of_mem _ q)
  rw [List.cons_append,jA,if_neg h1,qbE h2];rfl
theorem qeQ {c:UInt8} {s w:List UInt8} (h:jA c s=[w]):s=w∧c ∉ s:=by
 have hl:=Z5 c s
 rw [h] at hl
 have h0:s.countP (· == c)=0:=by simpa using hl.symm
 have hn:c ∉ s:=fun q=>by
  have:=List.countP_eq_zero.1 h0 c q
  simp at this
 rw [YY hn] at h
 exact ⟨by simpa using h,hn⟩
theorem YL {c:UInt8}:∀ {s:List UInt8},QN c s=none↔c ∉ s
 | []=>by simp [QN]
 | x :: s=>by
  unfold QN
  by_cases h:x=c
  ·simp [h]
  ·simp only [if_neg h,Option.map_eq_none_iff,YL,List.mem_cons,not_or]
   exact ⟨fun q=>⟨fun e=>h e.symm,q⟩,fun q=>q.2⟩
theorem Jb {c:UInt8}:∀ {s:List UInt8} {m:Nat},QN c s=some m→m<s.length∧c ∉ s.take m∧s=s.take m ++ c :: s.drop (m+1)
 | [],m,h=>by cases h
 | x :: s,m,h=>by
  unfold QN at h
  by_cases e:x=c
  ·rw [if_pos e] at h;cases h
   subst e
   simp
  ·rw [if_neg e] at h
   obtain ⟨k,hk,rfl⟩:=Option.map_eq_some_iff.1 h
   obtain ⟨h1,h2,h3⟩:=Jb hk
   refine ⟨by simpa using h1,?_,?_⟩
   ·simp only [List.take_succ_cons,List.mem_cons,not_or]
    exact ⟨fun q=>e q.symm,h2⟩
   ·simp only [List.take_succ_cons,List.drop_succ_cons,List.cons_append]
    rw [← h3]
theorem G8 {c:UInt8} {s:List UInt8} {m:Nat} (h:QN c s=some m):jA c s=s.take m :: jA c (s.drop (m+1)):=by
 obtain ⟨h1,h2,h3⟩:=Jb h
 conv=>lhs;rw [h3]
 exact qbE h2
def Yk (x:UInt8):Prop:=48≤x.toNat∧x.toNat≤57
instance (x:UInt8):Decidable (Yk x):=inferInstanceAs (Decidable (_∧_))
def JP (s:List UInt8):Nat:=s.foldl (fun n x=>10*n+(x.toNat - 48)) 0
theorem qce (s:List UInt8) (x:UInt8):JP (s ++ [x])=10*JP s+(x.toNat - 48):=by simp [JP]
theorem VA {s:List UInt8} {i:Nat} (h:i<s.length):JP (s.take (i+1))=10*JP (s.take i)+((s.getD i default).toNat - 48):=by
 rw [← qce]
 congr 1
 rw [List.take_add_one,List.getElem?_eq_getElem h]
 simp [List.getD,h]
def qeX (s:List UInt8):Prop:=1≤s.length∧s.length≤9∧(1<s.length→s.getD 0 default≠48)∧∀ i,i<s.length→Yk (s.getD i default)
def gu:List UInt8:=[116,97,98,108,101]
def shp (w:List UInt8):Int:=if w=Zu then 1 else if w=Xj then 2 else if w=Xi then 3 else if w=wRow then 4 else 0
abbrev Q3 (ws:List (List UInt8)) (i:Nat):List UInt8:=ws.getD i default
def LineP (ws:List (List UInt8)):Prop:=7≤ws.length∧Q3 ws 0=gu∧Q3 ws 1≠[]∧shp (Q3 ws 2)≠0∧∀ i,3≤i→i<ws.length→qeX (Q3 ws i)
def nAt (ws:List (List UInt8)) (i:Nat):Int:=JP (Q3 ws i)
def Qp (ws:List (List UInt8)):Tab:={ name:=Q3 ws 1,shape:=shp (Q3 ws 2),A:=nAt ws 3,B:=nAt ws 4,os:=⟨none,0,0⟩,opn:=(ws.drop 7).map fun w=>(JP w:Int),X:=nAt ws 5,Y:=nAt ws 6 }
inductive qhE where
 | ok (l:List Tab)
 | bad (i:Nat) (e:Int)
open Classical in
noncomputable def xX:List Tab→Nat→List (List UInt8)→qhE
 | acc,i,[]=>.ok acc
 | acc,i,[w]=>if w=[] then .ok acc else .bad i 3
 | acc,i,w :: u :: r=>if ¬ LineP (jA 32 w) then .bad i 3 else if chk (Qp (jA 32 w))≠0 then .bad i (chk (Qp (jA 32 w))) else if (∃ j,j<acc.length∧(tb acc j).name=(Qp (jA 32 w)).name) then .bad i 5 else if acc.length=16 then .bad i 7 else xX (acc ++ [Qp (jA 32 w)]) (i+1) (u :: r)
noncomputable def Jt (s:List UInt8):qhE:=if 65536<s.length then .bad 0 7 else xX [] 0 (jA 10 s)
theorem qbK {acc:List Tab} {i:Nat}:xX acc i [[]] = .ok acc:=by simp [xX]
theorem xW {acc:List Tab} {i:Nat} {w:List UInt8} (h:w≠[]):xX acc i [w] = .bad i 3:=by simp [xX,h]
section
variable {acc:List Tab} {i:Nat} {w:List UInt8} {r:List (List UInt8)}
theorem PS (hr:r≠[]) (h:¬ LineP (jA 32 w)):xX acc i (w :: r) = .bad i 3:=by
 match r,hr with
 | u :: r,_=>rw [xX,if_pos h]
theorem qbM (hr:r≠[]) (h:LineP (jA 32 w)) (h2:chk (Qp (jA 32 w))≠0):xX acc i (w :: r) = .bad i (chk (Qp (jA 32 w))):=by
 match r,hr with
 | u :: r,_=>rw [xX,if_neg (not_not_intro h),if_pos h2]
theorem qbL (hr:r≠[]) (h:LineP (jA 32 w)) (h2:chk (Qp (jA 32 w))=0) (h3:∃ j,j<acc.length∧(tb acc j).name=(Qp (jA 32 w)).name):xX acc i (w :: r) = .bad i 5:=by
 match r,hr with
 | u :: r,_=>rw [xX,if_neg (not_not_intro h),if_neg (not_not_intro h2),if_pos h3]
theorem PR (hr:r≠[]) (h:LineP (jA 32 w)) (h2:chk (Qp (jA 32 w))=0) (h3:¬ ∃ j,j<acc.length∧(tb acc j).name=(Qp (jA 32 w)).name) (h4:acc.length=16):xX acc i (w :: r) = .bad i 7:=by
 match r,hr with
 | u :: r,_=>rw [xX,if_neg (not_not_intro h),if_neg (not_not_intro h2),if_neg h3,if_pos h4]
theorem qdI (hr:r≠[]) (h:LineP (jA 32 w)) (h2:chk (Qp (jA 32 w))=0) (h3:¬ ∃ j,j<acc.length∧(tb acc j).name=(Qp (jA 32 w)).name) (h4:acc.length≠16):xX acc i (w :: r)=xX (acc ++ [Qp (jA 32 w)]) (i+1) r:=by
 match r,hr with
 | u :: r,_=>rw [xX,if_neg (not_not_intro h),if_neg (not_not_intro h2),if_neg h3,if_neg h4]
end
section
variable {P:Program} {X:Extern} {sz:Nat} {L:Ks} {h h0:AH} {rs:List Rs} {ops:Array Oper} {os:List Oper} {o:Oper} {R:Ks→AH→Prop}
theorem tsl {L':Ks} {x:Operand} {lo hi:Option Operand} {vlo vhi:Option Value} {ty:TypeId} {l:List UInt8} {a b:Nat} (w:KO P X sz ops os L' h R) (ho:o.op = .slice ty x lo hi none:=by exact rfl) (hg:qB ops L.tree o.guard=some true:=by exact rfl) (hx:kA L x=some (str l):=by exact rfl)
 (hlo:jr L.tree lo=some vlo:=by exact rfl) (hhi:jr L.tree hi=some vhi:=by exact rfl) (hu:P.underlying ty=some .string:=by exact rfl) (h1:zA vlo 0=some a:=by exact rfl) (h2:zA vhi l.length=some b:=by exact rfl) (hab:a≤b∧b≤l.length:=by first|omega|grind)
 (hp:qM sz L o.dst (str ((l.drop a).take (b - a)))=some L':=by exact rfl):KO P X sz ops (o :: os) L h R:=by
 refine qY hg ?_ hp w
 have t1:Nat.ble a b=true:=Nat.ble_eq_true_of_le hab.1
 have t2:Nat.ble b l.length=true:=Nat.ble_eq_true_of_le hab.2
 rw [ho]
 have e:(⟨l.toArray⟩:ByteArray).data.toList=l:=rfl
 simp only [jI,qL hx,hlo,hhi,show jr L.tree none=some none from rfl,zM,str,hu,h1,h2,e,t1,t2,Bool.and_self,qU]
end
section
variable {P:Program} {X:Extern} {sz:Nat} {L:Ks} {h h0:AH} {rs:List Rs} {ops:Array Oper} {os:List Oper} {o:Oper} {R:Ks→AH→Prop}
theorem thA {α:Type} {x hi:Operand} {ty e:TypeId} {v vh:Value} {z:Nat} {enc:α→List Value} {l:List α} {f:Rs→List Rs} {dd:List Rs} {d:Tmp} (b:Nat) (S:Hs h0 h rs) (ho:o.op = .slice ty x none (some hi) none) (hx:kA L x=some v) [i:HasS rs v α e z enc l f dd]
 (w:KO P X sz ops os (L.put d v) h R) (hg:qB ops L.tree o.guard=some true:=by exact rfl) (hhi:kA L hi=some vh:=by exact rfl) (hbo:zA (some vh) l.length=some b:=by exact rfl) (hb:b=l.length:=by first|omega|grind)
 (hu:QQ P ty=some z:=by exact rfl) (hdst:o.dst=some d:=by exact rfl) (hds:Nat.blt d sz=true:=by exact rfl):KO P X sz ops (o :: os) L h R:=by
 obtain ⟨fp,k1,k2,-⟩:=(i.ut (.sl v e z enc l)).ok (h':=h) S.ext.next (Nat.le_refl _) S.sep
 have hue:∃ e',P.underlying ty=some (.slice e')∧zH P e'=some z:=by
  unfold QQ at hu
  split at hu
  ·exact ⟨_,by assumption,hu⟩
  ·cases hu
 obtain ⟨e',hu1,hu2⟩:=hue
 have hhi':jX L.tree hi=some vh:=qL hhi
 have h0b:zA none 0=some 0:=rfl
 have q1:zM P ty v none (some vh) none h=some v:=by
  subst hb
  rcases k1 with ⟨rfl,rfl⟩|⟨bb,o',cc,slk,g1,g2,g3,g4,g5,g6⟩
  ·have:zA (some vh) 0=some 0:=hbo
   simp only [zM,hu1,hu2,this,h0b]
  ·subst g1
   have t1:Nat.ble 0 l.length=true:=by simp
   have t2:Nat.ble l.length l.length=true:=Nat.ble_eq_true_of_le (Nat.le_refl _)
   cases hk:(slk.isNone && Nat.beq 0 l.length) with
   | false=>simp only [zM,hu1,hu2,g2,h0b,hbo,t1,t2,hk,Bool.and_self,Nat.zero_mul,Nat.add_zero];rfl
   | true=>simp only [zM,hu1,hu2,g2,h0b,hbo,t1,t2,hk,Bool.and_self];rfl
 refine qY (v:=v) (h':=h) hg ?_ (by simp only [qM,hdst,hds]) w
 rw [ho]
 simp only [jI,qL hx,jr,hhi',q1,qU]
end
theorem Hs.sV {h0 h:AH} {rs:List Rs} (S:Hs h0 h rs) (v:Value) {α:Type} {z:Nat} {enc:α→List Value} {l:List α} [i:HasR rs v α z enc l]:∃ s:SlV,v=s.val:=(i.rd S).Xq
theorem qbA (c:UInt8):((c.toNat:Int).toNat).toUInt8=c:=by simp
theorem qfd {h0:AH} (s:List UInt8) (c:UInt8):Fn Tryz.prog Xh 228 [str s,.int .u8 (c.toNat:Int)] h0 (fun v h'=>v = .int .i64 (VS c s)∧h'=h0) :=
 JO (v:=.int .i64 (VS ((c.toNat:Int).toNat).toUInt8 s)) rfl ⟨by rw [qbA],rfl⟩
theorem qfq {h0:AH} (s:List UInt8) (c:UInt8):Fn Tryz.prog Xh 121 [str s,.int .u8 (c.toNat:Int)] h0 (fun v h'=>v = .int .i64 (qcV c s:Nat)∧h'=h0) :=
 JO (v:=.int .i64 (qcV ((c.toNat:Int).toNat).toUInt8 s:Nat)) rfl ⟨by rw [qbA],rfl⟩
theorem qcF {h0:AH} (s:List UInt8) (c:UInt8):Fn Tryz.prog Xh 203 [str s,.int .u8 (c.toNat:Int)] h0 (fun v h'=>v = .int .i64 (VS c s)∧h'=h0):=by
 refine qF rfl Tryz.func203 rfl rfl ?_
 all_goals (repeat' (first|refine qi ?_|(refine qf 0 ?_;refine mv ?_;refine qg ?_)|(refine qf 1 ?_;refine mv ?_;refine mv ?_)))
 (refine qw rfl rfl rfl rfl rfl ((qfd s c).mono ?_);rintro _ _ ⟨rfl,rfl⟩)<;>(refine mv ?_;refine qg ?_)
 all_goals (repeat' (fail))
 refine qx ⟨_,rfl,?_⟩
 exact ⟨rfl,rfl⟩
theorem xH {h0:AH} (s sep:List UInt8) (hl:sep.length=1):Fn Tryz.prog Xh 169 [str s,str sep] h0 (fun v h'=>v = .int .i64 (VS (sep.getD 0 0) s)∧h'=h0):=by
 refine qF rfl Tryz.func169 rfl rfl ?_
 all_goals (repeat' (first|refine qi ?_|refine ql rfl ?_|refine qm ?_|(refine qf 0 ?_;refine mv ?_;refine qg ?_)|(refine qf 1 ?_;refine mv ?_;refine tl ?_;refine mv ?_;refine qg ?_)|(refine qf 2 ?_;refine mv ?_;(refine cF ?_)<;>((iterate 3 refine mv ?_);(first|(refine tS ?_ ?_<;>intro hc))<;>(refine vl ?_;refine mv ?_;refine qg ?_)))|(refine qf 3 ?_;refine mv ?_;refine qg ?_)|(refine qf 4 ?_;refine mv ?_;(refine cT ?_)<;>(refine mv ?_;refine qg ?_))|(refine qf 5 ?_;refine mv ?_;refine mv ?_;refine ti ?_)))
 ·refine qx ⟨_,rfl,?_⟩
  subst hc
  match sep,hl with
  | [c],_=>exact ⟨by simp [VS,QN,zX],rfl⟩
 (refine qw rfl rfl rfl rfl rfl ((qcF s (sep.getD 0 0)).mono ?_);rintro _ _ ⟨rfl,rfl⟩)<;>(refine mv ?_;refine qg ?_)
 all_goals (repeat' (fail))
 refine qx ⟨_,rfl,?_⟩
 exact ⟨rfl,rfl⟩
theorem qcr {h0:AH} (s sep:List UInt8) (hl:sep.length=1):Fn Tryz.prog Xh 122 [str s,str sep] h0 (fun v h'=>v = .int .i64 (VS (sep.getD 0 0) s)∧h'=h0):=by
 refine qF rfl Tryz.func122 rfl rfl ?_
 all_goals (repeat' (first|refine qi ?_|(refine qf 0 ?_;refine mv ?_;refine qg ?_)|(refine qf 1 ?_;refine mv ?_;refine mv ?_)))
 (refine qw rfl rfl rfl rfl rfl ((xH s sep hl).mono ?_);rintro _ _ ⟨rfl,rfl⟩)<;>(refine mv ?_;refine qg ?_)
 all_goals (repeat' (fail))
 refine qx ⟨_,rfl,?_⟩
 exact ⟨rfl,rfl⟩
theorem qcs {h0:AH} (s sep:List UInt8) (hl:sep.length=1):Fn Tryz.prog Xh 63 [str s,str sep] h0 (fun v h'=>v = .int .i64 (qcV (sep.getD 0 0) s:Nat)∧h'=h0):=by
 refine qF rfl Tryz.func63 rfl rfl ?_
 all_goals (repeat' (first|refine qi ?_|refine ql rfl ?_|refine qo ?_|(refine qf 0 ?_;refine mv ?_;refine qg ?_)|(refine qf 1 ?_;refine mv ?_;refine tl ?_;(refine cF ?_)<;>(refine qg ?_))|(refine qf 3 ?_;refine mv ?_;refine tl ?_;(refine cT ?_)<;>(refine qg ?_))|(refine qf 4 ?_;refine mv ?_;refine mv ?_;refine ti ?_)))
 all_goals (try (exfalso;omega))
 (refine qw rfl rfl rfl rfl rfl ((qfq s (sep.getD 0 0)).mono ?_);rintro _ _ ⟨rfl,rfl⟩)<;>(refine mv ?_;refine qg ?_)
 all_goals (repeat' (fail))
 refine qx ⟨_,rfl,?_⟩
 exact ⟨rfl,rfl⟩
theorem qcO {c:UInt8} {s:List UInt8} (h:QN c s=none):VS c s = -1:=by unfold VS;rw [h]
theorem kK {c:UInt8} {s:List UInt8} {m:Nat} (h:QN c s=some m):VS c s=m:=by unfold VS;rw [h]
def cutV (c:UInt8) (s:List UInt8):Value:=match QN c s with
 | some m=>.tuple #[str (s.take m),str (s.drop (m+1)),.bool true]
 | none=>.tuple #[str s,str [],.bool false]
theorem G9 {h0:AH} (s sep:List UInt8) (hl:sep.length=1) (hs:s.length≤1000000):Fn Tryz.prog Xh 165 [str s,str sep] h0 (fun v h'=>v=cutV (sep.getD 0 0) s∧h'=h0):=by
 refine qF rfl Tryz.func165 rfl rfl ?_
 all_goals (repeat' (first|refine qi ?_|(refine qf 0 ?_;(iterate 3 refine mv ?_);refine qg ?_)|(refine qf 1 ?_;refine mv ?_;refine mv ?_)))
 (refine qw rfl rfl rfl rfl rfl ((xH s sep hl).mono ?_);rintro _ _ ⟨rfl,rfl⟩)<;>(refine mv ?_;refine qg ?_)
 rcases hf:QN (sep.getD 0 0) s with _|m
 ·rw [qcO hf,show cutV (sep.getD 0 0) s = .tuple #[str s,str [],.bool false] by unfold cutV;rw [hf]]
  all_goals (repeat' (first|refine qi ?_|refine ql rfl ?_|refine qo ?_|(refine qf 2 ?_;refine mv ?_;(refine cF ?_)<;>(refine qg ?_))|(refine qf 4 ?_;(iterate 4 refine mv ?_);refine qg ?_)))
  refine qx ⟨_,rfl,?_⟩
  exact ⟨rfl,rfl⟩
 ·rw [kK hf,show cutV (sep.getD 0 0) s = .tuple #[str (s.take m),str (s.drop (m+1)),.bool true] by unfold cutV;rw [hf]]
  have hm:=(Jb hf).1
  all_goals (repeat' (first|refine qi ?_|refine ql rfl ?_|(refine qf 2 ?_;refine mv ?_;(refine cT ?_)<;>(refine qg ?_))|(refine qO 3 ?_;refine mv ?_;refine mv ?_;refine tsl ?_;(iterate 3 refine mv ?_);refine tl ?_;refine ad ?_;refine tsl ?_;(iterate 3 refine mv ?_);refine qg ?_)))
  refine qx ⟨_,rfl,?_⟩
  refine ⟨?_,rfl⟩
  have e:(s.drop (m+1)).take (s.length - (m+1))=s.drop (m+1):=List.take_of_length_le (by simp)
  simp [zX,hl,e]
theorem qbI {h0:AH} (s sep:List UInt8) (hl:sep.length=1) (hs:s.length≤1000000):Fn Tryz.prog Xh 117 [str s,str sep] h0 (fun v h'=>v=cutV (sep.getD 0 0) s∧h'=h0):=by
 refine qF rfl Tryz.func117 rfl rfl ?_
 all_goals (repeat' (first|refine qi ?_|(refine qf 0 ?_;(iterate 3 refine mv ?_);refine qg ?_)|(refine qf 1 ?_;refine mv ?_;refine mv ?_)))
 rcases hf:QN (sep.getD 0 0) s with _|m
 ·have e:cutV (sep.getD 0 0) s = .tuple #[str s,str [],.bool false]:=by unfold cutV;rw [hf]
  (refine qw rfl rfl rfl rfl rfl ((G9 s sep hl hs).mono ?_);rintro _ _ ⟨hv,rfl⟩)<;>(rw [e] at hv;subst hv;refine vl ?_;refine vl ?_;refine vl ?_;(iterate 3 refine mv ?_);refine qg ?_)
  rw [e]
  all_goals (repeat' (fail))
  refine qx ⟨_,rfl,?_⟩
  exact ⟨rfl,rfl⟩
 ·have e:cutV (sep.getD 0 0) s = .tuple #[str (s.take m),str (s.drop (m+1)),.bool true]:=by unfold cutV;rw [hf]
  (refine qw rfl rfl rfl rfl rfl ((G9 s sep hl hs).mono ?_);rintro _ _ ⟨hv,rfl⟩)<;>(rw [e] at hv;subst hv;refine vl ?_;refine vl ?_;refine vl ?_;(iterate 3 refine mv ?_);refine qg ?_)
  rw [e]
  all_goals (repeat' (fail))
  refine qx ⟨_,rfl,?_⟩
  exact ⟨rfl,rfl⟩
theorem Yp {α:Type} {l:List α} {i:Nat} (h:i<l.length) (x:α):(l.set i x).take (i+1)=l.take i ++ [x]:=by
 rw [List.take_add_one,List.getElem?_set_self h,List.take_set_of_le (Nat.le_refl _)];rfl
theorem qam {h0:AH} (w:WfH h0) (s sep:List UInt8) (hl:sep.length=1) (hs:s.length≤1000000):Fn Tryz.prog Xh 202 [str s,str sep,.int .i64 0,.int .i64 (-1)] h0 (fun v h'=>Hs h0 h' [.sl v 9 1 eS (jA (sep.getD 0 0) s)]):=by
 have S:=Hs.start w
 have hne:sep≠[]:=fun q=>by rw [q] at hl;cases hl
 generalize hc0:sep.getD 0 0=c
 have hlen:=Z5 c s
 have hcs:s.countP (· == c)≤s.length:=List.countP_le_length
 obtain ⟨n,hn⟩:∃ n,(jA c s).length=n:=⟨_,rfl⟩
 refine qF rfl Tryz.func202 rfl rfl ?_
 all_goals (repeat' (first|refine qi ?_|refine ql rfl ?_|refine qo ?_|(refine qf 0 ?_;refine mv ?_;refine qg ?_)|(refine qf 1 ?_;refine mv ?_;(refine cF ?_)<;>(refine qg ?_))|(refine qf 3 ?_;refine mv ?_;(refine tS ?_ ?_<;>intro hc)<;>(refine qg ?_))|(refine qf 4 ?_;refine mv ?_;refine mv ?_)|(refine qf 5 ?_;refine mv ?_;(refine cT ?_)<;>(refine qg ?_))|(refine qf 6 ?_;refine mv ?_;refine mv ?_)))
 ·exact absurd hc hne
 have hcb:qcV (sep.getD 0 0) s=s.countP (· == c):=by rw [hc0];rfl
 (refine qw rfl rfl rfl rfl rfl ((qcs s sep hl).mono ?_);rintro _ h0 ⟨rfl,rfl⟩)<;>((refine ad ?_);refine mv ?_;refine qg ?_)
 rw [hc0]
 rw [hc0] at hcb
 all_goals (repeat' (first|refine qi ?_|(refine qf 7 ?_;refine mv ?_;refine mv ?_;refine tl ?_;refine ad ?_;refine mn ?_;refine mv ?_;refine qg ?_)|(refine qf 8 ?_;refine mv ?_)))
 have e1:min ((qcV c s:Nat)+1:Int) ((s.length:Int)+1)=n:=by omega
 simp only [e1]
 refine VJ (z:=1) (by_:=16) (enc:=eS) (y0:=[]) S rfl rfl rfl rfl rfl rfl rfl rfl rfl (by intro _;rfl) (by first|omega) rfl rfl ?_;clear S;intro v h S;refine mv ?_;refine qg ?_
 all_goals (repeat' (first|refine qi ?_|refine qm ?_|(refine qf 9 ?_;refine mv ?_;refine sb ?_;refine mv ?_;refine qg ?_)|(refine qf 10 ?_;refine mv ?_;refine qg ?_)))
 simp only [Int.toNat_natCast] at S
 refine qE (σ:=Nat×List UInt8×List (List UInt8)) (fun (i,t,l) h'=>Hs h0 h' [.sl v 9 1 eS l]∧l.length=n∧i+(jA c t).length=n∧jA c s=l.take i ++ jA c t∧t.length≤1000000) (fun (i,t,l)=>n - i) (fun (i,t,l)=>[(0,str t),(1,str sep),(2,.int .i64 0),(3,.int .i64 ((n:Int) - 1)),(9,v),(10,.int .i64 i)]) (0,s,List.replicate n []) (by repeat (first|exact Ks.le_nil _|refine Ks.qh rfl ?_)) ?_ ?_
 ·exact ⟨S,by simp,by omega,by simp,hs⟩
 clear S
 rintro ⟨i,t,l⟩ h ⟨S,h1,h2,h3,h4⟩
 have hp:0<(jA c t).length:=List.length_pos_iff.2 (Z4 c t)
 all_goals (repeat' (first|refine qi ?_|refine ql rfl ?_|refine qo ?_|refine qA ?_|refine qm ?_|(refine qf 11 ?_;refine mv ?_;refine mv ?_;(first|(refine cS ?_ ?_<;>intro hc))<;>(refine qg ?_))|(refine qf 12 ?_;refine mv ?_;refine mv ?_)|(refine qf 17 ?_;(iterate 3 refine mv ?_);refine qH S rfl rfl ?_;(first|(refine ZK S rfl rfl ?_;clear S;intro h S));refine qg ?_)|(refine qf 18 ?_;refine mv ?_;refine mv ?_;refine ad ?_)))
 ·have hi:i+1<n:=by omega
  (refine qw rfl rfl rfl rfl rfl ((qcr t sep hl).mono ?_);rintro _ h ⟨rfl,rfl⟩)<;>(refine mv ?_;refine qg ?_)
  rw [hc0]
  rcases hf:QN c t with _|m
  ·exfalso
   rw [YY (YL.1 hf)] at h2
   simp at h2
   omega
  ·rw [kK hf]
   obtain ⟨m1,m2,m3⟩:=Jb hf
   have m4:=G8 hf
   all_goals (repeat' (first|refine qi ?_|refine ql rfl ?_|refine qo ?_|(refine qf 13 ?_;refine mv ?_;(refine cF ?_)<;>(refine qg ?_))|(refine qf 14 ?_;(iterate 5 refine mv ?_);refine ad ?_;refine tsl ?_;refine qH S rfl rfl ?_;(first|(refine ZK S rfl rfl ?_;clear S;intro h S));refine qg ?_)|(refine qf 15 ?_;(iterate 3 refine mv ?_);refine tl ?_;refine ad ?_;refine tsl ?_;refine mv ?_;refine qg ?_)|(refine qf 16 ?_;refine mv ?_;refine ad ?_;refine mv ?_;refine qg ?_)))
   have e1:(t.drop (m+sep.length)).take (t.length - (m+sep.length))=t.drop (m+1):=by rw [hl,List.take_of_length_le (by simp)]
   have e2:(t.drop 0).take (m+0 - 0)=t.take m:=by simp
   rw [e1,e2]
   rw [e2] at S
   refine ⟨(i+1,t.drop (m+1),l.set i (t.take m)),?_,?_,(by repeat (first|exact Ks.le_nil _|refine Ks.qh rfl ?_))⟩
   ·show n - (i+1)<n - i;omega
   ·rw [m4] at h2 h3
    simp only [List.length_cons] at h2
    (try simp only [Int.toNat_natCast] at S)
    refine ⟨by simpa using S,by simpa using h1,by omega,?_,by simp;omega⟩
    rw [h3,Yp (by omega)]
    simp
 ·have hi:i+1=n:=by omega
  obtain ⟨u,hu⟩:∃ u,jA c t=[u]:=by
   match hq:jA c t with
   | []=>exact absurd hq (Z4 c t)
   | [u]=>exact ⟨u,rfl⟩
   | u :: u2 :: r=>rw [hq] at h2;simp at h2;omega
  obtain ⟨rfl,-⟩:=qeQ hu
  skip
  all_goals (repeat' (fail))
  (try simp only [Int.toNat_natCast] at S)
  have e:(l.set i t)=jA c s:=by
   rw [h3,hu,← Yp (by omega),List.take_of_length_le (by simp;omega)]
  rw [e] at S
  refine thA (i+1) S rfl rfl ?_
  refine mv ?_;refine qg ?_
  all_goals (repeat' (fail))
  refine qx ⟨_,rfl,?_⟩
  exact S
theorem split_ok {h0:AH} (w:WfH h0) (s sep:List UInt8) (hl:sep.length=1) (hs:s.length≤1000000):Fn Tryz.prog Xh 166 [str s,str sep] h0 (fun v h'=>Hs h0 h' [.sl v 9 1 eS (jA (sep.getD 0 0) s)]):=by
 have S:=Hs.start w
 refine qF rfl Tryz.func166 rfl rfl ?_
 all_goals (repeat' (first|refine qi ?_|(refine qf 0 ?_;refine mv ?_;refine qg ?_)|(refine qf 1 ?_;refine mv ?_;refine mv ?_)))
 (refine qw rfl rfl rfl rfl rfl ((qam S.wf s sep hl hs).mono ?_);rintro v h x)<;>(replace S:=S.jo x;clear x;refine mv ?_;refine qg ?_)
 all_goals (repeat' (fail))
 refine qx ⟨_,rfl,?_⟩
 exact S
end Go.Proofs.Xx
