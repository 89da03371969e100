/-
  The reference's number that no load is below;few numbers;lists of lists compared;arguments left as they were.
-/
import Derived.Test.YtnponmgkfkdkaaaGreatDoorM12
import Derived.Test.YtnponmgkfkdkaaaGreatDoorM13
import Derived.Test.YtnponmgkfkdkaaaGreatDoorM6
import Derived.Test.YtnponmgkfkdkaaaGreatDoorM4
import Derived.Test.YtnponmgkfkdkaaaGreatDoorM8
import Derived.Test.YtnponmgkfkdkaaaGreatDoorM7
import Derived.Test.YtnponmgkfkdkaaaGreatDoorM9
import Derived.Test.YtnponmgkfkdkaaaGreatDoorM11
set_option linter.unusedSimpArgs false
set_option linter.unusedVariables false
set_option linter.unusedSectionVars false
set_option maxRecDepth 100000
set_option maxHeartbeats 4000000
namespace Go.Proofs.Xx
open Go Go.Proofs
variable [Flag]
structure PbZ (h:AH) (v:PbV) (p:Pb):Prop where
 tr:zC h v.vt.val 7 eT p.tabs
 tt:∀ i,i<p.tabs.length→TabR h (tb p.tabs i)
 tc:Q7 v.vt.val
 op:∀ i,i<p.tabs.length→(p.tabs.getD i default).opn.length*8≤140737488351232
 rol:RlOk h v.rl p.rl
 gc:Q7 v.vg.val
 tg:∀ i,i<v.gs.length→(v.gs.getD i default).tg.length≤8796093021952
 cl:zC h v.vc.val 1 eI p.cl
 ru:zC h v.vr.val 6 XR p.ru
 rk:∀ r∈p.ru,0≤r.k∧r.k≤255
 lt:p.tabs.length≤9223372036854775807
 lc:p.cl.length≤9223372036854775807
 lr:p.ru.length≤9223372036854775807
theorem PbZ.ext {h h':AH} {v:PbV} {p:Pb} (a:PbZ h v p) (w:WfH h) (x:Ext h h'):PbZ h' v p:=⟨a.tr.ext w x,fun i hi=>(a.tt i hi).ext w x,a.tc,a.op,a.rol.ext w x,a.gc,a.tg,a.cl.ext w x,a.ru.ext w x,a.rk,a.lt,a.lc,a.lr⟩
def qan (p:Pb) (n:Nat):Prop:=p.tabs.length≤n∧p.us.length≤n∧p.ts.length≤n∧p.cl.length≤n∧p.ru.length≤n
theorem PbZ.ok {h:AH} {v:PbV} {p:Pb} (a:PbZ h v p) (f:qan p 20):PbOk h v p:=⟨⟨a.tr,a.tt,by have:=f.1;omega,a.tc⟩,a.rol,a.cl,a.ru,by have:=f.2.2.2.1;omega,by have:=f.2.2.2.2;omega⟩
theorem PbZ.fit {h:AH} {v:PbV} {p:Pb} (a:PbZ h v p) (f:qan p 20):qgS h v p:=⟨a.ok f,a.op,a.tg,by obtain ⟨f1,f2,f3,f4,f5⟩:=f;omega⟩
theorem PbZ.m {h:AH} {v:PbV} {p:Pb} (a:PbZ h v p) (f:qan p 20):PbM v p:=⟨a.gc,by obtain ⟨f1,f2,f3,f4,f5⟩:=f;omega,a.rk⟩
theorem qfJ {h0:AH} (w:WfH h0) (pv:PbV) (p:Pb) (H:PbZ h0 pv p) (n:Nat) :
 Fn Tryz.prog Xh 32 [pv.val,.int .i64 n] h0 (fun u h'=>qZ u (qan p n)∧Hs h0 h' []):=by
 have S:=Hs.start w;have h1:=H.tr;have h2:=H.rol.rg;have h3:zC h0 pv.vi.val 3 QG p.ts:=H.rol.rt;have h4:=H.cl;have h5:=H.ru;have e:pv.gs.length=p.us.length:=H.rol.len;have e2:pv.rl.gs.length=p.us.length:=H.rol.len;unfold PbV.val;refine qL (by first|rfl) Tryz.func32 rfl rfl ?_;all_goals (repeat' (first|refine qg ?_|(refine qc 0 ?_;(refine bx S ?_;clear S;intro b h S);refine mv ?_;refine qf ?_)|(refine qc 1 ?_;refine vl ?_;refine lB S rfl rfl ?_;refine jf S ?_;refine mv ?_;(first|(refine cS ?_ ?_<;>intro hc))<;>(refine mv ?_;(first|refine off ?_|(refine vl ?_));(first|refine off ?_|(refine lB S rfl rfl ?_));(first|refine off ?_|(refine jf S ?_));(first|refine off ?_|refine mv ?_);(first|refine off ?_|(first|(refine cS ?_ ?_<;>intro hc)))<;>(refine vl ?_;refine mv ?_;(first|refine off ?_|(refine vl ?_));(first|refine off ?_|(refine lB S rfl rfl ?_));(first|refine off ?_|(refine jf S ?_));(first|refine off ?_|refine mv ?_);(first|refine off ?_|(first|(refine cS ?_ ?_<;>intro hc)))<;>(refine vl ?_;refine mv ?_;(first|refine off ?_|(refine vl ?_));(first|refine off ?_|(refine lB S rfl rfl ?_));(first|refine off ?_|(refine jf S ?_));(first|refine off ?_|refine mv ?_);(first|refine off ?_|(first|(refine cS ?_ ?_<;>intro hc)))<;>(refine vl ?_;refine mv ?_;(first|refine off ?_|(refine vl ?_));(first|refine off ?_|(refine lB S rfl rfl ?_));(first|refine off ?_|(refine jf S ?_));(first|refine off ?_|refine mv ?_);(first|refine off ?_|(first|(refine cS ?_ ?_<;>intro hc)))<;>(refine vl ?_;refine mv ?_;refine qf ?_))))))))
 all_goals (refine qo ⟨_,rfl,?_⟩)
 all_goals (refine ⟨?_,S.drop⟩;unfold qZ qan)
 all_goals first|exact .inl ⟨rfl,by omega⟩|exact .inr ⟨rfl,by omega⟩
theorem qfS {h0:AH} (w:WfH h0) (v:Value) (l:List Int) (r:zC h0 v 1 eI l):Fn Tryz.prog Xh 34 [v] h0 (fun u h'=>qZ u (30<l.length)∧Hs h0 h' []):=by
 have S:=Hs.start w;refine qL (by first|rfl) Tryz.func34 rfl rfl ?_;all_goals (repeat' (first|refine qg ?_|(refine qc 0 ?_;refine mv ?_;refine qf ?_)|(refine qc 1 ?_;refine mv ?_;refine jf S ?_;(first|(refine cS ?_ ?_<;>intro hc))<;>(refine mv ?_;refine qf ?_))))
 all_goals (refine qo ⟨_,rfl,?_⟩)
 all_goals (refine ⟨?_,S.drop⟩;unfold qZ)
 all_goals first|exact .inl ⟨rfl,by omega⟩|exact .inr ⟨rfl,by omega⟩
theorem qf8 {h0:AH} (w:WfH h0) (v:Value) (rows:List GL) (r:zC h0 v 1 qfV rows) (rr:∀ i,i<rows.length→zC h0 (rows.getD i default).sv.val 1 eI (rows.getD i default).r) (hl:rows.length≤1000) :
 Fn Tryz.prog Xh 90 [v,.func (.func 34) #[] #[]] h0 (fun u h'=>qcf u (fun i=>30<(rows.getD i default).r.length) rows.length∧Hs h0 h' []):=by
 have S:=Hs.start w;refine qL (by first|rfl) Tryz.func90 rfl rfl ?_;all_goals (repeat' (first|refine qg ?_|refine qj ?_|(refine qc 0 ?_;refine mv ?_;refine qf ?_)|(refine qc 1 ?_;refine mv ?_;refine jf S ?_;refine mv ?_;refine qf ?_)))
 refine qH (σ:=Nat) (fun i h'=>Hs h0 h' []∧i≤rows.length∧(∀ j,j<i→¬ 30<(rows.getD j default).r.length)) (fun i=>rows.length - i) (fun i=>[(0,v),(1,.func (.func 34) #[] #[]),(7,.int .i64 rows.length),(8,.int .i64 i)]) 0 qx ?_ ?_
 ·exact ⟨S,zB0 _,fun j hj=>absurd hj (zB7 _)⟩
 clear S;rintro i h ⟨S,g1,g2⟩;all_goals (repeat' (first|refine qg ?_|refine qh rfl ?_|refine qi ?_|refine qC ?_|refine qj ?_|(refine qc 2 ?_;(first|(refine cS ?_ ?_<;>intro hc))<;>(refine qf ?_))))
 ·have hi:i<rows.length:=by omega
  have ri:=(rr i hi).ext w S.ext;all_goals (repeat' (first|refine qg ?_|(refine qc 3 ?_;refine mv ?_;refine mv ?_;refine qf ?_)|(refine qc 4 ?_;(iterate 3 refine mv ?_);refine jF S ?_;refine jk S ?_)))
  simp only [zA0];(refine zK rfl rfl rfl rfl ((qfS S.wf (rows.getD i default).sv.val (rows.getD i default).r ri).mono ?_);rintro _ h ⟨⟨rfl,z⟩|⟨rfl,z⟩,x⟩)<;>(replace S:=S.qE x;clear x;refine qf ?_)
  ·all_goals (repeat' (first|refine qg ?_|refine qh rfl ?_|(refine qc 5 ?_;refine mv ?_;refine mv ?_;refine qf ?_)))
   refine qo ⟨_,rfl,?_⟩;exact ⟨.inl ⟨i,hi,rfl,z,g2⟩,S⟩
  ·all_goals (repeat' (first|refine qh rfl ?_|refine qi ?_|(refine qc 6 ?_;refine ad ?_;refine mv ?_;refine qf ?_)))
   refine ⟨i+1,?_,?_,qx⟩
   ·show rows.length - (i+1)<rows.length - i;omega
   ·exact ⟨S,by omega,Qj g2 z⟩
 ·all_goals (repeat' (first|(refine qc 7 ?_;refine mv ?_;refine qf ?_)))
  refine qo ⟨_,rfl,?_⟩;exact ⟨.inr ⟨rfl,fun j hj=>g2 j (by omega)⟩,S⟩
theorem qf9 {h0:AH} (w:WfH h0) (v:Value) (rows:List GL) (r:zC h0 v 1 qfV rows) (rr:∀ i,i<rows.length→zC h0 (rows.getD i default).sv.val 1 eI (rows.getD i default).r) (hl:rows.length≤1000) :
 Fn Tryz.prog Xh 33 [v,.func (.func 34) #[] #[]] h0 (fun u h'=>qZ u (∃ i,i<rows.length∧30<(rows.getD i default).r.length)∧Hs h0 h' []):=by
 have S:=Hs.start w;refine qL (by first|rfl) Tryz.func33 rfl rfl ?_;all_goals (repeat' (first|refine qg ?_|(refine qc 0 ?_;refine mv ?_;refine qf ?_)|(refine qc 1 ?_;refine mv ?_;refine mv ?_)))
 (refine qw rfl rfl rfl rfl rfl ((qf8 S.wf v rows r rr hl).mono ?_);rintro _ h ⟨⟨i,hi,rfl,z,-⟩|⟨rfl,z⟩,x⟩)<;>(replace S:=S.qE x;clear x;(first|refine cT ?_|refine cF ?_)<;>(refine mv ?_;refine qf ?_))
 all_goals (all_goals (repeat' (fail)))
 all_goals (refine qo ⟨_,rfl,?_⟩)
 all_goals (refine ⟨?_,S.drop⟩;unfold qZ)
 ·exact .inl ⟨rfl,i,hi,z⟩
 ·exact .inr ⟨rfl,fun ⟨j,hj,z2⟩=>z j hj z2⟩
theorem qfH {h0:AH} (w:WfH h0) (pv:PbV) (p:Pb) (H:PbZ h0 pv p) (v:Value) (rows:List GL) (r:zC h0 v 1 qfV rows) (rr:∀ i,i<rows.length→zC h0 (rows.getD i default).sv.val 1 eI (rows.getD i default).r) (hl:rows.length≤1000) :
 Fn Tryz.prog Xh 7 [pv.val,v] h0 (fun u h'=>qZ u (p.tabs.length≤5∧qan p 20∧∀ i,i<rows.length→(rows.getD i default).r.length≤30)∧Hs h0 h' []):=by
 have S:=Hs.start w;have h1:=H.tr;unfold PbV.val;refine qL (by first|rfl) Tryz.func7 rfl rfl ?_;all_goals (repeat' (first|refine qg ?_|(refine qc 0 ?_;(refine bx S ?_;clear S;intro b h S);refine mv ?_;refine qf ?_)|(refine qc 1 ?_;refine vl ?_;refine lB S rfl rfl ?_;refine jf S ?_;(first|(refine cS ?_ ?_<;>intro hc))<;>(refine mv ?_;(first|refine off ?_|(refine lB S rfl rfl ?_));(first|(refine off ?_;refine vl ?_;refine mv ?_;refine off ?_;(first|(refine off ?_;refine off ?_;refine vl ?_;refine mv ?_;refine qf ?_)))|skip)))))
 all_goals (try ((refine qw rfl rfl rfl rfl rfl ((qfJ S.wf pv p (H.ext w S.ext) 20).mono ?_);rintro _ h ⟨⟨rfl,z1⟩|⟨rfl,z1⟩,x⟩)<;>(replace S:=S.qE x;clear x;refine vl ?_;refine mv ?_;(first|refine off ?_|refine mv ?_);(first|(refine off ?_;refine off ?_;refine vl ?_;refine mv ?_;refine qf ?_)|skip))))
 all_goals (try ((refine qw rfl rfl rfl rfl rfl ((qf9 S.wf v rows (r.ext w S.ext) (fun i hi=>(rr i hi).ext w S.ext) hl).mono ?_);rintro _ h ⟨⟨rfl,z2⟩|⟨rfl,z2⟩,x⟩)<;>(replace S:=S.qE x;clear x;refine vl ?_;refine vl ?_;refine mv ?_;refine qf ?_)))
 all_goals (all_goals (repeat' (fail)))
 all_goals (refine qo ⟨_,rfl,?_⟩)
 all_goals (refine ⟨?_,S.drop⟩;unfold qZ)
 all_goals first
  | exact .inl ⟨rfl,by omega,z1,fun i hi=>Nat.le_of_not_lt fun q=>z2 ⟨i,hi,q⟩⟩
  | exact .inr ⟨rfl,fun q=>z1 q.2.1⟩
  | exact .inr ⟨rfl,fun q=>by obtain ⟨i,hi,h3⟩:=z2;have:=q.2.2 i hi;omega⟩
  | exact .inr ⟨rfl,fun q=>by have:=q.1;omega⟩
theorem PI {h0:AH} (w:WfH h0) (v u:PbV) (p q:Pb) (H:PbOk h0 v p) (K:PbOk h0 u q) (he:qfi p q) (va vb:Value) (l m:List Int) (ra:zC h0 va 1 eI l) (rb:zC h0 vb 1 eI m) (hlm:l=m) (hl:l.length≤1000000) :
 Fn Tryz.prog Xh 37 [v.val,u.val,va,vb] h0 (fun x h'=>x = .bool true∧Hs h0 h' []):=by
 have S:=Hs.start w;unfold PbV.val;refine qL (by first|rfl) Tryz.func37 rfl rfl ?_;all_goals (repeat' (first|refine qg ?_|(refine qc 0 ?_;(refine bx S ?_;clear S;intro b h S);(refine bx S ?_;clear S;intro b h S);refine mv ?_;refine qf ?_)|(refine qc 1 ?_;refine lB S rfl rfl ?_;refine lB S rfl rfl ?_)))
 (refine qw rfl rfl rfl rfl rfl ((qcv S.wf v u p q (H.ext w S.ext) (K.ext w S.ext)).mono ?_);rintro _ h ⟨⟨rfl,z⟩|⟨rfl,z⟩,x⟩)<;>(replace S:=S.qE x;clear x;refine mv ?_;(first|refine off ?_|refine mv ?_);(first|refine off ?_|refine mv ?_);(first|(refine off ?_;refine vl ?_;refine mv ?_;refine qf ?_)|skip))
 rotate_left
 ·exact absurd he z
 all_goals (repeat' (fail))
 (refine qw rfl rfl rfl rfl rfl ((VP S.wf va vb l m (ra.ext w S.ext) (rb.ext w S.ext) hl).mono ?_);rintro _ h ⟨⟨rfl,z⟩|⟨rfl,z⟩,x⟩)<;>(replace S:=S.qE x;clear x;refine vl ?_;refine mv ?_;refine qf ?_)
 rotate_left
 ·exact absurd hlm z
 all_goals (repeat' (fail))
 refine qo ⟨_,rfl,?_⟩;exact ⟨rfl,S.drop⟩
theorem PZ {h0:AH} (w:WfH h0) (v:PbV) (p:Pb) (H:PbOk h0 v p) (M:PbM v p) (vq:Value) (q:List Int) (rq:zC h0 vq 1 eI q) (hq:q.length≤9223372036854775807) :
 Fn Tryz.prog Xh 36 [v.val,vq] h0 (fun u h'=>∃ i e,u = .int .i64 e∧PaC p q false i e∧Hs h0 h' []):=by
 have S:=Hs.start w;unfold PbV.val;refine qL (by first|rfl) Tryz.func36 rfl rfl ?_;all_goals (repeat' (first|refine qg ?_|(refine qc 0 ?_;(refine bx S ?_;clear S;intro b h S);refine mv ?_;refine qf ?_)|(refine qc 1 ?_;refine lB S rfl rfl ?_;refine mv ?_)))
 (refine qw rfl rfl rfl rfl rfl ((qaU S.wf v p (H.ext w S.ext) M vq q (rq.ext w S.ext) hq false).mono ?_);rintro _ h ⟨i,e,rfl,hk,x⟩)<;>(replace S:=S.qE x;clear x;refine mv ?_;refine vl ?_;refine vl ?_;refine mv ?_;refine mv ?_;refine qf ?_)
 all_goals (repeat' (first|refine qg ?_|(refine qc 2 ?_;refine mv ?_;refine mv ?_;refine qf ?_)))
 refine qo ⟨_,rfl,?_⟩;exact ⟨i,e,rfl,hk,S.drop⟩
theorem BasP.uniq {p:Pb} {i e i' e':Int} (a:BasP p i e) (b:BasP p i' e'):e=e':=by
 by_cases hb:BO p
 ·rw [(hb.qe3 a).2,(hb.qe3 b).2]
 rcases a with ⟨h1,h2⟩|⟨h1,h2⟩|⟨h1,h2,h3⟩<;>rcases b with ⟨g1,g2⟩|⟨g1,g2⟩|⟨g1,g2,g3⟩
 ·exact (h2.uniq g2).2
 ·exact absurd (h2.valid.2 g1) h1
 ·exact absurd (h2.valid.2 g1) h1
 ·exact absurd (g2.valid.2 h1) g1
 ·exact (h2.uniq g2).2
 ·exact absurd (Vw.2 g2) h2.not
 ·exact absurd (g2.valid.2 h1) g1
 ·exact absurd (Vw.2 h2) g2.not
 ·rcases h3 with ⟨h3,h4,h5⟩|⟨h3,h4⟩<;>rcases g3 with ⟨g3,g4,g5⟩|⟨g3,g4⟩
  ·omega
  ·exact absurd g3 h3
  ·exact absurd h3 g3
  ·omega
theorem CkP.uniq {p:Pb} {i e i' e':Int} (a:CkP p i e) (b:CkP p i' e'):e=e':=by
 rcases a with ⟨h1,h2⟩|⟨h1,h2⟩<;>rcases b with ⟨g1,g2⟩|⟨g1,g2⟩
 ·exact h2.uniq g2
 ·exact absurd (g1.qe3 h2).2 h1
 ·exact absurd (h1.qe3 g2).2 g1
 ·rcases h2 with ⟨j,k1,k2,k3,k4,k5⟩|⟨k1,k2,k3,k4⟩<;>rcases g2 with ⟨m,l1,l2,l3,l4,l5⟩|⟨l1,l2,l3,l4⟩
  ·have hjm:j=m:=by
    rcases zE6 j m with r|r|r
    ·exfalso
     rcases k5 with ⟨k5,-⟩|⟨-,k5,-⟩
     ·exact k5 (l4 j r)
     ·omega
    ·exact r
    ·exfalso
     rcases l5 with ⟨l5,-⟩|⟨-,l5,-⟩
     ·exact l5 (k4 m r)
     ·omega
   subst hjm;rcases k5 with ⟨k5,k6⟩|⟨k5,k6,k7⟩<;>rcases l5 with ⟨l5,l6⟩|⟨l5,l6,l7⟩
   ·omega
   ·exact absurd l5 k5
   ·exact absurd k5 l5
   ·omega
  ·exfalso
   rcases k5 with ⟨k5,-⟩|⟨-,k5,-⟩
   ·exact k5 (l2 j k1)
   ·omega
  ·exfalso
   rcases l5 with ⟨l5,-⟩|⟨-,l5,-⟩
   ·exact l5 (k2 m l1)
   ·omega
  ·omega
theorem PaE.uniq {N n:Nat} {q:List Int} {wh:Bool} {i e i' e':Int} (a:PaE N q n wh i e) (b:PaE N q n wh i' e'):e=e':=by
 have bad:∀ {g:Nat} {e:Int},((wh=true∧q.getD g default = -1∧e=52)∨((q.getD g default < -1∨(N:Int)≤q.getD g default)∧e=50)∨(0≤q.getD g default∧q.getD g default<N∧(∃ j,j<g∧q.getD j default=q.getD g default)∧e=51))→∀ m,g<m→PaI N q m→(wh=true→∀ j,j<m→q.getD j default≠-1)→False:=by
  rintro g e (⟨h1,h2,-⟩|⟨h1,-⟩|⟨h1,h2,⟨j,h3,h4⟩,-⟩) m hm k1 k2
  ·exact k2 h1 g hm h2
  ·have:=k1.1 g hm;omega
  ·exact k1.2 j g h3 hm (by omega) h4
 rcases a with ⟨h1,-,h2⟩|⟨h1,⟨g,h2,h3,h4,h5,h6⟩|⟨h2,h3,h4,h5⟩⟩<;>rcases b with ⟨g1,-,g2⟩|⟨g1,⟨m,l2,l3,l4,l5,l6⟩|⟨l2,l3,l4,l5⟩⟩
 ·omega
 ·exact absurd g1 h1
 ·exact absurd g1 h1
 ·exact absurd h1 g1
 ·have hgm:g=m:=by
   rcases zE6 g m with r|r|r
   ·exact (bad h6 m r l4 l5).elim
   ·exact r
   ·exact (bad l6 g r h4 h5).elim
  subst hgm;rcases h6 with ⟨a1,a2,a3⟩|⟨a1,a2⟩|⟨a1,a2,a3,a4⟩<;>rcases l6 with ⟨b1,b2,b3⟩|⟨b1,b2⟩|⟨b1,b2,b3,b4⟩<;>omega
 ·exact (bad h6 n h2 l2 l3).elim
 ·exact absurd h1 g1
 ·exact (bad l6 n l2 h2 h3).elim
 ·omega
theorem PaC.uniq {p:Pb} {q:List Int} {wh:Bool} {i e i' e':Int} (a:PaC p q wh i e) (b:PaC p q wh i' e'):e=e':=by
 rcases a with ⟨h1,-,-,j,h2⟩|⟨h1,h2⟩<;>rcases b with ⟨g1,-,-,m,g2⟩|⟨g1,g2⟩
 ·exact h2.uniq g2
 ·exact absurd g1 h1
 ·exact absurd h1 g1
 ·exact h2.uniq g2
end Go.Proofs.Xx
namespace Go.Proofs.Xx
open Go Go.Proofs
abbrev Pb.wt (p:Pb) (tabs:List Tab):Pb:=⟨tabs,p.us,p.ts,p.cl,p.ru⟩
theorem qhe {h0 h hA:AH} {rs:List Rs} {v u:PbV} {p:Pb} {tabs:List Tab} (S:Hs h0 h (pbL v (p.wt tabs) ++ rs)) (e:tabs.map (·.toC)=p.tabs.map (·.toC)) (hu:v.gs.map (·.toGu)=p.us) (K:PbZ hA u p) (F:qan p 20):PbOk h v (p.wt tabs):=by
 have hl:=Ve e;obtain ⟨f1,f2,f3,f4,f5⟩:=F;have K2:u.gs.map (·.toGu)=p.us:=K.rol.us;refine ⟨⟨Rd.QU S .here,fun i hi=>?_,by show tabs.length≤_;omega,S.qjp .here⟩,⟨Rd.QU S (.there (.there .here)),Rd.QU S (.there (.there (.there (.there .here)))),fun i hi=>⟨?_,?_⟩,hu,by show p.us.length≤_;omega,by show p.ts.length≤_;omega⟩,Rd.QU S (.there (.there (.there (.there (.there .here))))),Rd.QU S (.there (.there (.there (.there (.there (.there .here)))))),by show p.cl.length≤_;omega,by show p.ru.length≤_;omega⟩
 ·have hi':i<p.tabs.length:=by have:i<tabs.length:=hi;omega
  obtain ⟨fp,k⟩:=Hs.qe5 (p:=fun h fp=>Star h (tabs.map WJ) fp) S (.there .here);obtain ⟨fq,q⟩:=Star.qhw (r:=WJ (tabs.getD i default)) k (zF1.2 ⟨_,qQ hi,rfl⟩);refine ⟨qbF q,?_,?_⟩
  ·have e1:(tb tabs i).name=(tb p.tabs i).name:=KC e i;show (tb tabs i).name.length≤_
   rw [e1];exact (K.tt i hi').2.1
  ·have e1:(tb tabs i).opn=(tb p.tabs i).opn:=congrArg TabC.opn (G9 e i);show (tb tabs i).opn.length≤_
   rw [e1];exact (K.tt i hi').2.2
 ·obtain ⟨fp,k⟩:=Hs.qe5 (p:=fun h fp=>Star h (v.gs.map qfy) fp) S (.there (.there (.there .here)));obtain ⟨fq,q⟩:=Star.qhw (r:=qfy (v.gs.getD i default)) k (zF1.2 ⟨_,qQ hi,rfl⟩);exact qbF q
 ·have hgl:v.gs.length=u.gs.length:=by rw [← K2] at hu;have:=congrArg List.length hu;simpa using this
  have hi':i<u.gs.length:=by have:i<v.gs.length:=hi;omega
  have e1:(v.gs.getD i default).toGu=(u.gs.getD i default).toGu:=by
   rw [← jc (f:=fun g:Z5=>g.toGu) (show i<v.gs.length from hi),← jc (f:=fun g:Z5=>g.toGu) hi',hu,K2]
  have e2:(v.gs.getD i default).tg=(u.gs.getD i default).tg:=congrArg Gu.tg e1;show (v.gs.getD i default).tg.length≤_
  rw [e2];exact (K.rol.tg i hi').2
section
variable {l m:List Tab} (h:l.map (·.toC)=m.map (·.toC))
include h
end
variable [Flag]
end Go.Proofs.Xx
namespace Go.Proofs.Xx
open Go Go.RowKit Go.Proofs
structure GstA (h:AH) (g:Z5):Prop where
 rd:zC h g.tv.val 1 eS g.tg
 cap:Q7 g.tv.val
 len:g.tg.length≤maxLen
 l1:g.name.length≤maxLen
 l2:g.rank.length≤maxLen
 l3:g.court.length≤maxLen
 l4:g.diet.length≤maxLen
 l5:∀ i,i<g.tg.length→(g.tg.getD i default).length≤maxLen
 wt:g.tg.length*16≤reachBytes
 i64:(-9223372036854775808≤g.since∧g.since≤9223372036854775807)∧(-9223372036854775808≤g.side∧g.side≤9223372036854775807)
theorem GstA.ext {h h':AH} {g:Z5} (a:GstA h g) (w:WfH h) (x:Ext h h'):GstA h' g:=⟨a.rd.ext w x,a.cap,a.len,a.l1,a.l2,a.l3,a.l4,a.l5,a.wt,a.i64⟩
theorem GstA.r {h:AH} {g:Z5} (a:GstA h g):qh6 h g:=⟨a.rd,by have:=a.len;unfold maxLen at this;omega⟩
theorem qeu {x:Int} (h:(Lit.int .i64 x).wf=true) : -9223372036854775808≤x∧x≤9223372036854775807:=by
 simp [Lit.wf,IntKind.min,IntKind.max,IntKind.signed,IntKind.bits] at h
 omega
theorem AR.qgQ {P:Program} {h:AH} {n:Nat} {t:TypeId} {r:List Value} (a:AR P h n t r) (hu:P.underlying t=some .bool):∃ b:Bool,r=[.bool b]:=by
 cases n with
 | zero=>exact a.elim
 | succ n =>
  unfold AR at a;rw [hu] at a;split at a
  all_goals (first|exact a.elim|(rename_i q _;cases q;done)|(rename_i q;cases q;done)|skip)
  all_goals exact ⟨_,rfl⟩
theorem AR.qin {h:AH} {n:Nat} {r:List Value} (a:AR Tryz.prog h n 43 r):∃ v l,r=[v]∧zC h v 1 eS l∧(l.length≤maxLen∧l.length*Tryz.prog.bytesOf 9≤reachBytes)∧Q7 v∧∀ i,i<l.length→(l.getD i default).length≤maxLen :=
 AR.Xe (e:=9) (z:=1) eS (fun s=>s.length≤maxLen) a (by kernel_rfl) (by kernel_rfl) (fun n cs q=>by
  obtain ⟨s,hs,hl⟩:=q.xB (by kernel_rfl);exact ⟨s,hs,hl⟩)
theorem AR.qkc {h:AH} {n:Nat} {r:List Value} (a:AR Tryz.prog h n 45 r):∃ g,r=eG g∧GstA h g:=by
 obtain ⟨n',hl,hk⟩:=a.YY (m:=[(0,9),(1,9),(2,9),(3,3),(4,3),(5,9),(6,4),(7,4),(8,43)]) (z:=9) rfl (by kernel_rfl) (by kernel_rfl);match r,hl with
 | [x0,x1,x2,x3,x4,x5,x6,x7,x8],_ =>
  obtain ⟨s0,e0,h0⟩:=AR.xB (show AR Tryz.prog h n' 9 [x0] from hk (0,9) (by simp)) (by kernel_rfl);obtain ⟨s1,e1,h1⟩:=AR.xB (show AR Tryz.prog h n' 9 [x1] from hk (1,9) (by simp)) (by kernel_rfl);obtain ⟨s2,e2,h2⟩:=AR.xB (show AR Tryz.prog h n' 9 [x2] from hk (2,9) (by simp)) (by kernel_rfl);obtain ⟨y3,e3,h3⟩:=AR.VM (k:=.i64) (show AR Tryz.prog h n' 3 [x3] from hk (3,3) (by simp)) (by kernel_rfl);obtain ⟨y4,e4,h4⟩:=AR.VM (k:=.i64) (show AR Tryz.prog h n' 3 [x4] from hk (4,3) (by simp)) (by kernel_rfl);obtain ⟨s5,e5,h5⟩:=AR.xB (show AR Tryz.prog h n' 9 [x5] from hk (5,9) (by simp)) (by kernel_rfl);obtain ⟨b6,e6⟩:=AR.qgQ (show AR Tryz.prog h n' 4 [x6] from hk (6,4) (by simp)) (by kernel_rfl);obtain ⟨b7,e7⟩:=AR.qgQ (show AR Tryz.prog h n' 4 [x7] from hk (7,4) (by simp)) (by kernel_rfl);obtain ⟨v,l,e8,g1,g2,g3,g4⟩:=AR.qin (show AR Tryz.prog h n' 43 [x8] from hk (8,43) (by simp));cases e0;cases e1;cases e2;cases e3;cases e4;cases e5;cases e6;cases e7
  obtain ⟨sv,rfl⟩:=g1.PP;cases e8
  exact ⟨⟨⟨s0,s1,s2,y3,y4,s5,b6,b7,l⟩,sv⟩,rfl,g1,g3,g2.1,h0,h1,h2,h5,g4,(show Tryz.prog.bytesOf 9=16 by kernel_rfl) ▸ g2.2,qeu h3,qeu h4⟩
theorem AR.tie1 {h:AH} {n:Nat} {r:List Value} (a:AR Tryz.prog h n 198 r):∃ t:Ti,r=QG t∧0≤t.k∧t.k<256:=by
 obtain ⟨n',hl,hk⟩:=a.YY (m:=[(0,9),(1,9),(2,196)]) (z:=3) rfl (by kernel_rfl) (by kernel_rfl);match r,hl with
 | [x0,x1,x2],_ =>
  obtain ⟨s0,e0,-⟩:=AR.xB (show AR Tryz.prog h n' 9 [x0] from hk (0,9) (by simp)) (by kernel_rfl);obtain ⟨s1,e1,-⟩:=AR.xB (show AR Tryz.prog h n' 9 [x1] from hk (1,9) (by simp)) (by kernel_rfl);obtain ⟨y2,e2,h2⟩:=AR.VM (k:=.u8) (show AR Tryz.prog h n' 196 [x2] from hk (2,196) (by simp)) (by kernel_rfl);cases e0;cases e1;cases e2
  have:0≤y2∧y2<256:=by
   simp [Lit.wf,IntKind.min,IntKind.max,IntKind.signed,IntKind.bits] at h2
   omega
  exact ⟨⟨s0,s1,y2⟩,rfl,this⟩
structure qjO (h:AH) (t:Tab):Prop where
 rd:zC h t.ov 1 eI t.opn
 name:t.name.length≤maxLen
 opn:t.opn.length≤maxLen
 w8:t.opn.length*8≤reachBytes
theorem AR.qjY {h:AH} {n:Nat} {r:List Value} (a:AR Tryz.prog h n 93 r):∃ t,r=eT t∧qjO h t:=by
 obtain ⟨n',hl,hk⟩:=a.YY (m:=[(0,9),(1,91),(2,3),(3,3),(4,25),(5,3),(6,3)]) (z:=7) rfl (by kernel_rfl) (by kernel_rfl);match r,hl with
 | [x0,x1,x2,x3,x4,x5,x6],_ =>
  obtain ⟨s,e0,h0⟩:=AR.xB (show AR Tryz.prog h n' 9 [x0] from hk (0,9) (by simp)) (by kernel_rfl);obtain ⟨y1,e1,-⟩:=AR.VM (k:=.u8) (show AR Tryz.prog h n' 91 [x1] from hk (1,91) (by simp)) (by kernel_rfl);obtain ⟨y2,e2,-⟩:=AR.VM (k:=.i64) (show AR Tryz.prog h n' 3 [x2] from hk (2,3) (by simp)) (by kernel_rfl);obtain ⟨y3,e3,-⟩:=AR.VM (k:=.i64) (show AR Tryz.prog h n' 3 [x3] from hk (3,3) (by simp)) (by kernel_rfl);obtain ⟨v,l,e4,h1,h2,h3,-⟩:=AR.Xe (e:=3) (z:=1) eI (fun _=>True) (show AR Tryz.prog h n' 25 [x4] from hk (4,25) (by simp)) (by kernel_rfl) (by kernel_rfl) (fun n cs q=>by
   obtain ⟨x,e,-⟩:=AR.VM (k:=.i64) q (by kernel_rfl);exact ⟨x,e,trivial⟩)
  obtain ⟨y5,e5,-⟩:=AR.VM (k:=.i64) (show AR Tryz.prog h n' 3 [x5] from hk (5,3) (by simp)) (by kernel_rfl);obtain ⟨y6,e6,-⟩:=AR.VM (k:=.i64) (show AR Tryz.prog h n' 3 [x6] from hk (6,3) (by simp)) (by kernel_rfl);cases e0;cases e1;cases e2;cases e3;cases e5;cases e6
  obtain ⟨sv,rfl⟩:=h1.PP;cases e4
  have w1:l.length*8≤reachBytes:=(show Tryz.prog.bytesOf 3=8 by kernel_rfl) ▸ h2.2;exact ⟨⟨s,y1,y2,y3,sv,l,y5,y6⟩,rfl,h1,h0,h2.1,w1⟩
theorem AR.ru1 {h:AH} {n:Nat} {r:List Value} (a:AR Tryz.prog h n 158 r):∃ x:Ru,r=XR x∧0≤x.k∧x.k≤255:=by
 obtain ⟨n',hl,hk⟩:=a.YY (m:=[(0,156),(1,3),(2,9),(3,9),(4,9),(5,3)]) (z:=6) rfl (by kernel_rfl) (by kernel_rfl);match r,hl with
 | [x0,x1,x2,x3,x4,x5],_ =>
  obtain ⟨y0,e0,h0⟩:=AR.VM (k:=.u8) (show AR Tryz.prog h n' 156 [x0] from hk (0,156) (by simp)) (by kernel_rfl);obtain ⟨y1,e1,-⟩:=AR.VM (k:=.i64) (show AR Tryz.prog h n' 3 [x1] from hk (1,3) (by simp)) (by kernel_rfl);obtain ⟨s2,e2,-⟩:=AR.xB (show AR Tryz.prog h n' 9 [x2] from hk (2,9) (by simp)) (by kernel_rfl);obtain ⟨s3,e3,-⟩:=AR.xB (show AR Tryz.prog h n' 9 [x3] from hk (3,9) (by simp)) (by kernel_rfl);obtain ⟨s4,e4,-⟩:=AR.xB (show AR Tryz.prog h n' 9 [x4] from hk (4,9) (by simp)) (by kernel_rfl);obtain ⟨y5,e5,-⟩:=AR.VM (k:=.i64) (show AR Tryz.prog h n' 3 [x5] from hk (5,3) (by simp)) (by kernel_rfl);cases e0;cases e1;cases e2;cases e3;cases e4;cases e5
  have:0≤y0∧y0≤255:=by
   simp [Lit.wf,IntKind.min,IntKind.max,IntKind.signed,IntKind.bits] at h0
   omega
  exact ⟨⟨y0,y1,s2,s3,s4,y5⟩,rfl,this⟩
theorem AR.int64 {h:AH} {n:Nat} {r:List Value} (a:AR Tryz.prog h n 3 r):∃ x:Int,r=[.int .i64 x]∧-9223372036854775808≤x∧x≤9223372036854775807:=by
 obtain ⟨x,e,h⟩:=a.VM (k:=.i64) (by kernel_rfl);refine ⟨x,e,?_⟩;simp [Lit.wf,IntKind.min,IntKind.max,IntKind.signed,IntKind.bits] at h
 omega
theorem AR.qgI {h:AH} {n:Nat} {r:List Value} (a:AR Tryz.prog h n 25 r):∃ (sv:SlV) (l:List Int),r=[sv.val]∧zC h sv.val 1 eI l∧l.length≤maxLen∧Q7 sv.val∧∀ x∈l,-9223372036854775808≤x∧x≤9223372036854775807:=by
 obtain ⟨v,l,e,h1,h2,h3,h4⟩:=AR.Xe (e:=3) (z:=1) eI (fun x=>-9223372036854775808≤x∧x≤9223372036854775807) a (by kernel_rfl) (by kernel_rfl) (fun n cs q=>by
  obtain ⟨x,e,h⟩:=AR.int64 q;exact ⟨x,e,h⟩)
 obtain ⟨sv,rfl⟩:=h1.PP;refine ⟨sv,l,e,h1,h2.1,h3,fun x hx=>?_⟩;obtain ⟨j,hj,rfl⟩:=zx.1 hx;exact h4 j hj
theorem AR.qiB {h:AH} {n:Nat} {r:List Value} (a:AR Tryz.prog h n 28 r):∃ (v:PbV) (p:Pb),r=v.cs∧PbZ h v p:=by
 obtain ⟨n',hl,hk⟩:=a.YY (m:=[(0,22),(1,23),(2,24),(3,25),(4,26)]) (z:=5) rfl (by kernel_rfl) (by kernel_rfl);match r,hl with
 | [x0,x1,x2,x3,x4],_ =>
  obtain ⟨v0,tabs,e0,a1,a2,a3,a4⟩:=AR.Xe (e:=93) (z:=7) eT (qjO h) (show AR Tryz.prog h n' 22 [x0] from hk (0,22) (by simp)) (by kernel_rfl) (by kernel_rfl) (fun n cs q=>q.qjY);obtain ⟨v1,gs,e1,g1,g2,g3,g4⟩:=AR.Xe (e:=45) (z:=9) eG (fun g=>GstA h g) (show AR Tryz.prog h n' 23 [x1] from hk (1,23) (by simp)) (by kernel_rfl) (by kernel_rfl) (fun n cs q=>q.qkc);obtain ⟨v2,ts,e2,t1,t2,t3,t4⟩:=AR.Xe (e:=198) (z:=3) QG (fun t=>0≤t.k∧t.k<256) (show AR Tryz.prog h n' 24 [x2] from hk (2,24) (by simp)) (by kernel_rfl) (by kernel_rfl) (fun n cs q=>q.tie1);obtain ⟨sc,cl,e3,c1,c2,c3,c4⟩:=AR.qgI (show AR Tryz.prog h n' 25 [x3] from hk (3,25) (by simp));obtain ⟨v4,ru,e4,r1,r2,r3,r4⟩:=AR.Xe (e:=158) (z:=6) XR (fun x=>0≤x.k∧x.k≤255) (show AR Tryz.prog h n' 26 [x4] from hk (4,26) (by simp)) (by kernel_rfl) (by kernel_rfl) (fun n cs q=>q.ru1);obtain ⟨st,rfl⟩:=a1.PP;obtain ⟨sg,rfl⟩:=g1.PP;obtain ⟨si,rfl⟩:=t1.PP;obtain ⟨sr,rfl⟩:=r1.PP;cases e0;cases e1;cases e2;cases e3;cases e4
  have m1:=g2.1;have m2:=t2.1;have m3:=a2.1;have m5:=r2.1;have e:reachBytes=140737488351232:=rfl;unfold maxLen at m1 m2 m3 m5 c2;refine ⟨⟨st,sg,si,sc,sr,gs⟩,⟨tabs,gs.map (·.toGu),ts,cl,ru⟩,rfl,a1,fun i hi=>⟨(a4 i hi).rd,?_,?_⟩,a3,fun i hi=>?_,⟨g1,t1,fun i hi=>(g4 i hi).r,rfl,by rw [zC5];omega,by show ts.length≤_;omega⟩,g3,fun i hi=>?_,c1,r1,fun x hx=>?_,by show tabs.length≤_;omega,by show cl.length≤_;omega,by show ru.length≤_;omega⟩
  ·have:=(a4 i hi).name;unfold maxLen at this;show (tabs.getD i default).name.length≤_;omega
  ·have:=(a4 i hi).opn;unfold maxLen at this;show (tabs.getD i default).opn.length≤_;omega
  ·have:=(a4 i hi).w8;rw [e] at this;exact this
  ·have:=(g4 i hi).wt;rw [e] at this;show (gs.getD i default).tg.length≤_;omega
  ·obtain ⟨j,hj,rfl⟩:=zx.1 hx;exact r4 j hj
def yw (n:Nat):Nat:=if n<256 then (lenTab.getD n 0).toNat else 8+(lenTab.getD (n / 256) 0).toNat
theorem PL:∀ n,n<512→0<n→yw n≤9∧n<2 ^ yw n∧2 ^ yw n≤2*n:=by decide +kernel
theorem qfI (n:Nat) (h:n<512):yw n≤9:=by
 rcases zF4 n with q|q
 ·subst q;decide
 ·exact (PL n h q).1
abbrev cvT:Value:=.func (.func 342) #[] #[]
variable [Flag]
theorem qcQ {h0:AH} (w:WfH h0) (n:Nat) (hn:n<512):Fn Tryz.prog Xh 146 [.int .u64 n] h0 (fun v h'=>v = .int .i64 (yw n:Int)∧Hs h0 h' []):=by
 rcases zA7 n 256 with q|q
 ·have:=qeq w n q;unfold yw;rw [if_pos q];exact this
 unfold yw;rw [if_neg (by omega)];have S:=Hs.start w;have hl:=yx;have hb:(lenTab.getD (n / 256) 0).toNat<256:=UInt8.toNat_lt _;refine qL (by first|rfl) Tryz.func146 rfl rfl ?_;have e:(n:Int) / ((2 ^ min (Int.toNat 8) IntKind.u64.bits:Nat):Int)=((n / 256:Nat):Int):=by
  rw [show (2 ^ min (Int.toNat 8) IntKind.u64.bits:Nat)=256 by decide];rfl
 all_goals (repeat' (first|refine qg ?_|refine qh rfl ?_|refine qi ?_|(refine qc 0 ?_;refine mv ?_;refine qf ?_)|(refine qc 1 ?_;refine mv ?_;(refine cF ?_)<;>(refine qf ?_))|(refine qc 4 ?_;refine mv ?_;(refine cF ?_)<;>(refine qf ?_))|(refine qc 7 ?_;refine mv ?_;(refine cT ?_)<;>(refine qf ?_))|(refine qc 8 ?_;refine mv ?_;refine sR ?_;refine mv ?_;refine qf ?_)|(refine qc 9 ?_;refine mv ?_;refine ad ?_;refine mv ?_;refine qf ?_)))
 simp only [e];refine qc 10 ?_;refine mv ?_;refine mv ?_;refine cU ?_;refine ti (l:=lenTab) ?_;rw [zA0];(refine cI ?_);refine ad ?_;refine mv ?_;refine qf ?_;all_goals (repeat' (fail))
 refine qo ⟨_,rfl,?_⟩;exact ⟨by show Value.int .i64 (8+_)=_;rfl,S⟩
theorem qbP {h0:AH} (w:WfH h0) (n:Nat) (hn:n<512):Fn Tryz.prog Xh 82 [.int .u64 n] h0 (fun v h'=>v = .int .i64 (yw n:Int)∧Hs h0 h' []):=by
 have S:=Hs.start w;refine qL (by first|rfl) Tryz.func82 rfl rfl ?_;all_goals (repeat' (first|refine qg ?_|refine qh rfl ?_|refine qi ?_|(refine qc 0 ?_;refine mv ?_;refine qf ?_)|(refine qc 2 ?_;refine mv ?_)))
 (refine qw rfl rfl rfl rfl rfl ((qcQ S.wf n hn).mono ?_);rintro _ h ⟨rfl,x⟩)<;>(replace S:=S.qE x;clear x;refine mv ?_;refine qf ?_)
 all_goals (repeat' (fail))
 refine qo ⟨_,rfl,?_⟩;exact ⟨rfl,S⟩
theorem qeh {h0:AH} (w:WfH h0) (n:Nat) (hn:0<n∧n<512):Fn Tryz.prog Xh 194 [.int .i64 n] h0 (fun v h'=>∃ P:Int,v = .int .u64 P∧(n:Int)<P∧P≤2*n∧Hs h0 h' []):=by
 have S:=Hs.start w;have hk:=PL n hn.2 hn.1;refine qL (by first|rfl) Tryz.func194 rfl rfl ?_;all_goals (repeat' (first|refine qg ?_|(refine qc 0 ?_;refine mv ?_;refine qf ?_)|(refine qc 1 ?_;refine mv ?_;refine cW ?_)))
 (refine qw rfl rfl rfl rfl rfl ((qbP S.wf n hn.2).mono ?_);rintro _ h ⟨rfl,x⟩)<;>(replace S:=S.qE x;clear x;refine sL ?_;refine mv ?_;refine qf ?_)
 all_goals (repeat' (fail))
 refine qo ⟨_,rfl,?_⟩;refine ⟨_,rfl,?_,?_,S⟩
 ·have:(n:Int)<((2 ^ yw n:Nat):Int):=by exact_mod_cast hk.2.1
  simpa using this
 ·have:((2 ^ yw n:Nat):Int)≤((2*n:Nat):Int):=by exact_mod_cast hk.2.2
  simpa using this
end Go.Proofs.Xx
namespace Go.Proofs.Xx
open Go Go.Proofs
def clN (n:Nat) (x:Int):Int:=if 0≤x∧x<n then x else 0
def eQ (n:Nat) (x:Int):List Value:=[.int .i64 (clN n x)]
def kLt (n:Nat) (key:Int→Int) (x y:Int):Prop:=key (clN n x)<key (clN n y)
abbrev cvK (g:Nat) (cap:List Value):Value:=.func (.func g) #[] cap.toArray
class CmpK (h0:AH) (g:Nat) (cap:List Value) (n:outParam Nat) (key:outParam (Int→Int)):Prop where
 ok:∀ {h:AH},Ext h0 h→WfH h→∀ x y:Int,Fn Tryz.prog Xh g (.int .i64 (clN n x) :: .int .i64 (clN n y) :: cap) h (fun v h'=>∃ d,v = .int .i64 d∧((d<0∧kLt n key x y)∨(0≤d∧¬ kLt n key x y))∧Hs h h' [])
variable [Flag] {g nn:Nat} {cap:List Value} {key:Int→Int}
end Go.Proofs.Xx
namespace Go.Proofs.Xx
open Go Go.Proofs
variable [Flag] {g nn:Nat} {cap:List Value} {key:Int→Int}
end Go.Proofs.Xx
namespace Go.Proofs.Xx
open Go Go.Proofs
def WM (a:List UInt8):List (List UInt8)→List (List UInt8)
 | []=>[a]
 | w :: r=>(a ++ w) :: r
def GX (c:UInt8):List UInt8→List (List UInt8)
 | []=>[[]]
 | x :: s=>if x=c then [] :: GX c s else WM [x] (GX c s)
theorem Pj:∀ {l:List (List UInt8)},l≠[]→WM [] l=l
 | [],h=>absurd rfl h
 | w :: r,_=>rfl
theorem qfB {a:List UInt8}:∀ {l:List (List UInt8)},WM a l≠[]
 | []=>by simp [WM]
 | _ :: _=>by simp [WM]
theorem qcH {a b:List UInt8}:∀ {l:List (List UInt8)},l≠[]→WM a (WM b l)=WM (a ++ b) l
 | [],h=>absurd rfl h
 | w :: r,_=>by simp [WM]
theorem qaH (c:UInt8):∀ s,GX c s≠[]
 | []=>by simp [GX]
 | x :: s=>by
  unfold GX;split
  ·simp
  ·exact qfB
def qjm (x:UInt8):Prop:=48≤x.toNat∧x.toNat≤57
instance (x:UInt8):Decidable (qjm x):=inferInstanceAs (Decidable (_∧_))
def qdz (s:List UInt8):Nat:=s.foldl (fun n x=>10*n+(x.toNat - 48)) 0
def qcM (s:List UInt8):Prop:=1≤s.length∧s.length≤9∧(1<s.length→s.getD 0 default≠48)∧∀ i,i<s.length→qjm (s.getD i default)
section
variable {P:Program} {X:Extern} {inR:Bool} {sz:Nat} {L:Ks} {h h0:AH} {rs:List Rs} {ops:Array Oper} {os:List Oper} {o:Oper} {R:Ks→AH→Prop} {Q:KQ}
end
section
variable {P:Program} {X:Extern} {sz:Nat} {L:Ks} {h h0:AH} {rs:List Rs} {ops:Array Oper} {os:List Oper} {o:Oper} {R:Ks→AH→Prop}
end
section
variable {P:Program} {X:Extern} {sz:Nat} {L:Ks} {h h0:AH} {rs:List Rs} {ops:Array Oper} {os:List Oper} {o:Oper} {R:Ks→AH→Prop}
end
variable [Flag]
def cutV (c:UInt8) (s:List UInt8):Value:=match kF c s with
 | some m=>.tuple #[str (s.take m),str (s.drop (m+1)),.bool true]
 | none=>.tuple #[str s,str [],.bool false]
def qk1 (s:List UInt8) (k:Int) (b:Bool):Prop:=(b=true∧qcM s∧k=qdz s)∨(b=false∧¬ qcM s)
theorem pJ {c:UInt8} {s:List UInt8} {i:Nat} (h:i<s.length):GX c (s.drop i)=if s.getD i 0=c then [] :: GX c (s.drop (i+1)) else WM [s.getD i 0] (GX c (s.drop (i+1))):=by
 rw [zG7 h];have e:s.getD i 0=s[i]:=by simp [zA2,h]
 rw [e];rfl
theorem qfx {c:UInt8} {s:List UInt8}:GX c (s.drop s.length)=[[]]:=by rw [List.drop_length];rfl
theorem wR {a w:List UInt8} {r:List (List UInt8)}:WM a (w :: r)=(a ++ w) :: r:=rfl
def PcsL (c:UInt8) (s:List UInt8) (st i:Nat) (out:List (List UInt8)):Prop:=st≤i∧i≤s.length∧GX c s=out ++ WM ((s.drop st).take (i - st)) (GX c (s.drop i))∧out.length≤i
theorem take_snoc {s:List UInt8} {st i:Nat} (h1:st≤i) (h2:i<s.length):(s.drop st).take (i+1 - st)=(s.drop st).take (i - st) ++ [s.getD i 0]:=by
 rw [show i+1 - st=(i - st)+1 by omega,List.take_add_one,zC3,show st+(i - st)=i by omega,zA4 h2];simp [zA2,h2]
theorem PcsL.zero (c:UInt8) (s:List UInt8):PcsL c s 0 0 []:=⟨zA3 _,zB0 _,by rw [zC0,zG6,List.take_zero,Pj (qaH _ _),List.drop_zero],zA3 _⟩
theorem PcsL.no {c:UInt8} {s:List UInt8} {st i:Nat} {out:List (List UInt8)} (p:PcsL c s st i out) (hi:i<s.length) (hx:¬ s.getD i 0=c):PcsL c s st (i+1) out:=by
 obtain ⟨p1,p2,p3,p4⟩:=p;rw [pJ hi,if_neg hx,qcH (qaH _ _),← take_snoc p1 hi] at p3;exact ⟨by omega,hi,p3,by omega⟩
theorem PcsL.yes {c:UInt8} {s:List UInt8} {st i:Nat} {out:List (List UInt8)} (p:PcsL c s st i out) (hi:i<s.length) (hx:s.getD i 0=c):GX c s=out ++ (s.drop st).take (i - st) :: GX c (s.drop (i+1))∧PcsL c s (i+1) (i+1) (out ++ [(s.drop st).take (i - st)]):=by
 obtain ⟨p1,p2,p3,p4⟩:=p;rw [pJ hi,if_pos hx,wR,zD6] at p3;exact ⟨p3,zA3 _,hi,by rw [zG6,List.take_zero,Pj (qaH _ _),zF2];exact p3,by simp;omega⟩
theorem PcsL.fin {c:UInt8} {s:List UInt8} {st:Nat} {out:List (List UInt8)} (p:PcsL c s st s.length out):GX c s=out ++ [s.drop st]:=by
 obtain ⟨p1,p2,p3,p4⟩:=p;rw [qfx,wR,zD6,zF8 (by simp)] at p3;exact p3
end Go.Proofs.Xx
namespace Go.Proofs.Xx
open Go Go.Proofs
def dgs (n:Nat):List UInt8:=if h:n<10 then [UInt8.ofNat (48+n)] else dgs (n / 10) ++ [UInt8.ofNat (48+n % 10)]
termination_by n
decreasing_by omega
def d36:List UInt8:=[48,49,50,51,52,53,54,55,56,57,97,98,99,100,101,102,103,104,105,106,107,108,109,110,111,112,113,114,115,116,117,118,119,120,121,122]
def qkY:List UInt8:=[48,48,48,49,48,50,48,51,48,52,48,53,48,54,48,55,48,56,48,57,49,48,49,49,49,50,49,51,49,52,49,53,49,54,49,55,49,56,49,57,50,48,50,49,50,50,50,51,50,52,50,53,50,54,50,55,50,56,50,57,51,48,51,49,51,50,51,51,51,52,51,53,51,54,51,55,51,56,51,57,52,48,52,49,52,50,52,51,52,52,52,53,52,54,52,55,52,56,52,57,53,48,53,49,53,50,53,51,53,52,53,53,53,54,53,55,53,56,53,57,54,48,54,49,54,50,54,51,54,52,54,53,54,54,54,55,54,56,54,57,55,48,55,49,55,50,55,51,55,52,55,53,55,54,55,55,55,56,55,57,56,48,56,49,56,50,56,51,56,52,56,53,56,54,56,55,56,56,56,57,57,48,57,49,57,50,57,51,57,52,57,53,57,54,57,55,57,56,57,57]
def jnW:List (List UInt8)→List UInt8
 | []=>[]
 | [w]=>w
 | w :: u :: r=>w ++ 32 :: jnW (u :: r)
def txt (l:List (List UInt8)):List UInt8:=(l.map (· ++ [10])).flatten
variable [Flag]
abbrev bst (bb:Nat) (q v:Value):Rs:=.blk bb [q,v] 104
abbrev bsl (v:Value) (l:List UInt8):Rs:=.sl v 5 1 eU (l.map UInt8.toNat)
def QP (bb:Nat) (q:Value):Prop:=q = .pointer none∨q = .pointer (some ⟨bb,0,none⟩)
def tlW (r:List (List UInt8)):List UInt8:=r.flatMap fun w=>32 :: w
end Go.Proofs.Xx
namespace Go.Proofs.Xx
open Go Go.Proofs
abbrev wordAt (ws:List (List UInt8)) (i:Nat):List UInt8:=ws.getD i default
def qdw:List UInt8:=[116,114,105,112]
structure Trp where
 ta:List Int
 pl:Int
 st:Int
instance:Inhabited Trp:=⟨⟨[],0,0⟩⟩
def qjR (ws:List (List UInt8)):Prop:=4≤ws.length∧wordAt ws 0=qdw∧[] ∉ ws
open Classical in
noncomputable def trE (l:List Tab) (ws:List (List UInt8)):Int :=
 if ¬ qjR ws then 3 else if ¬ (qcM (wordAt ws 1)∧qcM (wordAt ws 2)) then 3 else if ∃ i,3≤i∧i<ws.length∧¬ Jw l (wordAt ws i) then 6 else 0
def qjX (l:List Tab) (ws:List (List UInt8)):Trp:=⟨(ws.drop 3).map fun n=>(tix l n:Int),qdz (wordAt ws 1),qdz (wordAt ws 2)⟩
noncomputable def psA (l:List Tab):List Trp→Nat→List (List UInt8)→List Trp×Int×Int
 | out,_,[]=>(out,0,0)
 | out,i,[w]=>if w=[] then (out,0,0) else ([],i,3)
 | out,i,w :: v :: r=>if trE l (GX 32 w)=0 then psA l (out ++ [qjX l (GX 32 w)]) (i+1) (v :: r) else ([],i,trE l (GX 32 w))
noncomputable def qkP (l:List Tab) (s:List UInt8):List Trp×Int×Int:=if 65536<s.length then ([],0,7) else psA l [] 0 (GX 10 s)
def OkT (l:List Tab) (x:Trp):Prop:=x.ta≠[]∧(0≤x.pl∧x.pl≤999999999)∧(0≤x.st∧x.st≤999999999)∧∀ t∈x.ta,0≤t∧t<l.length
def qgr (l:List Tab) (t:Int):List UInt8:=(tb l t.toNat).name
def wsT (l:List Tab) (x:Trp):List (List UInt8):=qdw :: dgs x.pl.toNat :: dgs x.st.toNat :: x.ta.map (qgr l)
open Classical in
noncomputable def qkX (l:List Tab) (xs:List Trp):List UInt8:=if ∀ x∈xs,OkT l x then txt (xs.map fun x=>jnW (wsT l x)) else []
theorem ValidL.nm {l:List Tab} (hv:ValidL l) {i:Nat} (hi:i<l.length):Qx (tb l i).name:=by
 have hc:=(hv.2 i hi).1;unfold chk at hc;split at hc
 ·cases hc
 ·rename_i h;exact zF3.1 h
theorem ValidL.uniq {l:List Tab} (hv:ValidL l) {i j:Nat} (hi:i<l.length) (hj:j<l.length) (e:(tb l i).name=(tb l j).name):i=j:=by
 rcases zE6 i j with q|q|q
 ·exact absurd ⟨i,q,e⟩ (hv.2 j hj).2
 ·exact q
 ·exact absurd ⟨j,q,e.symm⟩ (hv.2 i hi).2
abbrev kX (ws:List (List UInt8)) (i:Nat):List UInt8:=ws.getD i default
def qdy:List UInt8:=[103,117,101,115,116]
def qby:List UInt8:=[102,114,105,101,110,100]
def qif:List UInt8:=[102,101,117,100]
def qgK (w:List UInt8):Prop:=w=[45]∨w=[104]∨w=[97]∨w=[104,97]
instance (w:List UInt8):Decidable (qgK w):=inferInstanceAs (Decidable (_∨_))
def qau (w:List UInt8):List UInt8:=if w=[45] then [] else w
def GP (ws:List (List UInt8)):Prop:=8≤ws.length∧qcM (kX ws 4)∧qcM (kX ws 5)∧qgK (kX ws 7)
def qht (ws:List (List UInt8)):Gu:={ name:=kX ws 1,rank:=qau (kX ws 2),court:=qau (kX ws 3),since:=qdz (kX ws 4),side:=qdz (kX ws 5),diet:=qau (kX ws 6),host:=decide (kX ws 7=[104]∨kX ws 7=[104,97]),access:=decide (kX ws 7=[97]∨kX ws 7=[104,97]),tg:=ws.drop 8 }
open Classical in
noncomputable def qky (r:Rl) (ws:List (List UInt8)):Rl×Int :=
 if kX ws 0=qdy then (if GP ws then YP r (qht ws) else (r,3))
 else if kX ws 0=qby∨kX ws 0=qif then (if ws.length=3 then Z8 r (kX ws 1) (kX ws 2) (if kX ws 0=qby then 1 else 2) else (r,3))
 else (r,3)
def qkD:List UInt8:=[32,45,32,104,32,97,32,104,97,32]
abbrev trV (x:Tr_):Value:=.agg (eTr x).toArray
abbrev Tr_.trp (x:Tr_):Trp:=⟨x.ta,x.pl,x.st⟩
variable [Flag]
end Go.Proofs.Xx
namespace Go.Proofs.Xx
open Go Go.Proofs
section
variable {P:Program} {X:Extern} {sz:Nat} {L L':Ks} {h:AH} {ops:Array Oper} {os:List Oper} {o:Oper} {R:Ks→AH→Prop}
end
variable [Flag]
def qkH (l:List Value):List Value:=l ++ List.replicate (24 - l.length) (.int .u8 0)
section
variable {P:Program} {X:Extern} {sz:Nat} {L L':Ks} {h:AH} {ops:Array Oper} {os:List Oper} {o:Oper} {R:Ks→AH→Prop}
end
abbrev z8 (k:Nat):List Value:=List.replicate k (.int .u8 0)
abbrev u8v (k:Nat):Value:=.int .u8 ((k:Nat):Int)
end Go.Proofs.Xx
namespace Go.Proofs.Xx
open Go Go.Proofs
abbrev trL (xs:List Tr_):List Trp:=xs.map fun x=>x.trp
def lnP (l:List Tab) (x:Trp) (j:Nat):List UInt8:=jnW (qdw :: dgs x.pl.toNat :: dgs x.st.toNat :: (x.ta.take j).map (qgr l))
def OkJ (l:List Tab) (x:Trp) (j:Nat):Prop:=x.ta≠[]∧(0≤x.pl∧x.pl≤999999999)∧(0≤x.st∧x.st≤999999999)∧∀ t∈x.ta.take j,0≤t∧t<l.length
def qkQ (l:List Tab) (xs:List Trp) (i:Nat):List UInt8:=txt ((xs.take i).map fun x=>jnW (wsT l x))
variable [Flag]
end Go.Proofs.Xx
namespace Go.Proofs.Xx
open Go Go.Proofs
variable [Flag]
end Go.Proofs.Xx
namespace Go.Proofs.Xx
open Go Go.Proofs
variable [Flag]
def LastT (l:List Tab) (n:List UInt8) (t:Nat) (a:Int):Prop:=(a = -1∧∀ j,j<t→(tb l j).name≠n)∨∃ m:Nat,a=m∧m<t∧(tb l m).name=n
theorem LastT.s {l:List Tab} {n:List UInt8} {t:Nat} {a:Int} (h:LastT l n t a) (ht:(tb l t).name≠n):LastT l n (t+1) a:=by
 rcases h with ⟨h1,h2⟩|⟨m,h1,h2,h3⟩
 ·exact .inl ⟨h1,Qj h2 ht⟩
 ·exact .inr ⟨m,h1,by omega,h3⟩
theorem LastT.tix {l:List Tab} (hv:ValidL l) {n:List UInt8} {a:Int} (h:LastT l n l.length a) (ha:0≤a):Jw l n∧a=(tix l n:Nat):=by
 rcases h with ⟨h1,h2⟩|⟨m,h1,h2,h3⟩
 ·omega
 ·refine ⟨⟨m,h2,h3⟩,?_⟩;rw [h1,gm h2 h3 fun j hj e=>by have:=hv.uniq (show j<l.length by omega) h2 (e.trans h3.symm);omega]
end Go.Proofs.Xx
namespace Go.Proofs.Xx
open Go Go.Proofs
section
variable {l m:List Tab} (h:l.map (·.toC)=m.map (·.toC))
include h
end
variable [Flag]
end Go.Proofs.Xx
namespace Go.Proofs.Xx
open Go Go.Proofs
variable [Flag]
end Go.Proofs.Xx
namespace Go.Proofs.Xx
open Go Go.Proofs
def upI (n:Nat):List Int:=(List.range n).map Int.ofNat
theorem qdA {n:Nat} {x:Int} (h:x∈upI n):0≤x∧x<(n:Int):=by
 obtain ⟨k,hk,rfl⟩:=zF1.1 h;have:=zE2.1 hk;exact ⟨Int.natCast_nonneg _,by show (k:Int)<n;omega⟩
theorem kY (n:Nat):(upI n).length=n:=by unfold upI;simp
variable [Flag]
end Go.Proofs.Xx
namespace Go.Proofs.Xx
open Go Go.Proofs
variable [Flag]
end Go.Proofs.Xx
namespace Go.Proofs.Xx
open Go Go.Proofs
noncomputable def qkx (nm:Nat→List UInt8) (n:Nat) (x:Int):Int:=by
 classical exact ((((List.range n).filter fun j=>decide (jE (nm j) (nm x.toNat))).length:Nat):Int)
variable [Flag]
theorem ku {h0:AH} (w:WfH h0) (x:List UInt8):Fn Tryz.prog Xh 126 [str x] h0 (fun v h'=>v = .bool false∧Hs h0 h' []):=by
 have S:=Hs.start w;refine qL (by first|rfl) Tryz.func126 rfl rfl ?_;all_goals (repeat' (first|refine qg ?_|(refine qc 0 ?_;refine mv ?_;refine qf ?_)|(refine qc 1 ?_;refine mv ?_;refine mv ?_;(refine tS ?_ ?_<;>intro hc)<;>(refine mv ?_;refine qf ?_))))
 all_goals first|exact absurd rfl (by assumption)|skip
 refine qo ⟨_,rfl,?_⟩;exact ⟨rfl,S⟩
theorem qf5 {h0:AH} (w:WfH h0) (x y:List UInt8):Fn Tryz.prog Xh 62 [str x,str y] h0 (fun v h'=>∃ d,v = .int .i64 d∧((d<0∧jE x y)∨(0≤d∧¬ jE x y))∧Hs h0 h' []):=by
 have S:=Hs.start w;refine qL (by first|rfl) Tryz.func62 rfl rfl ?_;all_goals (repeat' (first|refine qg ?_|(refine qc 0 ?_;refine mv ?_;refine qf ?_)|(refine qc 1 ?_;refine mv ?_)))
 (refine qw rfl rfl rfl rfl rfl ((ku S.wf x).mono ?_);rintro _ h ⟨rfl,x_⟩)<;>(replace S:=S.qE x_;clear x_;refine mv ?_;refine qf ?_)
 all_goals (repeat' (first|refine qg ?_|(refine qc 2 ?_;refine mv ?_)))
 (refine qw rfl rfl rfl rfl rfl ((ku S.wf y).mono ?_);rintro _ h ⟨rfl,x_⟩)<;>(replace S:=S.qE x_;clear x_;refine mv ?_;refine qf ?_)
 all_goals (repeat' (first|refine qg ?_|refine qh rfl ?_|refine qi ?_|(refine qc 3 ?_;refine mv ?_;refine qf ?_)|(refine qc 7 ?_;refine mv ?_;refine qf ?_)|(refine qc 9 ?_;refine mv ?_;refine mv ?_;(refine tO ?_ ?_<;>intro hc)<;>(refine qf ?_))|(refine qc 10 ?_;refine mv ?_;refine qf ?_)))
 ·refine qo ⟨_,rfl,?_⟩;exact ⟨-1,rfl,.inl ⟨by omega,by assumption⟩,S⟩
 all_goals (repeat' (first|refine qg ?_|refine qh rfl ?_|refine qi ?_|(refine qc 11 ?_;refine mv ?_;refine mv ?_;(refine tO ?_ ?_<;>intro hc)<;>(refine qf ?_))|(refine qc 12 ?_;refine mv ?_;refine qf ?_)))
 ·refine qo ⟨_,rfl,?_⟩;exact ⟨1,rfl,.inr ⟨by omega,by assumption⟩,S⟩
 ·all_goals (repeat' (first|(refine qc 13 ?_;refine mv ?_;refine qf ?_)))
  refine qo ⟨_,rfl,?_⟩;exact ⟨0,rfl,.inr ⟨by omega,by assumption⟩,S⟩
end Go.Proofs.Xx
namespace Go.Proofs.Xx
open Go Go.Proofs
structure Di where
 t:Nat
 d:List UInt8
 n:Int
instance:Inhabited Di:=⟨⟨0,[],0⟩⟩
abbrev Di.tt (x:Di):Nat:=x.t % 1024
def jb (x:Di):List Value:=[.int .i64 (x.tt:Int),str x.d,.int .i64 x.n]
abbrev diV (x:Di):Value:=.agg (jb x).toArray
def jl (x y:Di):Prop:=x.tt<y.tt∨(x.tt=y.tt∧jE x.d y.d)
theorem diL_ord:WOrd jl:=⟨fun x h=>by
 rcases h with h|h
 ·exact Nat.lt_irrefl _ h
 ·exact zL _ h.2,fun {x y z} h g=>by
 rcases h with h|h<;>rcases g with g|g
 ·exact .inl (Nat.lt_trans h g)
 ·exact .inl (by rw [← g.1];exact h)
 ·exact .inl (by rw [h.1];exact g)
 ·exact .inr ⟨h.1.trans g.1,je h.2 g.2⟩,fun {x y z} h1 h2 h=>by
 unfold jl at *;rcases zE6 z.tt x.tt with r|r|r
 ·rcases zE6 z.tt y.tt with q|q|q
  ·exact h2 (.inl q)
  ·exact h1 (.inl (by omega))
  ·exact h1 (.inl (by omega))
 ·rcases h with h|h
  ·omega
  ·rcases zE6 z.tt y.tt with q|q|q
   ·exact h2 (.inl q)
   ·rcases Zd z.d y.d with u|u|u
    ·exact h2 (.inr ⟨q,u⟩)
    ·exact h1 (.inr ⟨by omega,by rw [← u];exact h.2⟩)
    ·exact h1 (.inr ⟨by omega,je u h.2⟩)
   ·exact h1 (.inl (by omega))
 ·rcases h with h|h<;>omega⟩
abbrev ZX:Value:=.func (.func 60) #[] #[]
variable [Flag]
theorem qeT {h0:AH} (w:WfH h0) (v:Value) (a b:Int) (r:zC h0 v 1 eI [a,b]):Fn Tryz.prog Xh 61 [v] h0 (fun u h'=>u = .int .i64 (if a=0 then b else a)∧Hs h0 h' []):=by
 have S:=Hs.start w;refine qL (by first|rfl) Tryz.func61 rfl rfl ?_;all_goals (repeat' (first|refine qg ?_|refine qj ?_|(refine qc 0 ?_;refine mv ?_;refine qf ?_)|(refine qc 1 ?_;refine mv ?_;refine qf ?_)|(refine qc 2 ?_;refine mv ?_;refine jf S ?_;refine mv ?_;refine qf ?_)))
 refine qH (σ:=Nat) (fun i h'=>Hs h0 h' []∧i≤2∧∀ j,j<i→([a,b]:List Int).getD j default=0) (fun i=>2 - i) (fun i=>[(3,.int .i64 0),(6,v),(7,.int .i64 ([a,b]:List Int).length),(8,.int .i64 i)]) 0 qx ?_ ?_
 ·exact ⟨S,zB0 _,fun j hj=>absurd hj (zB7 _)⟩
 clear S;rintro i h ⟨S,g1,g2⟩;have hl2:([a,b]:List Int).length=2:=rfl;all_goals (repeat' (first|refine qg ?_|refine qh rfl ?_|refine qi ?_|refine qC ?_|refine qj ?_|(refine qc 3 ?_;(first|(refine cS ?_ ?_<;>intro hc))<;>(refine qf ?_))))
 ·have hi:i<2:=by omega
  have hx0:([a,b]:List Int).getD (i:Int).toNat default=([a,b]:List Int).getD i default:=rfl;all_goals (repeat' (first|refine qg ?_|refine qh rfl ?_|refine qi ?_|(refine qc 4 ?_;refine jF S ?_;refine jk S ?_;refine mv ?_;refine qf ?_)|(refine qc 5 ?_;refine mv ?_;refine mv ?_;(first|(refine cS ?_ ?_<;>intro hc))<;>(refine qf ?_))))
  all_goals (rw [hx0] at *)
  ·all_goals (repeat' (first|(refine qc 6 ?_;refine mv ?_;refine mv ?_;refine qf ?_)))
   refine qo ⟨_,rfl,?_⟩;refine ⟨?_,S⟩;match i,hi,g2 with
   | 0,_,_=>rw [if_neg (show ¬ a=0 by assumption)];rfl
   | 1,_,g2=>rw [if_pos (show a=0 from g2 0 (by omega))];rfl
  ·all_goals (repeat' (first|(refine qc 7 ?_;refine ad ?_;refine mv ?_;refine qf ?_)))
   refine ⟨i+1,?_,?_,qx⟩
   ·show 2 - (i+1)<2 - i;omega
   ·refine ⟨S,by (try dsimp only);omega,Qj g2 ?_⟩;by_cases z:([a,b]:List Int).getD i default=0
    ·exact z
    ·exact absurd z (by assumption)
 ·all_goals (repeat' (first|(refine qc 8 ?_;refine mv ?_;refine mv ?_;refine qf ?_)))
  refine qo ⟨_,rfl,?_⟩;refine ⟨?_,S⟩;have h0:a=0:=g2 0 (by omega);have h1:b=0:=g2 1 (by omega);subst h0;subst h1;rfl
theorem Qd {h0:AH} (w:WfH h0) (p q:Di):Fn Tryz.prog Xh 60 [diV p,diV q] h0 (fun v h'=>∃ d,v = .int .i64 d∧((d<0∧jl p q)∨(0≤d∧¬ jl p q))∧Hs h0 h' []):=by
 have S:=Hs.start w;have b1:p.t % 1024<1024:=Nat.mod_lt _ (by omega);have b2:q.t % 1024<1024:=Nat.mod_lt _ (by omega);refine qL (by first|rfl) Tryz.func60 rfl rfl ?_;all_goals (repeat' (first|refine qg ?_|(refine qc 0 ?_;(refine bx S ?_;clear S;intro b h S);(refine bx S ?_;clear S;intro b h S);refine mv ?_;refine qf ?_)))
 obtain ⟨bq,hnm⟩:∃ x,x=b:=⟨_,rfl⟩;subst hnm;obtain ⟨bp,hnm⟩:∃ x,x=b:=⟨_,rfl⟩;subst hnm;replace S:Hs h0 h [.blk bq (jb q) 50,.blk bp (jb p) 50]:=S;(repeat (refine qg ?_));refine ZJ (id:=1) [(1,(0,1)),(3,(0,1))] [some (bp),some (bq)] ?_;refine qy ?_;(first|(refine vl ?_<;>refine qf ⟨⟨by (first|exact True.intro),rfl⟩,?_⟩));refine qy ?_;(first|(refine lB S rfl rfl ?_<;>refine qf ⟨⟨by (first|exact Or.inr rfl),rfl⟩,?_⟩));refine qy ?_;(first|(refine vl ?_<;>refine qf ⟨⟨by (first|exact True.intro),rfl⟩,?_⟩));refine qy ?_;(first|(refine lB S rfl rfl ?_<;>refine qf ⟨⟨by (first|exact Or.inr rfl),rfl⟩,?_⟩));refine qy ?_;(first|(refine sb ?_<;>refine qf ⟨⟨by (first|exact True.intro),rfl⟩,?_⟩));refine qy ?_;(first|(refine vl ?_<;>refine qf ⟨⟨by (first|exact True.intro),rfl⟩,?_⟩));refine qy ?_;(first|(refine lB S rfl rfl ?_<;>refine qf ⟨⟨by (first|exact True.intro),rfl⟩,?_⟩));refine qy ?_;(first|(refine vl ?_<;>refine qf ⟨⟨by (first|exact True.intro),rfl⟩,?_⟩));refine qy ?_;(first|(refine lB S rfl rfl ?_<;>refine qf ⟨⟨by (first|exact True.intro),rfl⟩,?_⟩));((refine qy ?_;first|refine qw rfl rfl rfl rfl rfl ((qf5 S.wf p.d q.d).mono ?_));rintro _ h ⟨d,rfl,hd,x⟩)<;>((refine qf ⟨⟨True.intro,?_⟩,?_⟩;(focus ((show keepsX _ _ _ _ _;simp only [keepsX];(repeat' (first|exact True.intro|refine And.intro ?_ ?_));all_goals (intro hw;first|exact x.ext.old _ S.bB)))));replace S:=S.qE x;clear x)
 refine qy ?_;refine bsn (α:=Int) (z:=1) eI [(p.tt:Int) - (q.tt:Int),d] S ?_;have S0:=S;clear S;intro u h S;refine qf ⟨⟨True.intro,?_⟩,?_⟩;(focus ((show keepsX _ _ _ _ _;simp only [keepsX];(repeat' (first|exact True.intro|refine And.intro ?_ ?_));all_goals (intro hw;first|exact absurd hw (by decide +kernel)))));clear S0;(skip);((refine qy ?_;first|refine qw rfl rfl rfl rfl rfl ((qeT S.wf u ((p.tt:Int) - (q.tt:Int)) d (Rd.QU S .here)).mono ?_));rintro _ h ⟨rfl,x⟩)<;>((refine qf ⟨⟨True.intro,?_⟩,?_⟩;(focus ((show keepsX _ _ _ _ _;simp only [keepsX];(repeat' (first|exact True.intro|refine And.intro ?_ ?_));all_goals (intro hw;first|exact absurd hw (by decide +kernel))))));replace S:=S.qE x;clear x;refine qy ?_;(first|(refine mv ?_<;>refine qf ⟨⟨by (first|exact True.intro),rfl⟩,?_⟩));refine Xq ?_)
 all_goals (repeat' (fail))
 refine qo ⟨_,rfl,?_⟩;refine ⟨_,rfl,?_,S.drop⟩;have e1:(p.tt:Int)=((p.t % 1024:Nat):Int):=rfl;have e2:(q.tt:Int)=((q.t % 1024:Nat):Int):=rfl;have u1:jl p q↔(p.tt<q.tt∨(p.tt=q.tt∧jE p.d q.d)):=Iff.rfl;by_cases z:(p.tt:Int) - (q.tt:Int)=0
 ·rw [if_pos z,u1];rcases hd with ⟨a,b⟩|⟨a,b⟩
  ·exact .inl ⟨a,.inr ⟨by omega,b⟩⟩
  ·refine .inr ⟨a,fun c=>?_⟩;rcases c with c|c
   ·omega
   ·exact b c.2
 ·rw [if_neg z,u1];by_cases y:(p.tt:Int) - (q.tt:Int)<0
  ·exact .inl ⟨y,.inl (by omega)⟩
  ·refine .inr ⟨by omega,fun c=>?_⟩;rcases c with c|c
   ·omega
   ·omega
end Go.Proofs.Xx
