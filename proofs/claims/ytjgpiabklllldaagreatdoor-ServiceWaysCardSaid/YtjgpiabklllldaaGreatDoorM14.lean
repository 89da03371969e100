/-
  The reference's number that no load is below;few numbers;lists of lists compared;arguments left as they were.
-/
import Derived.Test.YtjgpiabklllldaaGreatDoorM12
import Derived.Test.YtjgpiabklllldaaGreatDoorM13
import Derived.Test.YtjgpiabklllldaaGreatDoorM6
import Derived.Test.YtjgpiabklllldaaGreatDoorM4
import Derived.Test.YtjgpiabklllldaaGreatDoorM11
import Derived.Test.YtjgpiabklllldaaGreatDoorM10
import Derived.Test.YtjgpiabklllldaaGreatDoorM9
set_option linter.unusedSimpArgs false
set_option linter.unusedVariables false
set_option linter.unusedSectionVars false
set_option maxRecDepth 100000
set_option maxHeartbeats 4000000
namespace Go.Proofs.Xx
open Go Go.Proofs
variable [Flag]
structure PbZ (h:AH) (v:PbV) (p:Pb):Prop where
 tr:qY h v.vt.val 7 eT p.tabs
 tt:∀ i,i<p.tabs.length→TabR h (tb p.tabs i)
 tc:Qw v.vt.val
 op:∀ i,i<p.tabs.length→(p.tabs.getD i default).opn.length*8≤140737488351232
 rol:RlOk h v.rl p.rl
 gc:Qw v.vg.val
 tg:∀ i,i<v.gs.length→(v.gs.getD i default).tg.length≤8796093021952
 cl:qY h v.vc.val 1 eI p.cl
 ru:qY h v.vr.val 6 JW p.ru
 rk:∀ r∈p.ru,0≤r.k∧r.k≤255
 lt:p.tabs.length≤9223372036854775807
 lc:p.cl.length≤9223372036854775807
 lr:p.ru.length≤9223372036854775807
theorem PbZ.ext {h h':AH} {v:PbV} {p:Pb} (a:PbZ h v p) (w:WfH h) (x:Ext h h'):PbZ h' v p:=⟨a.tr.ext w x,fun i hi=>(a.tt i hi).ext w x,a.tc,a.op,a.rol.ext w x,a.gc,a.tg,a.cl.ext w x,a.ru.ext w x,a.rk,a.lt,a.lc,a.lr⟩
def Gh (p:Pb) (n:Nat):Prop:=p.tabs.length≤n∧p.us.length≤n∧p.ts.length≤n∧p.cl.length≤n∧p.ru.length≤n
theorem PbZ.ok {h:AH} {v:PbV} {p:Pb} (a:PbZ h v p) (f:Gh p 20):PbOk h v p:=⟨⟨a.tr,a.tt,by have:=f.1;omega,a.tc⟩,a.rol,a.cl,a.ru,by have:=f.2.2.2.1;omega,by have:=f.2.2.2.2;omega⟩
theorem PbZ.fit {h:AH} {v:PbV} {p:Pb} (a:PbZ h v p) (f:Gh p 20):qdN h v p:=⟨a.ok f,a.op,a.tg,by obtain ⟨f1,f2,f3,f4,f5⟩:=f;omega⟩
theorem PbZ.m {h:AH} {v:PbV} {p:Pb} (a:PbZ h v p) (f:Gh p 20):PbM v p:=⟨a.gc,by obtain ⟨f1,f2,f3,f4,f5⟩:=f;omega,a.rk⟩
theorem qcS {h0:AH} (w:WfH h0) (pv:PbV) (p:Pb) (H:PbZ h0 pv p) (n:Nat) :
 Fn Tryz.prog Xh 11 [pv.val,.int .i64 n] h0 (fun u h'=>qL u (Gh p n)∧Hs h0 h' []):=by
 have S:=Hs.start w;have h1:=H.tr;have h2:=H.rol.rg;have h3:qY h0 pv.vi.val 3 jY p.ts:=H.rol.rt;have h4:=H.cl;have h5:=H.ru;have e:pv.gs.length=p.us.length:=H.rol.len;have e2:pv.rl.gs.length=p.us.length:=H.rol.len;unfold PbV.val;refine qJ (by first|rfl) Tryz.func11 rfl rfl ?_;all_goals (repeat' (first|refine qg ?_|(refine qc 0 ?_;(refine bx S ?_;clear S;intro b h S);refine mv ?_;refine qf ?_)|(refine qc 1 ?_;refine vl ?_;refine lB S rfl rfl ?_;refine zC S ?_;refine mv ?_;(first|(refine cS ?_ ?_<;>intro hc))<;>(refine mv ?_;(first|refine off ?_|(refine vl ?_));(first|refine off ?_|(refine lB S rfl rfl ?_));(first|refine off ?_|(refine zC S ?_));(first|refine off ?_|refine mv ?_);(first|refine off ?_|(first|(refine cS ?_ ?_<;>intro hc)))<;>(refine vl ?_;refine mv ?_;(first|refine off ?_|(refine vl ?_));(first|refine off ?_|(refine lB S rfl rfl ?_));(first|refine off ?_|(refine zC S ?_));(first|refine off ?_|refine mv ?_);(first|refine off ?_|(first|(refine cS ?_ ?_<;>intro hc)))<;>(refine vl ?_;refine mv ?_;(first|refine off ?_|(refine vl ?_));(first|refine off ?_|(refine lB S rfl rfl ?_));(first|refine off ?_|(refine zC S ?_));(first|refine off ?_|refine mv ?_);(first|refine off ?_|(first|(refine cS ?_ ?_<;>intro hc)))<;>(refine vl ?_;refine mv ?_;(first|refine off ?_|(refine vl ?_));(first|refine off ?_|(refine lB S rfl rfl ?_));(first|refine off ?_|(refine zC S ?_));(first|refine off ?_|refine mv ?_);(first|refine off ?_|(first|(refine cS ?_ ?_<;>intro hc)))<;>(refine vl ?_;refine mv ?_;refine qf ?_))))))))
 all_goals (refine qj ⟨_,rfl,?_⟩)
 all_goals (refine ⟨?_,S.drop⟩;unfold qL Gh)
 all_goals first|exact .inl ⟨rfl,by omega⟩|exact .inr ⟨rfl,by omega⟩
theorem qc0 {h0:AH} (w:WfH h0) (v:Value) (l:List Int) (r:qY h0 v 1 eI l):Fn Tryz.prog Xh 13 [v] h0 (fun u h'=>qL u (30<l.length)∧Hs h0 h' []):=by
 have S:=Hs.start w;refine qJ (by first|rfl) Tryz.func13 rfl rfl ?_;all_goals (repeat' (first|refine qg ?_|(refine qc 0 ?_;refine mv ?_;refine qf ?_)|(refine qc 1 ?_;refine mv ?_;refine zC S ?_;(first|(refine cS ?_ ?_<;>intro hc))<;>(refine mv ?_;refine qf ?_))))
 all_goals (refine qj ⟨_,rfl,?_⟩)
 all_goals (refine ⟨?_,S.drop⟩;unfold qL)
 all_goals first|exact .inl ⟨rfl,by omega⟩|exact .inr ⟨rfl,by omega⟩
theorem qdl {h0:AH} (w:WfH h0) (v:Value) (rows:List Jt) (r:qY h0 v 1 Q3 rows) (rr:∀ i,i<rows.length→qY h0 (rows.getD i default).sv.val 1 eI (rows.getD i default).r) (hl:rows.length≤1000) :
 Fn Tryz.prog Xh 49 [v,.func (.func 13) #[] #[]] h0 (fun u h'=>Gg u (fun i=>30<(rows.getD i default).r.length) rows.length∧Hs h0 h' []):=by
 have S:=Hs.start w;refine qJ (by first|rfl) Tryz.func49 rfl rfl ?_;all_goals (repeat' (first|refine qg ?_|refine qo ?_|(refine qc 0 ?_;refine mv ?_;refine qf ?_)|(refine qc 1 ?_;refine mv ?_;refine zC S ?_;refine mv ?_;refine qf ?_)))
 refine qH (σ:=Nat) (fun i h'=>Hs h0 h' []∧i≤rows.length∧(∀ j,j<i→¬ 30<(rows.getD j default).r.length)) (fun i=>rows.length - i) (fun i=>[(0,v),(1,.func (.func 13) #[] #[]),(7,.int .i64 rows.length),(8,.int .i64 i)]) 0 qy ?_ ?_
 ·exact ⟨S,zB0 _,fun j hj=>absurd hj (zB7 _)⟩
 clear S;rintro i h ⟨S,g1,g2⟩;all_goals (repeat' (first|refine qg ?_|refine qh rfl ?_|refine qi ?_|refine qB ?_|refine qo ?_|(refine qc 2 ?_;(first|(refine cS ?_ ?_<;>intro hc))<;>(refine qf ?_))))
 ·have hi:i<rows.length:=by omega
  have ri:=(rr i hi).ext w S.ext;all_goals (repeat' (first|refine qg ?_|(refine qc 3 ?_;refine mv ?_;refine mv ?_;refine qf ?_)|(refine qc 4 ?_;(iterate 3 refine mv ?_);refine zW S ?_;refine zV S ?_)))
  simp only [zA0];(refine jQ rfl rfl rfl rfl ((qc0 S.wf (rows.getD i default).sv.val (rows.getD i default).r ri).mono ?_);rintro _ h ⟨⟨rfl,z⟩|⟨rfl,z⟩,x⟩)<;>(replace S:=S.join0 x;clear x;refine qf ?_)
  ·all_goals (repeat' (first|refine qg ?_|refine qh rfl ?_|(refine qc 5 ?_;refine mv ?_;refine mv ?_;refine qf ?_)))
   refine qj ⟨_,rfl,?_⟩;exact ⟨.inl ⟨i,hi,rfl,z,g2⟩,S⟩
  ·all_goals (repeat' (first|refine qh rfl ?_|refine qi ?_|(refine qc 6 ?_;refine ad ?_;refine mv ?_;refine qf ?_)))
   refine ⟨i+1,?_,?_,qy⟩
   ·show rows.length - (i+1)<rows.length - i;omega
   ·exact ⟨S,by omega,jy g2 z⟩
 ·all_goals (repeat' (first|(refine qc 7 ?_;refine mv ?_;refine qf ?_)))
  refine qj ⟨_,rfl,?_⟩;exact ⟨.inr ⟨rfl,fun j hj=>g2 j (by omega)⟩,S⟩
theorem qdm {h0:AH} (w:WfH h0) (v:Value) (rows:List Jt) (r:qY h0 v 1 Q3 rows) (rr:∀ i,i<rows.length→qY h0 (rows.getD i default).sv.val 1 eI (rows.getD i default).r) (hl:rows.length≤1000) :
 Fn Tryz.prog Xh 12 [v,.func (.func 13) #[] #[]] h0 (fun u h'=>qL u (∃ i,i<rows.length∧30<(rows.getD i default).r.length)∧Hs h0 h' []):=by
 have S:=Hs.start w;refine qJ (by first|rfl) Tryz.func12 rfl rfl ?_;all_goals (repeat' (first|refine qg ?_|(refine qc 0 ?_;refine mv ?_;refine qf ?_)|(refine qc 1 ?_;refine mv ?_;refine mv ?_)))
 (refine qx rfl rfl rfl rfl rfl ((qdl S.wf v rows r rr hl).mono ?_);rintro _ h ⟨⟨i,hi,rfl,z,-⟩|⟨rfl,z⟩,x⟩)<;>(replace S:=S.join0 x;clear x;(first|refine cT ?_|refine cF ?_)<;>(refine mv ?_;refine qf ?_))
 all_goals (all_goals (repeat' (fail)))
 all_goals (refine qj ⟨_,rfl,?_⟩)
 all_goals (refine ⟨?_,S.drop⟩;unfold qL)
 ·exact .inl ⟨rfl,i,hi,z⟩
 ·exact .inr ⟨rfl,fun ⟨j,hj,z2⟩=>z j hj z2⟩
theorem qcR {h0:AH} (w:WfH h0) (pv:PbV) (p:Pb) (H:PbZ h0 pv p) (v:Value) (rows:List Jt) (r:qY h0 v 1 Q3 rows) (rr:∀ i,i<rows.length→qY h0 (rows.getD i default).sv.val 1 eI (rows.getD i default).r) (hl:rows.length≤1000) :
 Fn Tryz.prog Xh 6 [pv.val,v] h0 (fun u h'=>qL u (p.tabs.length≤5∧Gh p 20∧∀ i,i<rows.length→(rows.getD i default).r.length≤30)∧Hs h0 h' []):=by
 have S:=Hs.start w;have h1:=H.tr;unfold PbV.val;refine qJ (by first|rfl) Tryz.func6 rfl rfl ?_;all_goals (repeat' (first|refine qg ?_|(refine qc 0 ?_;(refine bx S ?_;clear S;intro b h S);refine mv ?_;refine qf ?_)|(refine qc 1 ?_;refine vl ?_;refine lB S rfl rfl ?_;refine zC S ?_;(first|(refine cS ?_ ?_<;>intro hc))<;>(refine mv ?_;(first|refine off ?_|(refine lB S rfl rfl ?_));(first|(refine off ?_;refine vl ?_;refine mv ?_;refine off ?_;(first|(refine off ?_;refine off ?_;refine vl ?_;refine mv ?_;refine qf ?_)))|skip)))))
 all_goals (try ((refine qx rfl rfl rfl rfl rfl ((qcS S.wf pv p (H.ext w S.ext) 20).mono ?_);rintro _ h ⟨⟨rfl,z1⟩|⟨rfl,z1⟩,x⟩)<;>(replace S:=S.join0 x;clear x;refine vl ?_;refine mv ?_;(first|refine off ?_|refine mv ?_);(first|(refine off ?_;refine off ?_;refine vl ?_;refine mv ?_;refine qf ?_)|skip))))
 all_goals (try ((refine qx rfl rfl rfl rfl rfl ((qdm S.wf v rows (r.ext w S.ext) (fun i hi=>(rr i hi).ext w S.ext) hl).mono ?_);rintro _ h ⟨⟨rfl,z2⟩|⟨rfl,z2⟩,x⟩)<;>(replace S:=S.join0 x;clear x;refine vl ?_;refine vl ?_;refine mv ?_;refine qf ?_)))
 all_goals (all_goals (repeat' (fail)))
 all_goals (refine qj ⟨_,rfl,?_⟩)
 all_goals (refine ⟨?_,S.drop⟩;unfold qL)
 all_goals first
  | exact .inl ⟨rfl,by omega,z1,fun i hi=>Nat.le_of_not_lt fun q=>z2 ⟨i,hi,q⟩⟩
  | exact .inr ⟨rfl,fun q=>z1 q.2.1⟩
  | exact .inr ⟨rfl,fun q=>by obtain ⟨i,hi,h3⟩:=z2;have:=q.2.2 i hi;omega⟩
  | exact .inr ⟨rfl,fun q=>by have:=q.1;omega⟩
theorem qbJ {h0:AH} (w:WfH h0) (v u:PbV) (p q:Pb) (H:PbOk h0 v p) (K:PbOk h0 u q) (he:qcr p q) (va vb:Value) (l m:List Int) (ra:qY h0 va 1 eI l) (rb:qY h0 vb 1 eI m) (hlm:l=m) (hl:l.length≤1000000) :
 Fn Tryz.prog Xh 22 [v.val,u.val,va,vb] h0 (fun x h'=>x = .bool true∧Hs h0 h' []):=by
 have S:=Hs.start w;unfold PbV.val;refine qJ (by first|rfl) Tryz.func22 rfl rfl ?_;all_goals (repeat' (first|refine qg ?_|(refine qc 0 ?_;(refine bx S ?_;clear S;intro b h S);(refine bx S ?_;clear S;intro b h S);refine mv ?_;refine qf ?_)|(refine qc 1 ?_;refine lB S rfl rfl ?_;refine lB S rfl rfl ?_)))
 (refine qx rfl rfl rfl rfl rfl ((qab S.wf v u p q (H.ext w S.ext) (K.ext w S.ext)).mono ?_);rintro _ h ⟨⟨rfl,z⟩|⟨rfl,z⟩,x⟩)<;>(replace S:=S.join0 x;clear x;refine mv ?_;(first|refine off ?_|refine mv ?_);(first|refine off ?_|refine mv ?_);(first|(refine off ?_;refine vl ?_;refine mv ?_;refine qf ?_)|skip))
 rotate_left
 ·exact absurd he z
 all_goals (repeat' (fail))
 (refine qx rfl rfl rfl rfl rfl ((YY S.wf va vb l m (ra.ext w S.ext) (rb.ext w S.ext) hl).mono ?_);rintro _ h ⟨⟨rfl,z⟩|⟨rfl,z⟩,x⟩)<;>(replace S:=S.join0 x;clear x;refine vl ?_;refine mv ?_;refine qf ?_)
 rotate_left
 ·exact absurd hlm z
 all_goals (repeat' (fail))
 refine qj ⟨_,rfl,?_⟩;exact ⟨rfl,S.drop⟩
theorem qbW {h0:AH} (w:WfH h0) (v:PbV) (p:Pb) (H:PbOk h0 v p) (M:PbM v p) (vq:Value) (q:List Int) (rq:qY h0 vq 1 eI q) (hq:q.length≤9223372036854775807) :
 Fn Tryz.prog Xh 16 [v.val,vq] h0 (fun u h'=>∃ i e,u = .int .i64 e∧PaC p q false i e∧Hs h0 h' []):=by
 have S:=Hs.start w;unfold PbV.val;refine qJ (by first|rfl) Tryz.func16 rfl rfl ?_;all_goals (repeat' (first|refine qg ?_|(refine qc 0 ?_;(refine bx S ?_;clear S;intro b h S);refine mv ?_;refine qf ?_)|(refine qc 1 ?_;refine lB S rfl rfl ?_;refine mv ?_)))
 (refine qx rfl rfl rfl rfl rfl ((G5 S.wf v p (H.ext w S.ext) M vq q (rq.ext w S.ext) hq false).mono ?_);rintro _ h ⟨i,e,rfl,hk,x⟩)<;>(replace S:=S.join0 x;clear x;refine mv ?_;refine vl ?_;refine vl ?_;refine mv ?_;refine mv ?_;refine qf ?_)
 all_goals (repeat' (first|refine qg ?_|(refine qc 2 ?_;refine mv ?_;refine mv ?_;refine qf ?_)))
 refine qj ⟨_,rfl,?_⟩;exact ⟨i,e,rfl,hk,S.drop⟩
theorem BasP.uniq {p:Pb} {i e i' e':Int} (a:BasP p i e) (b:BasP p i' e'):e=e':=by
 by_cases hb:BO p
 ·rw [(hb.basP a).2,(hb.basP b).2]
 rcases a with ⟨h1,h2⟩|⟨h1,h2⟩|⟨h1,h2,h3⟩<;>rcases b with ⟨g1,g2⟩|⟨g1,g2⟩|⟨g1,g2,g3⟩
 ·exact (h2.uniq g2).2
 ·exact absurd (h2.valid.2 g1) h1
 ·exact absurd (h2.valid.2 g1) h1
 ·exact absurd (g2.valid.2 h1) g1
 ·exact (h2.uniq g2).2
 ·exact absurd (YC.2 g2) h2.not
 ·exact absurd (g2.valid.2 h1) g1
 ·exact absurd (YC.2 h2) g2.not
 ·rcases h3 with ⟨h3,h4,h5⟩|⟨h3,h4⟩<;>rcases g3 with ⟨g3,g4,g5⟩|⟨g3,g4⟩
  ·omega
  ·exact absurd g3 h3
  ·exact absurd h3 g3
  ·omega
theorem CkP.uniq {p:Pb} {i e i' e':Int} (a:CkP p i e) (b:CkP p i' e'):e=e':=by
 rcases a with ⟨h1,h2⟩|⟨h1,h2⟩<;>rcases b with ⟨g1,g2⟩|⟨g1,g2⟩
 ·exact h2.uniq g2
 ·exact absurd (g1.basP h2).2 h1
 ·exact absurd (h1.basP g2).2 g1
 ·rcases h2 with ⟨j,k1,k2,k3,k4,k5⟩|⟨k1,k2,k3,k4⟩<;>rcases g2 with ⟨m,l1,l2,l3,l4,l5⟩|⟨l1,l2,l3,l4⟩
  ·have hjm:j=m:=by
    rcases zE7 j m with r|r|r
    ·exfalso
     rcases k5 with ⟨k5,-⟩|⟨-,k5,-⟩
     ·exact k5 (l4 j r)
     ·omega
    ·exact r
    ·exfalso
     rcases l5 with ⟨l5,-⟩|⟨-,l5,-⟩
     ·exact l5 (k4 m r)
     ·omega
   subst hjm;rcases k5 with ⟨k5,k6⟩|⟨k5,k6,k7⟩<;>rcases l5 with ⟨l5,l6⟩|⟨l5,l6,l7⟩
   ·omega
   ·exact absurd l5 k5
   ·exact absurd k5 l5
   ·omega
  ·exfalso
   rcases k5 with ⟨k5,-⟩|⟨-,k5,-⟩
   ·exact k5 (l2 j k1)
   ·omega
  ·exfalso
   rcases l5 with ⟨l5,-⟩|⟨-,l5,-⟩
   ·exact l5 (k2 m l1)
   ·omega
  ·omega
theorem PaE.uniq {N n:Nat} {q:List Int} {wh:Bool} {i e i' e':Int} (a:PaE N q n wh i e) (b:PaE N q n wh i' e'):e=e':=by
 have bad:∀ {g:Nat} {e:Int},((wh=true∧q.getD g default = -1∧e=52)∨((q.getD g default < -1∨(N:Int)≤q.getD g default)∧e=50)∨(0≤q.getD g default∧q.getD g default<N∧(∃ j,j<g∧q.getD j default=q.getD g default)∧e=51))→∀ m,g<m→PaI N q m→(wh=true→∀ j,j<m→q.getD j default≠-1)→False:=by
  rintro g e (⟨h1,h2,-⟩|⟨h1,-⟩|⟨h1,h2,⟨j,h3,h4⟩,-⟩) m hm k1 k2
  ·exact k2 h1 g hm h2
  ·have:=k1.1 g hm;omega
  ·exact k1.2 j g h3 hm (by omega) h4
 rcases a with ⟨h1,-,h2⟩|⟨h1,⟨g,h2,h3,h4,h5,h6⟩|⟨h2,h3,h4,h5⟩⟩<;>rcases b with ⟨g1,-,g2⟩|⟨g1,⟨m,l2,l3,l4,l5,l6⟩|⟨l2,l3,l4,l5⟩⟩
 ·omega
 ·exact absurd g1 h1
 ·exact absurd g1 h1
 ·exact absurd h1 g1
 ·have hgm:g=m:=by
   rcases zE7 g m with r|r|r
   ·exact (bad h6 m r l4 l5).elim
   ·exact r
   ·exact (bad l6 g r h4 h5).elim
  subst hgm;rcases h6 with ⟨a1,a2,a3⟩|⟨a1,a2⟩|⟨a1,a2,a3,a4⟩<;>rcases l6 with ⟨b1,b2,b3⟩|⟨b1,b2⟩|⟨b1,b2,b3,b4⟩<;>omega
 ·exact (bad h6 n h2 l2 l3).elim
 ·exact absurd h1 g1
 ·exact (bad l6 n l2 h2 h3).elim
 ·omega
theorem PaC.uniq {p:Pb} {q:List Int} {wh:Bool} {i e i' e':Int} (a:PaC p q wh i e) (b:PaC p q wh i' e'):e=e':=by
 rcases a with ⟨h1,-,-,j,h2⟩|⟨h1,h2⟩<;>rcases b with ⟨g1,-,-,m,g2⟩|⟨g1,g2⟩
 ·exact h2.uniq g2
 ·exact absurd g1 h1
 ·exact absurd h1 g1
 ·exact h2.uniq g2
end Go.Proofs.Xx
namespace Go.Proofs.Xx
open Go Go.Proofs
abbrev Pb.wt (p:Pb) (tabs:List Tab):Pb:=⟨tabs,p.us,p.ts,p.cl,p.ru⟩
theorem qd2 {h0 h hA:AH} {rs:List Rs} {v u:PbV} {p:Pb} {tabs:List Tab} (S:Hs h0 h (pbL v (p.wt tabs) ++ rs)) (e:tabs.map (·.toC)=p.tabs.map (·.toC)) (hu:v.gs.map (·.toGu)=p.us) (K:PbZ hA u p) (F:Gh p 20):PbOk h v (p.wt tabs):=by
 have hl:=Ze e;obtain ⟨f1,f2,f3,f4,f5⟩:=F;have K2:u.gs.map (·.toGu)=p.us:=K.rol.us;refine ⟨⟨Rd.of_sl S .here,fun i hi=>?_,by show tabs.length≤_;omega,S.capS .here⟩,⟨Rd.of_sl S (.there (.there .here)),Rd.of_sl S (.there (.there (.there (.there .here)))),fun i hi=>⟨?_,?_⟩,hu,by show p.us.length≤_;omega,by show p.ts.length≤_;omega⟩,Rd.of_sl S (.there (.there (.there (.there (.there .here))))),Rd.of_sl S (.there (.there (.there (.there (.there (.there .here)))))),by show p.cl.length≤_;omega,by show p.ru.length≤_;omega⟩
 ·have hi':i<p.tabs.length:=by have:i<tabs.length:=hi;omega
  obtain ⟨fp,k⟩:=Hs.anyP (p:=fun h fp=>Star h (tabs.map VB) fp) S (.there .here);obtain ⟨fq,q⟩:=Star.get_ (r:=VB (tabs.getD i default)) k (zF1.2 ⟨_,qI hi,rfl⟩);refine ⟨vU q,?_,?_⟩
  ·have e1:(tb tabs i).name=(tb p.tabs i).name:=wB e i;show (tb tabs i).name.length≤_
   rw [e1];exact (K.tt i hi').2.1
  ·have e1:(tb tabs i).opn=(tb p.tabs i).opn:=congrArg TabC.opn (kV e i);show (tb tabs i).opn.length≤_
   rw [e1];exact (K.tt i hi').2.2
 ·obtain ⟨fp,k⟩:=Hs.anyP (p:=fun h fp=>Star h (v.gs.map qcJ) fp) S (.there (.there (.there .here)));obtain ⟨fq,q⟩:=Star.get_ (r:=qcJ (v.gs.getD i default)) k (zF1.2 ⟨_,qI hi,rfl⟩);exact vU q
 ·have hgl:v.gs.length=u.gs.length:=by rw [← K2] at hu;have:=congrArg List.length hu;simpa using this
  have hi':i<u.gs.length:=by have:i<v.gs.length:=hi;omega
  have e1:(v.gs.getD i default).toGu=(u.gs.getD i default).toGu:=by
   rw [← zq (f:=fun g:Zh=>g.toGu) (show i<v.gs.length from hi),← zq (f:=fun g:Zh=>g.toGu) hi',hu,K2]
  have e2:(v.gs.getD i default).tg=(u.gs.getD i default).tg:=congrArg Gu.tg e1;show (v.gs.getD i default).tg.length≤_
  rw [e2];exact (K.rol.tg i hi').2
section
variable {l m:List Tab} (h:l.map (·.toC)=m.map (·.toC))
include h
theorem qdK {us:List Gu} {ts:List Ti} {cl:List Int} {ru:List Ru} {i e:Int}:CkP ⟨l,us,ts,cl,ru⟩ i e↔CkP ⟨m,us,ts,cl,ru⟩ i e:=by
 have hb:BO ⟨l,us,ts,cl,ru⟩↔BO ⟨m,us,ts,cl,ru⟩:=by
  constructor
  ·rintro ⟨h1,h2,h3,h4⟩;exact ⟨(ZJ h).1 h1,h2,h3,by have:=h4;simp only [Je h,Ze h] at this;exact this⟩
  ·rintro ⟨h1,h2,h3,h4⟩;exact ⟨(ZJ h).2 h1,h2,h3,by simp only [Je h,Ze h];exact h4⟩
 unfold CkP;rw [hb,qes h];simp only [qbf h]
theorem qe4 {us:List Gu} {ts:List Ti} {cl:List Int} {ru:List Ru} {q:List Int} {wh:Bool} {i e:Int}:PaC ⟨l,us,ts,cl,ru⟩ q wh i e↔PaC ⟨m,us,ts,cl,ru⟩ q wh i e:=by
 unfold PaC;simp only [qfF h,qdK h,Je h,Ze h]
end
variable [Flag]
end Go.Proofs.Xx
namespace Go.Proofs.Xx
open Go Go.RowKit Go.Proofs
structure GstA (h:AH) (g:Zh):Prop where
 rd:qY h g.tv.val 1 eS g.tg
 cap:Qw g.tv.val
 len:g.tg.length≤maxLen
 l1:g.name.length≤maxLen
 l2:g.rank.length≤maxLen
 l3:g.court.length≤maxLen
 l4:g.diet.length≤maxLen
 l5:∀ i,i<g.tg.length→(g.tg.getD i default).length≤maxLen
 wt:g.tg.length*16≤reachBytes
 i64:(-9223372036854775808≤g.since∧g.since≤9223372036854775807)∧(-9223372036854775808≤g.side∧g.side≤9223372036854775807)
theorem GstA.ext {h h':AH} {g:Zh} (a:GstA h g) (w:WfH h) (x:Ext h h'):GstA h' g:=⟨a.rd.ext w x,a.cap,a.len,a.l1,a.l2,a.l3,a.l4,a.l5,a.wt,a.i64⟩
theorem GstA.r {h:AH} {g:Zh} (a:GstA h g):qeH h g:=⟨a.rd,by have:=a.len;unfold maxLen at this;omega⟩
theorem qbN {x:Int} (h:(Lit.int .i64 x).wf=true) : -9223372036854775808≤x∧x≤9223372036854775807:=by
 simp [Lit.wf,IntKind.min,IntKind.max,IntKind.signed,IntKind.bits] at h
 omega
theorem AR.bool1 {P:Program} {h:AH} {n:Nat} {t:TypeId} {r:List Value} (a:AR P h n t r) (hu:P.underlying t=some .bool):∃ b:Bool,r=[.bool b]:=by
 cases n with
 | zero=>exact a.elim
 | succ n =>
  unfold AR at a;rw [hu] at a;split at a
  all_goals (first|exact a.elim|(rename_i q _;cases q;done)|(rename_i q;cases q;done)|skip)
  all_goals exact ⟨_,rfl⟩
theorem AR.strs1 {h:AH} {n:Nat} {r:List Value} (a:AR Tryz.prog h n 96 r):∃ v l,r=[v]∧qY h v 1 eS l∧(l.length≤maxLen∧l.length*Tryz.prog.bytesOf 9≤reachBytes)∧Qw v∧∀ i,i<l.length→(l.getD i default).length≤maxLen :=
 AR.slice1w (e:=9) (z:=1) eS (fun s=>s.length≤maxLen) a (by kernel_rfl) (by kernel_rfl) (fun n cs q=>by
  obtain ⟨s,hs,hl⟩:=q.str1 (by kernel_rfl);exact ⟨s,hs,hl⟩)
theorem AR.gst1 {h:AH} {n:Nat} {r:List Value} (a:AR Tryz.prog h n 98 r):∃ g,r=eG g∧GstA h g:=by
 obtain ⟨n',hl,hk⟩:=a.struct1 (m:=[(0,9),(1,9),(2,9),(3,3),(4,3),(5,9),(6,4),(7,4),(8,96)]) (z:=9) rfl (by kernel_rfl) (by kernel_rfl);match r,hl with
 | [x0,x1,x2,x3,x4,x5,x6,x7,x8],_ =>
  obtain ⟨s0,e0,h0⟩:=AR.str1 (show AR Tryz.prog h n' 9 [x0] from hk (0,9) (by simp)) (by kernel_rfl);obtain ⟨s1,e1,h1⟩:=AR.str1 (show AR Tryz.prog h n' 9 [x1] from hk (1,9) (by simp)) (by kernel_rfl);obtain ⟨s2,e2,h2⟩:=AR.str1 (show AR Tryz.prog h n' 9 [x2] from hk (2,9) (by simp)) (by kernel_rfl);obtain ⟨y3,e3,h3⟩:=AR.int1 (k:=.i64) (show AR Tryz.prog h n' 3 [x3] from hk (3,3) (by simp)) (by kernel_rfl);obtain ⟨y4,e4,h4⟩:=AR.int1 (k:=.i64) (show AR Tryz.prog h n' 3 [x4] from hk (4,3) (by simp)) (by kernel_rfl);obtain ⟨s5,e5,h5⟩:=AR.str1 (show AR Tryz.prog h n' 9 [x5] from hk (5,9) (by simp)) (by kernel_rfl);obtain ⟨b6,e6⟩:=AR.bool1 (show AR Tryz.prog h n' 4 [x6] from hk (6,4) (by simp)) (by kernel_rfl);obtain ⟨b7,e7⟩:=AR.bool1 (show AR Tryz.prog h n' 4 [x7] from hk (7,4) (by simp)) (by kernel_rfl);obtain ⟨v,l,e8,g1,g2,g3,g4⟩:=AR.strs1 (show AR Tryz.prog h n' 96 [x8] from hk (8,96) (by simp));cases e0;cases e1;cases e2;cases e3;cases e4;cases e5;cases e6;cases e7
  obtain ⟨sv,rfl⟩:=g1.isSl;cases e8
  exact ⟨⟨⟨s0,s1,s2,y3,y4,s5,b6,b7,l⟩,sv⟩,rfl,g1,g3,g2.1,h0,h1,h2,h5,g4,(show Tryz.prog.bytesOf 9=16 by kernel_rfl) ▸ g2.2,qbN h3,qbN h4⟩
theorem AR.tie1 {h:AH} {n:Nat} {r:List Value} (a:AR Tryz.prog h n 137 r):∃ t:Ti,r=jY t∧0≤t.k∧t.k<256:=by
 obtain ⟨n',hl,hk⟩:=a.struct1 (m:=[(0,9),(1,9),(2,135)]) (z:=3) rfl (by kernel_rfl) (by kernel_rfl);match r,hl with
 | [x0,x1,x2],_ =>
  obtain ⟨s0,e0,-⟩:=AR.str1 (show AR Tryz.prog h n' 9 [x0] from hk (0,9) (by simp)) (by kernel_rfl);obtain ⟨s1,e1,-⟩:=AR.str1 (show AR Tryz.prog h n' 9 [x1] from hk (1,9) (by simp)) (by kernel_rfl);obtain ⟨y2,e2,h2⟩:=AR.int1 (k:=.u8) (show AR Tryz.prog h n' 135 [x2] from hk (2,135) (by simp)) (by kernel_rfl);cases e0;cases e1;cases e2
  have:0≤y2∧y2<256:=by
   simp [Lit.wf,IntKind.min,IntKind.max,IntKind.signed,IntKind.bits] at h2
   omega
  exact ⟨⟨s0,s1,y2⟩,rfl,this⟩
structure qfE (h:AH) (t:Tab):Prop where
 rd:qY h t.ov 1 eI t.opn
 name:t.name.length≤maxLen
 opn:t.opn.length≤maxLen
 w8:t.opn.length*8≤reachBytes
theorem AR.tab1 {h:AH} {n:Nat} {r:List Value} (a:AR Tryz.prog h n 95 r):∃ t,r=eT t∧qfE h t:=by
 obtain ⟨n',hl,hk⟩:=a.struct1 (m:=[(0,9),(1,93),(2,3),(3,3),(4,25),(5,3),(6,3)]) (z:=7) rfl (by kernel_rfl) (by kernel_rfl);match r,hl with
 | [x0,x1,x2,x3,x4,x5,x6],_ =>
  obtain ⟨s,e0,h0⟩:=AR.str1 (show AR Tryz.prog h n' 9 [x0] from hk (0,9) (by simp)) (by kernel_rfl);obtain ⟨y1,e1,-⟩:=AR.int1 (k:=.u8) (show AR Tryz.prog h n' 93 [x1] from hk (1,93) (by simp)) (by kernel_rfl);obtain ⟨y2,e2,-⟩:=AR.int1 (k:=.i64) (show AR Tryz.prog h n' 3 [x2] from hk (2,3) (by simp)) (by kernel_rfl);obtain ⟨y3,e3,-⟩:=AR.int1 (k:=.i64) (show AR Tryz.prog h n' 3 [x3] from hk (3,3) (by simp)) (by kernel_rfl);obtain ⟨v,l,e4,h1,h2,h3,-⟩:=AR.slice1w (e:=3) (z:=1) eI (fun _=>True) (show AR Tryz.prog h n' 25 [x4] from hk (4,25) (by simp)) (by kernel_rfl) (by kernel_rfl) (fun n cs q=>by
   obtain ⟨x,e,-⟩:=AR.int1 (k:=.i64) q (by kernel_rfl);exact ⟨x,e,trivial⟩)
  obtain ⟨y5,e5,-⟩:=AR.int1 (k:=.i64) (show AR Tryz.prog h n' 3 [x5] from hk (5,3) (by simp)) (by kernel_rfl);obtain ⟨y6,e6,-⟩:=AR.int1 (k:=.i64) (show AR Tryz.prog h n' 3 [x6] from hk (6,3) (by simp)) (by kernel_rfl);cases e0;cases e1;cases e2;cases e3;cases e5;cases e6
  obtain ⟨sv,rfl⟩:=h1.isSl;cases e4
  have w1:l.length*8≤reachBytes:=(show Tryz.prog.bytesOf 3=8 by kernel_rfl) ▸ h2.2;exact ⟨⟨s,y1,y2,y3,sv,l,y5,y6⟩,rfl,h1,h0,h2.1,w1⟩
theorem AR.ru1 {h:AH} {n:Nat} {r:List Value} (a:AR Tryz.prog h n 125 r):∃ x:Ru,r=JW x∧0≤x.k∧x.k≤255:=by
 obtain ⟨n',hl,hk⟩:=a.struct1 (m:=[(0,123),(1,3),(2,9),(3,9),(4,9),(5,3)]) (z:=6) rfl (by kernel_rfl) (by kernel_rfl);match r,hl with
 | [x0,x1,x2,x3,x4,x5],_ =>
  obtain ⟨y0,e0,h0⟩:=AR.int1 (k:=.u8) (show AR Tryz.prog h n' 123 [x0] from hk (0,123) (by simp)) (by kernel_rfl);obtain ⟨y1,e1,-⟩:=AR.int1 (k:=.i64) (show AR Tryz.prog h n' 3 [x1] from hk (1,3) (by simp)) (by kernel_rfl);obtain ⟨s2,e2,-⟩:=AR.str1 (show AR Tryz.prog h n' 9 [x2] from hk (2,9) (by simp)) (by kernel_rfl);obtain ⟨s3,e3,-⟩:=AR.str1 (show AR Tryz.prog h n' 9 [x3] from hk (3,9) (by simp)) (by kernel_rfl);obtain ⟨s4,e4,-⟩:=AR.str1 (show AR Tryz.prog h n' 9 [x4] from hk (4,9) (by simp)) (by kernel_rfl);obtain ⟨y5,e5,-⟩:=AR.int1 (k:=.i64) (show AR Tryz.prog h n' 3 [x5] from hk (5,3) (by simp)) (by kernel_rfl);cases e0;cases e1;cases e2;cases e3;cases e4;cases e5
  have:0≤y0∧y0≤255:=by
   simp [Lit.wf,IntKind.min,IntKind.max,IntKind.signed,IntKind.bits] at h0
   omega
  exact ⟨⟨y0,y1,s2,s3,s4,y5⟩,rfl,this⟩
theorem AR.int64 {h:AH} {n:Nat} {r:List Value} (a:AR Tryz.prog h n 3 r):∃ x:Int,r=[.int .i64 x]∧-9223372036854775808≤x∧x≤9223372036854775807:=by
 obtain ⟨x,e,h⟩:=a.int1 (k:=.i64) (by kernel_rfl);refine ⟨x,e,?_⟩;simp [Lit.wf,IntKind.min,IntKind.max,IntKind.signed,IntKind.bits] at h
 omega
theorem AR.intsM {h:AH} {n:Nat} {r:List Value} (a:AR Tryz.prog h n 25 r):∃ (sv:SlV) (l:List Int),r=[sv.val]∧qY h sv.val 1 eI l∧l.length≤maxLen∧Qw sv.val∧∀ x∈l,-9223372036854775808≤x∧x≤9223372036854775807:=by
 obtain ⟨v,l,e,h1,h2,h3,h4⟩:=AR.slice1w (e:=3) (z:=1) eI (fun x=>-9223372036854775808≤x∧x≤9223372036854775807) a (by kernel_rfl) (by kernel_rfl) (fun n cs q=>by
  obtain ⟨x,e,h⟩:=AR.int64 q;exact ⟨x,e,h⟩)
 obtain ⟨sv,rfl⟩:=h1.isSl;refine ⟨sv,l,e,h1,h2.1,h3,fun x hx=>?_⟩;obtain ⟨j,hj,rfl⟩:=qK.1 hx;exact h4 j hj
theorem AR.prob1 {h:AH} {n:Nat} {r:List Value} (a:AR Tryz.prog h n 28 r):∃ (v:PbV) (p:Pb),r=v.cs∧PbZ h v p:=by
 obtain ⟨n',hl,hk⟩:=a.struct1 (m:=[(0,22),(1,23),(2,24),(3,25),(4,26)]) (z:=5) rfl (by kernel_rfl) (by kernel_rfl);match r,hl with
 | [x0,x1,x2,x3,x4],_ =>
  obtain ⟨v0,tabs,e0,a1,a2,a3,a4⟩:=AR.slice1w (e:=95) (z:=7) eT (qfE h) (show AR Tryz.prog h n' 22 [x0] from hk (0,22) (by simp)) (by kernel_rfl) (by kernel_rfl) (fun n cs q=>q.tab1);obtain ⟨v1,gs,e1,g1,g2,g3,g4⟩:=AR.slice1w (e:=98) (z:=9) eG (fun g=>GstA h g) (show AR Tryz.prog h n' 23 [x1] from hk (1,23) (by simp)) (by kernel_rfl) (by kernel_rfl) (fun n cs q=>q.gst1);obtain ⟨v2,ts,e2,t1,t2,t3,t4⟩:=AR.slice1w (e:=137) (z:=3) jY (fun t=>0≤t.k∧t.k<256) (show AR Tryz.prog h n' 24 [x2] from hk (2,24) (by simp)) (by kernel_rfl) (by kernel_rfl) (fun n cs q=>q.tie1);obtain ⟨sc,cl,e3,c1,c2,c3,c4⟩:=AR.intsM (show AR Tryz.prog h n' 25 [x3] from hk (3,25) (by simp));obtain ⟨v4,ru,e4,r1,r2,r3,r4⟩:=AR.slice1w (e:=125) (z:=6) JW (fun x=>0≤x.k∧x.k≤255) (show AR Tryz.prog h n' 26 [x4] from hk (4,26) (by simp)) (by kernel_rfl) (by kernel_rfl) (fun n cs q=>q.ru1);obtain ⟨st,rfl⟩:=a1.isSl;obtain ⟨sg,rfl⟩:=g1.isSl;obtain ⟨si,rfl⟩:=t1.isSl;obtain ⟨sr,rfl⟩:=r1.isSl;cases e0;cases e1;cases e2;cases e3;cases e4
  have m1:=g2.1;have m2:=t2.1;have m3:=a2.1;have m5:=r2.1;have e:reachBytes=140737488351232:=rfl;unfold maxLen at m1 m2 m3 m5 c2;refine ⟨⟨st,sg,si,sc,sr,gs⟩,⟨tabs,gs.map (·.toGu),ts,cl,ru⟩,rfl,a1,fun i hi=>⟨(a4 i hi).rd,?_,?_⟩,a3,fun i hi=>?_,⟨g1,t1,fun i hi=>(g4 i hi).r,rfl,by rw [zC5];omega,by show ts.length≤_;omega⟩,g3,fun i hi=>?_,c1,r1,fun x hx=>?_,by show tabs.length≤_;omega,by show cl.length≤_;omega,by show ru.length≤_;omega⟩
  ·have:=(a4 i hi).name;unfold maxLen at this;show (tabs.getD i default).name.length≤_;omega
  ·have:=(a4 i hi).opn;unfold maxLen at this;show (tabs.getD i default).opn.length≤_;omega
  ·have:=(a4 i hi).w8;rw [e] at this;exact this
  ·have:=(g4 i hi).wt;rw [e] at this;show (gs.getD i default).tg.length≤_;omega
  ·obtain ⟨j,hj,rfl⟩:=qK.1 hx;exact r4 j hj
end Go.Proofs.Xx
namespace Go.Proofs.Xx
def jI:List Int→Nat
 | []=>0
 | x :: l=>(if x∈l then 0 else 1)+jI l
theorem yY {l m:List Int} (h:l.Perm m):jI l=jI m:=by
 induction h with
 | nil=>rfl
 | cons x p ih=>rw [jI,jI,ih];simp only [p.mem_iff]
 | swap x y l =>
  simp only [jI,zE8];by_cases e:x=y
  ·subst e;rfl
  ·have e':¬ y=x:=fun q=>e q.symm;simp only [e,e',false_or];omega
 | trans _ _ h1 h2=>exact h1.trans h2
theorem xh {o m:Int} (h:o≠m):∀ l:List Int,jI (l.map fun z=>if z=o then m else z)+(if o∈l∧m∈l then 1 else 0)=jI l
 | []=>by simp [jI]
 | x :: l=>by
  have ih:=xh h l;have hm:∀ z,z∈(l.map fun z=>if z=o then m else z)↔(z=m∧(o∈l∨m∈l))∨(z≠m∧z≠o∧z∈l):=fun z=>by
   rw [zF1];constructor
   ·rintro ⟨y,hy,rfl⟩;split
    ·rename_i e;subst e;exact .inl ⟨rfl,.inl hy⟩
    ·rename_i e
     by_cases q:y=m
     ·subst q;exact .inl ⟨rfl,.inr hy⟩
     ·exact .inr ⟨q,e,hy⟩
   ·rintro (⟨rfl,q|q⟩|⟨q1,q2,q3⟩)
    ·exact ⟨o,q,by simp⟩
    ·exact ⟨z,q,by rw [if_neg (fun e=>h e.symm)]⟩
    ·exact ⟨z,q3,by rw [if_neg q2]⟩
  rw [List.map_cons,jI,jI];simp only [hm,zE8];by_cases e1:x=o
  ·subst e1;rw [if_pos rfl];by_cases a:x∈l<;>by_cases b:m∈l<;>simp [a,b,h,Ne.symm h] at ih ⊢<;>omega
  ·rw [if_neg e1];by_cases e2:x=m
   ·subst e2;by_cases a:o∈l<;>by_cases b:x∈l<;>simp [a,b,h,Ne.symm h] at ih ⊢<;>omega
   ·by_cases c:x∈l<;>by_cases a:o∈l<;>by_cases b:m∈l<;>simp [a,b,c,e1,e2,Ne.symm e1,Ne.symm e2] at ih ⊢<;>omega
theorem yX {c:Int}:∀ {l:List Int},l≠[]→(∀ x∈l,x=c)→jI l=1
 | [],h,_=>absurd rfl h
 | x :: l,_,h=>by
  rw [jI];by_cases e:l=[]
  ·subst e;simp [jI]
  ·have:=yX e fun y hy=>h y (List.mem_cons_of_mem _ hy);have hx:x∈l:=by
    obtain ⟨y,hy⟩:=List.exists_mem_of_ne_nil l e;rw [h x (by simp),← h y (List.mem_cons_of_mem _ hy)];exact hy
   rw [if_pos hx];omega
def QO (f:Nat→Int):Nat→Int
 | 0=>0
 | k+1=>QO f k+f k
theorem J9 {f g:Nat→Int}:∀ {k:Nat},(∀ j,j<k→f j=g j)→QO f k=QO g k
 | 0,_=>rfl
 | k+1,h=>by rw [QO,QO,J9 fun j hj=>h j (by omega),h k (by omega)]
theorem V5 {f g:Nat→Int} {w:Int} (hw:0≤w):∀ {k:Nat},(∀ j:Nat,j<k→f j=g j+if (j:Int)<w then 1 else 0)→QO f k=QO g k+min w k
 | 0,_=>by simp only [QO];omega
 | k+1,h=>by
  rw [QO,QO,V5 hw fun j hj=>h j (by omega),h k (by omega)];split<;>omega
def Cmp (d:Int→Int→Int) (V:List Int) (k:Int) (G:Int→Int):Prop :=
 (∀ x∈V,∀ y∈V,d x y≤k→G x=G y)∧∀ S:Int→Prop,(∀ x∈V,∀ y∈V,S x→d x y≤k→S y)→∀ x∈V,∀ y∈V,S x→G x=G y→S y
theorem Prim.sum {d:Int→Int→Int} (m:Met d) {V:List Int} {Gs:Nat→Int→Int} {K:Nat} (hG:∀ k,k<K→Cmp d V k (Gs k)) (hK:∀ x∈V,∀ y∈V,d x y≤K) {J L:List Int} {c:Int} (h:Prim d J L c):(∀ x,x∈V↔x∈L∨x∈J)→L.Nodup→(∀ x∈L,x ∉ J) →
 c+QO (fun k=>jI (J.map (Gs k))) K=QO (fun k=>jI ((L ++ J).map (Gs k))) K:=by
 induction h with
 | nil=>intro _ _ _;simp only [zC0];omega
 | @step J L c v u hv hu hm h ih =>
  intro hV nd hnd;have e1:=ih (fun x=>by
   rw [hV x];by_cases q:x=v
   ·subst q;simp [hv]
   ·rw [List.mem_erase_of_ne q,zE8];simp [q]) (nd.erase v) (fun x hx z=>by
   have h1:=(nd.mem_erase_iff).1 hx;rcases zE8.1 z with r|r
   ·exact h1.1 r
   ·exact hnd x h1.2 r)
  have e2:QO (fun k=>(jI ((L.erase v ++ v :: J).map (Gs k)):Int)) K=QO (fun k=>jI ((L ++ J).map (Gs k))) K:=J9 fun k _=>by
   have p:(L.erase v ++ v :: J).Perm (L ++ J):=List.perm_middle.trans (by rw [← zC6];exact ((List.perm_cons_erase hv).symm).append_right J);rw [yY (p.map (Gs k))]
  have hvV:=(hV v).2 (.inl hv);have huV:=(hV u).2 (.inr hu);have e3:=V5 (f:=fun k=>(jI ((v :: J).map (Gs k)):Int)) (g:=fun k=>(jI (J.map (Gs k)):Int)) (m.nn v u) (k:=K) fun k hk=>by
   obtain ⟨g1,g2⟩:=hG k hk;show (jI ((v :: J).map (Gs k)):Int)=_
   rw [List.map_cons,jI];by_cases q:(k:Int)<d v u
   ·rw [if_pos q,if_neg]
    ·push_cast;omega
    ·intro z;obtain ⟨y,hy,e⟩:=zF1.1 z;refine hnd v hv (g2 (fun x=>x∈J) (fun x hx y hy s r=>?_) y ((hV y).2 (.inr hy)) v hvV hy e);rcases (hV y).1 hy with t|t
     ·have:=hm y t x s;rw [m.sym y x] at this;omega
     ·exact t
   ·rw [if_neg q,if_pos (zF1.2 ⟨u,hu,(g1 v hvV u huV (by omega)).symm⟩)];omega
  have hle:=hK v hvV u huV;omega
structure Kr (d:Int→Int→Int) (V:List Int) (k:Nat) (P:Int→Int→Prop) (Gs:Nat→Int→Int) (G:Int→Int) (n:Int):Prop where
 old:∀ j,j<k→Cmp d V j (Gs j)
 lt:∀ x∈V,∀ y∈V,(d x y<k∨(d x y=k∧P x y))→G x=G y
 cl:∀ S:Int→Prop,(∀ x∈V,∀ y∈V,S x→d x y≤k→S y)→∀ x∈V,∀ y∈V,S x→G x=G y→S y
 sum:n+k*(jI (V.map G):Int)=QO (fun j=>jI (V.map (Gs j))) k
theorem Kr.start {d:Int→Int→Int} (m:Met d) {V:List Int} {Gs:Nat→Int→Int} {G:Int→Int} (hG:∀ x∈V,∀ y∈V,G x=G y→x=y):Kr d V 0 (fun _ _=>False) Gs G 0 :=
 ⟨fun j hj=>absurd hj (zB7 _),fun x _ y _ h=>h.elim (fun h=>by have:=m.nn x y;omega) (fun h=>h.2.elim),fun S _ x hx y hy s e=>hG x hx y hy e ▸ s,by simp [QO]⟩
theorem Kr.skip {d:Int→Int→Int} {V:List Int} {k:Nat} {P Q:Int→Int→Prop} {Gs:Nat→Int→Int} {G:Int→Int} {n:Int} (K:Kr d V k P Gs G n) (h:∀ x∈V,∀ y∈V,d x y=k→Q x y→P x y∨G x=G y):Kr d V k Q Gs G n :=
 ⟨K.old,fun x hx y hy r=>by
  rcases r with r|⟨r,q⟩
  ·exact K.lt x hx y hy (.inl r)
  ·rcases h x hx y hy r q with t|t
   ·exact K.lt x hx y hy (.inr ⟨r,t⟩)
   ·exact t,K.cl,K.sum⟩
theorem Kr.join {d:Int→Int→Int} (m:Met d) {V:List Int} {k:Nat} {P:Int→Int→Prop} {Gs:Nat→Int→Int} {G:Int→Int} {n:Int} (K:Kr d V k P Gs G n) {a b:Int} (ha:a∈V) (hb:b∈V) (hk:d a b=k) (hne:G a≠G b) :
 Kr d V k (fun x y=>P x y∨(x=a∧y=b)∨(x=b∧y=a)) Gs (fun x=>if G x=G a then G b else G x) (n+k):=by
 refine ⟨K.old,fun x hx y hy r=>?_,fun S hS x hx y hy s e=>?_,?_⟩
 ·have same:G x=G y→(if G x=G a then G b else G x)=(if G y=G a then G b else G y):=fun q=>by rw [q]
  rcases r with r|⟨r,q|⟨rfl,rfl⟩|⟨rfl,rfl⟩⟩
  ·exact same (K.lt x hx y hy (.inl r))
  ·exact same (K.lt x hx y hy (.inr ⟨r,q⟩))
  ·show (if _ then _ else _)=(if _ then _ else _)
   rw [if_pos rfl,if_neg (Ne.symm hne)]
  ·show (if _ then _ else _)=(if _ then _ else _)
   rw [if_pos rfl,if_neg (Ne.symm hne)]
 ·have h1:S a→S b:=fun s=>hS a ha b hb s (by omega);have h2:S b→S a:=fun s=>hS b hb a ha s (by rw [m.sym];omega);replace e:(if G x=G a then G b else G x)=(if G y=G a then G b else G y):=e;by_cases p:G x=G a<;>by_cases q:G y=G a
  ·exact K.cl S hS x hx y hy s (p.trans q.symm)
  ·rw [if_pos p,if_neg q] at e;exact K.cl S hS b hb y hy (h1 (K.cl S hS x hx a ha s p)) e
  ·rw [if_neg p,if_pos q] at e;exact K.cl S hS a ha y hy (h2 (K.cl S hS x hx b hb s e)) q.symm
  ·rw [if_neg p,if_neg q] at e;exact K.cl S hS x hx y hy s e
 ·have h:=xh hne (V.map G);rw [if_pos ⟨zF1.2 ⟨a,ha,rfl⟩,zF1.2 ⟨b,hb,rfl⟩⟩,List.map_map] at h;have e:((fun z=>if z=G a then G b else z) ∘ G)=fun x=>if G x=G a then G b else G x:=rfl
  rw [e] at h;rw [← K.sum,← h];push_cast
  rw [Int.mul_add];omega
theorem Kr.next {d:Int→Int→Int} {V:List Int} {k:Nat} {P:Int→Int→Prop} {Gs:Nat→Int→Int} {G:Int→Int} {n:Int} (K:Kr d V k P Gs G n) (h:∀ x∈V,∀ y∈V,d x y=k→P x y∨G x=G y):∃ Gs',Kr d V (k+1) (fun _ _=>False) Gs' G n:=by
 have hlt:∀ x∈V,∀ y∈V,d x y≤k→G x=G y:=fun x hx y hy r=>by
  rcases Int.lt_or_le (d x y) k with q|q
  ·exact K.lt x hx y hy (.inl q)
  ·have e:d x y=k:=by omega
   rcases h x hx y hy e with t|t
   ·exact K.lt x hx y hy (.inr ⟨e,t⟩)
   ·exact t
 refine ⟨fun j=>if j=k then G else Gs j,fun j hj=>?_,fun x hx y hy r=>?_,fun S hS=>K.cl S fun x hx y hy s r=>hS x hx y hy s (by push_cast;omega),?_⟩
 ·show Cmp d V j (if j=k then G else Gs j)
  split
  ·rename_i e;subst e;exact ⟨hlt,K.cl⟩
  ·exact K.old j (by omega)
 ·rcases r with r|⟨-,q⟩
  ·exact hlt x hx y hy (by push_cast at r;omega)
  ·exact q.elim
 ·rw [QO,if_pos rfl,← J9 (f:=fun j=>(jI (V.map (Gs j)):Int)) (fun j hj=>by rw [if_neg (by omega)]),← K.sum];push_cast
  rw [Int.add_mul];omega
theorem Kr.prim {d:Int→Int→Int} (m:Met d) {V L:List Int} {a:Int} {k:Nat} {Gs:Nat→Int→Int} {G:Int→Int} {n c:Int} (K:Kr d V k (fun _ _=>False) Gs G n) (hV:V=a :: L) (nd:V.Nodup) (hk:∀ x∈V,∀ y∈V,d x y<k) (h:Prim d [a] L c):n=c:=by
 subst hV;have hnd:=List.nodup_cons.1 nd;have e:=h.sum m (V:=a :: L) (K:=k) K.old (fun x hx y hy=>by have:=hk x hx y hy;omega) (fun x=>by simp [or_comm]) hnd.2 (fun x hx q=>by rw [zB5.1 q] at hx;exact hnd.1 hx);have e1:QO (fun j=>(jI ([a].map (Gs j)):Int)) k=k:=by
  have:∀ k:Nat,QO (fun j=>(jI ([a].map (Gs j)):Int)) k=k:=fun k=>by
   induction k with
   | zero=>rfl
   | succ k ih=>rw [QO,ih];simp [jI]
  exact this k
 have e2:QO (fun j=>(jI ((L ++ [a]).map (Gs j)):Int)) k=QO (fun j=>jI ((a :: L).map (Gs j))) k:=J9 fun j _=>by
  rw [yY ((List.perm_append_singleton a L).map (Gs j))]
 have e3:jI ((a :: L).map G)=1:=yX (c:=G a) (by simp) fun x hx=>by
  obtain ⟨y,hy,rfl⟩:=zF1.1 hx;exact K.lt y hy a (by simp) (.inl (hk y hy a (by simp)))
 have e4:=K.sum;rw [e3] at e4;omega
end Go.Proofs.Xx
namespace Go.Proofs.Xx
def VD (stops way:List Int):List (List Int):=stops.flatMap fun t=>if t∈way then [] else [way ++ [t]]
def Qs (stops:List Int):Nat→List (List Int)
 | 0=>[[]]
 | n+1=>(Qs stops n).flatMap (VD stops)
theorem qbz {stops way:List Int} {k:Nat}:(VD stops way).flatMap (jR stops k)=jR stops (k+1) way:=by
 unfold VD;rw [jR,List.flatMap_assoc];congr 1
 funext t
 split
 ·rfl
 ·simp
theorem PD {stops:List Int}:∀ (n k:Nat),(Qs stops n).flatMap (jR stops k)=jR stops (n+k) []
 | 0,k=>by simp [Qs]
 | n+1,k=>by
  rw [Qs,List.flatMap_assoc];have:(fun way=>(VD stops way).flatMap (jR stops k))=jR stops (k+1):=by funext way;exact qbz
  rw [this,PD n (k+1),show n+1+k=n+(k+1) by omega]
theorem qbH {stops:List Int} {n:Nat}:Qs stops n=jR stops n []:=by
 have h:=PD (stops:=stops) n 0;have e:jR stops 0=fun done=>[done]:=by funext d;rfl
 rw [e] at h;simpa using h
def Jk (L:List Int→Int) (b:List Int) (l:List (List Int)):List Int:=l.foldl (fun b c=>if L c<L b then c else b) b
theorem gJ {L:List Int→Int} (hL:∀ c,0≤L c):∀ (l:List (List Int)) (b:List Int),l.foldl (Qr L) (b,L b)=(Jk L b l,L (Jk L b l))
 | [],b=>rfl
 | c :: l,b=>by
  have hb:=hL b;have e:Qr L (b,L b) c=(if L c<L b then c else b,L (if L c<L b then c else b)):=by
   unfold Qr;by_cases q:L c<L b
   ·rw [if_pos (.inr q),if_pos q]
   ·rw [if_neg (by simp only;omega),if_neg q]
  rw [List.foldl_cons,e,gJ hL l];rfl
theorem qbk {L:List Int→Int} (hL:∀ c,0≤L c) (c:List Int) (l:List (List Int)):(c :: l).foldl (Qr L) ([],-1)=(Jk L c (c :: l),L (Jk L c (c :: l))):=by
 have e1:Qr L ([],-1) c=(c,L c):=by unfold Qr;rw [if_pos (.inl (by decide))]
 have e2:Jk L c (c :: l)=Jk L c l:=by unfold Jk;rw [List.foldl_cons,if_neg (Int.lt_irrefl _)]
 rw [List.foldl_cons,e1,gJ hL,e2]
def qfK (cls:Int→Int) (st:List Int) (n:Nat):List Int:=(List.range n).flatMap fun c:Nat=>st.filter fun t=>decide (cls t=(c:Int))
end Go.Proofs.Xx
namespace Go.Proofs.Xx
theorem yt {l:List Int} {i:Nat} (hi:i<l.length):l.take (i+1)=l.take i ++ [l.getD i default]:=by
 rw [List.take_add_one,zA4 hi,zA2,zA4 hi];rfl
def Yb (d:Int→Int→Int) (l:List Int):Nat→Int
 | 0=>0
 | 1=>0
 | i+2=>Yb d l (i+1)+d (l.getD i default) (l.getD (i+1) default)
theorem gU {d:Int→Int→Int} {l:List Int} (a b:Int):∀ i,i+1≤l.length→jq d a (l.take (i+1)) b=d a (l.getD 0 default)+Yb d l (i+1)+d (l.getD i default) b
 | 0,h=>by
  cases l with
  | nil=>simp at h
  | cons x l=>simp [jq,Yb]
 | i+1,h=>by
  have ih:=gU (d:=d) (l:=l) a (l.getD (i+1) default) i (by omega);rw [yt (show i+1<l.length by omega),QI,ih,Yb];simp only [jq];omega
theorem qaT {d:Int→Int→Int} {l:List Int} (h:0<l.length):tour d l=d (-1) (l.getD 0 default)+Yb d l l.length+d (l.getD (l.length - 1) default) (-1):=by
 have:=gU (d:=d) (l:=l) (-1) (-1) (l.length - 1) (by omega);rw [show l.length - 1+1=l.length by omega,zF8 (zA3 _)] at this;exact this
theorem qba {d:Int→Int→Int} {l:List Int} {M:Int} (h0:0≤M) (h:∀ i j,i<l.length→j<l.length→0≤d (l.getD i default) (l.getD j default)∧d (l.getD i default) (l.getD j default)≤M):∀ i,i≤l.length→0≤Yb d l i∧Yb d l i≤M*i
 | 0,_=>by simp [Yb]
 | 1,_=>by simp only [Yb];omega
 | i+2,hi=>by
  have ih:=qba h0 h (i+1) (by omega);have:=h i (i+1) (by omega) (by omega);rw [Yb];have e:M*((i+2:Nat):Int)=M*((i+1:Nat):Int)+M:=by rw [show ((i+2:Nat):Int)=((i+1:Nat):Int)+1 by omega,Int.mul_add,Int.mul_one]
  omega
theorem qea {stops:List Int} {n:Nat}:Qs stops (n+1)=(Qs stops n).flatMap (VD stops):=rfl
theorem Yi {stops way:List Int}:(VD stops way).length≤stops.length∧∀ c∈VD stops way,c.length=way.length+1∧∀ t∈c,t∈way∨t∈stops:=by
 have key:∀ l:List Int,(l.flatMap fun t=>if t∈way then [] else [way ++ [t]]).length≤l.length∧∀ c∈(l.flatMap fun t=>if t∈way then [] else [way ++ [t]]),c.length=way.length+1∧∀ t∈c,t∈way∨t∈l:=by
  intro l;induction l with
  | nil=>exact ⟨zA3 _,fun c hc=>by simp at hc⟩
  | cons x l ih =>
   rw [zG2];by_cases e:x∈way
   ·rw [if_pos e,zC0];exact ⟨zD0 ih.1 (by simp),fun c hc=>⟨(ih.2 c hc).1,fun t ht=>((ih.2 c hc).2 t ht).imp id fun q=>List.mem_cons_of_mem _ q⟩⟩
   ·rw [if_neg e];refine ⟨by have:=ih.1;simp only [zB2,zC4,List.length_nil];omega,fun c hc=>?_⟩;rcases zB8.1 hc with q|q
    ·rw [zB5.1 q];refine ⟨by simp,fun t ht=>?_⟩;rcases zB8.1 ht with r|r
     ·exact .inl r
     ·rw [zB5.1 r];exact .inr (by simp)
    ·exact ⟨(ih.2 c q).1,fun t ht=>((ih.2 c q).2 t ht).imp id fun r=>List.mem_cons_of_mem _ r⟩
 exact key stops
theorem JS {α β:Type} {f:α→List β} {M:Nat}:∀ {l:List α},(∀ x∈l,(f x).length≤M)→(l.flatMap f).length≤M*l.length
 | [],_=>by simp
 | x :: l,h=>by
  rw [zG2,zB2,zC4,Nat.mul_add,Nat.mul_one];have:=h x (by simp);have:=JS (f:=f) (M:=M) (l:=l) fun y hy=>h y (List.mem_cons_of_mem _ hy);omega
theorem ZW {stops:List Int} {M:Nat} (hM:stops.length≤M):∀ n,(Qs stops n).length≤M ^ n∧∀ c∈Qs stops n,c.length=n∧∀ t∈c,t∈stops
 | 0=>by simp [Qs]
 | n+1=>by
  have ih:=ZW hM n;rw [qea];refine ⟨zD0 (JS (M:=M) fun x _=>zD0 Yi.1 hM) ?_,fun c hc=>?_⟩
  ·rw [Nat.pow_succ,Nat.mul_comm];exact zD3 _ ih.1
  ·obtain ⟨x,hx,hc⟩:=zG9.1 hc;have h1:=Yi.2 c hc;have h2:=ih.2 x hx;exact ⟨by omega,fun t ht=>(h1.2 t ht).elim (fun q=>h2.2 t q) id⟩
def Yl (stops:List Int) (L:List (List Int)) (i k:Nat):List (List Int):=(L.take i).flatMap (VD stops) ++ (stops.take k).flatMap fun t=>if t∈L.getD i default then [] else [L.getD i default ++ [t]]
theorem qeb {stops:List Int} {L:List (List Int)} {i k:Nat} (hk:k<stops.length):Yl stops L i (k+1)=Yl stops L i k ++ (if stops.getD k default∈L.getD i default then [] else [L.getD i default ++ [stops.getD k default]]):=by
 unfold Yl;rw [yt hk,List.flatMap_append,← zF2];simp
theorem qec {stops:List Int} {L:List (List Int)} {i:Nat} (hi:i<L.length):Yl stops L i stops.length=Yl stops L (i+1) 0:=by
 unfold Yl;rw [zF8 (zA3 _),List.take_add_one,zA4 hi,List.flatMap_append];simp only [Option.toList_some,List.take_zero,List.flatMap_nil,zD7,zG2];unfold VD;rw [zA2,zA4 hi];rfl
theorem lvlI_0 {stops:List Int} {L:List (List Int)}:Yl stops L 0 0=[]:=by simp [Yl]
theorem qbI {stops:List Int} {L:List (List Int)}:Yl stops L L.length 0=L.flatMap (VD stops):=by
 unfold Yl;rw [zF8 (zA3 _)];simp
theorem XI {stops:List Int} {L:List (List Int)} {i k:Nat} (hi:i<L.length) (hk:k≤stops.length):(Yl stops L i k).length≤stops.length*L.length:=by
 unfold Yl;rw [zB2];have h1:=JS (f:=VD stops) (M:=stops.length) (l:=L.take i) fun x _=>Yi.1;have h2:=(Yi (stops:=stops.take k) (way:=L.getD i default)).1;unfold VD at h2;rw [zA9,zE5 (by omega)] at h1 h2;have h3:stops.length*(i+1)≤stops.length*L.length:=Nat.mul_le_mul_left _ (by omega);rw [Nat.mul_add,Nat.mul_one] at h3;omega
theorem PM:∀ l:List Int,jI l≤l.length
 | []=>zA3 _
 | x :: l=>by
  have:=PM l;rw [jI,zC4];split<;>omega
theorem Pv {f:Nat→Int} {M:Int}:∀ {k:Nat},(∀ j,j<k→f j≤M)→QO f k≤M*k
 | 0,_=>by simp [QO]
 | k+1,h=>by
  have h1:=Pv (k:=k) fun j hj=>h j (by omega);have h2:=h k (by omega);rw [QO];have e:M*((k+1:Nat):Int)=M*(k:Int)+M:=by rw [show ((k+1:Nat):Int)=(k:Int)+1 by omega,Int.mul_add,Int.mul_one]
  omega
theorem Kr.bound {d:Int→Int→Int} {V:List Int} {k:Nat} {P:Int→Int→Prop} {Gs:Nat→Int→Int} {G:Int→Int} {n:Int} (K:Kr d V k P Gs G n):n≤V.length*k:=by
 have h1:=Pv (f:=fun j=>jI (V.map (Gs j))) (M:=V.length) (k:=k) fun j hj=>by
  have:=PM (V.map (Gs j));rw [zC5] at this;omega
 have h2:(0:Int)≤k*(jI (V.map G):Int):=Int.mul_nonneg (by omega) (by omega);have:=K.sum;omega
theorem Kr.congr {d:Int→Int→Int} {V:List Int} {k:Nat} {P:Int→Int→Prop} {Gs:Nat→Int→Int} {G H:Int→Int} {n:Int} (K:Kr d V k P Gs G n) (h:∀ x∈V,G x=H x):Kr d V k P Gs H n :=
 ⟨K.old,fun x hx y hy q=>by rw [← h x hx,← h y hy];exact K.lt x hx y hy q,fun S hS x hx y hy s e=>K.cl S hS x hx y hy s (by rw [h x hx,h y hy];exact e),by rw [← List.map_congr_left h];exact K.sum⟩
def ndx (V:List Int) (x:Int):Nat:=V.findIdx fun y=>decide (y=x)
theorem qd8 {V:List Int} (nd:V.Nodup) {i:Nat} (hi:i<V.length):ndx V (V.getD i default)=i:=by
 unfold ndx;rw [List.findIdx_eq hi];rw [zA2,zA4 hi];refine ⟨by simp,fun j hj=>?_⟩;simp only [zH5,decide_eq_false_iff_not];intro e;exact (zD2.1 nd) j i (by omega) hi hj e
def VF (V grp:List Int) (x:Int):Int:=grp.getD (ndx V x) default
theorem QE {V grp:List Int} (nd:V.Nodup) {i:Nat} (hi:i<V.length):VF V grp (V.getD i default)=grp.getD i default:=by unfold VF;rw [qd8 nd hi]
def Xz (V:List Int) (a b:Nat) (x y:Int):Prop:=∃ i j,j<i∧i<V.length∧(i<a∨(i=a∧j<b))∧((x=V.getD i default∧y=V.getD j default)∨(x=V.getD j default∧y=V.getD i default))
theorem Kr.step0 {d:Int→Int→Int} (m:Met d) {V grp:List Int} (nd:V.Nodup) {k a b:Nat} {Gs:Nat→Int→Int} {n:Int} (ha:a<V.length) (hb:b<a) (K:Kr d V k (Xz V a b) Gs (VF V grp) n) (h:grp.getD a default=grp.getD b default∨d (V.getD a default) (V.getD b default)≠k):Kr d V k (Xz V a (b+1)) Gs (VF V grp) n:=by
 refine K.skip fun x hx y hy hd q=>?_;obtain ⟨i,j,h1,h2,h3,h4⟩:=q;by_cases e:i=a∧j=b
 ·obtain ⟨rfl,rfl⟩:=e;have hdd:d (V.getD i default) (V.getD j default)=k:=by
   rcases h4 with ⟨rfl,rfl⟩|⟨rfl,rfl⟩
   ·exact hd
   ·rw [m.sym];exact hd
  have hg:=h.resolve_right fun q=>q hdd;rcases h4 with ⟨rfl,rfl⟩|⟨rfl,rfl⟩
  ·exact .inr (by rw [QE nd h2,QE nd (by omega)];exact hg)
  ·exact .inr (by rw [QE nd h2,QE nd (by omega)];exact hg.symm)
 ·exact .inl ⟨i,j,h1,h2,by omega,h4⟩
theorem Kr.step1 {d:Int→Int→Int} (m:Met d) {V grp grp':List Int} (nd:V.Nodup) {k a b:Nat} {Gs:Nat→Int→Int} {n:Int} (ha:a<V.length) (hb:b<a) (K:Kr d V k (Xz V a b) Gs (VF V grp) n) (h:grp.getD a default≠grp.getD b default) (hd:d (V.getD a default) (V.getD b default)=k)
 (hg:∀ i,i<V.length→grp'.getD i default=if grp.getD i default=grp.getD a default then grp.getD b default else grp.getD i default):Kr d V k (Xz V a (b+1)) Gs (VF V grp') (n+k):=by
 have ea:=QE (grp:=grp) nd ha;have eb:=QE (grp:=grp) nd (show b<V.length by omega);have K2:=K.join m (qI ha) (qI (show b<V.length by omega)) hd (by rw [ea,eb];exact h);rw [ea,eb] at K2;have K3:=K2.congr (H:=VF V grp') fun x hx=>by
  obtain ⟨i,hi,rfl⟩:=qK.1 hx;rw [QE nd hi,QE nd hi,hg i hi]
 refine K3.skip fun x hx y hy hd q=>.inl ?_;obtain ⟨i,j,h1,h2,h3,h4⟩:=q;by_cases e:i=a∧j=b
 ·obtain ⟨rfl,rfl⟩:=e;exact .inr h4
 ·exact .inl ⟨i,j,h1,h2,by omega,h4⟩
theorem Kr.row {d:Int→Int→Int} {V:List Int} {k a:Nat} {Gs:Nat→Int→Int} {G:Int→Int} {n:Int} (K:Kr d V k (Xz V a a) Gs G n):Kr d V k (Xz V (a+1) 0) Gs G n :=
 K.skip fun x hx y hy hd ⟨i,j,h1,h2,h3,h4⟩=>.inl ⟨i,j,h1,h2,by omega,h4⟩
theorem Kr.row0 {d:Int→Int→Int} {V:List Int} {k:Nat} {Gs:Nat→Int→Int} {G:Int→Int} {n:Int} (K:Kr d V k (fun _ _=>False) Gs G n):Kr d V k (Xz V 0 0) Gs G n :=
 K.skip fun x hx y hy hd ⟨i,j,h1,h2,h3,h4⟩=>by omega
theorem Kr.rows {d:Int→Int→Int} {V:List Int} {k:Nat} {Gs:Nat→Int→Int} {G:Int→Int} {n:Int} (K:Kr d V k (Xz V V.length 0) Gs G n):∃ Gs',Kr d V (k+1) (fun _ _=>False) Gs' G n :=
 K.next fun x hx y hy hd=>by
  obtain ⟨i,hi,rfl⟩:=qK.1 hx;obtain ⟨j,hj,rfl⟩:=qK.1 hy;rcases zE7 i j with r|r|r
  ·exact .inl ⟨j,i,r,hj,.inl hj,.inr ⟨rfl,rfl⟩⟩
  ·subst r;exact .inr rfl
  ·exact .inl ⟨i,j,r,hi,.inl hi,.inl ⟨rfl,rfl⟩⟩
variable [Flag]
theorem yF {h0:AH} (w:WfH h0) (a b:Int) (ha : -4611686018427387904≤a∧a≤4611686018427387903) (hb : -4611686018427387904≤b∧b≤4611686018427387903):Fn Tryz.prog Xh 85 [.int .i64 a,.int .i64 b] h0 (fun v h'=>v = .int .i64 (max (a - b) (b - a))∧Hs h0 h' []):=by
 have S:=Hs.start w;refine qJ (by first|rfl) Tryz.func85 rfl rfl ?_;all_goals (repeat' (first|refine qg ?_|refine qh rfl ?_|refine qi ?_|(refine qc 0 ?_;refine mv ?_;refine qf ?_)|(refine qc 1 ?_;refine mv ?_;refine mv ?_;(first|(refine cS ?_ ?_<;>intro hc))<;>(refine qf ?_))|(refine qc 2 ?_;refine mv ?_;refine mv ?_;refine sb ?_;refine mv ?_;refine qf ?_)|(refine qc 3 ?_;refine mv ?_;refine mv ?_;refine sb ?_;refine mv ?_;refine qf ?_)))
 ·refine qj ⟨_,rfl,?_⟩;exact ⟨by show Value.int .i64 _=Value.int .i64 _;congr 1;omega,S⟩
 ·refine qj ⟨_,rfl,?_⟩;exact ⟨by show Value.int .i64 _=Value.int .i64 _;congr 1;omega,S⟩
theorem qcM {h0:AH} (w:WfH h0) (v:Value) (l:List Int) (hr:qY h0 v 1 eI l) (hl:l.length≤9223372036854775807) (x:Int):Fn Tryz.prog Xh 125 [v,.int .i64 x] h0 (fun u h'=>qL u (x∈l)∧Hs h0 h' []):=by
 have S:=Hs.start w;refine qJ (by first|rfl) Tryz.func125 rfl rfl ?_;all_goals (repeat' (first|refine qg ?_|refine qo ?_|(refine qc 0 ?_;refine mv ?_;refine qf ?_)|(refine qc 1 ?_;refine mv ?_;refine qf ?_)))
 refine qH (σ:=Nat) (fun i h'=>Hs h0 h' []∧i≤l.length∧∀ j,j<i→l.getD j default≠x) (fun i=>l.length - i) (fun i=>[(0,v),(1,.int .i64 x),(5,.int .i64 i)]) 0 qy ?_ ?_
 ·exact ⟨S,zB0 _,fun j hj=>absurd hj (zB7 _)⟩
 clear S;rintro i h ⟨S,g1,g2⟩;all_goals (repeat' (first|refine qg ?_|refine qh rfl ?_|refine qi ?_|refine qB ?_|refine qo ?_|(refine qc 2 ?_;refine mv ?_;refine mv ?_;refine zC S ?_;(first|(refine cS ?_ ?_<;>intro hc))<;>(refine qf ?_))|(refine qc 3 ?_;refine mv ?_;refine ad ?_;refine mv ?_;refine qf ?_)|(refine qc 4 ?_;refine mv ?_;refine mv ?_;refine zW S ?_;refine zV S ?_;refine mv ?_;(first|(refine cS ?_ ?_<;>intro hc))<;>(refine qf ?_))|(refine qc 5 ?_;refine mv ?_;refine qf ?_)|(refine qc 6 ?_;refine mv ?_;refine qf ?_)))
 all_goals (try simp only [zA0] at *)
 ·refine qj ⟨_,rfl,?_⟩;have hi:i<l.length:=by omega
  exact ⟨.inl ⟨rfl,by rw [← hc];exact qI hi⟩,S⟩
 ·refine ⟨i+1,?_,?_,qy⟩
  ·show l.length - (i+1)<l.length - i;omega
  ·exact ⟨S,by omega,jy g2 hc⟩
 ·refine qj ⟨_,rfl,?_⟩;refine ⟨.inr ⟨rfl,fun q=>?_⟩,S⟩;obtain ⟨j,hj,e⟩:=qK.1 q;exact g2 j (by omega) e
end Go.Proofs.Xx
namespace Go.Proofs.Xx
open Go Go.Proofs
variable [Flag]
theorem ZQ {h0:AH} (w:WfH h0) (pv:PbV) (p:Pb) (H:PbOk h0 pv p) (hv:ValidL p.tabs) (a c:Int) (ha : -1≤a∧a<p.tabs.length) (hc : -1≤c∧c<p.tabs.length) :
 Fn Tryz.prog Xh 34 [pv.val,.int .i64 a,.int .i64 c] h0 (fun u h'=>u = .int .i64 (zG p.tabs a c)∧Hs h0 h' []):=by
 have S:=Hs.start w;have hr:=H.tab.rd;have hl:=H.tab.len;have x1:=yI hv ha.2;have x2:=yI hv hc.2;have y1:=yH hv ha.2;have y2:=yH hv hc.2;unfold PbV.val;refine qJ (by first|rfl) Tryz.func34 rfl rfl ?_;all_goals (repeat' (first|refine qg ?_|(refine qc 0 ?_;(refine bx S ?_;clear S;intro b h S);refine mv ?_;refine qf ?_)))
 obtain ⟨b3,hnm⟩:∃ x,x=b:=⟨_,rfl⟩;subst hnm;all_goals (repeat' (first|refine qg ?_|(refine qc 1 ?_;(refine al S ?_;clear S;intro b h S);refine qf ?_)))
 obtain ⟨b7,hnm⟩:∃ x,x=b:=⟨_,rfl⟩;subst hnm;(repeat (refine qg ?_));refine qcs (id:=2) (j1:=2) (j2:=3) (rd:=[(1,(0,1)),(2,(0,0)),(3,(0,0))]) (fun b1 b2=>[some (b7),some b1,some b2]) S (HintOk.direct) (HintOk.direct) ?_;clear S;intro b1 b2 h S;refine qp ?_;(first|(refine lB S rfl rfl ?_<;>refine qf ⟨⟨by (first|exact True.intro),rfl⟩,?_⟩));refine qp ?_;(first|(refine lB S rfl rfl ?_<;>refine qf ⟨⟨by (first|exact Or.inr rfl),rfl⟩,?_⟩));refine fl S rfl rfl S.gB ?_;refine fl S rfl rfl S.gB ?_;refine qp ?_;(first|((refine sB S rfl rfl ?_;have S0:=S;clear S;intro h S);refine qf ⟨⟨True.intro,?_⟩,?_⟩;(focus ((show keepsX _ _ _ _ _;simp only [keepsX];(repeat' (first|exact True.intro|refine And.intro ?_ ?_));all_goals (intro hw;first|exact absurd hw (by decide +kernel)|exact (S.gB).trans (S0.gB).symm))));clear S0));refine qp ?_;(first|((refine sB S rfl rfl ?_;have S0:=S;clear S;intro h S);refine qf ⟨⟨True.intro,?_⟩,?_⟩;(focus ((show keepsX _ _ _ _ _;simp only [keepsX];(repeat' (first|exact True.intro|refine And.intro ?_ ?_));all_goals (intro hw;first|exact absurd hw (by decide +kernel)))));clear S0));refine Qq ?_;obtain ⟨b8,hnm⟩:∃ x,x=b1:=⟨_,rfl⟩;subst hnm;obtain ⟨b9,hnm⟩:∃ x,x=b2:=⟨_,rfl⟩;subst hnm;replace S:Hs h0 h [.blk b9 (eT default) 95,.blk b8 (eT default) 95,.blk b7 (eT default) 95,.blk b3 pv.cs 28]:=S;replace S:Hs h0 h [.blk b9 (eT default) 95,.blk b8 (eT default) 95,.blk b3 pv.cs 28]:=S.pick;(repeat (refine qg ?_));first|refine zB (σ:=Tab) (fun t h'=>Hs h0 h' [.blk b9 (eT default) 95,.blk b8 (eT t) 95,.blk b3 pv.cs 28]∧t.X=wu p.tabs a∧t.Y=wo p.tabs a) (fun t=>[(2,.int .i64 c),(3,.pointer (some ⟨b3,0,none⟩)),(8,.pointer (some ⟨b8,0,none⟩)),(9,.pointer (some ⟨b9,0,none⟩))]) ?_ ?_
 ·all_goals (repeat' (first|refine qh rfl ?_|refine qi ?_|(refine qc 3 ?_;refine mv ?_;(first|(refine cS ?_ ?_<;>intro hc))<;>(refine qf ?_))))
  ·all_goals (repeat' (first|(refine qc 4 ?_;refine vl ?_;refine lB S rfl rfl ?_;refine mv ?_;refine zW S ?_;refine zV S ?_;(first|(refine sB S rfl rfl ?_;clear S;intro h S));refine qf ?_)))
   exact ⟨tb p.tabs a.toNat,⟨S,by unfold wu;rw [if_neg (by omega)],by unfold wo;rw [if_neg (by omega)]⟩,(qy)⟩
  ·exact ⟨default,⟨S,by unfold wu;rw [if_pos (by omega)];rfl,by unfold wo;rw [if_pos (by omega)];rfl⟩,(qy)⟩
 clear S;rintro t h ⟨S,t1,t2⟩;(repeat (refine qg ?_));first|refine zB (σ:=Tab) (fun u h'=>Hs h0 h' [.blk b9 (eT u) 95,.blk b8 (eT t) 95,.blk b3 pv.cs 28]∧u.X=wu p.tabs c∧u.Y=wo p.tabs c) (fun u=>[(3,.pointer (some ⟨b3,0,none⟩)),(8,.pointer (some ⟨b8,0,none⟩)),(9,.pointer (some ⟨b9,0,none⟩))]) ?_ ?_
 ·all_goals (repeat' (first|refine qh rfl ?_|refine qi ?_|(refine qc 5 ?_;refine mv ?_;(first|(refine cS ?_ ?_<;>intro hc))<;>(refine qf ?_))))
  ·all_goals (repeat' (first|(refine qc 6 ?_;refine vl ?_;refine lB S rfl rfl ?_;refine mv ?_;refine zW S ?_;refine zV S ?_;(first|(refine sB S rfl rfl ?_;clear S;intro h S));refine qf ?_)))
   exact ⟨tb p.tabs c.toNat,⟨S,by unfold wu;rw [if_neg (by omega)],by unfold wo;rw [if_neg (by omega)]⟩,(qy)⟩
  ·exact ⟨default,⟨S,by unfold wu;rw [if_pos (by omega)];rfl,by unfold wo;rw [if_pos (by omega)];rfl⟩,(qy)⟩
 clear S;rintro u h ⟨S,u1,u2⟩;(repeat (refine qg ?_));refine Qp (id:=7) [(6,(0,1)),(8,(0,1))] [some (b8),some (b9)] ?_;refine qp ?_;(first|(refine vl ?_<;>refine qf ⟨⟨by (first|exact True.intro),rfl⟩,?_⟩));refine qp ?_;(first|(refine lB S rfl rfl ?_<;>refine qf ⟨⟨by (first|exact True.intro),rfl⟩,?_⟩));refine qp ?_;(first|(refine vl ?_<;>refine qf ⟨⟨by (first|exact True.intro),rfl⟩,?_⟩));refine qp ?_;(first|(refine lB S rfl rfl ?_<;>refine qf ⟨⟨by (first|exact True.intro),rfl⟩,?_⟩));((refine qp ?_;first|refine qx rfl rfl rfl rfl rfl ((yF S.wf t.X u.X (by omega) (by omega)).mono ?_));rintro _ h ⟨rfl,x⟩)<;>((refine qf ⟨⟨True.intro,?_⟩,?_⟩;(focus ((show keepsX _ _ _ _ _;simp only [keepsX];(repeat' (first|exact True.intro|refine And.intro ?_ ?_));all_goals (intro hw;first|exact x.ext.old _ S.bB)))));replace S:=S.join0 x;clear x;refine qp ?_;(first|(refine vl ?_<;>refine qf ⟨⟨by (first|exact True.intro),rfl⟩,?_⟩));refine qp ?_;(first|(refine lB S rfl rfl ?_<;>refine qf ⟨⟨by (first|exact Or.inr rfl),rfl⟩,?_⟩));refine qp ?_;(first|(refine vl ?_<;>refine qf ⟨⟨by (first|exact True.intro),rfl⟩,?_⟩));refine qp ?_;(first|(refine lB S rfl rfl ?_<;>refine qf ⟨⟨by (first|exact Or.inr rfl),rfl⟩,?_⟩)))
 ((refine qp ?_;first|refine qx rfl rfl rfl rfl rfl ((yF S.wf t.Y u.Y (by omega) (by omega)).mono ?_));rintro _ h ⟨rfl,x⟩)<;>((refine qf ⟨⟨True.intro,?_⟩,?_⟩;(focus ((show keepsX _ _ _ _ _;simp only [keepsX];(repeat' (first|exact True.intro|refine And.intro ?_ ?_));all_goals (intro hw;first|exact absurd hw (by decide +kernel))))));replace S:=S.join0 x;clear x;refine qp ?_;(first|(refine ad ?_<;>refine qf ⟨⟨by (first|exact True.intro),rfl⟩,?_⟩));refine qp ?_;(first|(refine mv ?_<;>refine qf ⟨⟨by (first|exact True.intro),rfl⟩,?_⟩));refine Qq ?_)
 refine qj ⟨_,rfl,?_⟩;refine ⟨?_,S.drop⟩;show Value.int .i64 _=Value.int .i64 _
 unfold zG;rw [t1,t2,u1,u2]
theorem Ws {h0:AH} (w:WfH h0) (pv:PbV) (p:Pb) (H:PbOk h0 pv p) (hv:ValidL p.tabs) (vw:Value) (l:List Int) (rl:qY h0 vw 1 eI l) (hl:l.length≤1000000) (ht:∀ t∈l,0≤t∧t<p.tabs.length) :
 Fn Tryz.prog Xh 37 [pv.val,vw] h0 (fun u h'=>u = .int .i64 (tour (zG p.tabs) l)∧Hs h0 h' []):=by
 have S:=Hs.start w;have htl:=H.tab.len;have hb:∀ i,i<l.length→0≤l.getD i default∧l.getD i default<p.tabs.length:=fun i hi=>ht _ (qI hi);unfold PbV.val;refine qJ (by first|rfl) Tryz.func37 rfl rfl ?_;all_goals (repeat' (first|refine qg ?_|(refine qc 0 ?_;(refine bx S ?_;clear S;intro b h S);refine mv ?_;refine qf ?_)))
 obtain ⟨b2,hnm⟩:∃ x,x=b:=⟨_,rfl⟩;subst hnm;all_goals (repeat' (first|refine qg ?_|refine qh rfl ?_|refine qi ?_|(refine qc 1 ?_;refine mv ?_;refine zC S ?_;(first|(refine cS ?_ ?_<;>intro hc))<;>(refine qf ?_))|(refine qc 2 ?_;refine mv ?_;refine qf ?_)))
 ·refine qj ⟨_,rfl,?_⟩;refine ⟨?_,S.drop⟩;have:l=[]:=List.eq_nil_of_length_eq_zero (by omega);subst this;show Value.int .i64 0=Value.int .i64 (zG p.tabs (-1) (-1))
  rw [(Xb p.tabs).z]
 have hl0:0<l.length:=by omega
 have b0:=hb 0 hl0;have bz:=hb (l.length - 1) (by omega);have b0':0≤l.getD (0:Int).toNat default∧l.getD (0:Int).toNat default<p.tabs.length:=b0;have ez:((l.length:Int) - 1).toNat=l.length - 1:=by omega
 have bz':0≤l.getD ((l.length:Int) - 1).toNat default∧l.getD ((l.length:Int) - 1).toNat default<p.tabs.length:=by rw [ez];exact bz
 have k1:=Zl hv (a:=-1) (b:=l.getD 0 default) (by omega) b0.2;have k2:=Zl hv (a:=l.getD (l.length - 1) default) (b:=-1) bz.2 (by omega);have hseg:=qba (d:=zG p.tabs) (l:=l) (M:=2000) (by omega) fun i j hi hj=>Zl hv (hb i hi).2 (hb j hj).2;rw [qaT hl0];(repeat (refine qg ?_));refine Qp (id:=3) [(5,(0,1)),(11,(0,1))] [some (b2),some (pR vw)] ?_;refine qp ?_;(first|(refine lB S rfl rfl ?_<;>refine qf ⟨⟨by (first|exact True.intro),rfl⟩,?_⟩));refine qp ?_;(first|(refine mv ?_<;>refine qf ⟨⟨by (first|exact True.intro),rfl⟩,?_⟩));refine qp ?_;(first|(refine zW S ?_<;>refine qf ⟨⟨by (first|exact True.intro),rfl⟩,?_⟩));refine qp ?_;(first|(refine zV S ?_<;>refine qf ⟨⟨by (first|exact True.intro),rfl⟩,?_⟩));((refine qp ?_;first|refine qx rfl rfl rfl rfl rfl ((ZQ S.wf pv p (H.ext w S.ext) hv (-1) (l.getD (0:Int).toNat default) (by omega) (by omega)).mono ?_));rintro _ h ⟨rfl,x⟩)<;>((refine qf ⟨⟨True.intro,?_⟩,?_⟩;(focus ((show keepsX _ _ _ _ _;simp only [keepsX];(repeat' (first|exact True.intro|refine And.intro ?_ ?_));all_goals (intro hw;first|exact x.ext.old _ S.bB|exact x.ext.old _ (S.bX (by assumption) (by assumption) (by first|omega)))))));replace S:=S.join0 x;clear x;refine qp ?_;(first|(refine lB S rfl rfl ?_<;>refine qf ⟨⟨by (first|exact Or.inr rfl),rfl⟩,?_⟩));refine qp ?_;(first|(refine mv ?_<;>refine qf ⟨⟨by (first|exact True.intro),rfl⟩,?_⟩));refine qp ?_;(first|(refine mv ?_<;>refine qf ⟨⟨by (first|exact True.intro),rfl⟩,?_⟩));refine qp ?_;(first|(refine zC S ?_<;>refine qf ⟨⟨by (first|exact True.intro),rfl⟩,?_⟩));refine qp ?_;(first|(refine sb ?_<;>refine qf ⟨⟨by (first|exact True.intro),rfl⟩,?_⟩));refine qp ?_;(first|(refine zW S ?_<;>refine qf ⟨⟨by (first|exact True.intro),rfl⟩,?_⟩));refine qp ?_;(first|(refine zV S ?_<;>refine qf ⟨⟨by (first|exact Or.inr (congrArg some (qaE _ _ _ _))),rfl⟩,?_⟩)))
 ((refine qp ?_;first|refine qx rfl rfl rfl rfl rfl ((ZQ S.wf pv p (H.ext w S.ext) hv (l.getD ((l.length:Int) - 1).toNat default) (-1) (by omega) (by omega)).mono ?_));rintro _ h ⟨rfl,x⟩)<;>((refine qf ⟨⟨True.intro,?_⟩,?_⟩;(focus ((show keepsX _ _ _ _ _;simp only [keepsX];(repeat' (first|exact True.intro|refine And.intro ?_ ?_));all_goals (intro hw;first|exact absurd hw (by decide +kernel))))));replace S:=S.join0 x;clear x;rw [ez];rw [show l.getD (0:Int).toNat default=l.getD 0 default from rfl];refine qp ?_;(first|(refine ad ?_<;>refine qf ⟨⟨by (first|exact True.intro),rfl⟩,?_⟩));refine qp ?_;(first|(refine mv ?_<;>refine qf ⟨⟨by (first|exact True.intro),rfl⟩,?_⟩));refine Qq ?_)
 have hs1:Yb (zG p.tabs) l 1=0:=rfl;all_goals (repeat' (first|refine qg ?_|refine qo ?_|(refine qc 4 ?_;refine mv ?_;refine qf ?_)))
 refine qH (σ:=Nat) (fun i h'=>Hs h0 h' [.blk b2 pv.cs 28]∧1≤i∧i≤l.length) (fun i=>l.length - i) (fun i=>[(1,vw),(2,.pointer (some ⟨b2,0,none⟩)),(5,.int .i64 (zG p.tabs (-1) (l.getD 0 default)+zG p.tabs (l.getD (l.length - 1) default) (-1)+Yb (zG p.tabs) l i)),(6,.int .i64 i)]) 1 qy ?_ ?_
 ·refine ⟨S,zA3 _,hl0⟩
 clear S;rintro i h ⟨S,g1,g2⟩;have q1:=hseg i g2;all_goals (repeat' (first|refine qg ?_|refine qh rfl ?_|refine qi ?_|refine qB ?_|refine qo ?_|(refine qc 5 ?_;refine mv ?_;refine mv ?_;refine zC S ?_;(first|(refine cS ?_ ?_<;>intro hc))<;>(refine qf ?_))))
 ·obtain ⟨j,rfl⟩:∃ j,i=j+1:=⟨i - 1,by omega⟩
  have hj:j+1<l.length:=by omega
  have ej:(((j+1:Nat):Int) - 1).toNat=j:=by omega
  have c1:=hb j (by omega);have c2:=hb (j+1) hj;have c1':0≤l.getD (((j+1:Nat):Int) - 1).toNat default∧l.getD (((j+1:Nat):Int) - 1).toNat default<p.tabs.length:=by rw [ej];exact c1
  have c2':0≤l.getD ((j+1:Nat):Int).toNat default∧l.getD ((j+1:Nat):Int).toNat default<p.tabs.length:=c2;have k3:=Zl hv c1.2 c2.2;have es:Yb (zG p.tabs) l (j+1+1)=Yb (zG p.tabs) l (j+1)+zG p.tabs (l.getD j default) (l.getD (j+1) default):=rfl;all_goals (repeat' (first|(refine zx 7 ?_;refine mv ?_;refine lB S rfl rfl ?_;refine mv ?_;refine mv ?_;refine sb ?_;refine zW S ?_;refine zV S ?_;refine mv ?_;refine mv ?_;refine zW S ?_;refine zV S ?_)))
  (refine qx rfl rfl rfl rfl rfl ((ZQ S.wf pv p (H.ext w S.ext) hv (l.getD (((j+1:Nat):Int) - 1).toNat default) (l.getD ((j+1:Nat):Int).toNat default) (by omega) (by omega)).mono ?_);rintro _ h ⟨rfl,x⟩)<;>(replace S:=S.join0 x;clear x;rw [ej];rw [show l.getD ((j+1:Nat):Int).toNat default=l.getD (j+1) default from rfl];refine ad ?_;refine mv ?_;refine qf ?_)
  all_goals (repeat' (first|(refine qc 6 ?_;refine mv ?_;refine ad ?_;refine mv ?_;refine qf ?_)))
  refine ⟨j+1+1,?_,?_,qy⟩
  ·show l.length - (j+1+1)<l.length - (j+1);omega
  ·exact ⟨S,by omega,by omega⟩
 ·obtain rfl:i=l.length:=by omega
  all_goals (repeat' (first|(refine qc 8 ?_;refine mv ?_;refine mv ?_;refine qf ?_)))
  refine qj ⟨_,rfl,?_⟩;refine ⟨?_,S.drop⟩;show Value.int .i64 _=Value.int .i64 _
  congr 1
  omega
end Go.Proofs.Xx
namespace Go.Proofs.Xx
open Go Go.Proofs
variable [Flag]
theorem GZ {h0:AH} (w:WfH h0) (v0:Value) (l:List Int) (rl:qY h0 v0 1 eI l) (hl:l.length≤5) :
 Fn Tryz.prog Xh 88 [v0] h0 (fun u h'=>∃ rows,Hs h0 h' [.sl u 25 1 Q3 rows,Qh jd rows]∧rows.map (·.r)=Qs l l.length):=by
 have S:=Hs.start w;have hpw:∀ n,n≤5→(5:Nat) ^ n≤3125:=fun n hn=>zD0 (Nat.pow_le_pow_right (by omega) hn) (by decide);have hlv:∀ n,n≤5→(Qs l n).length≤3125∧∀ c∈Qs l n,c.length=n:=fun n hn=>⟨zD0 (ZW hl n).1 (hpw n hn),fun c hc=>((ZW hl n).2 c hc).1⟩
 refine qJ (by first|rfl) Tryz.func88 rfl rfl ?_;all_goals (repeat' (first|refine qg ?_|(refine qc 0 ?_;refine mv ?_;refine qf ?_)))
 (repeat (refine qg ?_));refine qc 1 ?_;refine bsn (α:=Jt) (z:=1) Q3 [⟨⟨none,0,0⟩,[]⟩] S ?_;clear S;intro u h S;(refine mv ?_;refine qf ?_);have S:Hs h0 h [Qh jd [⟨⟨none,0,0⟩,[]⟩],.sl u 25 1 Q3 [⟨⟨none,0,0⟩,[]⟩]]:=Hs.owApp (f:=jd) (g:=⟨⟨none,0,0⟩,[]⟩) (gs:=[]) (show Hs h0 h [jd ⟨⟨none,0,0⟩,[]⟩,Qh jd [],.sl u 25 1 Q3 [⟨⟨none,0,0⟩,[]⟩]] from (S.owNil).nilS);have S:=(show Hs h0 h [.sl u 25 1 Q3 [⟨⟨none,0,0⟩,[]⟩],Qh jd [⟨⟨none,0,0⟩,[]⟩]] from S.pick)
 all_goals (repeat' (first|refine qg ?_|refine qo ?_|(refine qc 2 ?_;refine mv ?_;refine qf ?_)))
 refine qH (σ:=Nat×Value×List Jt) (fun (n,vo,rows) h'=>Hs h0 h' [.sl vo 25 1 Q3 rows,Qh jd rows]∧n≤l.length∧rows.map (·.r)=Qs l n) (fun (n,vo,rows)=>l.length - n) (fun (n,vo,rows)=>[(0,v0),(3,vo),(4,.int .i64 n)]) (0,u,[⟨⟨none,0,0⟩,[]⟩]) qy ?_ ?_
 ·exact ⟨S,zB0 _,rfl⟩
 clear S;rintro ⟨n,vo,rows⟩ h ⟨S,g1,g2⟩;have hrl:rows.length=(Qs l n).length:=by have:=congrArg List.length g2;simpa using this
 have hr1:=(hlv n (by omega)).1;have hrr:∀ i,i<rows.length→(rows.getD i default).r=(Qs l n).getD i default∧(rows.getD i default).r.length≤5:=fun i hi=>by
  have e:(rows.getD i default).r=(Qs l n).getD i default:=by rw [← g2,zq (f:=fun x:Jt=>x.r) hi]
  refine ⟨e,?_⟩;rw [e,(hlv n (by omega)).2 _ (qI (by omega))];omega
 all_goals (repeat' (first|refine qg ?_|refine qh rfl ?_|refine qi ?_|refine qB ?_|refine qo ?_|(refine qc 3 ?_;refine mv ?_;refine mv ?_;refine zC S ?_;(first|(refine cS ?_ ?_<;>intro hc))<;>(refine qf ?_))))
 ·have hn:n<l.length:=by omega
  all_goals (repeat' (first|refine qg ?_|refine qo ?_|(refine qc 5 ?_;refine mv ?_;refine qf ?_)|(refine qc 6 ?_;refine mv ?_;refine qf ?_)))
  have S:=(show Hs h0 h [.sl (.slice none 0 0) 25 1 Q3 [],Qh jd [],.sl vo 25 1 Q3 rows,Qh jd rows] from (S.owNil (f:=jd)).nilS)
  refine qH (σ:=Nat×Value×List Jt) (fun (i,vn,nx) h'=>Hs h0 h' [.sl vn 25 1 Q3 nx,Qh jd nx,.sl vo 25 1 Q3 rows,Qh jd rows]∧i≤rows.length∧nx.map (·.r)=Yl l (Qs l n) i 0) (fun (i,vn,nx)=>rows.length - i) (fun (i,vn,nx)=>[(0,v0),(3,vo),(4,.int .i64 n),(5,vn),(6,.int .i64 i)]) (0,.slice none 0 0,[]) qy ?_ ?_
  ·exact ⟨S,zB0 _,lvlI_0.symm⟩
  clear S;rintro ⟨i,vn,nx⟩ h ⟨S,f1,f2⟩;all_goals (repeat' (first|refine qg ?_|refine qh rfl ?_|refine qi ?_|refine qB ?_|refine qo ?_|(refine qc 7 ?_;refine mv ?_;refine mv ?_;refine XP S rfl rfl ?_;(first|(refine cS ?_ ?_<;>intro hc))<;>(refine qf ?_))))
  ·have hi:i<rows.length:=by omega
   have hri:=hrr i hi;all_goals (repeat' (first|refine qo ?_|(refine qc 9 ?_;refine mv ?_;refine qf ?_)))
   refine qH (σ:=Nat×Value×List Jt) (fun (k,vn,nx) h'=>Hs h0 h' [.sl vn 25 1 Q3 nx,Qh jd nx,.sl vo 25 1 Q3 rows,Qh jd rows]∧k≤l.length∧nx.map (·.r)=Yl l (Qs l n) i k) (fun (k,vn,nx)=>l.length - k) (fun (k,vn,nx)=>[(0,v0),(3,vo),(4,.int .i64 n),(5,vn),(6,.int .i64 i),(7,.int .i64 k)]) (0,vn,nx) qy ?_ ?_
   ·exact ⟨S,zB0 _,f2⟩
   clear S f2;rintro ⟨k,vn,nx⟩ h ⟨S,k1,k2⟩;have hnx:nx.length≤20000:=by
    have e:=congrArg List.length k2;rw [zC5] at e;have:=XI (stops:=l) (L:=Qs l n) (i:=i) (k:=k) (by omega) k1;have h2:l.length*(Qs l n).length≤5*3125:=Nat.mul_le_mul hl hr1;omega
   all_goals (repeat' (first|refine qg ?_|refine qh rfl ?_|refine qi ?_|refine qB ?_|refine qo ?_|(refine qc 10 ?_;refine mv ?_;refine mv ?_;refine zC S ?_;(first|(refine cS ?_ ?_<;>intro hc))<;>(refine qf ?_))))
   ·have hk:k<l.length:=by omega
    have hrd:=YQ S (.there (.there (.there .here))) hi;have hs:=qeb (stops:=l) (L:=Qs l n) (i:=i) hk;rw [← hri.1] at hs;have hx0:rows.getD (i:Int).toNat default=rows.getD i default:=rfl;all_goals (repeat' (first|(refine zx 12 ?_;refine mv ?_;refine mv ?_;refine QX S rfl rfl ?_;refine ZF S rfl rfl ?_;refine mv ?_;refine mv ?_;refine zW S ?_;refine zV S ?_)))
    rw [hx0];rw [show l.getD (k:Int).toNat default=l.getD k default from rfl];(refine qx rfl rfl rfl rfl rfl ((qcM S.wf (rows.getD i default).sv.val (rows.getD i default).r hrd (by omega) (l.getD k default)).mono ?_);rintro _ h ⟨⟨rfl,z⟩|⟨rfl,z⟩,x⟩)<;>(replace S:=S.join0 x;clear x;refine vl ?_;refine qf ?_)
    ·rw [if_pos z,zD7] at hs;all_goals (repeat' (first|refine qh rfl ?_|refine qi ?_|(refine qc 11 ?_;refine mv ?_;refine ad ?_;refine mv ?_;refine qf ?_)))
     refine ⟨(k+1,vn,nx),?_,?_,qy⟩
     ·show l.length - (k+1)<l.length - k;omega
     ·exact ⟨S,by omega,k2.trans hs.symm⟩
    ·rw [if_neg z] at hs;have hrd:=YQ S (.there (.there (.there .here))) hi;have S:=(show Hs h0 h [.sl (.slice none 0 0) 3 1 eI [],.sl vn 25 1 Q3 nx,Qh jd nx,.sl vo 25 1 Q3 rows,Qh jd rows] from S.nilS)
     all_goals (repeat' (first|refine qg ?_|refine qh rfl ?_|(refine qc 13 ?_;refine mv ?_;refine qf ?_)|(refine qc 14 ?_;(iterate 3 refine mv ?_);refine QX S rfl rfl ?_;refine ZF S rfl rfl ?_)))
     rw [hx0];refine apd S rfl rfl hrd ?_;clear S;intro v1 h S;(refine mv ?_;refine qf ?_);rw [zC0] at S;all_goals (repeat' (first|(refine qc 15 ?_;(iterate 4 refine mv ?_);refine zW S ?_;refine zV S ?_;(refine one 1 S ?_;clear S;intro u h S))))
     rw [show l.getD (k:Int).toNat default=l.getD k default from rfl] at S;refine app (y0:=l.getD k default) S rfl rfl ?_;clear S;intro v2 h S;obtain ⟨s2,rfl⟩:=S.sV v2;((refine one 1 S ?_;clear S;intro u h S));refine app (y0:=(⟨s2,(rows.getD i default).r ++ [l.getD k default]⟩:Jt)) S rfl rfl ?_;clear S;intro v3 h S;(refine mv ?_;refine qf ?_);replace S:Hs h0 h [.sl v3 25 1 Q3 (nx ++ [⟨s2,(rows.getD i default).r ++ [l.getD k default]⟩]),jd ⟨s2,(rows.getD i default).r ++ [l.getD k default]⟩,Qh jd nx,.sl vo 25 1 Q3 rows,Qh jd rows]:=S;have S:=(show Hs h0 h [jd ⟨s2,(rows.getD i default).r ++ [l.getD k default]⟩,Qh jd nx,.sl v3 25 1 Q3 (nx ++ [⟨s2,(rows.getD i default).r ++ [l.getD k default]⟩]),.sl vo 25 1 Q3 rows,Qh jd rows] from S.pick)
     have S:=Hs.owApp (f:=jd) (g:=⟨s2,(rows.getD i default).r ++ [l.getD k default]⟩) S;all_goals (repeat' (first|(refine qc 11 ?_;refine mv ?_;refine ad ?_;refine mv ?_;refine qf ?_)))
     refine ⟨(k+1,v3,nx ++ [⟨s2,(rows.getD i default).r ++ [l.getD k default]⟩]),?_,?_,qy⟩
     ·show l.length - (k+1)<l.length - k;omega
     ·refine ⟨S.pick,by omega,?_⟩;rw [hs,← k2,zC9];rfl
   ·obtain rfl:k=l.length:=by omega
    rw [qec (by omega)] at k2;all_goals (repeat' (first|(refine qc 8 ?_;refine mv ?_;refine ad ?_;refine mv ?_;refine qf ?_)))
    refine ⟨(i+1,vn,nx),?_,?_,qy⟩
    ·show rows.length - (i+1)<rows.length - i;omega
    ·exact ⟨S,by omega,k2⟩
  ·obtain rfl:i=rows.length:=by omega
   rw [hrl,qbI] at f2;all_goals (repeat' (first|(refine qc 4 ?_;refine mv ?_;refine ad ?_;refine mv ?_;refine qf ?_)|(refine qc 16 ?_;refine mv ?_;refine mv ?_;refine qf ?_)))
   refine ⟨(n+1,vn,nx),?_,?_,qy⟩
   ·show l.length - (n+1)<l.length - n;omega
   ·exact ⟨S.pick,by omega,f2⟩
 ·obtain rfl:n=l.length:=by omega
  all_goals (repeat' (first|(refine qc 17 ?_;refine mv ?_;refine mv ?_;refine qf ?_)))
  refine qj ⟨_,rfl,?_⟩;exact ⟨rows,S,g2⟩
end Go.Proofs.Xx
