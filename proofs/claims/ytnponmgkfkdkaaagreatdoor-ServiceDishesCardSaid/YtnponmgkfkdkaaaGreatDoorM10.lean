/-
  The check of a rule of a kind.
-/
import Derived.Test.YtnponmgkfkdkaaaGreatDoorM9
set_option linter.unusedSectionVars false
set_option linter.unusedSimpArgs false
set_option linter.unusedVariables false
set_option maxRecDepth 100000
set_option maxHeartbeats 4000000
namespace Go.Proofs.Xx
open Go Go.Proofs
theorem countOne {h0:AH} (w:WfH h0) {v:Value} {t:Tab} (hr:zC h0 v 7 eT [t]) (hc:Q7 v) (ht:TabR h0 t) (hk:chk t=0):Fn Tryz.prog Xh 200 [v] h0 (fun r h'=>r = .int .i64 (zl t)∧Hs h0 h' []):=by
 refine (yQ w v [t] ⟨hr,fun i hi=>?_,by simp,hc⟩).mono ?_
 ·have:i=0:=by simp at hi;omega
  subst this;exact ht
 ·rintro r h ⟨rfl,x⟩;refine ⟨?_,x⟩;have:ValidL [t]:=⟨by simp,fun j hj=>by
   have:j=0:=by simp at hj;omega
   subst this;exact ⟨hk,fun ⟨i,hi,_⟩=>absurd hi (zB7 _)⟩⟩
  unfold XU;rw [if_pos this];simp [sumT,tb]
theorem kD {us:List Gu} {n:List UInt8}:¬ gI us n<0↔gat us n≠none:=by rw [ZG]
theorem Kd.qb3 {k:Kd} {p:Pb} {r:Ru} (h:r.w<0∨1000<r.w):k.err p r=41:=by unfold Kd.err;rw [if_pos h]
theorem Kd.qgL {k:Kd} {p:Pb} {r:Ru} (h:¬ (r.w<0∨1000<r.w)) (h2:¬ k.plain r):k.err p r=43:=by unfold Kd.err;rw [if_neg h,if_pos h2]
theorem Kd.qhz {k:Kd} {p:Pb} {r:Ru} (h:¬ (r.w<0∨1000<r.w)) (h2:k.plain r) (h3:k.unk p.us r):k.err p r=6:=by unfold Kd.err;rw [if_neg h,if_neg (fun q=>q h2),if_pos h3]
theorem Kd.qji {k:Kd} {p:Pb} {r:Ru} (h:¬ (r.w<0∨1000<r.w)) (h2:k.plain r) (h3:¬ k.unk p.us r) (h4:k.a=100∧¬ Qx r.a):k.err p r=4:=by unfold Kd.err;rw [if_neg h,if_neg (fun q=>q h2),if_neg h3,if_pos h4]
structure Kd.one (k:Kd) (p:Pb) (r:Ru):Prop where
 w:¬ (r.w<0∨1000<r.w)
 pl:k.plain r
 un:¬ k.unk p.us r
 nm:¬ (k.a=100∧¬ Qx r.a)
theorem Kd.qhA {k:Kd} {p:Pb} {r:Ru} (h:k.one p r) (h5:k.b=true∧r.a=r.b):k.err p r=5:=by unfold Kd.err;rw [if_neg h.w,if_neg (fun q=>q h.pl),if_neg h.un,if_neg h.nm,if_pos h5]
open Classical in
theorem Kd.qc0 {k:Kd} {p:Pb} {r:Ru} (h:k.one p r) (h5:¬ (k.b=true∧r.a=r.b)):k.err p r=if k.ut p.tabs r then 6 else if k.n=true∧(r.n<k.lo∨k.most p.tabs r<r.n) then 42 else 0:=by
 unfold Kd.err;rw [if_neg h.w,if_neg (fun q=>q h.pl),if_neg h.un,if_neg h.nm,if_neg h5]
theorem qcR {h0:AH} (w:WfH h0) (wd:List UInt8) (k:Kd) (f:Value) (v:PbV) (p:Pb) (H:PbOk h0 v p) (hv:ValidL p.tabs) (r:Ru) (hw:wd≠[]) (hs:k.seat=true→k.t=116) :
 Fn Tryz.prog Xh 149 [kdV wd k f,v.val,ruV r] h0 (fun u h'=>u = .int .i64 (k.err p r)∧Hs h0 h' []):=by
 have S:=Hs.start w;have hr:=H.tab.rd;have hl:=H.tab.len;obtain ⟨ka,kb,kt,kn,lo,st⟩:=k;unfold kdV eKd ruV XR PbV.val;refine qL (by first|rfl) Tryz.func149 rfl rfl ?_;all_goals (repeat' (first|refine qg ?_|(refine qc 0 ?_;(refine bx S ?_;clear S;intro b h S);(refine bx S ?_;clear S;intro b h S);(refine bx S ?_;clear S;intro b h S);refine mv ?_;refine qf ?_)))
 rename_i b3 h3 b4 h4
 (repeat (refine qg ?_));first|refine GN (σ:=Unit) (fun _ h'=>Hs h0 h' [.blk b (XR r) 158,.blk b4 v.cs 28,.blk b3 (eKd wd (Kd.mk ka kb kt kn lo st) f) 188]∧(Kd.mk ka kb kt kn lo st).one p r∧¬ (kb=true∧r.a=r.b)) (fun _=>[(3,.pointer (some ⟨b3,0,none⟩)),(4,.pointer (some ⟨b4,0,none⟩)),(5,.pointer (some ⟨b,0,none⟩)),(6,.int .i64 0)]) ?_ ?_
 ·all_goals (repeat' (first|refine qg ?_|refine qh rfl ?_|refine qj ?_|(refine qc 1 ?_;refine vl ?_;refine lB S rfl rfl ?_;(refine tS ?_ ?_<;>intro hc)<;>(refine mv ?_;refine qf ?_))|(refine qc 2 ?_;refine mv ?_;refine qf ?_)|(refine qc 3 ?_;refine vl ?_;refine lB S rfl rfl ?_;(first|(refine cS ?_ ?_<;>intro hc))<;>(refine mv ?_;(first|refine off ?_|(refine vl ?_));(first|refine off ?_|(refine lB S rfl rfl ?_));(first|refine off ?_|(first|(refine cS ?_ ?_<;>intro hc)))<;>(refine vl ?_;refine mv ?_;refine qf ?_)))|(refine qc 4 ?_;refine mv ?_;refine qf ?_)|(refine qc 5 ?_;refine lB S rfl rfl ?_;refine lB S rfl rfl ?_)))
  ·exact absurd hc hw
  ·refine qo ⟨_,rfl,?_⟩;exact ⟨by rw [Kd.qb3 (.inl hc)];rfl,S.drop⟩
  ·refine qo ⟨_,rfl,?_⟩;exact ⟨by rw [Kd.qb3 (.inr (by omega))];rfl,S.drop⟩
  rename_i hw1
  have hww:¬ (r.w<0∨1000<r.w):=by omega
  (refine qw rfl rfl rfl rfl rfl ((qd6 S.wf wd (Kd.mk ka kb kt kn lo st) f r).mono ?_);rintro _ h ⟨⟨rfl,hp⟩|⟨rfl,hp⟩,x⟩)<;>(replace S:=S.qE x;clear x;refine vl ?_;refine mv ?_;refine qf ?_)
  all_goals (repeat' (first|refine qg ?_|refine qh rfl ?_|(refine qc 6 ?_;refine mv ?_;refine qf ?_)))
  rotate_left
  ·refine qo ⟨_,rfl,?_⟩;exact ⟨by rw [Kd.qgL hww hp];rfl,S.drop⟩
  (repeat (refine qg ?_));first|refine jC (σ:=Bool) (fun c h'=>Hs h0 h' [.blk b (XR r) 158,.blk b4 v.cs 28,.blk b3 (eKd wd (Kd.mk ka kb kt kn lo st) f) 188]∧(c=true↔(Kd.mk ka kb kt kn lo st).unk p.us r)) (fun c=>[(3,.pointer (some ⟨b3,0,none⟩)),(4,.pointer (some ⟨b4,0,none⟩)),(5,.pointer (some ⟨b,0,none⟩)),(6,.int .i64 0),(28,.bool c)]) ?_ ?_
  ·all_goals (repeat' (first|refine qg ?_|refine qh rfl ?_|(refine qc 7 ?_;refine vl ?_;refine lB S rfl rfl ?_;(first|(refine cS ?_ ?_<;>intro hc))<;>(refine mv ?_;(first|refine off ?_|(refine lB S rfl rfl ?_));(first|refine off ?_|(refine vl ?_));(first|refine off ?_|(refine lB S rfl rfl ?_));(first|(refine off ?_;(refine off ?_)<;>(refine vl ?_;refine mv ?_;refine qf ?_))|skip)))))
   ·have h103:ka=103:=hc;(refine qw rfl rfl rfl rfl rfl ((Vy S.wf v p (H.ext w S.ext) r.a).mono ?_);rintro _ h ⟨rfl,x⟩)<;>(replace S:=S.qE x;clear x;(first|(first|(refine cS ?_ ?_<;>intro hc)))<;>(refine vl ?_;refine mv ?_;refine qf ?_))
    all_goals (repeat' (first|refine qg ?_|refine qh rfl ?_|refine qi ?_|(refine qc 8 ?_;refine vl ?_;refine lB S rfl rfl ?_;(refine cF ?_)<;>(refine mv ?_;refine off ?_;refine off ?_;(refine off ?_)<;>(refine vl ?_;refine mv ?_;refine off ?_;refine off ?_;refine off ?_;(first|(refine off ?_;(refine off ?_)<;>(refine vl ?_;refine mv ?_;refine qf ?_))))))))
    ·exact ⟨true,⟨S,fun _=>.inl ⟨h103,ZG.1 hc⟩,fun _=>rfl⟩,(qx)⟩
    have ha1:¬ (ka=103∧gat p.us r.a=none):=fun q=>kD.1 hc q.2;have ha2:¬ (ka=101∧r.a≠[]∧gat p.us r.a=none):=fun q=>by have:=q.1;omega
    cases kb
    ·all_goals (repeat' (first|(refine qc 9 ?_;refine vl ?_;refine lB S rfl rfl ?_;refine mv ?_;refine off ?_;refine off ?_;refine off ?_;(first|(refine off ?_;(refine off ?_)<;>(refine vl ?_;refine mv ?_;refine qf ?_))))))
     exact ⟨false,⟨S,fun q=>(by cases q),fun q=>q.elim (fun q=>absurd q ha1) fun q=>q.elim (fun q=>absurd q ha2) fun q=>(by cases q.1)⟩,(qx)⟩
    ·all_goals (repeat' (first|(refine qc 9 ?_;refine vl ?_;refine lB S rfl rfl ?_;refine mv ?_;(first|(refine lB S rfl rfl ?_));(first|(refine vl ?_));(first|(refine lB S rfl rfl ?_));(skip))))
     (refine qw rfl rfl rfl rfl rfl ((Vy S.wf v p (H.ext w S.ext) r.b).mono ?_);rintro _ h ⟨rfl,x⟩)<;>(replace S:=S.qE x;clear x;(first|(first|(refine cS ?_ ?_<;>intro hc)))<;>(refine vl ?_;refine mv ?_;refine qf ?_))
     all_goals (repeat' (fail))
     ·exact ⟨true,⟨S,fun _=>.inr (.inr ⟨rfl,ZG.1 hc⟩),fun _=>rfl⟩,(qx)⟩
     ·exact ⟨false,⟨S,fun q=>(by cases q),fun q=>q.elim (fun q=>absurd q ha1) fun q=>q.elim (fun q=>absurd q ha2) fun q=>absurd q.2 (kD.1 hc)⟩,(qx)⟩
   ·have h103:ka≠103:=hc;have ha1:¬ (ka=103∧gat p.us r.a=none):=fun q=>h103 q.1;all_goals (repeat' (first|refine qh rfl ?_|(refine qc 8 ?_;refine vl ?_;refine lB S rfl rfl ?_;(first|(refine cS ?_ ?_<;>intro hc))<;>(refine mv ?_;(first|refine off ?_|(refine vl ?_));(first|refine off ?_|(refine lB S rfl rfl ?_));(first|refine off ?_|(refine tS ?_ ?_<;>intro hc))<;>(refine vl ?_;refine mv ?_;(first|refine off ?_|(refine lB S rfl rfl ?_));(first|refine off ?_|(refine vl ?_));(first|refine off ?_|(refine lB S rfl rfl ?_));(first|(refine off ?_;(refine off ?_)<;>(refine vl ?_;refine mv ?_;refine qf ?_))|skip))))))
    ·have ha2:¬ (ka=101∧r.a≠[]∧gat p.us r.a=none):=fun q=>q.2.1 hc;cases kb
     ·all_goals (repeat' (first|(refine qc 9 ?_;refine vl ?_;refine lB S rfl rfl ?_;refine mv ?_;refine off ?_;refine off ?_;refine off ?_;(first|(refine off ?_;(refine off ?_)<;>(refine vl ?_;refine mv ?_;refine qf ?_))))))
      exact ⟨false,⟨S,fun q=>(by cases q),fun q=>q.elim (fun q=>absurd q ha1) fun q=>q.elim (fun q=>absurd q ha2) fun q=>(by cases q.1)⟩,(qx)⟩
     ·all_goals (repeat' (first|(refine qc 9 ?_;refine vl ?_;refine lB S rfl rfl ?_;refine mv ?_;(first|(refine lB S rfl rfl ?_));(first|(refine vl ?_));(first|(refine lB S rfl rfl ?_));(skip))))
      (refine qw rfl rfl rfl rfl rfl ((Vy S.wf v p (H.ext w S.ext) r.b).mono ?_);rintro _ h ⟨rfl,x⟩)<;>(replace S:=S.qE x;clear x;(first|(first|(refine cS ?_ ?_<;>intro hc)))<;>(refine vl ?_;refine mv ?_;refine qf ?_))
      all_goals (repeat' (fail))
      ·exact ⟨true,⟨S,fun _=>.inr (.inr ⟨rfl,ZG.1 hc⟩),fun _=>rfl⟩,(qx)⟩
      ·exact ⟨false,⟨S,fun q=>(by cases q),fun q=>q.elim (fun q=>absurd q ha1) fun q=>q.elim (fun q=>absurd q ha2) fun q=>absurd q.2 (kD.1 hc)⟩,(qx)⟩
    ·have h101:ka=101:=by assumption
     have hne:r.a≠[]:=hc;(refine qw rfl rfl rfl rfl rfl ((Vy S.wf v p (H.ext w S.ext) r.a).mono ?_);rintro _ h ⟨rfl,x⟩)<;>(replace S:=S.qE x;clear x;(first|(first|(refine cS ?_ ?_<;>intro hc)))<;>(refine vl ?_;refine mv ?_;refine qf ?_))
     all_goals (repeat' (first|refine qh rfl ?_|refine qi ?_))
     ·exact ⟨true,⟨S,fun _=>.inr (.inl ⟨h101,hne,ZG.1 hc⟩),fun _=>rfl⟩,(qx)⟩
     have ha2:¬ (ka=101∧r.a≠[]∧gat p.us r.a=none):=fun q=>kD.1 hc q.2.2;cases kb
     ·all_goals (repeat' (first|(refine qc 9 ?_;refine vl ?_;refine lB S rfl rfl ?_;refine mv ?_;refine off ?_;refine off ?_;refine off ?_;(first|(refine off ?_;(refine off ?_)<;>(refine vl ?_;refine mv ?_;refine qf ?_))))))
      exact ⟨false,⟨S,fun q=>(by cases q),fun q=>q.elim (fun q=>absurd q ha1) fun q=>q.elim (fun q=>absurd q ha2) fun q=>(by cases q.1)⟩,(qx)⟩
     ·all_goals (repeat' (first|(refine qc 9 ?_;refine vl ?_;refine lB S rfl rfl ?_;refine mv ?_;(first|(refine lB S rfl rfl ?_));(first|(refine vl ?_));(first|(refine lB S rfl rfl ?_));(skip))))
      (refine qw rfl rfl rfl rfl rfl ((Vy S.wf v p (H.ext w S.ext) r.b).mono ?_);rintro _ h ⟨rfl,x⟩)<;>(replace S:=S.qE x;clear x;(first|(first|(refine cS ?_ ?_<;>intro hc)))<;>(refine vl ?_;refine mv ?_;refine qf ?_))
      all_goals (repeat' (fail))
      ·exact ⟨true,⟨S,fun _=>.inr (.inr ⟨rfl,ZG.1 hc⟩),fun _=>rfl⟩,(qx)⟩
      ·exact ⟨false,⟨S,fun q=>(by cases q),fun q=>q.elim (fun q=>absurd q ha1) fun q=>q.elim (fun q=>absurd q ha2) fun q=>absurd q.2 (kD.1 hc)⟩,(qx)⟩
    ·have ha2:¬ (ka=101∧r.a≠[]∧gat p.us r.a=none):=fun q=>hc q.1;cases kb
     ·all_goals (repeat' (first|(refine qc 9 ?_;refine vl ?_;refine lB S rfl rfl ?_;refine mv ?_;refine off ?_;refine off ?_;refine off ?_;(first|(refine off ?_;(refine off ?_)<;>(refine vl ?_;refine mv ?_;refine qf ?_))))))
      exact ⟨false,⟨S,fun q=>(by cases q),fun q=>q.elim (fun q=>absurd q ha1) fun q=>q.elim (fun q=>absurd q ha2) fun q=>(by cases q.1)⟩,(qx)⟩
     ·all_goals (repeat' (first|(refine qc 9 ?_;refine vl ?_;refine lB S rfl rfl ?_;refine mv ?_;(first|(refine lB S rfl rfl ?_));(first|(refine vl ?_));(first|(refine lB S rfl rfl ?_));(skip))))
      (refine qw rfl rfl rfl rfl rfl ((Vy S.wf v p (H.ext w S.ext) r.b).mono ?_);rintro _ h ⟨rfl,x⟩)<;>(replace S:=S.qE x;clear x;(first|(first|(refine cS ?_ ?_<;>intro hc)))<;>(refine vl ?_;refine mv ?_;refine qf ?_))
      all_goals (repeat' (fail))
      ·exact ⟨true,⟨S,fun _=>.inr (.inr ⟨rfl,ZG.1 hc⟩),fun _=>rfl⟩,(qx)⟩
      ·exact ⟨false,⟨S,fun q=>(by cases q),fun q=>q.elim (fun q=>absurd q ha1) fun q=>q.elim (fun q=>absurd q ha2) fun q=>absurd q.2 (kD.1 hc)⟩,(qx)⟩
  clear S;rintro c h ⟨S,hu⟩;cases c
  ·have hun:¬ (Kd.mk ka kb kt kn lo st).unk p.us r:=fun q=>by have:=hu.2 q;cases this
   all_goals (repeat' (first|refine qg ?_|refine qh rfl ?_|(refine qc 11 ?_;refine vl ?_;refine lB S rfl rfl ?_;(first|(refine cS ?_ ?_<;>intro hc))<;>(refine mv ?_;(first|refine off ?_|(refine vl ?_));(first|refine off ?_|(refine lB S rfl rfl ?_));(first|(refine off ?_;refine off ?_;refine vl ?_;refine mv ?_;refine qf ?_)|skip)))))
   ·have h100:ka=100:=hc;(refine qw rfl rfl rfl rfl rfl ((qdZ r.a).mono ?_);rintro _ _ ⟨⟨rfl,hn⟩|⟨rfl,hn⟩,rfl⟩)<;>((refine vl ?_);refine vl ?_;refine mv ?_;refine qf ?_)
    ·have hnm:¬ (ka=100∧¬ Qx r.a):=fun q=>q.2 hn;all_goals (repeat' (first|refine qg ?_|refine qh rfl ?_))
     cases kb
     ·all_goals (repeat' (first|refine qh rfl ?_|refine qi ?_|(refine qc 13 ?_;refine vl ?_;refine lB S rfl rfl ?_;refine mv ?_;refine off ?_;refine off ?_;refine off ?_;refine off ?_;(refine off ?_)<;>(refine vl ?_;refine mv ?_;refine qf ?_))))
      exact ⟨(),⟨S,⟨hww,hp,hun,hnm⟩,fun q=>(by cases q.1)⟩,(qx)⟩
     ·all_goals (repeat' (first|refine qg ?_|refine qh rfl ?_|refine qi ?_|(refine qc 13 ?_;refine vl ?_;refine lB S rfl rfl ?_;refine mv ?_;(first|(refine vl ?_));(first|(refine lB S rfl rfl ?_));(first|(refine vl ?_));(first|(refine lB S rfl rfl ?_));(first|(refine tS ?_ ?_<;>intro hc))<;>(refine vl ?_;refine mv ?_;refine qf ?_))|(refine qc 14 ?_;refine mv ?_;refine qf ?_)))
      ·refine qo ⟨_,rfl,?_⟩;exact ⟨by rw [Kd.qhA ⟨hww,hp,hun,hnm⟩ ⟨rfl,hc⟩];rfl,S.drop⟩
      ·exact ⟨(),⟨S,⟨hww,hp,hun,hnm⟩,fun q=>hc q.2⟩,(qx)⟩
    ·all_goals (repeat' (first|refine qg ?_|refine qh rfl ?_|(refine qc 12 ?_;refine mv ?_;refine qf ?_)))
     refine qo ⟨_,rfl,?_⟩;exact ⟨by rw [Kd.qji hww hp hun ⟨h100,hn⟩];rfl,S.drop⟩
   ·have hnm:¬ (ka=100∧¬ Qx r.a):=fun q=>hc q.1;cases kb
    ·all_goals (repeat' (first|refine qh rfl ?_|refine qi ?_|(refine qc 13 ?_;refine vl ?_;refine lB S rfl rfl ?_;refine mv ?_;refine off ?_;refine off ?_;refine off ?_;refine off ?_;(refine off ?_)<;>(refine vl ?_;refine mv ?_;refine qf ?_))))
     exact ⟨(),⟨S,⟨hww,hp,hun,hnm⟩,fun q=>(by cases q.1)⟩,(qx)⟩
    ·all_goals (repeat' (first|refine qg ?_|refine qh rfl ?_|refine qi ?_|(refine qc 13 ?_;refine vl ?_;refine lB S rfl rfl ?_;refine mv ?_;(first|(refine vl ?_));(first|(refine lB S rfl rfl ?_));(first|(refine vl ?_));(first|(refine lB S rfl rfl ?_));(first|(refine tS ?_ ?_<;>intro hc))<;>(refine vl ?_;refine mv ?_;refine qf ?_))|(refine qc 14 ?_;refine mv ?_;refine qf ?_)))
     ·refine qo ⟨_,rfl,?_⟩;exact ⟨by rw [Kd.qhA ⟨hww,hp,hun,hnm⟩ ⟨rfl,hc⟩];rfl,S.drop⟩
     ·exact ⟨(),⟨S,⟨hww,hp,hun,hnm⟩,fun q=>hc q.2⟩,(qx)⟩
  ·have hun:(Kd.mk ka kb kt kn lo st).unk p.us r:=hu.1 rfl;all_goals (repeat' (first|refine qg ?_|refine qh rfl ?_|(refine qc 10 ?_;refine mv ?_;refine qf ?_)))
   refine qo ⟨_,rfl,?_⟩;exact ⟨by rw [Kd.qhz hww hp hun];rfl,S.drop⟩
 clear S;rintro _ h ⟨S,ho,h5⟩;(repeat (refine qg ?_));first|refine GN (σ:=Int×Bool) (fun (i,c) h'=>Hs h0 h' [.blk b (XR r) 158,.blk b4 v.cs 28,.blk b3 (eKd wd (Kd.mk ka kb kt kn lo st) f) 188]∧((c=true∧Jw p.tabs r.t∧i=tix p.tabs r.t∧tix p.tabs r.t<p.tabs.length)∨(c=false∧¬ Jw p.tabs r.t))) (fun (i,c)=>[(3,.pointer (some ⟨b3,0,none⟩)),(4,.pointer (some ⟨b4,0,none⟩)),(5,.pointer (some ⟨b,0,none⟩)),(6,.int .i64 0),(7,.int .i64 i),(8,.bool c)]) ?_ ?_
 ·all_goals (repeat' (first|(refine qc 15 ?_;refine vl ?_;refine lB S rfl rfl ?_;refine vl ?_;refine lB S rfl rfl ?_)))
  (refine qw rfl rfl rfl rfl rfl ((qew S.wf v.vt.val p.tabs (H.tab.ext w S.ext) r.t).mono ?_);rintro _ h ⟨⟨k,rfl,-,hk,hn,hmin⟩|⟨rfl,hnot⟩,x⟩)<;>(replace S:=S.qE x;clear x;refine mv ?_;refine vl ?_;refine vl ?_;refine mv ?_;refine mv ?_;refine qf ?_)
  ·all_goals (repeat' (fail))
   exact ⟨((k:Int),true),⟨S,.inl ⟨rfl,⟨k,hk,hn⟩,by rw [gm hk hn hmin],by rw [gm hk hn hmin];exact hk⟩⟩,(qx)⟩
  ·all_goals (repeat' (fail))
   exact ⟨(0,false),⟨S,.inr ⟨rfl,fun ⟨j,hj,hn⟩=>hnot.elim (fun q=>q hv) fun q=>q j hj hn⟩⟩,(qx)⟩
 clear S;rintro ⟨i,c⟩ h ⟨S,hf⟩;(repeat (refine qg ?_));first|refine jC (σ:=Unit) (fun _ h'=>Hs h0 h' [.blk b (XR r) 158,.blk b4 v.cs 28,.blk b3 (eKd wd (Kd.mk ka kb kt kn lo st) f) 188]∧¬ (Kd.mk ka kb kt kn lo st).ut p.tabs r) (fun _=>[(3,.pointer (some ⟨b3,0,none⟩)),(4,.pointer (some ⟨b4,0,none⟩)),(5,.pointer (some ⟨b,0,none⟩)),(6,.int .i64 0),(7,.int .i64 i),(8,.bool c)]) ?_ ?_
 ·rcases hf with ⟨rfl,hT,-,-⟩|⟨rfl,hT⟩
  ·all_goals (repeat' (first|refine qh rfl ?_|refine qi ?_|(refine qc 16 ?_;refine vl ?_;refine lB S rfl rfl ?_;(first|(refine cS ?_ ?_<;>intro hc))<;>(refine mv ?_;(first|refine off ?_|refine mv ?_);(first|refine off ?_|refine vl ?_);refine vl ?_;refine mv ?_;(first|(refine vl ?_));(first|(refine lB S rfl rfl ?_));(first|(first|refine cF ?_|(refine cS ?_ ?_<;>intro hc)))<;>((refine mv ?_);(first|refine off ?_|(refine vl ?_));(first|refine off ?_|(refine lB S rfl rfl ?_));(first|refine off ?_|(refine tS ?_ ?_<;>intro hc))<;>((refine vl ?_);refine mv ?_;(first|refine off ?_|refine mv ?_);(first|refine off ?_|refine vl ?_);refine vl ?_;refine vl ?_;refine qf ?_))))))
   all_goals exact ⟨(),⟨S,fun q=>q.elim (fun q=>q.2 hT) fun q=>q.2.2 hT⟩,(qx)⟩
  ·all_goals (repeat' (first|refine qg ?_|refine qh rfl ?_|refine qi ?_|(refine qc 16 ?_;refine vl ?_;refine lB S rfl rfl ?_;(first|(refine cS ?_ ?_<;>intro hc))<;>(refine mv ?_;(first|refine off ?_|refine mv ?_);(first|refine off ?_|refine vl ?_);refine vl ?_;refine mv ?_;(first|refine off ?_|(refine vl ?_));(first|refine off ?_|(refine lB S rfl rfl ?_));(first|refine off ?_|(first|(refine cS ?_ ?_<;>intro hc)))<;>((first|refine off ?_|refine mv ?_);(first|refine off ?_|(refine vl ?_));(first|refine off ?_|(refine lB S rfl rfl ?_));(first|refine off ?_|(refine tS ?_ ?_<;>intro hc))<;>((first|refine off ?_|refine vl ?_);(first|refine off ?_|refine mv ?_);(first|refine off ?_|refine mv ?_);(first|refine off ?_|refine vl ?_);(first|refine off ?_|refine vl ?_);refine vl ?_;refine qf ?_))))|(refine qc 17 ?_;refine mv ?_;refine qf ?_)))
   all_goals first|((refine qo ⟨_,rfl,?_⟩);have hut:(Kd.mk ka kb kt kn lo st).ut p.tabs r:=(by first|exact .inl ⟨by assumption,hT⟩|exact .inr ⟨by assumption,by assumption,hT⟩);exact ⟨by rw [Kd.qc0 ho h5,if_pos hut];rfl,S.drop⟩)|exact ⟨(),⟨S,fun q=>by rcases q with ⟨q1,-⟩|⟨q1,q2,-⟩<;>first|contradiction⟩,(qx)⟩
 clear S;rintro _ h ⟨S,hut⟩;all_goals (repeat' (first|refine qg ?_|(refine qc 18 ?_;refine mv ?_;refine qf ?_)))
 (repeat (refine qg ?_));first|refine jC (σ:=Unit) (fun _ h'=>Hs h0 h' [.blk b (XR r) 158,.blk b4 v.cs 28,.blk b3 (eKd wd (Kd.mk ka kb kt kn lo st) f) 188]) (fun _=>[(3,.pointer (some ⟨b3,0,none⟩)),(4,.pointer (some ⟨b4,0,none⟩)),(5,.pointer (some ⟨b,0,none⟩)),(6,.int .i64 0),(7,.int .i64 i),(8,.bool c),(9,.int .i64 ((Kd.mk ka kb kt kn lo st).most p.tabs r))]) ?_ ?_
 ·cases st
  ·all_goals (repeat' (first|refine qh rfl ?_|refine qi ?_|(refine qc 19 ?_;refine vl ?_;refine lB S rfl rfl ?_;refine qf ?_)))
   exact ⟨(),S,(qx)⟩
  ·have h116:kt=116:=hs rfl;rcases hf with ⟨rfl,hT,rfl,hti⟩|⟨rfl,hT⟩
   ·have hg:=(hv.2 _ hti).1;have ht:=H.tab.tab _ hti;have hone:(p.tabs.drop (tix p.tabs r.t)).take (tix p.tabs r.t+1 - tix p.tabs r.t)=[tb p.tabs (tix p.tabs r.t)]:=by
     rw [Nat.add_sub_cancel_left];unfold tb;rw [zA2,zA4 hti,zG7 hti];rfl
    have b1:=Qv (tb p.tabs (tix p.tabs r.t));all_goals (repeat' (first|refine qh rfl ?_|(refine qc 19 ?_;refine vl ?_;refine lB S rfl rfl ?_;refine qf ?_)|(refine qc 20 ?_;refine vl ?_;refine lB S rfl rfl ?_;refine mv ?_;refine mv ?_;refine ad ?_)))
    refine su (tix p.tabs r.t) (tix p.tabs r.t+1) (hr.ext w S.ext) H.tab.cap ?_;intro vs hrs hcs;(skip);rw [hone] at hrs;(refine qw rfl rfl rfl rfl rfl ((countOne S.wf hrs hcs (ht.ext w S.ext) hg).mono ?_);rintro _ h ⟨rfl,x⟩)<;>(replace S:=S.qE x;clear x;refine sb ?_;refine mv ?_;refine qf ?_)
    all_goals (repeat' (fail))
    exact ⟨(),S,(qx)⟩
   ·exact absurd (.inl ⟨h116,hT⟩) hut
 clear S;rintro _ h S;cases kn
 ·all_goals (repeat' (first|refine qg ?_|refine qh rfl ?_|refine qi ?_|(refine qc 21 ?_;refine vl ?_;refine lB S rfl rfl ?_;refine mv ?_;refine off ?_;refine off ?_;refine off ?_;refine off ?_;(refine off ?_)<;>((refine off ?_);refine off ?_;refine off ?_;refine off ?_;(refine off ?_)<;>((refine off ?_);refine vl ?_;refine qf ?_)))|(refine qc 23 ?_;refine mv ?_;refine qf ?_)))
  refine qo ⟨_,rfl,?_⟩;exact ⟨by rw [Kd.qc0 ho h5,if_neg hut,if_neg (fun q=>by cases q.1)];rfl,S.drop⟩
 ·all_goals (repeat' (first|refine qg ?_|refine qh rfl ?_|refine qi ?_|(refine qc 21 ?_;refine vl ?_;refine lB S rfl rfl ?_;refine mv ?_;(first|(refine vl ?_));(first|(refine lB S rfl rfl ?_));(first|(refine vl ?_));(first|(refine lB S rfl rfl ?_));(first|(first|(refine cS ?_ ?_<;>intro hc)))<;>((refine mv ?_);(first|refine off ?_|(refine vl ?_));(first|refine off ?_|(refine lB S rfl rfl ?_));(first|refine off ?_|refine mv ?_);(first|refine off ?_|(first|(refine cS ?_ ?_<;>intro hc)))<;>((refine vl ?_);refine vl ?_;refine qf ?_)))|(refine qc 22 ?_;refine mv ?_;refine qf ?_)|(refine qc 23 ?_;refine mv ?_;refine qf ?_)))
  ·refine qo ⟨_,rfl,?_⟩;exact ⟨by rw [Kd.qc0 ho h5,if_neg hut,if_pos ⟨rfl,.inl hc⟩];rfl,S.drop⟩
  ·refine qo ⟨_,rfl,?_⟩;exact ⟨by rw [Kd.qc0 ho h5,if_neg hut,if_pos ⟨rfl,.inr hc⟩];rfl,S.drop⟩
  ·refine qo ⟨_,rfl,?_⟩;exact ⟨by rw [Kd.qc0 ho h5,if_neg hut,if_neg (fun q=>q.2.elim (fun q=>by contradiction) fun q=>by contradiction)];rfl,S.drop⟩
def mkP (b:Nat) (es:List (Value×Value×Nat)) (c:Nat) (h:AH) (fp:Fp):Prop:=h.get b=some (.map es c)∧fp b
abbrev KD (b:Nat) (es:List (Value×Value×Nat)) (c:Nat):Rs:=.any (mkP b es c)
def mvO (r:Option (Nat×Value)) (z:Value):Value:=match r with|some q=>q.2|none=>z
section
variable {P:Program} {X:Extern} {sz:Nat} {L:Ks} {h h0:AH} {rs:List Rs} {ops:Array Oper} {os:List Oper} {o:Oper} {R:Ks→AH→Prop}
theorem qiW {ty:TypeId} {d:Tmp} (S:Hs h0 h rs) (w:∀ b h',Hs h0 h' (KD b [] 0 :: rs)→KO P X sz ops os (L.put d (.map (some b))) h' R) (ho:o.op = .makeMap ty none:=by exact rfl) (hg:qp ops L.tree o.guard=some true:=by exact rfl) (hdst:o.dst=some d:=by exact rfl) (hds:Nat.blt d sz=true:=by exact rfl):KO P X sz ops (o :: os) L h R :=
 zJ hg (v:=.map (some h.next)) (h':=h.add (.map [] 0)) (by rw [ho];rfl) (show qJ sz L o.dst _=some (L.put d _) by simp only [qJ,hdst,hds]) (w _ _ (S.grow (fp:=fun b=>b=h.next) ((Ext.refl S.wf).add _) (fun h' q=>⟨by rw [q _ rfl,AH.zf,if_pos rfl],rfl⟩) fun b hb=>by subst hb;exact ⟨zA3 _,zG0 _⟩))
theorem ins {b c:Nat} {es es2:List (Value×Value×Nat)} {m k x:Operand} {ty et:TypeId} {kv xv:Value} {kd:TypeDesc} {L':Ks} (S:Hs h0 h (KD b es c :: rs)) (w:∀ h',Hs h0 h' (KD b es2 (c+1) :: rs)→KO P X sz ops os L' h' R)
 (ho:o.op = .insert ty m k x:=by exact rfl) (hg:qp ops L.tree o.guard=some true:=by exact rfl) (hm:kA L m=some (.map (some b)):=by exact rfl) (hk:kA L k=some kv:=by exact rfl) (hx:kA L x=some xv:=by exact rfl)
 (hT:Vb P ty kv=some (kd,et):=by exact rfl) (hf:Zy kd kv es 0=some none:=by exact rfl) (he:es ++ [(kv,xv,c)]=es2:=by exact rfl) (hp:qJ sz L o.dst (.tuple #[])=some L':=by exact rfl):KO P X sz ops (o :: os) L h R:=by
 obtain ⟨fp,k1,k2⟩:=At.here.ok S.sep;obtain ⟨g1,g2⟩:=k1 h fun _ _=>rfl;have g3:=fun j (hj:fp j)=>k2 j hj;have e:Qp P ty (.map (some b)) kv xv h=some (h.put b (.map es2 (c+1))):=by
  unfold Qp;simp only [hT,g1,hf,he]
 refine xq hg (h':=h.put b (.map es2 (c+1))) ?_ hp (w _ ?_)
 ·rw [ho];simp only [ja,qI hm,qI hk,qI hx,e]
 ·refine S.turn .here (zA3 _) (S.wf.put (g3 b g2).2.1 _) fun fq q1 q2=>?_;obtain ⟨g4,g5⟩:=q1 h fun _ _=>rfl;exact ⟨fun j _ hj=>by rw [AH.get_put,if_neg];intro q;subst q;exact hj g5,fq,fun h' q=>⟨by rw [q b g5,AH.get_put,if_pos rfl],g5⟩,fun j hj=>⟨(q2 j hj).2,.inl hj⟩⟩
theorem qi5 {b c:Nat} {es:List (Value×Value×Nat)} {ty et:TypeId} {kv z:Value} {kd:TypeDesc} {r:Option (Nat×Value)} (S:Hs h0 h rs) (a:At rs (KD b es c)) (hT:Vb P ty kv=some (kd,et)) (hf:Zy kd kv es 0=some r) (hz:zeroV P et=some z) :
 Qg P ty (.map (some b)) kv false h=some (mvO r z):=by
 obtain ⟨fp,⟨g1,g2⟩⟩:=S.qe5 a;unfold Qg Zx;simp only [hT,g1,hf,hz];cases r<;>rfl
theorem lkK {b c:Nat} {es:List (Value×Value×Nat)} {m k:Operand} {ty et:TypeId} {kv z v:Value} {kd:TypeDesc} {r:Option (Nat×Value)} {L':Ks} (S:Hs h0 h rs) (a:At rs (KD b es c)) (hf:Zy kd kv es 0=some r) (hv:mvO r z=v) (w:KO P X sz ops os L' h R)
 (ho:o.op = .lookup ty m k false:=by exact rfl) (hg:qp ops L.tree o.guard=some true:=by exact rfl) (hm:kA L m=some (.map (some b)):=by exact rfl) (hk:kA L k=some kv:=by exact rfl) (hT:Vb P ty kv=some (kd,et):=by exact rfl) (hz:zeroV P et=some z:=by exact rfl) (hp:qJ sz L o.dst v=some L':=by exact rfl):KO P X sz ops (o :: os) L h R:=by
 have e:=qi5 S a hT hf hz;rw [hv] at e;refine zJ hg (v:=v) (h':=h) ?_ hp w;rw [ho];simp only [ja,qI hm,qI hk,e,orO,qU]
end
def kwL:List (List UInt8):=[[97,112,97,114,116],[98,101,115,105,100,101],[97,99,114,111,115,115],[110,101,97,114],[116,111,103,101,116,104,101,114],[97,116],[115,101,97,116],[97,108,116,101,114,110,97,116,101],[104,111,115,116],[114,101,97,99,104],[115,112,101,97,107],[112,101,97,99,101],[99,111,109,112,97,110,121],[104,111,110,111,117,114],[102,105,108,108],[108,105,109,105,116],[107,105,116,99,104,101,110],[109,105,120]]
def kfL:List Value:=[Xw 201,Xw 202,Xw 203,Xw 204,Xw 205,Xw 206,Xw 207,Xw 208,Xw 209,Xw 210,Xw 211,Xw 212,Xw 213,Xw 214,Xw 215,Xw 216,Xw 217,Xw 218]
def kEs:List (Value×Value×Nat):=(List.range 18).map fun i=>(.int .u8 ((i+1:Nat):Int),kdV (kwL.getD i []) (kdL.getD i default) (kfL.getD i .nilFunc),i)
theorem qes {h0:AH} (w:WfH h0):Fn Tryz.prog Xh 148 [] h0 (fun u h'=>∃ b,u = .map (some b)∧Hs h0 h' [KD b kEs 18]):=by
 have S:=Hs.start w;refine qL (by first|rfl) Tryz.func148 rfl rfl ?_;all_goals (repeat' (first|refine qg ?_|(refine qc 0 ?_;refine mv ?_;refine qf ?_)))
 (repeat (refine qg ?_));refine qc 1 ?_;refine qiW S ?_;clear S;intro b h S;refine vl ?_;refine ins (es2:=kEs.take 1) S ?_;clear S;intro h S;refine vl ?_;refine ins (es2:=kEs.take 2) S ?_;clear S;intro h S;refine vl ?_;refine ins (es2:=kEs.take 3) S ?_;clear S;intro h S;refine vl ?_;refine ins (es2:=kEs.take 4) S ?_;clear S;intro h S;refine vl ?_;refine ins (es2:=kEs.take 5) S ?_;clear S;intro h S;refine vl ?_;refine ins (es2:=kEs.take 6) S ?_;clear S;intro h S;refine vl ?_;refine ins (es2:=kEs.take 7) S ?_;clear S;intro h S;refine vl ?_;refine ins (es2:=kEs.take 8) S ?_;clear S;intro h S;refine vl ?_;refine ins (es2:=kEs.take 9) S ?_;clear S;intro h S;refine vl ?_;refine ins (es2:=kEs.take 10) S ?_;clear S;intro h S;refine vl ?_;refine ins (es2:=kEs.take 11) S ?_;clear S;intro h S;refine vl ?_;refine ins (es2:=kEs.take 12) S ?_;clear S;intro h S;refine vl ?_;refine ins (es2:=kEs.take 13) S ?_;clear S;intro h S;refine vl ?_;refine ins (es2:=kEs.take 14) S ?_;clear S;intro h S;refine vl ?_;refine ins (es2:=kEs.take 15) S ?_;clear S;intro h S;refine vl ?_;refine ins (es2:=kEs.take 16) S ?_;clear S;intro h S;refine vl ?_;refine ins (es2:=kEs.take 17) S ?_;clear S;intro h S;refine vl ?_;refine ins (es2:=kEs.take 18) S ?_;clear S;intro h S;refine mv ?_;refine mv ?_;refine qf ?_;all_goals (repeat' (fail))
 refine qo ⟨_,rfl,?_⟩;exact ⟨b,rfl,S⟩
def yA (k:Int):Value:=if 1≤k∧k≤18 then kdV (kwL.getD (k.toNat - 1) []) (Q3 k) (kfL.getD (k.toNat - 1) .nilFunc) else kdV [] ⟨0,false,0,false,0,false⟩ .nilFunc
variable [Flag]
theorem qcW {h0:AH} (w:WfH h0) (v:RlV) (r:Rl) (H:RlOk h0 v r):Fn Tryz.prog Xh 199 [v.val] h0 (fun u h'=>((u = .tuple #[.int .i64 0,.int .i64 0]∧VRl r)∨∃ i e,u = .tuple #[.int .i64 i,.int .i64 e]∧Bad r i e)∧Hs h0 h' []):=by
 have S:=Hs.start w;unfold RlV.val;refine qL (by first|rfl|exact KX.no _ _ _ (by decide) rfl) Tryz.func199 rfl rfl ?_;all_goals (repeat' (first|refine qg ?_|refine qh rfl ?_|refine qi ?_|refine qC ?_|refine qj ?_|refine qX ?_|refine qY ?_|(refine qc 0 ?_;(refine bx S ?_;clear S;intro b h S);refine mv ?_;refine mv ?_;refine qf ?_)|(refine qc 1 ?_;(first|refine lB S rfl rfl ?_|refine zk S rfl rfl ?_|refine jk S ?_|refine lH S ?_))))
 (refine qw rfl rfl rfl rfl rfl ((qfG S.wf v r (H.ext w S.ext)).mono ?_);rintro _ h (⟨p,rfl,hv,x⟩|⟨i,e,rfl,hb,x⟩))<;>(refine mv ?_;refine vl ?_;refine vl ?_;refine vl ?_;(iterate 3 refine mv ?_);refine qf ?_)
 ·replace S:=S.join x;all_goals (repeat' (first|refine qg ?_|refine qh rfl ?_|refine qi ?_|refine qC ?_|refine qj ?_|refine qX ?_|refine qY ?_|(refine qc 2 ?_;(iterate 4 refine mv ?_);refine qf ?_)))
  refine qo ⟨_,rfl,?_⟩;exact ⟨.inl ⟨rfl,hv⟩,S.drop⟩
 ·replace S:=S.join x;all_goals (repeat' (first|refine qg ?_|refine qh rfl ?_|refine qi ?_|refine qC ?_|refine qj ?_|refine qX ?_|refine qY ?_|(refine qc 2 ?_;(iterate 4 refine mv ?_);refine qf ?_)))
  refine qo ⟨_,rfl,?_⟩;exact ⟨.inr ⟨_,_,rfl,hb⟩,S.drop⟩
end Go.Proofs.Xx
namespace Go.Proofs.Xx
open Go Go.Proofs
theorem qi9 (k:Int):Zy (.int .u8) (.int .u8 k) kEs 0=some (if 1≤k∧k≤18 then some (k.toNat - 1,yA k) else none):=by
 by_cases h:1≤k∧k≤18
 ·rw [if_pos h];obtain ⟨h1,h2⟩:=h;have:k=1∨k=2∨k=3∨k=4∨k=5∨k=6∨k=7∨k=8∨k=9∨k=10∨k=11∨k=12∨k=13∨k=14∨k=15∨k=16∨k=17∨k=18:=by omega
  rcases this with rfl|rfl|rfl|rfl|rfl|rfl|rfl|rfl|rfl|rfl|rfl|rfl|rfl|rfl|rfl|rfl|rfl|rfl<;>rfl
 ·rw [if_neg h];have e:∀ (es:List (Value×Value×Nat)) (i:Nat),(∀ e∈es,∃ j:Int,e.1 = .int .u8 j∧1≤j∧j≤18)→Zy (.int .u8) (.int .u8 k) es i=some none:=by
   intro es;induction es with
   | nil=>intro i _;rfl
   | cons e es ih =>
    intro i he;obtain ⟨j,h1,h2⟩:=he e (by simp);have hs:Instr.sameNow (.int .u8) (.int .u8 k) e.1=some false:=by
     rw [h1];show some (decide (k=j))=_
     rw [decide_eq_false (by omega)]
    unfold Zy;rw [hs];exact ih _ fun x hx=>he x (List.mem_cons_of_mem _ hx)
  refine e kEs 0 fun x hx=>?_;unfold kEs at hx;obtain ⟨i,hi,rfl⟩:=zF1.1 hx;have:=zE2.1 hi;exact ⟨_,rfl,by omega,by omega⟩
theorem kdv (k:Int):mvO (if 1≤k∧k≤18 then some (k.toNat - 1,yA k) else none) (kdV [] ⟨0,false,0,false,0,false⟩ .nilFunc)=yA k:=by
 by_cases h:1≤k∧k≤18
 ·rw [if_pos h];rfl
 ·rw [if_neg h];unfold yA mvO;rw [if_neg h]
theorem qba {h0:AH} (w:WfH h0) (v:PbV) (p:Pb) (H:PbOk h0 v p) (hv:ValidL p.tabs) (r:Ru) :
 Fn Tryz.prog Xh 149 [yA r.k,v.val,ruV r] h0 (fun u h'=>u = .int .i64 (wP p r)∧Hs h0 h' []):=by
 unfold yA wP;by_cases h:1≤r.k∧r.k≤18
 ·rw [if_pos h,if_pos h];refine qcR w _ _ _ v p H hv r ?_ ?_
  ·have:∀ i,i<18→kwL.getD i []≠[]:=by decide
   exact this _ (by omega)
  ·have:∀ i,i<18→(kdL.getD i default).seat=true→(kdL.getD i default).t=116:=by decide
   exact this _ (by omega)
 ·rw [if_neg h,if_neg h];have S:=Hs.start w;unfold kdV eKd ruV XR PbV.val;refine qL (by first|rfl) Tryz.func149 rfl rfl ?_;all_goals (repeat' (first|refine qg ?_|refine qh rfl ?_|refine qj ?_|(refine qc 0 ?_;(refine bx S ?_;clear S;intro b h S);(refine bx S ?_;clear S;intro b h S);(refine bx S ?_;clear S;intro b h S);refine mv ?_;refine qf ?_)|(refine qc 1 ?_;refine vl ?_;refine lB S rfl rfl ?_;(refine tS ?_ ?_<;>intro hc)<;>(refine mv ?_;refine qf ?_))|(refine qc 2 ?_;refine mv ?_;refine qf ?_)))
  ·refine qo ⟨_,rfl,?_⟩;exact ⟨rfl,S.drop⟩
  ·exact absurd rfl hc
def qk2 (p:Pb):Prop:=(p.cl.length=0∨p.cl.length=p.us.length)∧∀ c∈p.cl,0≤c∧c<64
theorem qe2 {h0:AH} (w:WfH h0) (v:PbV) (p:Pb) (H:PbOk h0 v p):Fn Tryz.prog Xh 147 [v.val] h0 (fun u h'=>∃ i e,u = .tuple #[.int .i64 i,.int .i64 e]∧BasP p i e∧Hs h0 h' []):=by
 have S:=Hs.start w;have hr:=H.rol.rg;have hl:=H.rol.len;have hlg:=H.rol.lg;have hcr:=H.cl;have hcl:=H.lc;have hl':v.gs.length=p.us.length:=hl;have hlg':p.us.length≤9223372036854775807:=hlg;unfold PbV.val;refine qL (by first|rfl) Tryz.func147 rfl rfl ?_;all_goals (repeat' (first|refine qg ?_|(refine qc 0 ?_;(refine bx S ?_;clear S;intro b h S);refine mv ?_;refine mv ?_;refine qf ?_)|(refine qc 1 ?_;refine vl ?_;refine lB S rfl rfl ?_)))
 (refine qw rfl rfl rfl rfl rfl ((XV S.wf v.vt.val p.tabs (H.tab.ext w S.ext)).mono ?_);rintro _ h ⟨i,e,rfl,hk,x⟩)<;>(replace S:=S.qE x;clear x;refine mv ?_;refine vl ?_;refine vl ?_;refine mv ?_;refine mv ?_;refine qf ?_)
 all_goals (repeat' (first|refine qg ?_|refine qh rfl ?_|refine qi ?_|(refine qc 2 ?_;refine mv ?_;(first|(refine cS ?_ ?_<;>intro hc))<;>(refine qf ?_))|(refine qc 3 ?_;(iterate 4 refine mv ?_);refine qf ?_)))
 ·refine qo ⟨_,rfl,?_⟩;exact ⟨i,e,rfl,.inl ⟨hc,hk⟩,S.drop⟩
 have hv:ValidL p.tabs:=hk.valid.1 (by omega);all_goals (repeat' (first|(refine qc 4 ?_;refine vl ?_;refine lB S rfl rfl ?_;refine vl ?_;refine lB S rfl rfl ?_;refine vl ?_)))
 (refine qw rfl rfl rfl rfl rfl ((qcW S.wf v.rl p.rl (H.rol.ext w S.ext)).mono ?_);rintro _ h ⟨⟨rfl,hq⟩|⟨i2,e2,rfl,hq⟩,x⟩)<;>(replace S:=S.qE x;clear x;refine mv ?_;refine vl ?_;refine vl ?_;refine mv ?_;refine mv ?_;refine qf ?_)
 rotate_left
 ·all_goals (repeat' (first|refine qg ?_|refine qh rfl ?_|refine qi ?_|(refine qc 5 ?_;refine mv ?_;(first|(refine cS ?_ ?_<;>intro hc))<;>(refine qf ?_))|(refine qc 6 ?_;(iterate 4 refine mv ?_);refine qf ?_)))
  ·refine qo ⟨_,rfl,?_⟩;exact ⟨i2,e2,rfl,.inr (.inl ⟨hv,hq⟩),S.drop⟩
  ·exact absurd (by omega) hq.1
 have ho:RO p.rl:=Vw.1 hq;all_goals (repeat' (first|refine qg ?_|refine qh rfl ?_|refine qi ?_|(refine qc 5 ?_;refine mv ?_;(refine cF ?_)<;>(refine qf ?_))))
 (repeat (refine qg ?_));first|refine jC (σ:=Unit) (fun _ h'=>Hs h0 h' [.blk b v.cs 28]∧(p.cl.length=0∨p.cl.length=p.us.length)) (fun _=>[(1,.pointer (some ⟨b,0,none⟩)),(2,.int .i64 0),(3,.int .i64 0)]) ?_ ?_
 ·have hl2:v.rl.gs.length=p.us.length:=hl;all_goals (repeat' (first|refine qg ?_|refine qh rfl ?_|refine qi ?_|(refine qc 7 ?_;refine vl ?_;refine lB S rfl rfl ?_;refine jf S ?_;(first|(refine cS ?_ ?_<;>intro hc))<;>(refine mv ?_;(first|refine off ?_|(refine vl ?_));(first|refine off ?_|(refine lB S rfl rfl ?_));(first|refine off ?_|(refine jf S ?_));(first|refine off ?_|(refine vl ?_));(first|refine off ?_|(refine lB S rfl rfl ?_));(first|refine off ?_|(refine jf S ?_));(first|refine off ?_|(first|(refine cS ?_ ?_<;>intro hc)))<;>(refine vl ?_;refine qf ?_)))|(refine qc 8 ?_;refine mv ?_;refine mv ?_;refine qf ?_)))
  ·refine qo ⟨_,rfl,?_⟩;exact ⟨0,44,rfl,.inr (.inr ⟨hv,ho,.inl ⟨fun q=>by have:=q.1;omega,rfl,rfl⟩⟩),S.drop⟩
  ·exact ⟨(),⟨S,by omega⟩,(qx)⟩
  ·exact ⟨(),⟨S,by omega⟩,(qx)⟩
 clear S;rintro _ h ⟨S,h1⟩;all_goals (repeat' (first|refine qg ?_|refine qj ?_|(refine qc 9 ?_;refine vl ?_;refine lB S rfl rfl ?_;refine jf S ?_;refine mv ?_;refine qf ?_)))
 refine qH (σ:=Nat) (fun i h'=>Hs h0 h' [.blk b v.cs 28]∧i≤p.cl.length∧∀ j,j<i→0≤p.cl.getD j default∧p.cl.getD j default<64) (fun i=>p.cl.length - i) (fun i=>[(1,.pointer (some ⟨b,0,none⟩)),(2,.int .i64 0),(3,.int .i64 0),(47,v.vc.val),(48,.int .i64 p.cl.length),(49,.int .i64 i)]) 0 qx ?_ ?_
 ·exact ⟨S,zB0 _,fun j hj=>absurd hj (zB7 _)⟩
 clear S;rintro i h ⟨S,k1,k2⟩;all_goals (repeat' (first|refine qg ?_|refine qh rfl ?_|refine qi ?_|refine qC ?_|refine qj ?_|(refine qc 10 ?_;(first|(refine cS ?_ ?_<;>intro hc))<;>(refine qf ?_))|(refine qc 11 ?_;refine jF S ?_;refine jk S ?_;refine mv ?_;refine qf ?_)|(refine qc 12 ?_;refine mv ?_;(first|(refine cS ?_ ?_<;>intro hc))<;>(refine mv ?_;(first|refine off ?_|refine mv ?_);(first|refine off ?_|(first|(refine cS ?_ ?_<;>intro hc)))<;>(refine vl ?_;refine qf ?_)))|(refine qc 13 ?_;refine mv ?_;refine mv ?_;refine qf ?_)|(refine qc 14 ?_;refine ad ?_;refine mv ?_;refine qf ?_)))
 ·refine qo ⟨_,rfl,?_⟩;exact ⟨0,44,rfl,.inr (.inr ⟨hv,ho,.inl ⟨fun q=>by have:=(q.2 _ (qQ (show i<p.cl.length by omega))).1;simp only [zA0] at hc;omega,rfl,rfl⟩⟩),S.drop⟩
 ·refine qo ⟨_,rfl,?_⟩;exact ⟨0,44,rfl,.inr (.inr ⟨hv,ho,.inl ⟨fun q=>by have:=(q.2 _ (qQ (show i<p.cl.length by omega))).2;simp only [zA0] at hc;omega,rfl,rfl⟩⟩),S.drop⟩
 ·(try simp only [zA0] at *)
  refine ⟨i+1,?_,?_,qx⟩
  ·show p.cl.length - (i+1)<p.cl.length - i;omega
  ·exact ⟨S,by omega,Qj k2 ⟨by omega,by omega⟩⟩
 have hco:(p.cl.length=0∨p.cl.length=p.us.length)∧∀ c∈p.cl,0≤c∧c<64:=⟨h1,fun c hc2=>by
  obtain ⟨j,hj,rfl⟩:=zx.1 hc2;exact k2 j (by omega)⟩
 have hs:=zQ p.tabs p.tabs.length;have htl:=H.tab.len;have hcv:XU p.tabs=sumT p.tabs p.tabs.length:=by unfold XU;rw [if_pos hv]
 have hl2:v.rl.gs.length=p.us.length:=hl;(repeat (refine qg ?_));refine ZJ (id:=15) [(1,(0,1))] [some (b)] ?_;refine qy ?_;(first|(refine vl ?_<;>refine qf ⟨⟨by (first|exact True.intro),rfl⟩,?_⟩));refine qy ?_;(first|(refine lB S rfl rfl ?_<;>refine qf ⟨⟨by (first|exact Or.inr rfl),rfl⟩,?_⟩));refine qy ?_;(first|(refine jf S ?_<;>refine qf ⟨⟨by (first|exact True.intro),rfl⟩,?_⟩));refine qy ?_;(first|(refine vl ?_<;>refine qf ⟨⟨by (first|exact True.intro),rfl⟩,?_⟩));refine qy ?_;(first|(refine lB S rfl rfl ?_<;>refine qf ⟨⟨by (first|exact True.intro),rfl⟩,?_⟩));((refine qy ?_;first|refine qw rfl rfl rfl rfl rfl ((yQ S.wf v.vt.val p.tabs (H.tab.ext w S.ext)).mono ?_));rintro _ h ⟨rfl,x⟩)<;>((refine qf ⟨⟨True.intro,?_⟩,?_⟩;(focus ((show keepsX _ _ _ _ _;simp only [keepsX];(repeat' (first|exact True.intro|refine And.intro ?_ ?_));all_goals (intro hw;first|exact x.ext.old _ S.bB)))));replace S:=S.qE x;clear x;refine qy ?_;(first|((refine cS ?_ ?_<;>intro hc)<;>refine qf ⟨⟨by (first|exact True.intro),rfl⟩,?_⟩))<;>(refine Xq ?_))
 all_goals (all_goals (repeat' (first|refine qg ?_|refine qh rfl ?_|refine qi ?_|(refine qc 16 ?_;refine mv ?_;refine mv ?_;refine qf ?_))))
 ·refine qo ⟨_,rfl,?_⟩;exact ⟨0,45,rfl,.inr (.inr ⟨hv,ho,.inr ⟨hco,.inl ⟨by rw [hcv] at hc;omega,rfl,rfl⟩⟩⟩),S.drop⟩
 ·all_goals (repeat' (first|(refine qc 17 ?_;refine mv ?_;refine mv ?_;refine qf ?_)))
  refine qo ⟨_,rfl,?_⟩;exact ⟨0,0,rfl,.inr (.inr ⟨hv,ho,.inr ⟨hco,.inr ⟨by rw [hcv] at hc;omega,rfl,rfl⟩⟩⟩),S.drop⟩
theorem qaQ {h0:AH} (w:WfH h0) (v:PbV) (p:Pb) (H:PbOk h0 v p):Fn Tryz.prog Xh 83 [v.val] h0 (fun u h'=>∃ i e,u = .tuple #[.int .i64 i,.int .i64 e]∧CkP p i e∧Hs h0 h' []):=by
 have S:=Hs.start w;have hr:=H.ru;have hlr:=H.lr;unfold PbV.val;refine qL (by first|rfl) Tryz.func83 rfl rfl ?_;all_goals (repeat' (first|refine qg ?_|(refine qc 0 ?_;(refine bx S ?_;clear S;intro b h S);refine mv ?_;refine mv ?_;refine qf ?_)|(refine qc 1 ?_;refine lB S rfl rfl ?_)))
 obtain ⟨bp,hnm⟩:∃ x,x=b:=⟨_,rfl⟩;subst hnm;(refine qw rfl rfl rfl rfl rfl ((qe2 S.wf v p (H.ext w S.ext)).mono ?_);rintro _ h ⟨i,e,rfl,hk,x⟩)<;>(replace S:=S.qE x;clear x;refine mv ?_;refine vl ?_;refine vl ?_;refine mv ?_;refine mv ?_;refine qf ?_)
 all_goals (repeat' (first|refine qg ?_|refine qh rfl ?_|refine qi ?_|(refine qc 2 ?_;refine mv ?_;(first|(refine cS ?_ ?_<;>intro hc))<;>(refine qf ?_))|(refine qc 3 ?_;(iterate 4 refine mv ?_);refine qf ?_)))
 ·refine qo ⟨_,rfl,?_⟩;exact ⟨i,e,rfl,.inl ⟨hc,hk⟩,S.drop⟩
 have he:e=0:=by omega
 subst he;obtain ⟨hb,rfl⟩:=hk.bo;all_goals (repeat' (first|(refine qc 4 ?_;skip)))
 (refine qw rfl rfl rfl rfl rfl ((qes S.wf).mono ?_);rintro _ h ⟨m,rfl,x⟩)<;>(replace S:=S.jm x;clear x;refine mv ?_;refine qf ?_)
 all_goals (repeat' (first|refine qg ?_|refine qj ?_|(refine qc 5 ?_;refine vl ?_;refine lB S rfl rfl ?_;refine jf S ?_;refine mv ?_;refine qf ?_)))
 refine qH (σ:=Nat) (fun i h'=>Hs h0 h' [KD m kEs 18,.blk bp v.cs 28]∧i≤p.ru.length∧i≤64∧∀ j,j<i→wP p (p.ru.getD j default)=0) (fun i=>p.ru.length - i) (fun i=>[(1,.pointer (some ⟨bp,0,none⟩)),(2,.int .i64 0),(3,.int .i64 0),(6,.map (some m)),(21,v.vr.val),(22,.int .i64 p.ru.length),(23,.int .i64 i)]) 0 qx ?_ ?_
 ·exact ⟨S,zB0 _,zB0 _,fun j hj=>absurd hj (zB7 _)⟩
 clear S;rintro i h ⟨S,k1,k3,k2⟩;all_goals (repeat' (first|refine qg ?_|refine qh rfl ?_|refine qi ?_|refine qC ?_|refine qj ?_|(refine qc 6 ?_;(first|(refine cS ?_ ?_<;>intro hc))<;>(refine qf ?_))|(refine qc 7 ?_;refine mv ?_;refine jF S ?_;refine jk S ?_;(refine al S ?_;clear S;intro b h S);refine mv ?_;(first|(refine sB S rfl rfl ?_;clear S;intro h S));refine qf ?_)|(refine qc 8 ?_;refine mv ?_;refine vl ?_;refine lB S rfl rfl ?_)))
 ·(try simp only [zA0] at *)
  have hi:i<p.ru.length:=by omega
  obtain ⟨r,hre⟩:∃ r,p.ru.getD i default=r:=⟨_,rfl⟩
  rw [hre] at S ⊢;replace S:Hs h0 h [.blk b (XR r) 158,KD m kEs 18,.blk bp v.cs 28]:=S;refine lkK (v:=yA r.k) (z:=kdV [] ⟨0,false,0,false,0,false⟩ .nilFunc) S (.there .here) (qi9 r.k) (kdv r.k) ?_;((refine lB S rfl rfl ?_);refine lB S rfl rfl ?_);(refine qw rfl rfl rfl rfl rfl ((qba S.wf v p (H.ext w S.ext) hb.tabs r).mono ?_);rintro _ h ⟨rfl,x⟩)<;>(replace S:=S.qE x;clear x;refine mv ?_;refine qf ?_)
  all_goals (repeat' (first|refine qg ?_|refine qh rfl ?_|refine qi ?_|(refine qc 9 ?_;refine mv ?_;(first|(refine cS ?_ ?_<;>intro hc))<;>(refine qf ?_))|(refine qc 10 ?_;(iterate 4 refine mv ?_);refine qf ?_)|(refine qc 11 ?_;refine mv ?_;(first|(refine cS ?_ ?_<;>intro hc))<;>(refine qf ?_))|(refine qc 12 ?_;(iterate 3 refine mv ?_);refine qf ?_)))
  ·refine qo ⟨_,rfl,?_⟩;exact ⟨i,_,rfl,.inr ⟨hb,.inl ⟨i,hi,rfl,k3,k2,.inl ⟨by rw [hre];exact hc,by rw [hre]⟩⟩⟩,S.drop⟩
  ·refine qo ⟨_,rfl,?_⟩;exact ⟨i,7,rfl,.inr ⟨hb,.inl ⟨i,hi,rfl,k3,k2,.inr ⟨by rw [hre];omega,by omega,rfl⟩⟩⟩,S.drop⟩
  ·all_goals (repeat' (first|(refine qc 13 ?_;refine ad ?_;refine mv ?_;refine qf ?_)))
   refine ⟨i+1,?_,?_,qx⟩
   ·show p.ru.length - (i+1)<p.ru.length - i;omega
   ·exact ⟨S.tail,by omega,by omega,Qj k2 (by rw [hre];omega)⟩
 ·all_goals (repeat' (first|(refine qc 14 ?_;refine mv ?_;refine mv ?_;refine qf ?_)))
  refine qo ⟨_,rfl,?_⟩;exact ⟨0,0,rfl,.inr ⟨hb,.inr ⟨by omega,fun j hj=>k2 j (by omega),rfl,rfl⟩⟩,S.drop⟩
def PaI (N:Nat) (q:List Int) (k:Nat):Prop:=(∀ i,i<k→-1≤q.getD i default∧q.getD i default<N)∧∀ i j,i<j→j<k→0≤q.getD i default→q.getD i default≠q.getD j default
def PaE (N:Nat) (q:List Int) (n:Nat) (wh:Bool) (i e:Int):Prop :=
 (q.length≠n∧i=0∧e=53)∨(q.length=n∧((∃ g:Nat,g<n∧i=g∧PaI N q g∧(wh=true→∀ j,j<g→q.getD j default≠-1) ∧
  ((wh=true∧q.getD g default = -1∧e=52)∨((q.getD g default < -1∨(N:Int)≤q.getD g default)∧e=50)∨(0≤q.getD g default∧q.getD g default<N∧(∃ j,j<g∧q.getD j default=q.getD g default)∧e=51))) ∨
  (PaI N q n∧(wh=true→∀ j,j<n→q.getD j default≠-1)∧i=0∧e=0)))
theorem qcI {h0:AH} (w:WfH h0) (v:PbV) (p:Pb) (H:PbOk h0 v p) (hv:ValidL p.tabs) (vq:Value) (q:List Int) (rq:zC h0 vq 1 eI q) (hq:q.length≤9223372036854775807) (wh:Bool) (N:Nat) (hN:sumT p.tabs p.tabs.length=N) :
 Fn Tryz.prog Xh 232 [v.val,vq,.bool wh] h0 (fun u h'=>∃ i e,u = .tuple #[.int .i64 i,.int .i64 e]∧PaE N q p.us.length wh i e∧Hs h0 h' []):=by
 have S:=Hs.start w;have hrg:=H.rol.rg;have hgl:v.gs.length=p.us.length:=H.rol.len;have hgl2:v.rl.gs.length=p.us.length:=hgl;have hs:=zQ p.tabs p.tabs.length;have htl:=H.tab.len;unfold PbV.val;refine qL (by first|rfl) Tryz.func232 rfl rfl ?_;all_goals (repeat' (first|refine qg ?_|(refine qc 0 ?_;(refine bx S ?_;clear S;intro b h S);refine mv ?_;refine mv ?_;refine qf ?_)))
 obtain ⟨b3,hnm⟩:∃ x,x=b:=⟨_,rfl⟩;subst hnm;all_goals (repeat' (first|refine qg ?_|refine qh rfl ?_|refine qi ?_|(refine qc 1 ?_;refine mv ?_;refine jf S ?_;refine vl ?_;refine lB S rfl rfl ?_;refine jf S ?_;(first|(refine cS ?_ ?_<;>intro hc))<;>(refine qf ?_))|(refine qc 2 ?_;refine mv ?_;refine mv ?_;refine qf ?_)))
 ·refine qo ⟨_,rfl,?_⟩;exact ⟨0,53,rfl,.inl ⟨by omega,rfl,rfl⟩,S.drop⟩
 have hql:q.length=p.us.length:=by omega
 all_goals (repeat' (first|(refine qc 3 ?_;refine vl ?_;refine lB S rfl rfl ?_)))
 (refine qw rfl rfl rfl rfl rfl ((yQ S.wf v.vt.val p.tabs (H.tab.ext w S.ext)).mono ?_);rintro _ h ⟨rfl,x⟩)<;>(replace S:=S.qE x;clear x;refine mv ?_;refine qf ?_)
 rw [show XU p.tabs=(N:Int) by unfold XU;rw [if_pos hv];exact hN];all_goals (repeat' (first|refine qg ?_|(refine qc 4 ?_;refine mv ?_)))
 refine qa6 (z:=1) (by_:=1) (enc:=eB) (y0:=false) S rfl rfl rfl rfl rfl rfl rfl rfl rfl (by intro _;rfl) (by first|omega) rfl rfl ?_;clear S;intro v h S;obtain ⟨vk,rfl⟩:=S.sV v;refine mv ?_;refine qf ?_;simp only [zA0] at S;all_goals (repeat' (first|refine qg ?_|refine qj ?_|(refine qc 5 ?_;refine mv ?_;refine jf S ?_;refine mv ?_;refine qf ?_)))
 rw [hql];refine qH (σ:=Nat×List Bool) (fun (k,tk) h'=>Hs h0 h' [.sl vk.val 4 1 eB tk,.blk b3 v.cs 28]∧k≤p.us.length∧PaI N q k∧(wh=true→∀ j,j<k→q.getD j default≠-1)∧tk.length=N∧∀ s,s<N→(tk.getD s default=true↔∃ j,j<k∧q.getD j default=(s:Int))) (fun (k,tk)=>p.us.length - k) (fun (k,tk)=>[(2,.bool wh),(6,.int .i64 0),(7,.int .i64 0),(8,.int .i64 N),(9,vk.val),(23,vq),(24,.int .i64 p.us.length),(25,.int .i64 k)]) (0,List.replicate N false) qx ?_ ?_
 ·refine ⟨S,zB0 _,⟨fun i hi=>absurd hi (zB7 _),fun i j _ hj=>absurd hj (zB7 _)⟩,fun _ j hj=>absurd hj (zB7 _),by simp,fun s hs=>⟨fun h=>?_,fun ⟨j,hj,_⟩=>absurd hj (zB7 _)⟩⟩;rw [zA2,List.getElem?_replicate,if_pos hs] at h;cases h
 clear S;rintro ⟨k,tk⟩ h ⟨S,g1,g2,g3,g4,g5⟩;all_goals (repeat' (first|refine qg ?_|refine qh rfl ?_|refine qi ?_|refine qC ?_|refine qj ?_|(refine qc 6 ?_;(first|(refine cS ?_ ?_<;>intro hc))<;>(refine qf ?_))|(refine qc 7 ?_;refine mv ?_;refine jF S ?_;refine jk S ?_;refine mv ?_;refine mv ?_;refine qf ?_)))
 ·obtain ⟨x,hx⟩:∃ x,q.getD (k:Int).toNat default=x:=⟨_,rfl⟩
  rw [hx];replace hx:q.getD k default=x:=hx;have hk:k<p.us.length:=by omega
  have hng:∀ j,j<k→0≤x→q.getD j default=x→∃ j,j<k∧q.getD j default=x:=fun j h1 _ h2=>⟨j,h1,h2⟩
  have step : -1≤x∧x<N→(0≤x→∀ j,j<k→q.getD j default≠x)→PaI N q (k+1):=fun h1 h2=>by
   refine ⟨Qj g2.1 (by rw [hx];exact h1),fun i j hij hj h0=>?_⟩;rcases zA7 j k with r|r
   ·exact g2.2 i j hij r h0
   ·obtain rfl:j=k:=by omega
    rw [hx];intro e;exact h2 (by omega) i hij e
  have stepW:¬ (wh=true∧x = -1)→(wh=true→∀ j,j<k+1→q.getD j default≠-1):=fun h1 h2=>Qj (g3 h2) (by rw [hx];exact fun e=>h1 ⟨h2,e⟩);rcases Decidable.em (x = -1) with e1|e1
  ·subst e1;cases hwh:wh
   ·subst hwh;all_goals (repeat' (first|refine qg ?_|refine qh rfl ?_|(refine qc 8 ?_;refine mv ?_;(refine cT ?_)<;>(refine mv ?_;refine mv ?_;refine vl ?_;refine mv ?_;refine qf ?_))))
    all_goals (repeat' (first|refine qg ?_|refine qh rfl ?_|(refine qc 10 ?_;refine mv ?_;(refine cF ?_)<;>((iterate 3 refine mv ?_);(first|(refine cF ?_))<;>(refine vl ?_;refine mv ?_;refine qf ?_)))))
    all_goals (repeat' (first|refine qg ?_|refine qh rfl ?_|refine qi ?_|(refine qc 12 ?_;refine mv ?_;(refine cF ?_)<;>(refine mv ?_;refine off ?_;refine off ?_;refine off ?_;refine off ?_;refine vl ?_;refine mv ?_;refine qf ?_))))
    all_goals (repeat' (first|refine qh rfl ?_|refine qi ?_|(refine qc 14 ?_;refine mv ?_;(refine cF ?_)<;>(refine qf ?_))))
    all_goals (repeat' (first|(refine qc 16 ?_;refine ad ?_;refine mv ?_;refine qf ?_)))
    refine ⟨(k+1,tk),?_,?_,qx⟩
    ·show p.us.length - (k+1)<p.us.length - k;omega
    ·refine ⟨S,by omega,step ⟨by omega,by omega⟩ (fun h=>by omega),stepW (fun h=>by cases h.1),g4,fun s hs=>?_⟩;rw [g5 s hs];constructor
     ·rintro ⟨j,h1,h2⟩;exact ⟨j,by omega,h2⟩
     ·rintro ⟨j,h1,h2⟩;refine ⟨j,?_,h2⟩;rcases zA7 j k with r|r
      ·exact r
      ·obtain rfl:j=k:=by omega
       rw [hx] at h2;omega
   ·subst hwh;all_goals (repeat' (first|refine qg ?_|refine qh rfl ?_|(refine qc 8 ?_;refine mv ?_;(refine cT ?_)<;>(refine mv ?_;refine mv ?_;refine vl ?_;refine mv ?_;refine qf ?_))|(refine qc 9 ?_;(iterate 3 refine mv ?_);refine qf ?_)))
    refine qo ⟨_,rfl,?_⟩;exact ⟨k,52,rfl,.inr ⟨hql,.inl ⟨k,hk,rfl,g2,g3,.inl ⟨rfl,hx,rfl⟩⟩⟩,S.drop⟩
  rcases (show x < -1∨-1≤x by omega) with e2|e2
  ·skip
   all_goals (repeat' (first|refine qg ?_|refine qh rfl ?_|(refine qc 8 ?_;refine mv ?_;(refine cF ?_)<;>(refine mv ?_;refine off ?_;refine vl ?_;refine mv ?_;refine qf ?_))))
   all_goals (repeat' (first|refine qg ?_|refine qh rfl ?_|(refine qc 10 ?_;refine mv ?_;(refine cT ?_)<;>(refine mv ?_;refine off ?_;refine off ?_;(refine off ?_)<;>(refine vl ?_;refine mv ?_;refine qf ?_)))|(refine qc 11 ?_;(iterate 3 refine mv ?_);refine qf ?_)))
   refine qo ⟨_,rfl,?_⟩;exact ⟨k,50,rfl,.inr ⟨hql,.inl ⟨k,hk,rfl,g2,g3,.inr (.inl ⟨by rw [hx];exact .inl e2,rfl⟩)⟩⟩,S.drop⟩
  rcases (show x<N∨(N:Int)≤x by omega) with e3|e3
  rotate_left
  ·skip
   all_goals (repeat' (first|refine qg ?_|refine qh rfl ?_|(refine qc 8 ?_;refine mv ?_;(refine cF ?_)<;>(refine mv ?_;refine off ?_;refine vl ?_;refine mv ?_;refine qf ?_))))
   all_goals (repeat' (first|refine qg ?_|refine qh rfl ?_|(refine qc 10 ?_;refine mv ?_;(refine cF ?_)<;>((iterate 3 refine mv ?_);(first|(refine cT ?_))<;>(refine vl ?_;refine mv ?_;refine qf ?_)))|(refine qc 11 ?_;(iterate 3 refine mv ?_);refine qf ?_)))
   refine qo ⟨_,rfl,?_⟩;exact ⟨k,50,rfl,.inr ⟨hql,.inl ⟨k,hk,rfl,g2,g3,.inr (.inl ⟨by rw [hx];exact .inr e3,rfl⟩)⟩⟩,S.drop⟩
  obtain ⟨s,rfl⟩:=zH3 (show 0≤x by omega);have hsN:s<N:=by omega
  all_goals (repeat' (first|refine qg ?_|refine qh rfl ?_|(refine qc 8 ?_;refine mv ?_;(refine cF ?_)<;>(refine mv ?_;refine off ?_;refine vl ?_;refine mv ?_;refine qf ?_))))
  all_goals (repeat' (first|refine qg ?_|refine qh rfl ?_|(refine qc 10 ?_;refine mv ?_;(refine cF ?_)<;>((iterate 3 refine mv ?_);(first|(refine cF ?_))<;>(refine vl ?_;refine mv ?_;refine qf ?_)))))
  all_goals (repeat' (first|refine qh rfl ?_|(refine qc 12 ?_;refine mv ?_;(refine cT ?_)<;>((iterate 3 refine mv ?_);(first|(refine qO S rfl rfl ?_));(first|(refine zk S rfl rfl ?_));refine vl ?_;refine mv ?_;refine qf ?_))))
  cases hb:tk.getD (s:Int).toNat default with
  | true =>
   all_goals (repeat' (first|refine qg ?_|(refine qc 13 ?_;(iterate 3 refine mv ?_);refine qf ?_)))
   refine qo ⟨_,rfl,?_⟩;exact ⟨k,51,rfl,.inr ⟨hql,.inl ⟨k,hk,rfl,g2,g3,.inr (.inr ⟨by rw [hx];omega,by rw [hx];exact e3,by rw [hx];exact (g5 s hsN).1 hb,rfl⟩)⟩⟩,S.drop⟩
  | false =>
   all_goals (repeat' (first|refine qg ?_|refine qh rfl ?_|refine qi ?_|(refine qc 14 ?_;refine mv ?_;(refine cT ?_)<;>(refine qf ?_))|(refine qc 15 ?_;refine mv ?_;refine mv ?_;refine qO S rfl rfl ?_;(first|(refine JY S rfl rfl ?_;clear S;intro h S));refine qf ?_)|(refine qc 16 ?_;refine ad ?_;refine mv ?_;refine qf ?_)))
   refine ⟨(k+1,tk.set s true),?_,?_,qx⟩
   ·show p.us.length - (k+1)<p.us.length - k;omega
   ·have hn:∀ j,j<k→q.getD j default≠(s:Int):=fun j hj e=>by
     have:=(g5 s hsN).2 ⟨j,hj,e⟩;rw [show (s:Int).toNat=s from rfl,this] at hb;cases hb
    refine ⟨S,by omega,step ⟨by omega,e3⟩ (fun _=>hn),stepW (fun h=>e1 h.2),by simp [g4],fun s' hs'=>?_⟩;rw [zA2,List.getElem?_set];by_cases e:s=s'
    ·subst e;rw [if_pos rfl,if_pos (by omega)];exact ⟨fun _=>⟨k,by omega,hx⟩,fun _=>rfl⟩
    ·rw [if_neg e,← zA2,g5 s' hs'];constructor
     ·rintro ⟨j,h1,h2⟩;exact ⟨j,by omega,h2⟩
     ·rintro ⟨j,h1,h2⟩;refine ⟨j,?_,h2⟩;rcases zA7 j k with r|r
      ·exact r
      ·obtain rfl:j=k:=by omega
       rw [hx] at h2;omega
 ·all_goals (repeat' (first|(refine qc 17 ?_;refine mv ?_;refine mv ?_;refine qf ?_)))
  refine qo ⟨_,rfl,?_⟩;obtain rfl:k=p.us.length:=by omega
  exact ⟨0,0,rfl,.inr ⟨hql,.inr ⟨g2,g3,rfl,rfl⟩⟩,S.drop⟩
def PaC (p:Pb) (q:List Int) (wh:Bool) (i e:Int):Prop:=(¬ PO p∧i=0∧e≠0∧∃ i,CkP p i e)∨(PO p∧PaE (sumT p.tabs p.tabs.length).toNat q p.us.length wh i e)
theorem PartOk.pai {p:Pb} {q:List Int} (h:PartOk p q):PaI (sumT p.tabs p.tabs.length).toNat q q.length:=by
 have:=zQ p.tabs p.tabs.length;exact ⟨fun i hi=>by have:=h.rng _ (qQ hi);omega,fun i j h1 h2 h3=>h.nd i j h1 h2 h3⟩
theorem PaE.part {p:Pb} {q:List Int} {i e:Int} (h:PaE (sumT p.tabs p.tabs.length).toNat q p.us.length false i e):e=0↔PartOk p q:=by
 have hs:=zQ p.tabs p.tabs.length;constructor
 ·rintro rfl;rcases h with ⟨-,-,h⟩|⟨hl,⟨g,h1,h2,h3,h4,h5⟩|⟨h1,h2,h3,h4⟩⟩
  ·cases h
  ·rcases h5 with ⟨h5,-⟩|⟨-,h5⟩|⟨-,-,-,h5⟩
   ·cases h5
   ·cases h5
   ·cases h5
  ·refine ⟨hl,fun x hx=>?_,fun i j h3 h4 h5=>h1.2 i j h3 (by omega) h5⟩;obtain ⟨j,hj,rfl⟩:=zx.1 hx;have:=h1.1 j (by omega);omega
 ·intro k;have hp:=k.pai;have hl:=k.len;rcases h with ⟨h,-⟩|⟨-,⟨g,h1,h2,h3,h4,h5⟩|⟨-,-,-,h⟩⟩
  ·exact absurd hl h
  ·rcases h5 with ⟨h5,-⟩|⟨h5,-⟩|⟨h5,h6,⟨j,h7,h8⟩,-⟩
   ·cases h5
   ·have:=hp.1 g (by omega);omega
   ·exact absurd h8 (hp.2 j g h7 (by omega) (by omega))
  ·exact h
theorem PaC.part {p:Pb} {q:List Int} {i e:Int} (h:PaC p q false i e):e=0↔PO p∧PartOk p q:=by
 rcases h with ⟨h1,-,h2,-⟩|⟨h1,h2⟩
 ·exact ⟨fun k=>absurd k h2,fun k=>absurd k.1 h1⟩
 ·rw [h2.part];exact ⟨fun k=>⟨h1,k⟩,fun k=>k.2⟩
theorem Pn {h0:AH} (w:WfH h0) (v:PbV) (p:Pb) (H:PbOk h0 v p) (vq:Value) (q:List Int) (rq:zC h0 vq 1 eI q) (hq:q.length≤9223372036854775807) (wh:Bool) :
 Fn Tryz.prog Xh 152 [v.val,vq,.bool wh] h0 (fun u h'=>∃ i e,u = .tuple #[.int .i64 i,.int .i64 e]∧PaC p q wh i e∧Hs h0 h' []):=by
 have S:=Hs.start w;have hs:=zQ p.tabs p.tabs.length;unfold PbV.val;refine qL (by first|rfl) Tryz.func152 rfl rfl ?_;all_goals (repeat' (first|refine qg ?_|(refine qc 0 ?_;(refine bx S ?_;clear S;intro b h S);refine mv ?_;refine mv ?_;refine qf ?_)|(refine qc 1 ?_;refine lB S rfl rfl ?_)))
 (refine qw rfl rfl rfl rfl rfl ((qaQ S.wf v p (H.ext w S.ext)).mono ?_);rintro _ h ⟨i,e,rfl,hk,x⟩)<;>(replace S:=S.qE x;clear x;refine mv ?_;refine vl ?_;refine vl ?_;refine mv ?_;refine mv ?_;refine qf ?_)
 have hpo:=hk.po;all_goals (repeat' (first|refine qg ?_|refine qh rfl ?_|refine qi ?_|(refine qc 2 ?_;refine mv ?_;(first|(refine cS ?_ ?_<;>intro hc))<;>(refine qf ?_))|(refine qc 3 ?_;(iterate 3 refine mv ?_);refine qf ?_)))
 ·refine qo ⟨_,rfl,?_⟩;exact ⟨0,e,rfl,.inl ⟨fun q=>hc (hpo.2 q),rfl,hc,i,hk⟩,S.drop⟩
 have hp:PO p:=hpo.1 (by omega);all_goals (repeat' (first|(refine qc 4 ?_;refine lB S rfl rfl ?_;refine mv ?_;refine mv ?_)))
 (refine qw rfl rfl rfl rfl rfl ((qcI S.wf v p (H.ext w S.ext) hp.tabs vq q (rq.ext w S.ext) hq wh (sumT p.tabs p.tabs.length).toNat (by omega)).mono ?_);rintro _ h ⟨i,e,rfl,hk2,x⟩)<;>(replace S:=S.qE x;clear x;refine vl ?_;refine vl ?_;refine mv ?_;refine mv ?_;refine qf ?_)
 all_goals (repeat' (fail))
 refine qo ⟨_,rfl,?_⟩;exact ⟨i,e,rfl,.inr ⟨hp,hk2⟩,S.drop⟩
theorem Gl {h0:AH} (w:WfH h0) (v:PbV) (p:Pb) (H:PbOk h0 v p) (vq:Value) (q:List Int) (rq:zC h0 vq 1 eI q) (hq:q.length≤9223372036854775807) :
 Fn Tryz.prog Xh 85 [v.val,vq] h0 (fun u h'=>∃ i e,u = .tuple #[.int .i64 i,.int .i64 e]∧PaC p q false i e∧Hs h0 h' []):=by
 have S:=Hs.start w;unfold PbV.val;refine qL (by first|rfl) Tryz.func85 rfl rfl ?_;all_goals (repeat' (first|refine qg ?_|(refine qc 0 ?_;(refine bx S ?_;clear S;intro b h S);refine mv ?_;refine mv ?_;refine qf ?_)|(refine qc 1 ?_;refine lB S rfl rfl ?_;refine mv ?_)))
 (refine qw rfl rfl rfl rfl rfl ((Pn S.wf v p (H.ext w S.ext) vq q (rq.ext w S.ext) hq false).mono ?_);rintro _ h ⟨i,e,rfl,hk,x⟩)<;>(replace S:=S.qE x;clear x;refine vl ?_;refine vl ?_;refine mv ?_;refine mv ?_;refine qf ?_)
 all_goals (repeat' (fail))
 refine qo ⟨_,rfl,?_⟩;exact ⟨i,e,rfl,hk,S.drop⟩
theorem X5 {h0:AH} (w:WfH h0) (v:PbV) (p:Pb) (H:PbOk h0 v p) (vq:Value) (q:List Int) (rq:zC h0 vq 1 eI q) (hq:q.length≤9223372036854775807) :
 Fn Tryz.prog Xh 54 [v.val,vq] h0 (fun u h'=>qZ u (PO p∧PartOk p q)∧Hs h0 h' []):=by
 have S:=Hs.start w;unfold PbV.val;refine qL (by first|rfl) Tryz.func54 rfl rfl ?_;all_goals (repeat' (first|refine qg ?_|(refine qc 0 ?_;(refine bx S ?_;clear S;intro b h S);refine mv ?_;refine qf ?_)|(refine qc 1 ?_;refine lB S rfl rfl ?_;refine mv ?_)))
 (refine qw rfl rfl rfl rfl rfl ((Gl S.wf v p (H.ext w S.ext) vq q (rq.ext w S.ext) hq).mono ?_);rintro _ h ⟨i,e,rfl,hk,x⟩)<;>(replace S:=S.qE x;clear x;refine mv ?_;refine vl ?_;refine vl ?_;refine mv ?_;refine mv ?_;refine qf ?_)
 have hpo:=hk.part;all_goals (repeat' (first|refine qg ?_|(refine qc 2 ?_;refine mv ?_;(first|(refine cS ?_ ?_<;>intro hc))<;>(refine mv ?_;refine qf ?_))))
 all_goals (refine qo ⟨_,rfl,?_⟩)
 ·exact ⟨.inl ⟨rfl,hpo.1 (by omega)⟩,S.drop⟩
 ·exact ⟨.inr ⟨rfl,fun k=>hc (hpo.2 k)⟩,S.drop⟩
def WhereI (l:List Tab) (s:Int) (i k:Nat):Prop:=ValidL l∧i<l.length∧(k:Int)<zl (tb l i)∧s=sumT l i+k
theorem X6 (l:List Tab) {i j:Nat} (h:i≤j):sumT l i≤sumT l j:=by
 induction h with
 | refl=>exact Int.le_refl _
 | @step m _ ih=>have:=Qv (tb l m);simp only [sumT];omega
theorem WhereI.unique {l:List Tab} {s:Int} {i k j m:Nat} (h:WhereI l s i k) (g:WhereI l s j m):i=j∧k=m:=by
 obtain ⟨-,h2,h3,h4⟩:=h;obtain ⟨-,g2,g3,g4⟩:=g;rcases zE6 i j with q|q|q
 ·have:=X6 l (show i+1≤j by omega);simp only [sumT] at this;omega
 ·subst q;exact ⟨rfl,by omega⟩
 ·have:=X6 l (show j+1≤i by omega);simp only [sumT] at this;omega
def WhereR (l:List Tab) (s a b:Int) (f:Bool):Prop:=(f=true∧∃ i k:Nat,a=i∧b=k∧WhereI l s i k)∨(f=false∧a=0∧b=0∧∀ i k,¬ WhereI l s i k)
theorem WhereR.unique {l:List Tab} {s a b a' b':Int} {f f':Bool} (h:WhereR l s a b f) (g:WhereR l s a' b' f'):a=a'∧b=b'∧f=f':=by
 rcases h with ⟨rfl,i,k,rfl,rfl,h⟩|⟨rfl,rfl,rfl,h⟩<;>rcases g with ⟨rfl,j,m,rfl,rfl,g⟩|⟨rfl,rfl,rfl,g⟩
 ·obtain ⟨rfl,rfl⟩:=h.unique g;exact ⟨rfl,rfl,rfl⟩
 ·exact absurd h (g _ _)
 ·exact absurd g (h _ _)
 ·exact ⟨rfl,rfl,rfl⟩
theorem qdu {h0:AH} (w:WfH h0) (v:Value) (l:List Tab) (H:HallR h0 v l) (s:Int) (hm:s≤9223372036854775807):Fn Tryz.prog Xh 124 [v,.int .i64 s] h0 (fun r h'=>∃ a b f,r = .tuple #[.int .i64 a,.int .i64 b,.bool f]∧WhereR l s a b f∧Hs h0 h' []):=by
 have S:=Hs.start w;have hl:=H.len;have hr:=H.rd;refine qL (by first|rfl) Tryz.func124 rfl rfl ?_;all_goals (repeat' (first|refine qg ?_|refine qh rfl ?_|(refine qc 0 ?_;(iterate 3 refine mv ?_);refine qf ?_)|(refine qc 1 ?_;refine mv ?_;(first|(refine cS ?_ ?_<;>intro hc))<;>(refine mv ?_;(first|refine off ?_|refine mv ?_);(first|(refine off ?_;refine off ?_;refine vl ?_;refine qf ?_)|skip)))|(refine qc 2 ?_;(iterate 3 refine mv ?_);refine qf ?_)))
 ·refine qo ⟨_,rfl,?_⟩;exact ⟨0,0,false,rfl,.inr ⟨rfl,rfl,rfl,fun i k q=>by have:=zQ l i;have:=q.2.2.2;omega⟩,S⟩
 ·(refine qw rfl rfl rfl rfl rfl ((YT S.wf v l H).mono ?_);rintro _ h ⟨⟨rfl,hq⟩|⟨rfl,hq⟩,x⟩)<;>(replace S:=S.qE x;clear x;refine vl ?_;refine vl ?_;refine qf ?_)
  all_goals (repeat' (first|refine qg ?_|refine qh rfl ?_|refine qi ?_|refine qj ?_|(refine qc 2 ?_;(iterate 3 refine mv ?_);refine qf ?_)|(refine qc 3 ?_;refine mv ?_;refine jf S ?_;refine mv ?_;refine qf ?_)))
  ·have z0:sumT l 0=0:=rfl;refine qH (σ:=Nat) (fun i h'=>Hs h0 h' []∧i≤l.length∧0≤s - sumT l i) (fun i=>l.length - i) (fun i=>[(1,.int .i64 (s - sumT l i)),(17,v),(18,.int .i64 l.length),(19,.int .i64 i)]) 0 qx ?_ ?_
   ·exact ⟨S,zB0 _,by simp only [sumT];omega⟩
   ·clear S;rintro i h ⟨S,h1,h2⟩;all_goals (repeat' (first|refine qg ?_|refine qh rfl ?_|refine qi ?_|refine qC ?_|refine qj ?_|(refine qc 4 ?_;(first|(refine cS ?_ ?_<;>intro hc))<;>(refine qf ?_))|(refine qc 5 ?_;refine mv ?_;refine jF S ?_;refine jk S ?_;(refine al S ?_;clear S;intro b h S);refine mv ?_;(first|(refine sB S rfl rfl ?_;clear S;intro h S));refine qf ?_)|(refine qc 6 ?_;refine lB S rfl rfl ?_)|(refine qc 11 ?_;(iterate 3 refine mv ?_);refine qf ?_)))
    ·(try simp only [zA0] at *)
     have hi:i<l.length:=by omega
     have b2:=Qv (tb l i);have b1:=zQ l i;have z1:sumT l (i+1)=sumT l i+zl (tb l i):=rfl;(refine qw rfl rfl rfl rfl rfl ((Y1 S.wf (tb l i)).mono ?_);rintro _ h ⟨rfl,x⟩)<;>(replace S:=S.qE x;clear x;refine mv ?_;refine qf ?_)
     all_goals (repeat' (first|refine qg ?_|refine qh rfl ?_|refine qi ?_|(refine qc 7 ?_;refine mv ?_;refine mv ?_;(first|(refine cS ?_ ?_<;>intro hc))<;>(refine qf ?_))|(refine qc 8 ?_;(iterate 5 refine mv ?_);refine qf ?_)|(refine qc 9 ?_;refine mv ?_;refine mv ?_;refine sb ?_;refine mv ?_;refine qf ?_)|(refine qc 10 ?_;refine ad ?_;refine mv ?_;refine qf ?_)))
     ·refine qo ⟨_,rfl,?_⟩;obtain ⟨k,hk⟩:=zH3 h2;exact ⟨i,s - sumT l i,true,rfl,.inl ⟨rfl,i,k,rfl,hk,hq,hi,by omega,by omega⟩,S.drop⟩
     ·refine ⟨i+1,?_,?_,qx⟩
      ·show l.length - (i+1)<l.length - i;omega
      ·exact ⟨S.drop,by omega,by simp only [sumT];omega⟩
    ·refine qo ⟨_,rfl,?_⟩;refine ⟨0,0,false,rfl,.inr ⟨rfl,rfl,rfl,fun j k q=>?_⟩,S⟩;obtain ⟨-,q2,q3,q4⟩:=q;have hil:i=l.length:=by omega
     subst hil;have:=X6 l (show j+1≤l.length by omega);simp only [sumT] at this;omega
  ·refine qo ⟨_,rfl,?_⟩;exact ⟨0,0,false,rfl,.inr ⟨rfl,rfl,rfl,fun i k q=>hq q.1⟩,S⟩
open Classical in
noncomputable def tOf (l:List Tab) (s:Int):Int:=if h:∃ i:Nat,∃ k,WhereI l s i k then ((Classical.choose h:Nat):Int) else -1
theorem qaA {l:List Tab} {s:Int} {i k:Nat} (h:WhereI l s i k):tOf l s=i:=by
 unfold tOf;have e:∃ i:Nat,∃ k,WhereI l s i k:=⟨i,k,h⟩
 rw [dif_pos e];obtain ⟨k',hk⟩:=Classical.choose_spec e;rw [(hk.unique h).1]
theorem gy {l:List Tab} {s:Int} (h:∀ i k,¬ WhereI l s i k):tOf l s = -1:=by
 unfold tOf;rw [dif_neg];rintro ⟨i,k,q⟩;exact h i k q
theorem WhereR.tOf {l:List Tab} {s a b:Int} {f:Bool} (h:WhereR l s a b f):tOf l s=if f=true then a else -1:=by
 rcases h with ⟨rfl,i,k,rfl,rfl,h⟩|⟨rfl,rfl,rfl,h⟩
 ·rw [qaA h,if_pos rfl]
 ·rw [gy h,if_neg (by simp)]
theorem pz (l:List Tab) (s:Int) : -1≤tOf l s∧tOf l s<l.length:=by
 by_cases e:∃ i:Nat,∃ k,WhereI l s i k
 ·obtain ⟨i,k,h⟩:=e;rw [qaA h];have:=h.2.1;omega
 ·rw [gy fun i k q=>e ⟨i,k,q⟩];omega
theorem gz {l:List Tab} {s:Int} (h:s<0):tOf l s = -1:=gy fun i k q=>by have:=zQ l i;have:=q.2.2.2;omega
def Jb (ts:List Int) (n:Nat):List Int:=(List.range n).map fun t:Nat=>((ts.count (t:Int):Nat):Int)
theorem qaa {ts:List Int} {n:Nat}:(Jb ts n).length=n:=by simp [Jb]
theorem yS {ts:List Int} {n t:Nat} (h:t<n):(Jb ts n).getD t default=((ts.count (t:Int):Nat):Int):=by
 rw [zA2];simp [Jb,h]
theorem qeO {n:Nat}:Jb [] n=List.replicate n 0:=by
 apply List.ext_getElem (by simp [Jb])
 intro j h1 h2;simp [Jb]
theorem qeP {ts:List Int} {n:Nat} {x:Int} (h:x<0):Jb (ts ++ [x]) n=Jb ts n:=by
 unfold Jb;apply List.map_congr_left
 intro t _;rw [List.count_append];have:List.count (t:Int) [x]=0:=List.count_eq_zero_of_not_mem (by simp;omega);rw [this,Nat.add_zero]
theorem qeQ {ts:List Int} {n k:Nat} (h:k<n):Jb (ts ++ [(k:Int)]) n=(Jb ts n).set k ((Jb ts n).getD k default+1):=by
 apply List.ext_getElem (by simp [Jb])
 intro j h1 h2;rw [List.getElem_set];simp only [yS h];simp only [Jb,List.getElem_map,List.getElem_range,List.count_append];by_cases e:k=j
 ·subst e;simp
 ·rw [if_neg e];have:List.count (j:Int) [(k:Int)]=0:=List.count_eq_zero_of_not_mem (by simp;omega);rw [this];simp
noncomputable def zS (p:Pb) (q:List Int):List Int:=Jb (q.map (tOf p.tabs)) p.tabs.length
theorem Zk {p:Pb} {q:List Int}:(zS p q).length=p.tabs.length:=qaa
def Xb (pl:List Int):Nat→List Int
 | 0=>[]
 | n+1=>if 0<pl.getD n default then Xb pl n ++ [(n:Int)] else Xb pl n
def srv (pl:List Int):List Int:=Xb pl pl.length
theorem YZ {pl:List Int} {t:Int}:∀ {n:Nat},t∈Xb pl n↔∃ k:Nat,k<n∧t=k∧0<pl.getD k default
 | 0=>by simp [Xb]
 | n+1=>by
  rw [Xb];split
  ·rename_i h
   rw [zB8,YZ,zB5];constructor
   ·rintro (⟨k,h1,h2,h3⟩|rfl)
    ·exact ⟨k,by omega,h2,h3⟩
    ·exact ⟨n,by omega,rfl,h⟩
   ·rintro ⟨k,h1,h2,h3⟩;rcases zA7 k n with r|r
    ·exact .inl ⟨k,r,h2,h3⟩
    ·obtain rfl:k=n:=by omega
     exact .inr h2
  ·rename_i h
   rw [YZ];constructor
   ·rintro ⟨k,h1,h2,h3⟩;exact ⟨k,by omega,h2,h3⟩
   ·rintro ⟨k,h1,h2,h3⟩;rcases zA7 k n with r|r
    ·exact ⟨k,r,h2,h3⟩
    ·obtain rfl:k=n:=by omega
     exact absurd h3 h
theorem XG {pl:List Int}:∀ {n:Nat},(Xb pl n).Pairwise (· < ·)∧(Xb pl n).length≤n
 | 0=>⟨.nil,zA3 _⟩
 | n+1=>by
  have h:=XG (pl:=pl) (n:=n);rw [Xb];split
  ·refine ⟨?_,by simp;omega⟩;rw [List.pairwise_append];refine ⟨h.1,by simp,fun a ha b hb=>?_⟩;obtain ⟨k,h1,h2,-⟩:=YZ.1 ha;rw [zB5] at hb;omega
  ·exact ⟨h.1,by omega⟩
theorem qbE {pl:List Int} {t:Int}:t∈srv pl↔∃ k:Nat,k<pl.length∧t=k∧0<pl.getD k default:=YZ
theorem srv_inc {pl:List Int}:(srv pl).Pairwise (· < ·):=XG.1
theorem gX {pl:List Int}:(srv pl).length≤pl.length:=XG.2
theorem YA {h0:AH} (w:WfH h0) (v:PbV) (p:Pb) (H:PbOk h0 v p) (vq:Value) (q:List Int) (rq:zC h0 vq 1 eI q) (hq:q.length≤1000000) (hqm:∀ x∈q,x≤9223372036854775807) :
 Fn Tryz.prog Xh 58 [v.val,vq] h0 (fun u h'=>Hs h0 h' [.sl u 3 1 eI (q.map (tOf p.tabs))]):=by
 have S:=Hs.start w;unfold PbV.val;refine qL (by first|rfl) Tryz.func58 rfl rfl ?_;all_goals (repeat' (first|refine qg ?_|(refine qc 0 ?_;(refine bx S ?_;clear S;intro b h S);refine mv ?_;refine qf ?_)))
 obtain ⟨b2,hnm⟩:∃ x,x=b:=⟨_,rfl⟩;subst hnm;have S:=S.Xg (e:=3) (z:=1) (enc:=eI);all_goals (repeat' (first|refine qg ?_|refine qj ?_|(refine qc 1 ?_;refine mv ?_;refine qf ?_)|(refine qc 2 ?_;refine mv ?_;refine jf S ?_;refine mv ?_;refine qf ?_)))
 refine qH (σ:=Nat×Value) (fun (i,vo) h'=>Hs h0 h' [.sl vo 3 1 eI ((q.map (tOf p.tabs)).take i),.blk b2 v.cs 28]∧i≤q.length) (fun (i,vo)=>q.length - i) (fun (i,vo)=>[(2,.pointer (some ⟨b2,0,none⟩)),(5,vo),(11,vq),(12,.int .i64 q.length),(13,.int .i64 i)]) (0,.slice none 0 0) qx ?_ ?_
 ·exact ⟨S,zB0 _⟩
 clear S;rintro ⟨i,vo⟩ h ⟨S,g1⟩;all_goals (repeat' (first|refine qg ?_|refine qh rfl ?_|refine qi ?_|refine qC ?_|refine qj ?_|(refine qc 3 ?_;(first|(refine cS ?_ ?_<;>intro hc))<;>(refine qf ?_))|(refine qc 4 ?_;refine jF S ?_;refine jk S ?_;refine mv ?_;refine qf ?_)))
 ·obtain ⟨x,hx⟩:∃ x,q.getD (i:Int).toNat default=x:=⟨_,rfl⟩
  rw [hx];replace hx:q.getD i default=x:=hx;have hi:i<q.length:=by omega
  have hxm:=hqm x (by rw [← hx];exact qQ hi);have key:(q.map (tOf p.tabs)).take (i+1)=(q.map (tOf p.tabs)).take i ++ [tOf p.tabs x]:=by
   rw [List.take_add_one,zH8,zA4 hi,← hx,zA2,zA4 hi];rfl
  all_goals (repeat' (first|(refine qc 5 ?_;refine vl ?_;refine lB S rfl rfl ?_;refine mv ?_)))
  (refine qw rfl rfl rfl rfl rfl ((qdu S.wf v.vt.val p.tabs (H.tab.ext w S.ext) x hxm).mono ?_);rintro _ h ⟨a,b,f,rfl,hw,s⟩)<;>(replace S:=S.qE s;clear s;refine mv ?_;refine vl ?_;refine vl ?_;refine vl ?_;(iterate 3 refine mv ?_);refine qf ?_)
  have ht:=hw.tOf;cases f with
  | true =>
   rw [if_pos rfl] at ht;all_goals (repeat' (first|refine qg ?_|refine qh rfl ?_|refine qi ?_|(refine qc 6 ?_;refine mv ?_;refine vl ?_;refine qf ?_)))
   all_goals (repeat' (first|(refine qc 8 ?_;refine mv ?_;refine mv ?_;(refine one 1 S ?_;clear S;intro u h S))))
   refine app (y0:=a) S rfl rfl ?_;clear S;intro v h S;refine mv ?_;refine qf ?_;rw [← ht,← key] at S;all_goals (repeat' (first|(refine qc 9 ?_;refine ad ?_;refine mv ?_;refine qf ?_)))
   refine ⟨(i+1,v),?_,?_,qx⟩
   ·show q.length - (i+1)<q.length - i;omega
   ·exact ⟨S,by omega⟩
  | false =>
   rw [if_neg (by simp)] at ht;all_goals (repeat' (first|refine qg ?_|refine qh rfl ?_|(refine qc 6 ?_;refine mv ?_;refine vl ?_;refine qf ?_)|(refine qc 7 ?_;refine mv ?_;refine qf ?_)))
   all_goals (repeat' (first|(refine qc 8 ?_;refine mv ?_;refine mv ?_;(refine one 1 S ?_;clear S;intro u h S))))
   refine app (y0:=(-1)) S rfl rfl ?_;clear S;intro v h S;refine mv ?_;refine qf ?_;rw [← ht,← key] at S;all_goals (repeat' (first|(refine qc 9 ?_;refine ad ?_;refine mv ?_;refine qf ?_)))
   refine ⟨(i+1,v),?_,?_,qx⟩
   ·show q.length - (i+1)<q.length - i;omega
   ·exact ⟨S,by omega⟩
 ·all_goals (repeat' (first|(refine qc 10 ?_;refine mv ?_;refine mv ?_;refine qf ?_)))
  refine qo ⟨_,rfl,?_⟩;obtain rfl:i=q.length:=by omega
  rw [zF8 (by simp)] at S;exact S.only .here
theorem xJ {h0:AH} (w:WfH h0) (v:PbV) (p:Pb) (H:PbOk h0 v p) (vq:Value) (q:List Int) (rq:zC h0 vq 1 eI q) (hq:q.length≤1000000) (hqm:∀ x∈q,x≤9223372036854775807) :
 Fn Tryz.prog Xh 55 [v.val,vq] h0 (fun u h'=>Hs h0 h' [.sl u 3 1 eI (zS p q)]):=by
 have S:=Hs.start w;have hr:=H.tab.rd;have hl:=H.tab.len;unfold PbV.val;refine qL (by first|rfl) Tryz.func55 rfl rfl ?_;all_goals (repeat' (first|refine qg ?_|(refine qc 0 ?_;(refine bx S ?_;clear S;intro b h S);refine mv ?_;refine qf ?_)))
 obtain ⟨b2,hnm⟩:∃ x,x=b:=⟨_,rfl⟩;subst hnm;all_goals (repeat' (first|(refine qc 1 ?_;refine vl ?_;refine lB S rfl rfl ?_;refine jf S ?_)))
 refine qa6 (z:=1) (by_:=8) (enc:=eI) (y0:=0) S rfl rfl rfl rfl rfl rfl rfl rfl rfl (by intro _;rfl) (by first|omega) rfl rfl ?_;clear S;intro v h S;obtain ⟨vk,rfl⟩:=S.sV v;refine mv ?_;refine qf ?_;simp only [zA0] at S;all_goals (repeat' (first|refine qg ?_|(refine qc 2 ?_;refine lB S rfl rfl ?_;refine mv ?_)))
 (refine qw rfl rfl rfl rfl rfl ((YA S.wf v p (H.ext w S.ext) vq q (rq.ext w S.ext) hq hqm).mono ?_);rintro vt h x)<;>(replace S:=S.jm x;clear x;refine xe S rfl rfl ?_;refine mv ?_;refine qf ?_)
 all_goals (repeat' (refine qj ?_))
 obtain ⟨ts,hts⟩:∃ ts,q.map (tOf p.tabs)=ts:=⟨_,rfl⟩
 have htl:ts.length=q.length:=by rw [← hts];simp
 have htb:∀ i,i<ts.length→-1≤ts.getD i default∧ts.getD i default<p.tabs.length:=fun i hi=>by
  obtain ⟨x,-,hx⟩:=zF1.1 (show ts.getD i default∈q.map (tOf p.tabs) by rw [hts];exact qQ hi);rw [← hx];exact pz _ _
 have hp:zS p q=Jb ts p.tabs.length:=by unfold zS;rw [hts]
 rw [hp];rw [hts] at S ⊢;refine qH (σ:=Nat) (fun i h'=>Hs h0 h' [.sl vt 3 1 eI ts,.sl vk.val 3 1 eI (Jb (ts.take i) p.tabs.length),.blk b2 v.cs 28]∧i≤ts.length) (fun i=>ts.length - i) (fun i=>[(5,vk.val),(14,vt),(15,.int .i64 ts.length),(16,.int .i64 i)]) 0 qx ?_ ?_
 ·refine ⟨?_,zB0 _⟩;rw [List.take_zero,qeO];exact S
 clear S;rintro i h ⟨S,g1⟩;have hcl:=qaa (ts:=ts.take i) (n:=p.tabs.length);all_goals (repeat' (first|refine qg ?_|refine qh rfl ?_|refine qi ?_|refine qC ?_|refine qj ?_|(refine qc 3 ?_;(first|(refine cS ?_ ?_<;>intro hc))<;>(refine qf ?_))|(refine qc 4 ?_;refine qO S rfl rfl ?_;refine zk S rfl rfl ?_;refine mv ?_;refine qf ?_)))
 ·obtain ⟨x,hx⟩:∃ x,ts.getD (i:Int).toNat default=x:=⟨_,rfl⟩
  rw [hx];replace hx:ts.getD i default=x:=hx;have hi:i<ts.length:=by omega
  have hb:=htb i hi;rw [hx] at hb;have key:ts.take (i+1)=ts.take i ++ [x]:=by
   rw [List.take_add_one,zA4 hi,← hx,zA2,zA4 hi];rfl
  all_goals (repeat' (first|refine qh rfl ?_|refine qi ?_|(refine qc 5 ?_;refine mv ?_;(first|(refine cS ?_ ?_<;>intro hc))<;>(refine qf ?_))))
  ·obtain ⟨k,rfl⟩:=zH3 (show 0≤x by omega);have hk:k<p.tabs.length:=by omega
   have hb2:0≤(Jb (ts.take i) p.tabs.length).getD (k:Int).toNat default∧(Jb (ts.take i) p.tabs.length).getD (k:Int).toNat default≤1000000:=by
    show 0≤(Jb (ts.take i) p.tabs.length).getD k default∧(Jb (ts.take i) p.tabs.length).getD k default≤1000000
    rw [yS hk];have:=List.count_le_length (a:=(k:Int)) (l:=ts.take i);rw [zA9] at this;omega
   all_goals (repeat' (first|(refine qc 6 ?_;refine mv ?_;refine mv ?_;refine qO S rfl rfl ?_;refine zk S rfl rfl ?_;refine ad ?_;refine qO S rfl rfl ?_;(first|(refine JY S rfl rfl ?_;clear S;intro h S));refine qf ?_)|(refine qc 7 ?_;refine ad ?_;refine mv ?_;refine qf ?_)))
   refine ⟨i+1,?_,?_,qx⟩
   ·show ts.length - (i+1)<ts.length - i;omega
   ·refine ⟨?_,by omega⟩;rw [key,qeQ hk];exact S
  ·all_goals (repeat' (first|(refine qc 7 ?_;refine ad ?_;refine mv ?_;refine qf ?_)))
   refine ⟨i+1,?_,?_,qx⟩
   ·show ts.length - (i+1)<ts.length - i;omega
   ·refine ⟨?_,by omega⟩;rw [key,qeP (by omega)];exact S
 ·all_goals (repeat' (first|(refine qc 8 ?_;refine mv ?_;refine mv ?_;refine qf ?_)))
  refine qo ⟨_,rfl,?_⟩;obtain rfl:i=ts.length:=by omega
  rw [zF8 (zA3 _)] at S;exact S.only (.there .here)
theorem qaF {h0:AH} (w:WfH h0) (v:PbV) (p:Pb) (H:PbOk h0 v p) (vq:Value) (q:List Int) (rq:zC h0 vq 1 eI q) (hq:q.length≤1000000) (hqm:∀ x∈q,x≤9223372036854775807) :
 Fn Tryz.prog Xh 73 [v.val,vq] h0 (fun u h'=>Hs h0 h' [.sl u 3 1 eI (srv (zS p q))]):=by
 have S:=Hs.start w;unfold PbV.val;refine qL (by first|rfl) Tryz.func73 rfl rfl ?_;all_goals (repeat' (first|refine qg ?_|(refine qc 0 ?_;(refine bx S ?_;clear S;intro b h S);refine mv ?_;refine qf ?_)))
 obtain ⟨b2,hnm⟩:∃ x,x=b:=⟨_,rfl⟩;subst hnm;have S:=S.Xg (e:=3) (z:=1) (enc:=eI);all_goals (repeat' (first|refine qg ?_|(refine qc 1 ?_;refine mv ?_;refine qf ?_)|(refine qc 2 ?_;refine lB S rfl rfl ?_;refine mv ?_)))
 (refine qw rfl rfl rfl rfl rfl ((xJ S.wf v p (H.ext w S.ext) vq q (rq.ext w S.ext) hq hqm).mono ?_);rintro vt h x)<;>(replace S:=S.jm x;clear x;refine xe S rfl rfl ?_;refine mv ?_;refine qf ?_)
 all_goals (repeat' (refine qj ?_))
 obtain ⟨pl,hpl⟩:∃ pl,zS p q=pl:=⟨_,rfl⟩
 have hll:pl.length≤1000:=by rw [← hpl,Zk];exact H.tab.len
 rw [hpl] at S ⊢;replace S:Hs h0 h [.sl vt 3 1 eI pl,.sl (.slice none 0 0) 3 1 eI [],.blk b2 v.cs 28]:=S;have S:=(show Hs h0 h [.sl (.slice none 0 0) 3 1 eI [],.sl vt 3 1 eI pl,.blk b2 v.cs 28] from S.pick)
 refine qH (σ:=Nat×Value) (fun (i,vo) h'=>Hs h0 h' [.sl vo 3 1 eI (Xb pl i),.sl vt 3 1 eI pl,.blk b2 v.cs 28]∧i≤pl.length) (fun (i,vo)=>pl.length - i) (fun (i,vo)=>[(5,vo),(10,vt),(11,.int .i64 pl.length),(12,.int .i64 i)]) (0,.slice none 0 0) qx ?_ ?_
 ·exact ⟨S,zB0 _⟩
 clear S;rintro ⟨i,vo⟩ h ⟨S,g1⟩;have hsl:=(XG (pl:=pl) (n:=i)).2;all_goals (repeat' (first|refine qg ?_|refine qh rfl ?_|refine qi ?_|refine qC ?_|refine qj ?_|(refine qc 3 ?_;(first|(refine cS ?_ ?_<;>intro hc))<;>(refine qf ?_))|(refine qc 4 ?_;refine mv ?_;refine qO S rfl rfl ?_;refine zk S rfl rfl ?_;refine mv ?_;refine mv ?_;refine qf ?_)))
 ·obtain ⟨x,hx⟩:∃ x,pl.getD (i:Int).toNat default=x:=⟨_,rfl⟩
  rw [hx];replace hx:pl.getD i default=x:=hx;all_goals (repeat' (first|refine qh rfl ?_|refine qi ?_|(refine qc 5 ?_;refine mv ?_;(first|(refine cS ?_ ?_<;>intro hc))<;>(refine qf ?_))))
  ·have key:Xb pl (i+1)=Xb pl i ++ [(i:Int)]:=by rw [Xb,if_pos (by omega)]
   all_goals (repeat' (first|(refine qc 6 ?_;refine mv ?_;refine mv ?_;(refine one 1 S ?_;clear S;intro u h S))))
   refine app (y0:=(i:Int)) S rfl rfl ?_;clear S;intro v h S;refine mv ?_;refine qf ?_;rw [← key] at S;all_goals (repeat' (first|(refine qc 7 ?_;refine ad ?_;refine mv ?_;refine qf ?_)))
   refine ⟨(i+1,v),?_,?_,qx⟩
   ·show pl.length - (i+1)<pl.length - i;omega
   ·exact ⟨S,by omega⟩
  ·have key:Xb pl (i+1)=Xb pl i:=by rw [Xb,if_neg (by omega)]
   all_goals (repeat' (first|(refine qc 7 ?_;refine ad ?_;refine mv ?_;refine qf ?_)))
   rw [← key] at S;refine ⟨(i+1,vo),?_,?_,qx⟩
   ·show pl.length - (i+1)<pl.length - i;omega
   ·exact ⟨S,by omega⟩
 ·all_goals (repeat' (first|(refine qc 8 ?_;refine mv ?_;refine mv ?_;refine qf ?_)))
  refine qo ⟨_,rfl,?_⟩;obtain rfl:i=pl.length:=by omega
  exact S.only .here
end Go.Proofs.Xx
