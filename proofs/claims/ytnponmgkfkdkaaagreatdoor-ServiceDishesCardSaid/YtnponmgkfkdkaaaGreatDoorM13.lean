/-
  The reference's checks of a hall and of a roll.
-/
import Derived.Test.YtnponmgkfkdkaaaGreatDoorM11
import Derived.Test.YtnponmgkfkdkaaaGreatDoorM12
import Derived.Test.YtnponmgkfkdkaaaGreatDoorM10
set_option linter.unusedSimpArgs false
set_option linter.unusedVariables false
set_option linter.unusedSectionVars false
set_option maxRecDepth 100000
set_option maxHeartbeats 4000000
namespace Go.Proofs.Xx
open Go Go.Proofs
variable [Flag]
theorem PS {h0:AH} (w:WfH h0) (s:List UInt8) (hs:s.length≤9223372036854775807):Fn Tryz.prog Xh 369 [str s] h0 (fun v h'=>qZ v (Qx s)∧Hs h0 h' []):=by
 have S:=Hs.start w;refine qL (by first|rfl) Tryz.func369 rfl rfl ?_;all_goals (repeat' (first|refine qg ?_|refine qh rfl ?_|refine qi ?_|refine qj ?_|(refine qc 0 ?_;refine mv ?_;refine qf ?_)|(refine qc 1 ?_;refine mv ?_;refine tl ?_;(first|(refine cS ?_ ?_<;>intro hc))<;>(refine mv ?_;(first|refine off ?_|refine mv ?_);(first|refine off ?_|refine tl ?_);(first|refine off ?_|(first|(refine cS ?_ ?_<;>intro hc)))<;>(refine vl ?_;refine qf ?_)))|(refine qc 2 ?_;refine mv ?_;refine qf ?_)|(refine qc 3 ?_;refine mv ?_;refine qf ?_)))
 ·refine qo ⟨_,rfl,?_⟩;exact ⟨.inr ⟨rfl,fun q=>by have:=q.1;omega⟩,S.drop⟩
 ·refine qo ⟨_,rfl,?_⟩;exact ⟨.inr ⟨rfl,fun q=>by have:=q.2.1;omega⟩,S.drop⟩
 rename_i hc1
 refine qH (σ:=Nat) (fun i h'=>Hs h0 h' []∧i≤s.length∧∀ j,j<i→Zt (s.getD j default)) (fun i=>s.length - i) (fun i=>[(0,str s),(3,.int .i64 i)]) 0 qx ?_ ?_
 ·exact ⟨S,zB0 _,fun j hj=>absurd hj (zB7 _)⟩
 clear S;rintro i h ⟨S,h1,h2⟩;all_goals (repeat' (first|refine qg ?_|refine qh rfl ?_|refine qi ?_|refine qC ?_|refine qj ?_|(refine qc 4 ?_;refine mv ?_;refine mv ?_;refine tl ?_;(first|(refine cS ?_ ?_<;>intro hc))<;>(refine qf ?_))|(refine qc 5 ?_;refine mv ?_;refine ad ?_;refine mv ?_;refine qf ?_)|(refine qc 6 ?_;refine mv ?_;refine mv ?_;refine ti ?_;(first|(refine cS ?_ ?_<;>intro hc))<;>(refine mv ?_;(first|refine off ?_|refine mv ?_);(first|refine off ?_|refine mv ?_);(first|refine off ?_|(refine ti ?_));(first|refine off ?_|(first|(refine cS ?_ ?_<;>intro hc)))<;>(refine vl ?_;refine qf ?_)))|(refine qc 7 ?_;refine mv ?_;refine qf ?_)|(refine qc 8 ?_;refine mv ?_;refine qf ?_)))
 all_goals (try simp only [zA0] at *)
 ·refine qo ⟨_,rfl,?_⟩;exact ⟨.inr ⟨rfl,fun q=>by have:=q.2.2 i (by omega);unfold Zt at this;simp only [show (default:UInt8)=0 from rfl] at this;omega⟩,S.drop⟩
 ·refine qo ⟨_,rfl,?_⟩;exact ⟨.inr ⟨rfl,fun q=>by have:=q.2.2 i (by omega);unfold Zt at this;simp only [show (default:UInt8)=0 from rfl] at this;omega⟩,S.drop⟩
 ·refine ⟨i+1,?_,?_,qx⟩
  ·show s.length - (i+1)<s.length - i;omega
  ·refine ⟨S,by omega,fun j hj=>?_⟩;rcases zA7 j i with q|q
   ·exact h2 j q
   ·have e:j=i:=by omega
    subst e;unfold Zt;simp only [show (default:UInt8)=0 from rfl];omega
 all_goals (refine qo ⟨_,rfl,?_⟩)
 exact ⟨.inl ⟨rfl,by omega,by omega,fun j hj=>h2 j (by omega)⟩,S.drop⟩
theorem KR {h0:AH} (w:WfH h0) (t:Tab) (r:TabR h0 t):Fn Tryz.prog Xh 353 [J8 t] h0 (fun v h'=>v = .int .i64 (chk t)∧Hs h0 h' []):=by
 have S:=Hs.start w;have hts:=Qv t;obtain ⟨hr,hnm,hol⟩:=r;refine qL (by first|rfl) Tryz.func353 rfl rfl ?_;all_goals (repeat' (first|refine qg ?_|(refine qc 0 ?_;(refine bx S ?_;clear S;intro b h S);refine mv ?_;refine qf ?_)|(refine qc 1 ?_;refine lB S rfl rfl ?_)))
 (refine qw rfl rfl rfl rfl rfl ((ZT S.wf t).mono ?_);rintro _ h ⟨rfl,x⟩)<;>(replace S:=S.qE x;clear x;refine mv ?_;refine qf ?_)
 all_goals (repeat' (first|refine qg ?_|(refine qc 2 ?_;refine vl ?_;refine lB S rfl rfl ?_)))
 (refine qw rfl rfl rfl rfl rfl ((PS S.wf t.name hnm).mono ?_);rintro _ h ⟨⟨rfl,hq⟩|⟨rfl,hq⟩,x⟩)<;>(replace S:=S.qE x;clear x;refine vl ?_;refine qf ?_)
 all_goals (repeat' (first|refine qg ?_|refine qh rfl ?_|refine qi ?_|refine qj ?_|(refine qc 3 ?_;refine mv ?_;refine qf ?_)|(refine qc 4 ?_;refine mv ?_;(first|(refine cS ?_ ?_<;>intro hc))<;>(refine qf ?_))|(refine qc 5 ?_;refine mv ?_;refine qf ?_)|(refine qc 6 ?_;refine mv ?_;refine qf ?_)))
 ·refine qo ⟨_,rfl,?_⟩;exact ⟨by unfold chk;rw [if_neg (by simpa using hq),if_pos hc];rfl,S.drop⟩
 ·refine qH (σ:=Nat) (fun i h'=>Hs h0 h' [.blk b (J8 t).cells.toList 93]∧i≤t.opn.length∧(∀ j,j<i→(0≤t.opn.getD j default∧t.opn.getD j default<zl t)∧(0<j→t.opn.getD (j - 1) default<t.opn.getD j default))) (fun i=>t.opn.length - i) (fun i=>[(1,.pointer (some ⟨b,0,none⟩)),(3,.int .i64 (zl t)),(4,.int .i64 i)]) 0 qx ?_ ?_
  ·exact ⟨S,zB0 _,fun j hj=>absurd hj (zB7 _)⟩
  clear S;rintro i h ⟨S,h1,h2⟩;all_goals (repeat' (first|refine qg ?_|refine qh rfl ?_|refine qi ?_|refine qC ?_|refine qj ?_|(refine qc 7 ?_;refine mv ?_;refine vl ?_;refine lB S rfl rfl ?_;refine jf S ?_;(first|(refine cS ?_ ?_<;>intro hc))<;>(refine qf ?_))|(refine qM 9 ?_;refine vl ?_;refine lB S rfl rfl ?_;refine mv ?_;refine jF S ?_;refine jk S ?_;refine mv ?_;refine sb ?_)|(refine qc 11 ?_;refine vl ?_;refine lB S rfl rfl ?_)))
  ·(refine qw rfl rfl rfl rfl rfl ((jW _ _ _).mono ?_);rintro _ _ ⟨⟨rfl,hq3⟩|⟨rfl,hq3⟩,rfl⟩)<;>(refine vl ?_;refine mv ?_;(first|refine off ?_|refine mv ?_);(first|refine off ?_|(first|(refine cS ?_ ?_<;>intro hc)))<;>((first|refine off ?_|refine mv ?_);(first|refine off ?_|(refine vl ?_));(first|refine off ?_|(refine lB S rfl rfl ?_));(first|refine off ?_|refine mv ?_);(first|refine off ?_|(refine jF S ?_));(first|refine off ?_|(refine jk S ?_));(first|refine off ?_|(refine vl ?_));(first|refine off ?_|(refine lB S rfl rfl ?_));(first|refine off ?_|refine mv ?_);(first|refine off ?_|(refine sb ?_));(first|refine off ?_|(refine jF S ?_));(first|refine off ?_|(refine jk S ?_));(first|refine off ?_|(first|(refine cS ?_ ?_<;>intro hc)))<;>((first|refine off ?_|refine vl ?_);refine vl ?_;refine qf ?_)))
   all_goals (repeat' (first|refine qg ?_|refine qh rfl ?_|refine qi ?_|(refine qc 8 ?_;refine mv ?_;refine ad ?_;refine mv ?_;refine qf ?_)|(refine qc 10 ?_;refine mv ?_;refine qf ?_)))
   all_goals (try simp only [zA0] at *)
   ·refine qo ⟨_,rfl,?_⟩;refine ⟨?_,S.drop⟩;rw [show ((i:Int) - 1).toNat=i - 1 by omega] at hc;have:¬ WI (zl t) t.opn:=fun q=>by have q1:=(q i (by omega)).2 (by omega);omega
    unfold chk;rw [if_neg (by simpa using hq),if_neg (by assumption),if_pos this];rfl
   ·refine ⟨i+1,?_,?_,qx⟩
    ·show t.opn.length - (i+1)<t.opn.length - i;omega
    ·rw [show ((i:Int) - 1).toNat=i - 1 by omega] at hc;refine ⟨S,by omega,fun j hj=>?_⟩;rcases zA7 j i with q|q
     ·exact h2 j q
     ·have e:j=i:=by omega
      subst e;exact ⟨by omega,fun q=>by omega⟩
   ·refine ⟨i+1,?_,?_,qx⟩
    ·show t.opn.length - (i+1)<t.opn.length - i;omega
    ·refine ⟨S,by omega,fun j hj=>?_⟩;have e:j=i:=by omega
     subst e;exact ⟨by omega,fun q=>by omega⟩
   ·refine qo ⟨_,rfl,?_⟩;refine ⟨?_,S.drop⟩;have:¬ WI (zl t) t.opn:=fun q=>by have q1:=(q i (by omega)).1;omega
    unfold chk;rw [if_neg (by simpa using hq),if_neg (by assumption),if_pos this];rfl
  have hok:WI (zl t) t.opn:=fun j hj=>h2 j (by omega);(refine qw rfl rfl rfl rfl rfl ((jW _ _ _).mono ?_);rintro _ _ ⟨⟨rfl,hq3⟩|⟨rfl,hq3⟩,rfl⟩)<;>(refine vl ?_;refine mv ?_;(first|refine off ?_|(refine vl ?_));(first|refine off ?_|(refine lB S rfl rfl ?_));(first|(refine off ?_;refine off ?_;refine vl ?_;refine qf ?_)|skip))
  any_goals ((refine qw rfl rfl rfl rfl rfl ((jW _ _ _).mono ?_);rintro _ _ ⟨⟨rfl,hq4⟩|⟨rfl,hq4⟩,rfl⟩)<;>((refine vl ?_);refine vl ?_;refine qf ?_))
  all_goals (repeat' (first|refine qg ?_|refine qh rfl ?_|refine qi ?_|(refine qc 12 ?_;refine mv ?_;refine qf ?_)|(refine qc 13 ?_;refine mv ?_;refine qf ?_)))
  all_goals
   refine qo ⟨_,rfl,?_⟩;refine ⟨?_,S.drop⟩;unfold chk;rw [if_neg (by simpa using hq),if_neg (by assumption),if_neg (by simpa using hok)];first
    | (rw [if_pos (by unfold qdl;omega)];rfl)
    | (rw [if_neg (by unfold qdl;omega)];rfl)
 ·refine qo ⟨_,rfl,?_⟩;exact ⟨by unfold chk;rw [if_pos (by simpa using hq)];rfl,S.drop⟩
theorem xQ {h0:AH} (w:WfH h0) (v:Value) (l:List Tab) (H:HallR h0 v l):Fn Tryz.prog Xh 309 [v] h0 (fun r h'=>∃ i e,r = .tuple #[.int .i64 i,.int .i64 e]∧ChkAll l i e∧Hs h0 h' []):=by
 have S:=Hs.start w;have hl:=H.len;have hr:=H.rd;refine qL (by first|rfl) Tryz.func309 rfl rfl ?_;all_goals (repeat' (first|refine qg ?_|refine qh rfl ?_|refine qi ?_|refine qj ?_|(refine qc 0 ?_;refine mv ?_;refine mv ?_;refine qf ?_)|(refine qc 1 ?_;refine mv ?_;refine jf S ?_;(first|(refine cS ?_ ?_<;>intro hc))<;>(refine qf ?_))|(refine qc 2 ?_;refine mv ?_;refine mv ?_;refine qf ?_)|(refine qc 3 ?_;refine mv ?_;refine qf ?_)))
 ·refine qo ⟨_,rfl,?_⟩;exact ⟨0,7,rfl,.inl ⟨by omega,rfl,rfl⟩,S⟩
 ·refine qH (σ:=Nat) (fun i h'=>Hs h0 h' []∧i≤l.length∧∀ j,j<i→Zu l j) (fun i=>l.length - i) (fun i=>[(0,v),(4,.int .i64 i)]) 0 qx ?_ ?_
  ·exact ⟨S,zB0 _,fun j hj=>absurd hj (zB7 _)⟩
  clear S;rintro i h ⟨S,h1,h2⟩;all_goals (repeat' (first|refine qg ?_|refine qh rfl ?_|refine qi ?_|refine qC ?_|refine qj ?_|(refine qc 4 ?_;refine mv ?_;refine mv ?_;refine jf S ?_;(first|(refine cS ?_ ?_<;>intro hc))<;>(refine qf ?_))|(refine qc 6 ?_;refine mv ?_;refine mv ?_;refine jF S ?_;refine jk S ?_)|(refine qc 14 ?_;refine mv ?_;refine mv ?_;refine qf ?_)))
  ·(try simp only [zA0] at *)
   have hi:i<l.length:=by omega
   (refine qw rfl rfl rfl rfl rfl ((KR S.wf (tb l i) ((H.tab i hi).ext w S.ext)).mono ?_);rintro _ h ⟨rfl,x⟩)<;>(replace S:=S.qE x;clear x;refine mv ?_;refine qf ?_)
   all_goals (repeat' (first|refine qg ?_|refine qh rfl ?_|refine qi ?_|refine qj ?_|(refine qc 7 ?_;refine mv ?_;(first|(refine cS ?_ ?_<;>intro hc))<;>(refine qf ?_))|(refine qc 8 ?_;(iterate 4 refine mv ?_);refine qf ?_)|(refine qc 9 ?_;refine mv ?_;refine qf ?_)))
   ·refine qo ⟨_,rfl,?_⟩;exact ⟨i,_,rfl,.inr ⟨by omega,.inl ⟨i,hi,rfl,h2,.inl ⟨by simpa using hc,rfl⟩⟩⟩,S.drop⟩
   ·have hc0:chk (tb l i)=0:=by simpa using hc
    refine qH (σ:=Nat) (fun k h'=>Hs h0 h' []∧k≤i∧∀ j,j<k→¬ (tb l j).name=(tb l i).name) (fun k=>i - k) (fun k=>[(0,v),(4,.int .i64 i),(6,.int .i64 k)]) 0 qx ?_ ?_
    ·exact ⟨S,zB0 _,fun j hj=>absurd hj (zB7 _)⟩
    clear S;rintro k h ⟨S,k1,k2⟩;all_goals (repeat' (first|refine qg ?_|refine qh rfl ?_|refine qi ?_|refine qC ?_|refine qj ?_|(refine qc 5 ?_;refine mv ?_;refine ad ?_;refine mv ?_;refine qf ?_)|(refine qc 10 ?_;refine mv ?_;refine mv ?_;(first|(refine cS ?_ ?_<;>intro hc))<;>(refine qf ?_))|(refine qc 11 ?_;refine mv ?_;refine ad ?_;refine mv ?_;refine qf ?_)|(refine qM 12 ?_;refine mv ?_;refine mv ?_;refine jF S ?_;refine fB S ?_;refine jk S ?_;refine mv ?_;refine mv ?_;refine jF S ?_;refine fB S ?_;refine jk S ?_;(refine tS ?_ ?_<;>intro hc)<;>(refine qf ?_))|(refine qc 13 ?_;(iterate 3 refine mv ?_);refine qf ?_)))
    ·(try simp only [zA0] at *)
     refine qo ⟨_,rfl,?_⟩;exact ⟨i,5,rfl,.inr ⟨by omega,.inl ⟨i,hi,rfl,h2,.inr ⟨hc0,⟨k,by omega,by assumption⟩,rfl⟩⟩⟩,S⟩
    ·(try simp only [zA0] at *)
     refine ⟨k+1,?_,?_,qx⟩
     ·show i - (k+1)<i - k;omega
     ·refine ⟨S,by omega,fun j hj=>?_⟩;rcases zA7 j k with q|q
      ·exact k2 j q
      ·obtain rfl:j=k:=by omega
       assumption
    ·refine ⟨i+1,?_,?_,qx⟩
     ·show l.length - (i+1)<l.length - i;omega
     ·refine ⟨S,by omega,fun j hj=>?_⟩;rcases zA7 j i with q|q
      ·exact h2 j q
      ·obtain rfl:j=i:=by omega
       exact ⟨hc0,fun ⟨m,hm,he⟩=>k2 m (by omega) he⟩
  ·refine qo ⟨_,rfl,?_⟩;exact ⟨0,0,rfl,.inr ⟨by omega,.inr ⟨fun j hj=>h2 j (by omega),rfl,rfl⟩⟩,S⟩
theorem Y6 {h0:AH} (w:WfH h0) (v:Value) (gs:List Z5) (hr:zC h0 v 9 eG gs) (hl:gs.length≤9223372036854775807) (n:List UInt8):Fn Tryz.prog Xh 316 [v,str n] h0 (fun u h'=>((∃ i:Nat,gat (gs.map (·.toGu)) n=some i∧i<gs.length∧u = .int .i64 i)∨(gat (gs.map (·.toGu)) n=none∧u = .int .i64 (-1)))∧Hs h0 h' []):=by
 have S:=Hs.start w;refine qL (by first|rfl) Tryz.func316 rfl rfl ?_;all_goals (repeat' (first|refine qg ?_|refine qj ?_|(refine qc 0 ?_;refine mv ?_;refine qf ?_)|(refine qc 1 ?_;refine mv ?_;refine qf ?_)))
 refine qH (σ:=Nat) (fun i h'=>Hs h0 h' []∧i≤gs.length∧∀ j,j<i→(gs.getD j default).name≠n) (fun i=>gs.length - i) (fun i=>[(0,v),(1,str n),(5,.int .i64 i)]) 0 qx ?_ ?_
 ·exact ⟨S,zB0 _,fun j hj=>absurd hj (zB7 _)⟩
 clear S;rintro i h ⟨S,g1,g2⟩;have e:∀ j,j<gs.length→((gs.map (fun g:Z5=>g.toGu)).getD j default).name=(gs.getD j default).name:=fun j hj=>by rw [jc (f:=fun g:Z5=>g.toGu) hj]
 all_goals (repeat' (first|refine qg ?_|refine qh rfl ?_|refine qi ?_|refine qC ?_|refine qj ?_|(refine qc 2 ?_;refine mv ?_;refine mv ?_;refine jf S ?_;(first|(refine cS ?_ ?_<;>intro hc))<;>(refine qf ?_))))
 ·have hil:i<gs.length:=by omega
  all_goals (repeat' (first|refine qg ?_|refine qh rfl ?_|refine qi ?_|(refine qc 4 ?_;refine mv ?_;refine mv ?_;refine jF S ?_;refine fB S ?_;refine jk S ?_;refine mv ?_;(refine tS ?_ ?_<;>intro hc)<;>(refine qf ?_))|(refine qc 5 ?_;refine mv ?_;refine mv ?_;refine qf ?_)))
  all_goals (try simp only [zA0] at *)
  ·refine qo ⟨_,rfl,?_⟩;refine ⟨.inl ⟨i,?_,hil,rfl⟩,S⟩;cases hq:gat (gs.map (·.toGu)) n with
   | none=>exact absurd (by rw [e i hil];exact hc) (XM.1 hq _ (qQ (show i<(gs.map (·.toGu)).length by simp;exact hil)))
   | some k =>
    obtain ⟨h1,h2,h3⟩:=Vh hq;simp only [zC5] at h1;rw [e k h1] at h2;rcases zE6 i k with q|q|q
    ·exact absurd (by rw [e i hil];exact hc) (h3 i q)
    ·rw [q]
    ·exact absurd h2 (g2 k q)
  ·all_goals (repeat' (first|(refine qc 3 ?_;refine mv ?_;refine ad ?_;refine mv ?_;refine qf ?_)))
   refine ⟨i+1,?_,?_,qx⟩
   ·show gs.length - (i+1)<gs.length - i;omega
   ·exact ⟨S,by omega,Qj g2 hc⟩
 ·skip
  all_goals (repeat' (first|(refine qc 6 ?_;refine mv ?_;refine qf ?_)))
  refine qo ⟨_,rfl,?_⟩;refine ⟨.inr ⟨XM.2 fun g hg=>?_,rfl⟩,S⟩;obtain ⟨j,hj,rfl⟩:=zx.1 hg;simp only [zC5] at hj;rw [e j hj];exact g2 j (by omega)
theorem qg2 {r:Rl} {i:Nat} (h:¬ ((r.ts.getD i default).k=1∨(r.ts.getD i default).k=2)∨¬ jE (r.ts.getD i default).a (r.ts.getD i default).b∨(0<i∧Z7 (r.ts.getD i default) (r.ts.getD (i - 1) default))):Ym r i=23:=by
 unfold Ym;split
 ·rename_i q
  rcases h with h|h|h
  ·unfold Z8;rw [if_pos (.inl (by omega))]
  ·exact absurd q.1 h
  ·rcases q.2 with z|z
   ·omega
   ·exact absurd h.2 z
 ·rfl
structure TGd (r:Rl) (i:Nat):Prop where
 k:(r.ts.getD i default).k=1∨(r.ts.getD i default).k=2
 lt:jE (r.ts.getD i default).a (r.ts.getD i default).b
 pl:i=0∨¬ Z7 (r.ts.getD i default) (r.ts.getD (i - 1) default)
theorem TGd.eq {r:Rl} {i:Nat} (g:TGd r i):Ym r i=(Z8 ⟨r.us,r.ts.take i⟩ (r.ts.getD i default).a (r.ts.getD i default).b (r.ts.getD i default).k).2:=by
 unfold Ym;rw [if_pos ⟨g.lt,g.pl⟩]
theorem TGd.nk {r:Rl} {i:Nat} (g:TGd r i):¬ (((r.ts.getD i default).k≠1∧(r.ts.getD i default).k≠2)∨(r.ts.getD i default).a=(r.ts.getD i default).b):=by
 rintro (q|q)
 ·have:=g.k;omega
 ·exact qdU g.lt q
theorem TGd.e6 {r:Rl} {i:Nat} (g:TGd r i) (h:gat r.us (r.ts.getD i default).a=none∨gat r.us (r.ts.getD i default).b=none):Ym r i=6:=by
 rw [g.eq,qaw (r:=⟨r.us,r.ts.take i⟩) g.nk h]
theorem TGd.tied {r:Rl} {i:Nat} (g:TGd r i) (hi:i<r.ts.length) (hp:TS (r.ts.take i)):tied (r.ts.take i) (r.ts.getD i default).a (r.ts.getD i default).b↔(0<i∧¬ Z7 (r.ts.getD (i - 1) default) (r.ts.getD i default)):=by
 unfold Xx.tied;rw [WW g.lt,WX g.lt];have hl:(r.ts.take i).length=i:=by simp;omega
 constructor
 ·rintro ⟨t,h1,h2,h3⟩;obtain ⟨j,j1,j2⟩:=zx.1 h1;rw [hl] at j1;rw [getD_take j1] at j2;refine ⟨by omega,fun q=>?_⟩;have hb:Z7 t (r.ts.getD i default):=by
   rcases Nat.eq_or_lt_of_le (show j≤i - 1 by omega) with e|e
   ·rw [← j2,e];exact q
   ·have:=hp.lt e (by rw [hl];omega);rw [getD_take j1,getD_take (by omega),j2] at this;exact ZN this q
  rcases hb with q|q
  ·rw [h2] at q;exact zL _ q
  ·rw [h3] at q;exact zL _ q.2
 ·rintro ⟨h0,h1⟩;rcases Gn (r.ts.getD (i - 1) default) (r.ts.getD i default) with q|q|q
  ·exact absurd q h1
  ·refine ⟨r.ts.getD (i - 1) default,?_,q⟩;have:=qQ (l:=r.ts.take i) (i:=i - 1) (by rw [hl];omega);rwa [getD_take (by omega)] at this
  ·exact absurd q (g.pl.resolve_left (by omega))
theorem TGd.e5 {r:Rl} {i:Nat} (g:TGd r i) (hi:i<r.ts.length) (hp:TS (r.ts.take i)) (h:¬ (gat r.us (r.ts.getD i default).a=none∨gat r.us (r.ts.getD i default).b=none)) (hb:0<i∧¬ Z7 (r.ts.getD (i - 1) default) (r.ts.getD i default)):Ym r i=5:=by
 rw [g.eq,qax (r:=⟨r.us,r.ts.take i⟩) g.nk h ((g.tied hi hp).2 hb)]
theorem TGd.e7 {r:Rl} {i:Nat} (g:TGd r i) (hi:i<r.ts.length) (hp:TS (r.ts.take i)) (h:¬ (gat r.us (r.ts.getD i default).a=none∨gat r.us (r.ts.getD i default).b=none)) (hb:¬ (0<i∧¬ Z7 (r.ts.getD (i - 1) default) (r.ts.getD i default))) (h7:256≤i):Ym r i=7:=by
 rw [g.eq,qav (r:=⟨r.us,r.ts.take i⟩) g.nk h (fun q=>hb ((g.tied hi hp).1 q)) (by simp;omega)]
theorem TGd.e0 {r:Rl} {i:Nat} (g:TGd r i) (hi:i<r.ts.length) (hp:TS (r.ts.take i)) (h:¬ (gat r.us (r.ts.getD i default).a=none∨gat r.us (r.ts.getD i default).b=none)) (hb:¬ (0<i∧¬ Z7 (r.ts.getD (i - 1) default) (r.ts.getD i default))) (h7:¬ 256≤i):Ym r i=0:=by
 rw [g.eq,gq (r:=⟨r.us,r.ts.take i⟩) g.nk h (fun q=>hb ((g.tied hi hp).1 q)) (by simp;omega)]
theorem kM {h0:AH} (w:WfH h0) (x y:Ti):Fn Tryz.prog Xh 355 [tiV x,tiV y] h0 (fun u h'=>qZ u (Z7 x y)∧Hs h0 h' []):=by
 have S:=Hs.start w;unfold tiV;refine qL (by first|rfl) Tryz.func355 rfl rfl ?_;all_goals (repeat' (first|refine qg ?_|(refine qc 0 ?_;(refine bx S ?_;clear S;intro b h S);(refine bx S ?_;clear S;intro b h S);refine mv ?_;refine qf ?_)|(refine qc 1 ?_;refine vl ?_;refine lB S rfl rfl ?_;refine vl ?_;refine lB S rfl rfl ?_;(refine tO ?_ ?_<;>intro hc)<;>(refine mv ?_;(first|refine off ?_|(refine vl ?_));(first|refine off ?_|(refine lB S rfl rfl ?_));(first|refine off ?_|(refine vl ?_));(first|refine off ?_|(refine lB S rfl rfl ?_));(first|refine off ?_|(refine tS ?_ ?_<;>intro hc))<;>((first|refine off ?_|refine mv ?_);(first|refine off ?_|(refine vl ?_));(first|refine off ?_|(refine lB S rfl rfl ?_));(first|refine off ?_|(refine vl ?_));(first|refine off ?_|(refine lB S rfl rfl ?_));(first|refine off ?_|(refine tO ?_ ?_<;>intro hc))<;>((first|refine off ?_|refine vl ?_);refine vl ?_;refine mv ?_;refine qf ?_))))))
 all_goals (refine qo ⟨_,rfl,?_⟩)
 all_goals first
  | exact ⟨.inl ⟨rfl,by unfold Z7;grind⟩,S.drop⟩
  | exact ⟨.inr ⟨rfl,by unfold Z7;grind⟩,S.drop⟩
theorem qcC {h0:AH} (w:WfH h0) (v:RlV) (r:Rl) (HR:RlOk h0 v r) (hcap:Q7 v.vg.val) (hb:r.us.length≤200∧r.ts.length≤600):Fn Tryz.prog Xh 310 [v.val] h0 (fun u h'=>((u = .tuple #[.int .i64 0,.int .i64 0]∧VRl r)∨∃ i e,u = .tuple #[.int .i64 i,.int .i64 e]∧Bad r i e)∧Hs h0 h' []):=by
 have S:=Hs.start w;have hrg:=HR.rg;have hrt:=HR.rt;have hgl:=HR.len;unfold RlV.val;refine qL (by first|rfl) Tryz.func310 rfl rfl ?_;all_goals (repeat' (first|refine qg ?_|(refine qc 0 ?_;(refine bx S ?_;clear S;intro b h S);refine mv ?_;refine mv ?_;refine qf ?_)))
 obtain ⟨b1,hnm⟩:∃ x,x=b:=⟨_,rfl⟩;subst hnm;replace S:Hs h0 h (.blk b1 [v.vg.val,v.vt.val] 154 :: []):=S;all_goals (repeat' (first|refine qj ?_|(refine qc 1 ?_;refine mv ?_;refine qf ?_)))
 refine qH (σ:=Nat) (fun i h'=>Hs h0 h' [.blk b1 [v.vg.val,v.vt.val] 154]∧i≤r.us.length∧(∀ k,k<i→gE0 r.us k=0)) (fun i=>r.us.length - i) (fun i=>[(1,.pointer (some ⟨b1,0,none⟩)),(4,.int .i64 i)]) 0 qx ?_ ?_
 ·exact ⟨S,zB0 _,fun j hj=>absurd hj (zB7 _)⟩
 clear S;rintro i h ⟨S,g1,g2⟩;all_goals (repeat' (first|refine qg ?_|refine qh rfl ?_|refine qi ?_|refine qC ?_|refine qj ?_|(refine qc 2 ?_;refine mv ?_;refine vl ?_;refine lB S rfl rfl ?_;refine jf S ?_;(first|(refine cS ?_ ?_<;>intro hc))<;>(refine qf ?_))))
 ·have hil:i<v.gs.length:=by omega
  have hg:(v.gs.getD i default).toGu=r.us.getD i default:=HR.at_ hil;have hge:gE0 r.us i=(YP ⟨r.us.take i,[]⟩ (r.us.getD i default)).2:=rfl;have hbad:∀ e,gE0 r.us i=e→e≠0→Bad r i e:=fun e h1 h2=>⟨h2,.inl ⟨i,by omega,g2,h1,rfl⟩⟩
  all_goals (repeat' (first|(refine qc 4 ?_;refine vl ?_;refine lB S rfl rfl ?_;refine mv ?_;refine jF S ?_;refine jk S ?_)))
  simp only [zA0];(refine qw rfl rfl rfl rfl rfl ((Pg S.wf (v.gs.getD i default) ⟨(HR.tg i hil).1.ext w S.ext,(HR.tg i hil).2⟩).mono ?_);rintro _ h ⟨rfl,x⟩)<;>(replace S:=S.qE x;clear x;refine mv ?_;refine qf ?_)
  rw [hg];all_goals (repeat' (first|refine qg ?_|refine qh rfl ?_|refine qi ?_|(refine qc 5 ?_;refine mv ?_;(first|(refine cS ?_ ?_<;>intro hc))<;>(refine qf ?_))))
  ·have hne:Q5 (r.us.getD i default)≠0:=by assumption
   all_goals (repeat' (first|(refine qc 6 ?_;(iterate 4 refine mv ?_);refine qf ?_)))
   refine qo ⟨_,rfl,?_⟩;exact ⟨.inr ⟨_,_,rfl,hbad _ (by rw [hge,qbn hne]) hne⟩,S.drop⟩
  ·have hz:Q5 (r.us.getD i default)=0:=by omega
   have hnm:(v.gs.getD i default).name=(r.us.getD i default).name:=by rw [← hg]
   all_goals (repeat' (first|(refine qM 7 ?_;refine vl ?_;refine lB S rfl rfl ?_;refine mv ?_)))
   refine su 0 i (hrg.ext w S.ext) hcap (fun va' ra' ca'=>?_);((refine vl ?_);refine lB S rfl rfl ?_;refine mv ?_;refine jF S ?_;refine fB S ?_;refine jk S ?_);simp only [zA0,hnm];have hmp:((v.gs.drop 0).take (i - 0)).map (·.toGu)=r.us.take i:=by rw [List.drop_zero,Nat.sub_zero,List.map_take,HR.us]
   have hll:((v.gs.drop 0).take (i - 0)).length≤9223372036854775807:=by simp;omega
   (refine qw rfl rfl rfl rfl rfl ((Y6 S.wf va' ((v.gs.drop 0).take (i - 0)) ra' hll (r.us.getD i default).name).mono ?_);rintro _ h ⟨⟨j,j1,j2,rfl⟩|⟨j1,rfl⟩,x⟩)<;>(replace S:=S.qE x;clear x;(first|refine cT ?_|refine cF ?_)<;>(refine qf ?_))
   all_goals rw [hmp] at j1
   ·all_goals (repeat' (first|refine qg ?_|refine qh rfl ?_|(refine qc 8 ?_;(iterate 3 refine mv ?_);refine qf ?_)))
    refine qo ⟨_,rfl,?_⟩;exact ⟨.inr ⟨_,_,rfl,hbad _ (by rw [hge,qbp hz (by show gat (r.us.take i) _≠none;rw [j1];simp)]) (by decide)⟩,S.drop⟩
   ·skip
    all_goals (repeat' (first|refine qg ?_|refine qh rfl ?_|refine qi ?_|(refine qc 9 ?_;refine mv ?_;(first|(refine cS ?_ ?_<;>intro hc))<;>(refine qf ?_))))
    ·all_goals (repeat' (first|(refine qc 10 ?_;(iterate 3 refine mv ?_);refine qf ?_)))
     refine qo ⟨_,rfl,?_⟩;exact ⟨.inr ⟨_,_,rfl,hbad _ (by rw [hge,qbo hz j1 (by show 64≤(r.us.take i).length;simp;omega)]) (by decide)⟩,S.drop⟩
    ·skip
     all_goals (repeat' (first|(refine qc 3 ?_;refine mv ?_;refine ad ?_;refine mv ?_;refine qf ?_)))
     refine ⟨i+1,?_,?_,qx⟩
     ·show r.us.length - (i+1)<r.us.length - i;omega
     ·exact ⟨S,by omega,Qj g2 (by rw [hge,Gq hz j1 (by show ¬ 64≤(r.us.take i).length;simp;omega)])⟩
 ·have hi:i=r.us.length:=by omega
  rw [hi] at g2;clear hi;all_goals (repeat' (first|refine qj ?_|(refine qc 11 ?_;refine mv ?_;refine qf ?_)))
  refine qH (σ:=Nat) (fun i h'=>Hs h0 h' [.blk b1 [v.vg.val,v.vt.val] 154]∧i≤r.ts.length∧(∀ k,k<i→Ym r k=0)) (fun i=>r.ts.length - i) (fun i=>[(1,.pointer (some ⟨b1,0,none⟩)),(6,.int .i64 i)]) 0 qx ?_ ?_
  ·exact ⟨S,zB0 _,fun j hj=>absurd hj (zB7 _)⟩
  clear S;rintro i h ⟨S,k1,k2⟩;all_goals (repeat' (first|refine qg ?_|refine qh rfl ?_|refine qi ?_|refine qC ?_|refine qj ?_|(refine qc 12 ?_;refine mv ?_;refine vl ?_;refine lB S rfl rfl ?_;refine jf S ?_;(first|(refine cS ?_ ?_<;>intro hc))<;>(refine qf ?_))))
  ·have hil:i<r.ts.length:=by omega
   have hts:=(gG k1 k2).1;have hbad:∀ e,Ym r i=e→e≠0→Bad r ((v.gs.length:Int)+i) e:=fun e h1 h2=>⟨h2,.inr ⟨g2,i,hil,k2,h1,by rw [hgl]⟩⟩
   all_goals (repeat' (first|refine qg ?_|(refine qc 14 ?_;refine vl ?_;refine lB S rfl rfl ?_;refine mv ?_;refine jF S ?_;refine jk S ?_;(refine al S ?_;clear S;intro b h S);(first|(refine sB S rfl rfl ?_;clear S;intro h S));refine qf ?_)))
   obtain ⟨b7,hnm⟩:∃ x,x=b:=⟨_,rfl⟩;subst hnm;simp only [zA0] at S;obtain ⟨t,ht⟩:∃ t,r.ts.getD i default=t:=⟨_,rfl⟩
   rw [ht] at S;replace S:Hs h0 h [.blk b7 [str t.a,str t.b,.int .u8 t.k] 198,.blk b1 [v.vg.val,v.vt.val] 154]:=S;all_goals (repeat' (first|refine qg ?_|(refine qc 15 ?_;refine vl ?_;refine lB S rfl rfl ?_;refine jf S ?_;refine mv ?_;refine ad ?_;refine mv ?_;refine qf ?_)))
   (repeat (refine qg ?_));first|refine jC (σ:=Unit) (fun _ h'=>Hs h0 h' [.blk b7 [str t.a,str t.b,.int .u8 t.k] 198,.blk b1 [v.vg.val,v.vt.val] 154]∧TGd r i) (fun _=>[(1,.pointer (some ⟨b1,0,none⟩)),(6,.int .i64 i),(7,.pointer (some ⟨b7,0,none⟩)),(8,.int .i64 ((v.gs.length:Int)+i))]) ?_ ?_
   ·have hpr:((i:Int) - 1).toNat=i - 1:=by omega
    all_goals (repeat' (first|refine qg ?_|refine qh rfl ?_|refine qi ?_|(refine qM 16 ?_;refine vl ?_;refine lB S rfl rfl ?_;(first|(refine cS ?_ ?_<;>intro hc))<;>(refine mv ?_;(first|refine off ?_|(refine vl ?_));(first|refine off ?_|(refine lB S rfl rfl ?_));(first|refine off ?_|(first|(refine cS ?_ ?_<;>intro hc)))<;>(refine vl ?_;refine mv ?_;(first|refine off ?_|(refine vl ?_));(first|refine off ?_|(refine lB S rfl rfl ?_));(first|refine off ?_|(refine vl ?_));(first|refine off ?_|(refine lB S rfl rfl ?_));(first|refine off ?_|(refine tO ?_ ?_<;>intro hc))<;>(refine vl ?_;refine mv ?_;(first|refine off ?_|refine mv ?_);(first|refine off ?_|(first|(refine cS ?_ ?_<;>intro hc)))<;>((first|refine off ?_|refine mv ?_);(first|refine off ?_|(refine lB S rfl rfl ?_));(first|refine off ?_|(refine vl ?_));(first|refine off ?_|(refine lB S rfl rfl ?_));(first|refine off ?_|refine mv ?_);(first|refine off ?_|(refine sb ?_));(first|refine off ?_|(refine jF S ?_));(first|refine off ?_|(refine jk S ?_));(first|(refine off ?_;(first|refine off ?_|refine vl ?_);refine vl ?_;refine qf ?_)|skip))))))))
    all_goals first
     | exact ⟨(),⟨S,⟨by rw [ht];omega,by rw [ht];exact zF3.1 (by assumption),.inl (by omega)⟩⟩,(qx)⟩
     | skip
    all_goals (try simp only [hpr])
    all_goals (try ((refine qw rfl rfl rfl rfl rfl ((kM S.wf t (r.ts.getD (i - 1) default)).mono ?_);rintro _ h ⟨⟨rfl,z⟩|⟨rfl,z⟩,x⟩)<;>(replace S:=S.qE x;clear x;refine vl ?_;refine vl ?_;refine qf ?_)))
    all_goals (all_goals (repeat' (first|refine qg ?_|refine qh rfl ?_|refine qi ?_|(refine qc 17 ?_;(iterate 3 refine mv ?_);refine qf ?_))))
    all_goals first
     | exact ⟨(),⟨S,⟨by rw [ht];omega,by rw [ht];exact zF3.1 (by assumption),.inr (by rw [ht];exact z)⟩⟩,(qx)⟩
     | (refine qo ⟨_,rfl,?_⟩;exact ⟨.inr ⟨_,_,rfl,hbad _ (qg2 (by rw [ht];first|exact .inl (by omega)|exact .inr (.inl (by assumption))|exact .inr (.inr ⟨by omega,z⟩))) (by decide)⟩,S.drop⟩)
   clear S;rintro - h ⟨S,G⟩;all_goals (repeat' (first|refine qg ?_|(refine qc 18 ?_;refine vl ?_;refine lB S rfl rfl ?_;refine vl ?_;refine lB S rfl rfl ?_)))
   (refine qw rfl rfl rfl rfl rfl ((Y6 S.wf v.vg.val v.gs (hrg.ext w S.ext) (by omega) t.a).mono ?_);rintro _ h ⟨⟨j,j1,j2,rfl⟩|⟨j1,rfl⟩,x⟩)<;>(replace S:=S.qE x;clear x;(first|refine cT ?_|refine cF ?_)<;>(refine mv ?_;(first|refine off ?_|(refine vl ?_));(first|refine off ?_|(refine lB S rfl rfl ?_));(first|refine off ?_|(refine vl ?_));(first|refine off ?_|(refine lB S rfl rfl ?_));(first|(refine off ?_;(refine off ?_)<;>(refine vl ?_;refine qf ?_))|skip)))
   all_goals rw [HR.us] at j1
   rotate_left
   ·skip
    all_goals (repeat' (first|refine qg ?_|refine qh rfl ?_|(refine qc 19 ?_;(iterate 3 refine mv ?_);refine qf ?_)))
    refine qo ⟨_,rfl,?_⟩;exact ⟨.inr ⟨_,_,rfl,hbad _ (G.e6 (.inl (by rw [ht];exact j1))) (by decide)⟩,S.drop⟩
   all_goals (repeat' (fail))
   (refine qw rfl rfl rfl rfl rfl ((Y6 S.wf v.vg.val v.gs (hrg.ext w S.ext) (by omega) t.b).mono ?_);rintro _ h ⟨⟨j',m1,m2,rfl⟩|⟨m1,rfl⟩,x⟩)<;>(replace S:=S.qE x;clear x;(first|(first|refine cT ?_|refine cF ?_))<;>(refine vl ?_;refine qf ?_))
   all_goals rw [HR.us] at m1
   rotate_left
   ·skip
    all_goals (repeat' (first|refine qg ?_|refine qh rfl ?_|(refine qc 19 ?_;(iterate 3 refine mv ?_);refine qf ?_)))
    refine qo ⟨_,rfl,?_⟩;exact ⟨.inr ⟨_,_,rfl,hbad _ (G.e6 (.inr (by rw [ht];exact m1))) (by decide)⟩,S.drop⟩
   have hkn:¬ (gat r.us (r.ts.getD i default).a=none∨gat r.us (r.ts.getD i default).b=none):=by
    rw [ht,j1,m1];simp
   have hpr:((i:Int) - 1).toNat=i - 1:=by omega
   all_goals (repeat' (first|refine qg ?_|refine qh rfl ?_|refine qi ?_))
   (repeat (refine qg ?_));first|refine jC (σ:=Unit) (fun _ h'=>Hs h0 h' [.blk b7 [str t.a,str t.b,.int .u8 t.k] 198,.blk b1 [v.vg.val,v.vt.val] 154]∧¬ (0<i∧¬ Z7 (r.ts.getD (i - 1) default) (r.ts.getD i default))) (fun _=>[(1,.pointer (some ⟨b1,0,none⟩)),(6,.int .i64 i),(7,.pointer (some ⟨b7,0,none⟩)),(8,.int .i64 ((v.gs.length:Int)+i))]) ?_ ?_
   ·all_goals (repeat' (first|refine qh rfl ?_|refine qi ?_|(refine qM 20 ?_;refine mv ?_;(first|(refine cS ?_ ?_<;>intro hc))<;>(refine mv ?_;(first|refine off ?_|(refine vl ?_));(first|refine off ?_|(refine lB S rfl rfl ?_));(first|refine off ?_|refine mv ?_);(first|refine off ?_|(refine sb ?_));(first|refine off ?_|(refine jF S ?_));(first|refine off ?_|(refine jk S ?_));(first|refine off ?_|(refine lB S rfl rfl ?_));(first|(refine off ?_;refine off ?_;refine vl ?_;refine qf ?_)|skip)))))
    ·simp only [hpr];(refine qw rfl rfl rfl rfl rfl ((kM S.wf (r.ts.getD (i - 1) default) t).mono ?_);rintro _ h ⟨⟨rfl,z⟩|⟨rfl,z⟩,x⟩)<;>(replace S:=S.qE x;clear x;refine vl ?_;refine vl ?_;refine qf ?_)
     ·all_goals (repeat' (first|refine qh rfl ?_|refine qi ?_))
      exact ⟨(),⟨S,fun q=>q.2 (by rw [ht];exact z)⟩,(qx)⟩
     ·skip
      all_goals (repeat' (first|refine qg ?_|refine qh rfl ?_|(refine qc 21 ?_;(iterate 3 refine mv ?_);refine qf ?_)))
      refine qo ⟨_,rfl,?_⟩;exact ⟨.inr ⟨_,_,rfl,hbad _ (G.e5 hil hts hkn ⟨by omega,by rw [ht];exact z⟩) (by decide)⟩,S.drop⟩
    ·exact ⟨(),⟨S,fun q=>by omega⟩,(qx)⟩
   clear S;rintro - h ⟨S,hb5⟩;all_goals (repeat' (first|refine qg ?_|refine qh rfl ?_|refine qi ?_|(refine qc 22 ?_;refine mv ?_;(first|(refine cS ?_ ?_<;>intro hc))<;>(refine qf ?_))))
   ·all_goals (repeat' (first|(refine qc 23 ?_;(iterate 3 refine mv ?_);refine qf ?_)))
    refine qo ⟨_,rfl,?_⟩;exact ⟨.inr ⟨_,_,rfl,hbad _ (G.e7 hil hts hkn hb5 (by omega)) (by decide)⟩,S.drop⟩
   ·skip
    all_goals (repeat' (first|(refine qc 13 ?_;refine mv ?_;refine ad ?_;refine mv ?_;refine qf ?_)))
    refine ⟨i+1,?_,?_,qx⟩
    ·show r.ts.length - (i+1)<r.ts.length - i;omega
    ·exact ⟨S.tail,by omega,Qj k2 (G.e0 hil hts hkn hb5 (by omega))⟩
  ·have hi:i=r.ts.length:=by omega
   rw [hi] at k2;all_goals (repeat' (first|(refine qc 24 ?_;refine mv ?_;refine mv ?_;refine qf ?_)))
   refine qo ⟨_,rfl,?_⟩;exact ⟨.inl ⟨rfl,g2,k2⟩,S.drop⟩
end Go.Proofs.Xx
namespace Go.Proofs.Xx
open Go Go.Proofs
theorem qka {k:Int} (h:1≤k∧k≤18):k=1∨k=2∨k=3∨k=4∨k=5∨k=6∨k=7∨k=8∨k=9∨k=10∨k=11∨k=12∨k=13∨k=14∨k=15∨k=16∨k=17∨k=18:=by omega
theorem qbR {k:Int} (h:1≤k∧k≤18):((Q3 k).b=true↔1≤k∧k≤5)∧((Q3 k).a=103↔1≤k∧k≤7)∧((Q3 k).a=101↔k=10)∧((Q3 k).a=100↔k=17)∧((Q3 k).a≠0↔(1≤k∧k≤7)∨k=10∨k=17) ∧
 ((Q3 k).t=116↔k=6∨k=7∨k=17)∧((Q3 k).t=101↔¬ (1≤k∧k≤7)∧k≠10∧k≠17)∧((Q3 k).t≠0↔¬ (1≤k∧k≤5)∧k≠10)∧((Q3 k).n=true↔k=1∨k=4∨k=7∨k=15∨k=16)∧((Q3 k).lo=if k=4 then 1 else 0)∧((Q3 k).seat=true↔k=7):=by
 rcases qka h with rfl|rfl|rfl|rfl|rfl|rfl|rfl|rfl|rfl|rfl|rfl|rfl|rfl|rfl|rfl|rfl|rfl|rfl<;>decide
theorem wS {r:Ru} (h:1≤r.k∧r.k≤18):(Q3 r.k).plain r↔(((1≤r.k∧r.k≤7)∨r.k=10∨r.k=17)∨r.a=[])∧((1≤r.k∧r.k≤5)∨r.b=[])∧((¬ (1≤r.k∧r.k≤5)∧r.k≠10)∨r.t=[])∧((r.k=1∨r.k=4∨r.k=7∨r.k=15∨r.k=16)∨r.n=0):=by
 obtain ⟨e1,e2,e3,e4,e5,e6,e7,e8,e9,e10,e11⟩:=qbR h;unfold Kd.plain;rw [e1,e5,e8,e9]
theorem kZ {us:List Gu} {r:Ru} (h:1≤r.k∧r.k≤18):(Q3 r.k).unk us r↔((1≤r.k∧r.k≤7)∧gI us r.a<0)∨(r.k=10∧r.a≠[]∧gI us r.a<0)∨((1≤r.k∧r.k≤5)∧gI us r.b<0):=by
 obtain ⟨e1,e2,e3,e4,e5,e6,e7,e8,e9,e10,e11⟩:=qbR h;unfold Kd.unk;rw [e1,e2,e3,ZG,ZG]
theorem qat {l:List Tab} {r:Ru} (h:1≤r.k∧r.k≤18):(Q3 r.k).ut l r↔((r.k=6∨r.k=7∨r.k=17)∧¬ Jw l r.t)∨((¬ (1≤r.k∧r.k≤7)∧r.k≠10∧r.k≠17)∧r.t≠[]∧¬ Jw l r.t):=by
 obtain ⟨e1,e2,e3,e4,e5,e6,e7,e8,e9,e10,e11⟩:=qbR h;unfold Kd.ut;rw [e6,e7]
theorem qdB {l:List Tab} {n:List UInt8} (h:Jw l n):tix l n<l.length:=by
 obtain ⟨j,hj,e⟩:=h;refine List.findIdx_lt_length_of_exists ⟨tb l j,qQ hj,?_⟩;simpa using e
def wdL:List (List UInt8):=[] :: kwL
theorem qib:∀ i,i<19→(wdL.getD i default=[]↔i=0):=by decide
variable [Flag]
theorem qdV {h0:AH} (w:WfH h0) (k:Int) (hk:0≤k∧k≤255):Fn Tryz.prog Xh 311 [.int .u8 k] h0 (fun u h'=>∃ s,u=str s∧(s=[]↔¬ (1≤k∧k≤18))∧Hs h0 h' []):=by
 have l19:wdL.length=19:=rfl;have S:=Hs.start w;refine qL (by first|rfl) Tryz.func311 rfl rfl ?_;all_goals (repeat' (first|refine qg ?_|(refine qc 0 ?_;refine mv ?_;refine qf ?_)|(refine qc 1 ?_;skip)))
 refine bsn (α:=List UInt8) (z:=1) eS wdL S ?_;clear S;intro u5 h S;(refine mv ?_;refine qf ?_);all_goals (repeat' (first|refine qg ?_|refine qh rfl ?_|refine qi ?_|(refine qc 2 ?_;refine mv ?_;refine cI ?_;refine mv ?_;refine xe S rfl rfl ?_;(first|(refine cS ?_ ?_<;>intro hc))<;>(refine qf ?_))|(refine qc 3 ?_;refine mv ?_;refine qf ?_)|(refine qc 4 ?_;refine mv ?_;refine mv ?_;refine qO S rfl rfl ?_;refine zk S rfl rfl ?_;refine mv ?_;refine qf ?_)))
 ·refine qo ⟨_,rfl,?_⟩;exact ⟨[],rfl,⟨fun _=>by omega,fun _=>rfl⟩,S.drop⟩
 ·refine qo ⟨_,rfl,?_⟩;have:=qib k.toNat (by omega);exact ⟨wdL.getD k.toNat default,rfl,by rw [this];omega,S.drop⟩
theorem qd4 {h0:AH} (w:WfH h0) (v:PbV) (p:Pb) (H:PbOk h0 v p) (n:List UInt8):Fn Tryz.prog Xh 316 [v.vg.val,str n] h0 (fun u h'=>u = .int .i64 (gI p.us n)∧Hs h0 h' []):=by
 have hu:v.gs.map (·.toGu)=p.us:=H.rol.us;have hl:=H.rol.len;have hlg:v.gs.length≤9223372036854775807:=by rw [hl];exact H.rol.lg
 refine (Y6 w v.vg.val v.gs H.rol.rg hlg n).mono ?_;rintro u h ⟨⟨i,h1,-,rfl⟩|⟨h1,rfl⟩,x⟩;all_goals (refine ⟨?_,x⟩;rw [hu] at h1;unfold gI;rw [h1])
theorem qaP {h0:AH} (w:WfH h0) (v:PbV) (p:Pb) (H:PbOk h0 v p) (r:Ru) (hk:0≤r.k∧r.k≤255) :
 Fn Tryz.prog Xh 235 [v.val,ruV r] h0 (fun u h'=>u = .int .i64 (wP p r)∧Hs h0 h' []):=by
 have S:=Hs.start w;have hr:=H.tab.rd;have hl:=H.tab.len;unfold ruV XR PbV.val;refine qL (by first|rfl) Tryz.func235 rfl rfl ?_;all_goals (repeat' (first|refine qg ?_|(refine qc 0 ?_;(refine bx S ?_;clear S;intro b h S);(refine bx S ?_;clear S;intro b h S);refine mv ?_;refine qf ?_)))
 rename_i b2 h2
 replace S:Hs h0 h [.blk b (XR r) 158,.blk b2 v.cs 28]:=S;all_goals (repeat' (first|refine qg ?_|(refine qc 1 ?_;refine vl ?_;refine lB S rfl rfl ?_;refine mv ?_;refine qf ?_)|(refine qc 2 ?_;refine mv ?_)))
 (refine qw rfl rfl rfl rfl rfl ((qdV S.wf r.k hk).mono ?_);rintro _ h ⟨wd,rfl,hwd,x⟩)<;>(replace S:=S.qE x;clear x;(refine tS ?_ ?_<;>intro hc)<;>(refine qf ?_))
 all_goals (repeat' (first|refine qg ?_|refine qh rfl ?_|refine qi ?_|(refine qc 3 ?_;refine mv ?_;refine qf ?_)))
 ·refine qo ⟨_,rfl,?_⟩;refine ⟨?_,S.drop⟩;unfold wP;rw [if_neg (hwd.1 hc)];rfl
 have h18:1≤r.k∧r.k≤18:=zF3.1 fun q=>hc (hwd.2 q);have heq:wP p r=(Q3 r.k).err p r:=by unfold wP;rw [if_pos h18]
 rw [heq];clear hwd hc;all_goals (repeat' (first|refine qg ?_|refine qh rfl ?_|refine qi ?_|(refine qc 4 ?_;refine vl ?_;refine lB S rfl rfl ?_;(first|(refine cS ?_ ?_<;>intro hc))<;>(refine mv ?_;(first|refine off ?_|(refine vl ?_));(first|refine off ?_|(refine lB S rfl rfl ?_));(first|refine off ?_|(first|(refine cS ?_ ?_<;>intro hc)))<;>(refine vl ?_;refine qf ?_)))|(refine qc 5 ?_;refine mv ?_;refine qf ?_)))
 ·refine qo ⟨_,rfl,?_⟩;exact ⟨by rw [Kd.qb3 (.inl hc)];rfl,S.drop⟩
 ·refine qo ⟨_,rfl,?_⟩;exact ⟨by rw [Kd.qb3 (.inr (by omega))];rfl,S.drop⟩
 have hw:¬ (r.w<0∨1000<r.w):=by omega
 clear hc;(repeat (refine qg ?_));first|refine jC (σ:=Unit) (fun _ h'=>Hs h0 h' [.blk b (XR r) 158,.blk b2 v.cs 28]∧(Q3 r.k).plain r) (fun _=>[(2,.pointer (some ⟨b2,0,none⟩)),(3,.pointer (some ⟨b,0,none⟩)),(4,.int .i64 0),(5,.int .u8 r.k)]) ?_ ?_
 ·all_goals (repeat' (first|refine qh rfl ?_|refine qi ?_|(refine qc 6 ?_;refine vl ?_;refine lB S rfl rfl ?_;(refine tS ?_ ?_<;>intro hc)<;>(refine mv ?_;(first|refine off ?_|refine mv ?_);(first|(refine off ?_;refine off ?_;refine vl ?_;refine mv ?_;refine off ?_;(first|(refine off ?_;refine off ?_;refine vl ?_;refine mv ?_;refine off ?_;(refine off ?_)<;>(refine vl ?_;refine mv ?_;(first|(refine vl ?_));(first|(refine lB S rfl rfl ?_));(first|(refine tS ?_ ?_<;>intro hc))<;>((refine mv ?_);(first|refine off ?_|refine mv ?_);(first|(refine off ?_;refine off ?_;refine vl ?_;refine vl ?_;refine mv ?_;(first|(refine vl ?_));(first|(refine lB S rfl rfl ?_));(first|(refine tS ?_ ?_<;>intro hc))<;>((refine mv ?_);(first|refine off ?_|refine mv ?_);(first|(refine off ?_;(refine off ?_)<;>((refine vl ?_);refine vl ?_;refine mv ?_;(first|(refine vl ?_));(first|(refine lB S rfl rfl ?_));(first|(first|(refine cS ?_ ?_<;>intro hc)))<;>((refine mv ?_);(first|refine off ?_|refine mv ?_);(first|(refine off ?_;refine off ?_;refine vl ?_;refine vl ?_;refine qf ?_)|skip))))|skip)))|skip))))))|skip)))))
  all_goals (try ((refine qw rfl rfl rfl rfl rfl ((X9 S.wf r.k).mono ?_);rintro _ h ⟨⟨rfl,z1⟩|⟨rfl,z1⟩,x⟩)<;>(replace S:=S.qE x;clear x;refine vl ?_;refine vl ?_;refine mv ?_;(first|refine off ?_|refine mv ?_);(first|(refine off ?_;refine off ?_;refine vl ?_;refine mv ?_;refine off ?_;(refine off ?_)<;>(refine vl ?_;refine mv ?_;(first|(refine vl ?_));(first|(refine lB S rfl rfl ?_));(first|(refine tS ?_ ?_<;>intro hc))<;>((refine mv ?_);(first|refine off ?_|refine mv ?_);(first|(refine off ?_;refine off ?_;refine vl ?_;refine vl ?_;refine mv ?_;(first|(refine vl ?_));(first|(refine lB S rfl rfl ?_));(first|(refine tS ?_ ?_<;>intro hc))<;>((refine mv ?_);(first|refine off ?_|refine mv ?_);(first|(refine off ?_;(refine off ?_)<;>((refine vl ?_);refine vl ?_;refine mv ?_;(first|(refine vl ?_));(first|(refine lB S rfl rfl ?_));(first|(first|(refine cS ?_ ?_<;>intro hc)))<;>((refine mv ?_);(first|refine off ?_|refine mv ?_);(first|(refine off ?_;refine off ?_;refine vl ?_;refine vl ?_;refine qf ?_)|skip))))|skip)))|skip))))|skip))))
  all_goals (try ((refine qw rfl rfl rfl rfl rfl ((qbH S.wf r.k).mono ?_);rintro _ h ⟨⟨rfl,z2⟩|⟨rfl,z2⟩,x⟩)<;>(replace S:=S.qE x;clear x;refine vl ?_;refine vl ?_;refine mv ?_;(first|refine off ?_|refine mv ?_);(first|refine off ?_|(first|(refine cS ?_ ?_<;>intro hc)))<;>(refine vl ?_;refine mv ?_;(first|refine off ?_|(refine vl ?_));(first|refine off ?_|(refine lB S rfl rfl ?_));(first|refine off ?_|(refine tS ?_ ?_<;>intro hc))<;>((first|refine off ?_|refine mv ?_);(first|refine off ?_|refine mv ?_);(first|(refine off ?_;refine off ?_;(first|refine off ?_|refine vl ?_);refine vl ?_;refine mv ?_;(first|refine off ?_|(refine vl ?_));(first|refine off ?_|(refine lB S rfl rfl ?_));(first|refine off ?_|(refine tS ?_ ?_<;>intro hc))<;>((first|refine off ?_|refine mv ?_);(first|refine off ?_|refine mv ?_);(first|(refine off ?_;(refine off ?_)<;>((first|refine off ?_|refine vl ?_);refine vl ?_;refine mv ?_;(first|refine off ?_|(refine vl ?_));(first|refine off ?_|(refine lB S rfl rfl ?_));(first|refine off ?_|(first|(refine cS ?_ ?_<;>intro hc)))<;>((first|refine off ?_|refine mv ?_);(first|refine off ?_|refine mv ?_);(first|(refine off ?_;refine off ?_;(first|refine off ?_|refine vl ?_);refine vl ?_;refine qf ?_)|skip))))|skip)))|skip))))))
  all_goals (try ((refine qw rfl rfl rfl rfl rfl ((X9 S.wf r.k).mono ?_);rintro _ h ⟨⟨rfl,z3⟩|⟨rfl,z3⟩,x⟩)<;>(replace S:=S.qE x;clear x;refine vl ?_;refine vl ?_;refine vl ?_;refine mv ?_;(first|refine off ?_|(refine vl ?_));(first|refine off ?_|(refine lB S rfl rfl ?_));(first|refine off ?_|(refine tS ?_ ?_<;>intro hc))<;>((first|refine off ?_|refine mv ?_);(first|refine off ?_|refine mv ?_);(first|(refine off ?_;(refine off ?_)<;>((first|refine off ?_|refine vl ?_);refine vl ?_;refine mv ?_;(first|refine off ?_|(refine vl ?_));(first|refine off ?_|(refine lB S rfl rfl ?_));(first|refine off ?_|(first|refine cT ?_|(refine cS ?_ ?_<;>intro hc)))<;>((first|refine off ?_|refine mv ?_);(first|refine off ?_|refine mv ?_);(first|(refine off ?_;refine off ?_;(first|refine off ?_|refine vl ?_);refine vl ?_;refine qf ?_)|skip))))|skip)))))
  all_goals (try ((refine qw rfl rfl rfl rfl rfl ((YG S.wf r.k).mono ?_);rintro _ h ⟨n4,rfl,z4,x⟩)<;>(replace S:=S.qE x;clear x;(first|(first|refine cT ?_|refine cF ?_|(refine cS ?_ ?_<;>intro hc)))<;>((refine vl ?_);refine vl ?_;refine mv ?_;(first|refine off ?_|(refine vl ?_));(first|refine off ?_|(refine lB S rfl rfl ?_));(first|refine off ?_|(first|(refine cS ?_ ?_<;>intro hc)))<;>((first|refine off ?_|refine mv ?_);(first|refine off ?_|refine mv ?_);(first|(refine off ?_;refine off ?_;(first|refine off ?_|refine vl ?_);refine vl ?_;refine qf ?_)|skip))))))
  all_goals (try ((refine qw rfl rfl rfl rfl rfl ((xP S.wf r.k).mono ?_);rintro _ h ⟨⟨rfl,z5⟩|⟨rfl,z5⟩,x⟩)<;>(replace S:=S.qE x;clear x;refine vl ?_;refine vl ?_;refine vl ?_;refine qf ?_)))
  all_goals (all_goals (repeat' (first|refine qg ?_|refine qh rfl ?_|refine qi ?_|(refine qc 7 ?_;refine mv ?_;refine qf ?_))))
  all_goals first
   | exact ⟨(),⟨S,by rw [wS h18];grind⟩,(qx)⟩
   | (refine qo ⟨_,rfl,?_⟩;exact ⟨by rw [Kd.qgL hw (by rw [wS h18];grind)];rfl,S.drop⟩)
 clear S;rintro _ h ⟨S,hpl⟩;(repeat (refine qg ?_));first|refine jC (σ:=Unit) (fun _ h'=>Hs h0 h' [.blk b (XR r) 158,.blk b2 v.cs 28]∧¬ (((1≤r.k∧r.k≤7)∧gI p.us r.a<0)∨(r.k=10∧r.a≠[]∧gI p.us r.a<0))) (fun _=>[(2,.pointer (some ⟨b2,0,none⟩)),(3,.pointer (some ⟨b,0,none⟩)),(4,.int .i64 0),(5,.int .u8 r.k)]) ?_ ?_
 ·all_goals (repeat' (first|(refine qc 8 ?_;refine mv ?_)))
  (refine qw rfl rfl rfl rfl rfl ((X9 S.wf r.k).mono ?_);rintro _ h ⟨⟨rfl,z1⟩|⟨rfl,z1⟩,x⟩)<;>(replace S:=S.qE x;clear x;refine mv ?_;(first|refine off ?_|refine mv ?_);(first|(refine off ?_;refine vl ?_;refine mv ?_;refine mv ?_;(first|(refine cF ?_))<;>((refine mv ?_);refine off ?_;refine off ?_;(refine off ?_)<;>((refine vl ?_);refine vl ?_;refine vl ?_;refine mv ?_;(first|(refine vl ?_));(first|(refine lB S rfl rfl ?_));(first|(refine vl ?_));(first|(refine lB S rfl rfl ?_));(skip))))|skip))
  all_goals (try ((refine qw rfl rfl rfl rfl rfl ((qbH S.wf r.k).mono ?_);rintro _ h ⟨⟨rfl,z2⟩|⟨rfl,z2⟩,x⟩)<;>(replace S:=S.qE x;clear x;refine vl ?_;refine mv ?_;(first|refine off ?_|refine mv ?_);(first|refine off ?_|(first|(refine cS ?_ ?_<;>intro hc)))<;>((first|refine off ?_|refine mv ?_);(first|refine off ?_|(refine vl ?_));(first|refine off ?_|(refine lB S rfl rfl ?_));(first|refine off ?_|(refine tS ?_ ?_<;>intro hc))<;>((first|refine off ?_|refine vl ?_);(first|refine off ?_|refine vl ?_);refine vl ?_;refine mv ?_;(first|refine off ?_|(refine vl ?_));(first|refine off ?_|(refine lB S rfl rfl ?_));(first|refine off ?_|(refine vl ?_));(first|refine off ?_|(refine lB S rfl rfl ?_));(first|(refine off ?_;(refine off ?_)<;>(refine vl ?_;refine qf ?_))|skip))))))
  all_goals (try ((refine qw rfl rfl rfl rfl rfl ((qd4 S.wf v p (H.ext w S.ext) r.a).mono ?_);rintro _ h ⟨rfl,x⟩)<;>(replace S:=S.qE x;clear x;(first|(first|(refine cS ?_ ?_<;>intro hc)))<;>(refine vl ?_;refine qf ?_))))
  all_goals (all_goals (repeat' (first|refine qg ?_|refine qh rfl ?_|refine qi ?_|(refine qc 9 ?_;refine mv ?_;refine qf ?_))))
  all_goals first
   | exact ⟨(),⟨S,by grind⟩,(qx)⟩
   | (refine qo ⟨_,rfl,?_⟩;exact ⟨by rw [Kd.qhz hw hpl (by rw [kZ h18];grind)];rfl,S.drop⟩)
 clear S;rintro _ h ⟨S,hua⟩;(repeat (refine qg ?_));first|refine jC (σ:=Unit) (fun _ h'=>Hs h0 h' [.blk b (XR r) 158,.blk b2 v.cs 28]∧¬ (Q3 r.k).unk p.us r) (fun _=>[(2,.pointer (some ⟨b2,0,none⟩)),(3,.pointer (some ⟨b,0,none⟩)),(4,.int .i64 0),(5,.int .u8 r.k)]) ?_ ?_
 ·all_goals (repeat' (first|(refine qc 10 ?_;refine mv ?_)))
  all_goals (try ((refine qw rfl rfl rfl rfl rfl ((X9 S.wf r.k).mono ?_);rintro _ h ⟨⟨rfl,z3⟩|⟨rfl,z3⟩,x⟩)<;>(replace S:=S.qE x;clear x;refine mv ?_;(first|refine off ?_|(refine vl ?_));(first|refine off ?_|(refine lB S rfl rfl ?_));(first|refine off ?_|(refine vl ?_));(first|refine off ?_|(refine lB S rfl rfl ?_));(first|(refine off ?_;(refine off ?_)<;>(refine vl ?_;refine qf ?_))|skip))))
  all_goals (try ((refine qw rfl rfl rfl rfl rfl ((qd4 S.wf v p (H.ext w S.ext) r.b).mono ?_);rintro _ h ⟨rfl,x⟩)<;>(replace S:=S.qE x;clear x;(first|(first|(refine cS ?_ ?_<;>intro hc)))<;>(refine vl ?_;refine qf ?_))))
  all_goals (all_goals (repeat' (first|refine qg ?_|refine qh rfl ?_|refine qi ?_|(refine qc 11 ?_;refine mv ?_;refine qf ?_))))
  all_goals first
   | exact ⟨(),⟨S,by rw [kZ h18];grind⟩,(qx)⟩
   | (refine qo ⟨_,rfl,?_⟩;exact ⟨by rw [Kd.qhz hw hpl (by rw [kZ h18];grind)];rfl,S.drop⟩)
 clear S;rintro _ h ⟨S,hun⟩;obtain ⟨e1,e2,e3,e4,e5,e6,e7,e8,e9,e10,e11⟩:=qbR h18;(repeat (refine qg ?_));first|refine jC (σ:=Unit) (fun _ h'=>Hs h0 h' [.blk b (XR r) 158,.blk b2 v.cs 28]∧(Q3 r.k).one p r) (fun _=>[(2,.pointer (some ⟨b2,0,none⟩)),(3,.pointer (some ⟨b,0,none⟩)),(4,.int .i64 0),(5,.int .u8 r.k)]) ?_ ?_
 ·all_goals (repeat' (first|refine qh rfl ?_|refine qi ?_|(refine qc 12 ?_;refine mv ?_;(first|(refine cS ?_ ?_<;>intro hc))<;>(refine mv ?_;(first|refine off ?_|(refine vl ?_));(first|refine off ?_|(refine lB S rfl rfl ?_));(first|(refine off ?_;refine off ?_;refine vl ?_;refine qf ?_)|skip)))))
  all_goals (try ((refine qw rfl rfl rfl rfl rfl ((Za r.a).mono ?_);rintro _ _ ⟨⟨rfl,hn⟩|⟨rfl,hn⟩,rfl⟩)<;>((refine vl ?_);refine vl ?_;refine qf ?_)))
  all_goals (all_goals (repeat' (first|refine qg ?_|refine qh rfl ?_|refine qi ?_|(refine qc 13 ?_;refine mv ?_;refine qf ?_))))
  all_goals first
   | exact ⟨(),⟨S,⟨hw,hpl,hun,by rw [e4];grind⟩⟩,(qx)⟩
   | (refine qo ⟨_,rfl,?_⟩;exact ⟨by rw [Kd.qji hw hpl hun (by rw [e4];grind)];rfl,S.drop⟩)
 clear S;rintro _ h ⟨S,hone⟩;(repeat (refine qg ?_));first|refine jC (σ:=Unit) (fun _ h'=>Hs h0 h' [.blk b (XR r) 158,.blk b2 v.cs 28]∧¬ ((Q3 r.k).b=true∧r.a=r.b)) (fun _=>[(2,.pointer (some ⟨b2,0,none⟩)),(3,.pointer (some ⟨b,0,none⟩)),(4,.int .i64 0),(5,.int .u8 r.k)]) ?_ ?_
 ·all_goals (repeat' (first|(refine qc 14 ?_;refine mv ?_)))
  all_goals (try ((refine qw rfl rfl rfl rfl rfl ((X9 S.wf r.k).mono ?_);rintro _ h ⟨⟨rfl,z3⟩|⟨rfl,z3⟩,x⟩)<;>(replace S:=S.qE x;clear x;refine mv ?_;(first|refine off ?_|(refine vl ?_));(first|refine off ?_|(refine lB S rfl rfl ?_));(first|refine off ?_|(refine vl ?_));(first|refine off ?_|(refine lB S rfl rfl ?_));(first|refine off ?_|(refine tS ?_ ?_<;>intro hc))<;>(refine vl ?_;refine qf ?_))))
  all_goals (all_goals (repeat' (first|refine qg ?_|refine qh rfl ?_|refine qi ?_|(refine qc 15 ?_;refine mv ?_;refine qf ?_))))
  all_goals first
   | exact ⟨(),⟨S,by rw [e1];grind⟩,(qx)⟩
   | (refine qo ⟨_,rfl,?_⟩;exact ⟨by rw [Kd.qhA hone (by rw [e1];grind)];rfl,S.drop⟩)
 clear S;rintro _ h ⟨S,h5⟩;rw [Kd.qc0 hone h5];(repeat (refine qg ?_));first|refine GN (σ:=Int) (fun i h'=>Hs h0 h' [.blk b (XR r) 158,.blk b2 v.cs 28]∧((Jw p.tabs r.t∧i=tix p.tabs r.t)∨(¬ Jw p.tabs r.t∧i = -1))) (fun i=>[(2,.pointer (some ⟨b2,0,none⟩)),(3,.pointer (some ⟨b,0,none⟩)),(4,.int .i64 0),(5,.int .u8 r.k),(6,.int .i64 i)]) ?_ ?_
 ·all_goals (repeat' (first|(refine qc 16 ?_;refine vl ?_;refine lB S rfl rfl ?_;refine vl ?_;refine lB S rfl rfl ?_)))
  (refine qw rfl rfl rfl rfl rfl ((pX S.wf v.vt.val p.tabs (hr.ext w S.ext) (by omega) r.t).mono ?_);rintro _ h ⟨⟨rfl,z⟩|⟨rfl,z⟩,x⟩)<;>(replace S:=S.qE x;clear x;refine mv ?_;refine qf ?_)
  all_goals (all_goals (repeat' (fail)))
  ·exact ⟨_,⟨S,.inl ⟨z,rfl⟩⟩,(qx)⟩
  ·exact ⟨_,⟨S,.inr ⟨z,rfl⟩⟩,(qx)⟩
 clear S;rintro i h ⟨S,hi⟩;have hib:(0≤i↔Jw p.tabs r.t)∧i≤1000∧-1≤i:=by
  rcases hi with ⟨z,rfl⟩|⟨z,rfl⟩
  ·have:=qdB z;exact ⟨⟨fun _=>z,fun _=>by omega⟩,by omega,by omega⟩
  ·exact ⟨⟨fun q=>by omega,fun q=>absurd q z⟩,by omega,by omega⟩
 (repeat (refine qg ?_));first|refine jC (σ:=Unit) (fun _ h'=>Hs h0 h' [.blk b (XR r) 158,.blk b2 v.cs 28]∧¬ (Q3 r.k).ut p.tabs r) (fun _=>[(2,.pointer (some ⟨b2,0,none⟩)),(3,.pointer (some ⟨b,0,none⟩)),(4,.int .i64 0),(5,.int .u8 r.k),(6,.int .i64 i)]) ?_ ?_
 ·all_goals (repeat' (first|(refine qc 17 ?_;refine mv ?_)))
  (refine qw rfl rfl rfl rfl rfl ((YG S.wf r.k).mono ?_);rintro _ h ⟨n4,rfl,z4,x⟩)<;>(replace S:=S.qE x;clear x;(first|(refine cS ?_ ?_<;>intro hc))<;>(refine mv ?_;(first|refine off ?_|refine mv ?_);(first|refine off ?_|(first|(refine cS ?_ ?_<;>intro hc)))<;>(refine vl ?_;refine mv ?_;(first|refine off ?_|refine mv ?_);(first|(refine off ?_;(refine off ?_)<;>((refine off ?_);refine off ?_;refine off ?_;(refine off ?_)<;>((refine off ?_);refine off ?_;refine off ?_;(refine off ?_)<;>((refine off ?_);refine vl ?_;refine qf ?_))))|skip))))
  all_goals (try ((refine qw rfl rfl rfl rfl rfl ((YG S.wf r.k).mono ?_);rintro _ h ⟨n5,rfl,z5,x⟩)<;>(replace S:=S.qE x;clear x;(first|(first|refine cF ?_|(refine cS ?_ ?_<;>intro hc)))<;>((refine mv ?_);(first|refine off ?_|(refine vl ?_));(first|refine off ?_|(refine lB S rfl rfl ?_));(first|refine off ?_|(refine tS ?_ ?_<;>intro hc))<;>((refine vl ?_);refine mv ?_;(first|refine off ?_|refine mv ?_);(first|refine off ?_|(first|(refine cS ?_ ?_<;>intro hc)))<;>((refine vl ?_);refine vl ?_;refine qf ?_))))))
  all_goals (all_goals (repeat' (first|refine qg ?_|refine qh rfl ?_|refine qi ?_|(refine qc 18 ?_;refine mv ?_;refine qf ?_))))
  all_goals first
   | exact ⟨(),⟨S,by rw [qat h18];grind⟩,(qx)⟩
   | (refine qo ⟨_,rfl,?_⟩;exact ⟨by rw [if_pos (by rw [qat h18];grind)];rfl,S.drop⟩)
 clear S;rintro _ h ⟨S,hut⟩;rw [if_neg hut];all_goals (repeat' (first|refine qg ?_|(refine qc 19 ?_;refine mv ?_;refine qf ?_)|(refine qc 20 ?_;refine mv ?_;refine qf ?_)))
 (repeat (refine qg ?_));first|refine jC (σ:=Int) (fun lo h'=>Hs h0 h' [.blk b (XR r) 158,.blk b2 v.cs 28]∧lo=(Q3 r.k).lo) (fun lo=>[(2,.pointer (some ⟨b2,0,none⟩)),(3,.pointer (some ⟨b,0,none⟩)),(4,.int .i64 0),(5,.int .u8 r.k),(6,.int .i64 i),(7,.int .i64 lo),(8,.int .i64 24)]) ?_ ?_
 ·all_goals (repeat' (first|refine qh rfl ?_|refine qi ?_|(refine qc 21 ?_;refine mv ?_;(first|(refine cS ?_ ?_<;>intro hc))<;>(refine qf ?_))|(refine qc 22 ?_;refine mv ?_;refine qf ?_)))
  ·exact ⟨1,⟨S,by rw [e10,if_pos (by assumption)]⟩,(qx)⟩
  ·exact ⟨0,⟨S,by rw [e10,if_neg (by assumption)]⟩,(qx)⟩
 clear S;rintro lo h ⟨S,rfl⟩;(repeat (refine qg ?_));first|refine jC (σ:=Unit) (fun _ h'=>Hs h0 h' [.blk b (XR r) 158,.blk b2 v.cs 28]) (fun _=>[(2,.pointer (some ⟨b2,0,none⟩)),(3,.pointer (some ⟨b,0,none⟩)),(4,.int .i64 0),(5,.int .u8 r.k),(7,.int .i64 (Q3 r.k).lo),(8,.int .i64 ((Q3 r.k).most p.tabs r))]) ?_ ?_
 ·all_goals (repeat' (first|refine qh rfl ?_|refine qi ?_|(refine qc 23 ?_;refine mv ?_;(first|(refine cS ?_ ?_<;>intro hc))<;>(refine qf ?_))))
  ·have h7:r.k=7:=by assumption
   have hT:Jw p.tabs r.t:=zF3.1 fun q=>hut ((qat h18).2 (.inl ⟨by omega,q⟩));have hlt:=qdB hT;have hit:i=tix p.tabs r.t:=by
    rcases hi with ⟨z,e⟩|⟨z,e⟩
    ·exact e
    ·exact absurd hT z
   subst hit;have b1:=Qv (tb p.tabs (tix p.tabs r.t));all_goals (repeat' (first|(refine qc 24 ?_;refine vl ?_;refine lB S rfl rfl ?_;refine mv ?_;refine jF S ?_;refine jk S ?_)))
   simp only [zA0];(refine qw rfl rfl rfl rfl rfl ((ZT S.wf (tb p.tabs (tix p.tabs r.t))).mono ?_);rintro _ h ⟨rfl,x⟩)<;>(replace S:=S.qE x;clear x;refine sb ?_;refine mv ?_;refine qf ?_)
   all_goals (repeat' (fail))
   exact ⟨(),S,by unfold Kd.most;rw [if_pos (e11.2 h7)];exact (qx)⟩
  ·exact ⟨(),S,by unfold Kd.most;rw [if_neg (fun q=>(by assumption:¬ r.k=7) (e11.1 q))];exact (qx)⟩
 clear S;rintro _ h S;all_goals (repeat' (first|refine qg ?_|(refine qc 25 ?_;refine mv ?_)))
 (refine qw rfl rfl rfl rfl rfl ((xP S.wf r.k).mono ?_);rintro _ h ⟨⟨rfl,z5⟩|⟨rfl,z5⟩,x⟩)<;>(replace S:=S.qE x;clear x;refine mv ?_;(first|refine off ?_|(refine vl ?_));(first|refine off ?_|(refine lB S rfl rfl ?_));(first|refine off ?_|refine mv ?_);(first|refine off ?_|(first|(refine cS ?_ ?_<;>intro hc)))<;>((first|refine off ?_|refine mv ?_);(first|refine off ?_|(refine vl ?_));(first|refine off ?_|(refine lB S rfl rfl ?_));(first|refine off ?_|refine mv ?_);(first|refine off ?_|(first|(refine cS ?_ ?_<;>intro hc)))<;>((first|refine off ?_|refine vl ?_);refine vl ?_;refine qf ?_)))
 all_goals (all_goals (repeat' (first|refine qg ?_|refine qh rfl ?_|refine qi ?_|(refine qc 26 ?_;refine mv ?_;refine qf ?_)|(refine qc 27 ?_;refine mv ?_;refine qf ?_))))
 all_goals (refine qo ⟨_,rfl,?_⟩)
 all_goals first
  | exact ⟨by rw [if_pos ⟨e9.2 z5,.inl (by omega)⟩];rfl,S.drop⟩
  | exact ⟨by rw [if_pos ⟨e9.2 z5,.inr (by omega)⟩];rfl,S.drop⟩
  | exact ⟨by rw [if_neg (fun q=>by have:=q.2;omega)];rfl,S.drop⟩
  | exact ⟨by rw [if_neg (fun q=>z5 (e9.1 q.1))];rfl,S.drop⟩
end Go.Proofs.Xx
namespace Go.Proofs.Xx
open Go Go.Proofs
variable [Flag]
structure PbM (v:PbV) (p:Pb):Prop where
 cg:Q7 v.vg.val
 few:p.us.length≤200∧p.ts.length≤600
 ru:∀ r∈p.ru,0≤r.k∧r.k≤255
theorem qcD {h0:AH} (w:WfH h0) (v:PbV) (p:Pb) (H:PbOk h0 v p) (M:PbM v p):Fn Tryz.prog Xh 234 [v.val] h0 (fun u h'=>∃ i e,u = .tuple #[.int .i64 i,.int .i64 e]∧BasP p i e∧Hs h0 h' []):=by
 have S:=Hs.start w;have hr:=H.rol.rg;have hl:=H.rol.len;have hlg:=H.rol.lg;have hcr:=H.cl;have hcl:=H.lc;have hl':v.gs.length=p.us.length:=hl;have hlg':p.us.length≤9223372036854775807:=hlg;have htab:=H.tab.rd;have htl:=H.tab.len;unfold PbV.val;refine qL (by first|rfl) Tryz.func234 rfl rfl ?_;all_goals (repeat' (first|refine qg ?_|(refine qc 0 ?_;(refine bx S ?_;clear S;intro b h S);refine mv ?_;refine mv ?_;refine qf ?_)))
 obtain ⟨bp,hnm⟩:∃ x,x=b:=⟨_,rfl⟩;subst hnm;all_goals (repeat' (first|(refine qc 1 ?_;refine vl ?_;refine lB S rfl rfl ?_)))
 (refine qw rfl rfl rfl rfl rfl ((xQ S.wf v.vt.val p.tabs (H.tab.ext w S.ext)).mono ?_);rintro _ h ⟨i,e,rfl,hk,x⟩)<;>(replace S:=S.qE x;clear x;refine mv ?_;refine vl ?_;refine vl ?_;refine mv ?_;refine mv ?_;refine qf ?_)
 all_goals (repeat' (first|refine qg ?_|refine qh rfl ?_|refine qi ?_|(refine qc 2 ?_;refine mv ?_;(first|(refine cS ?_ ?_<;>intro hc))<;>(refine qf ?_))|(refine qc 3 ?_;(iterate 4 refine mv ?_);refine qf ?_)))
 ·refine qo ⟨_,rfl,?_⟩;exact ⟨i,e,rfl,.inl ⟨by assumption,hk⟩,S.drop⟩
 have hv:ValidL p.tabs:=hk.valid.1 (by omega);all_goals (repeat' (first|(refine qc 4 ?_;refine vl ?_;refine lB S rfl rfl ?_;refine vl ?_;refine lB S rfl rfl ?_;refine vl ?_)))
 (refine qw rfl rfl rfl rfl rfl ((qcC S.wf v.rl p.rl (H.rol.ext w S.ext) M.cg M.few).mono ?_);rintro _ h ⟨⟨rfl,hq⟩|⟨i2,e2,rfl,hq⟩,x⟩)<;>(replace S:=S.qE x;clear x;refine mv ?_;refine vl ?_;refine vl ?_;refine mv ?_;refine mv ?_;refine qf ?_)
 rotate_left
 ·all_goals (repeat' (first|refine qg ?_|refine qh rfl ?_|refine qi ?_|(refine qc 5 ?_;refine mv ?_;(first|(refine cS ?_ ?_<;>intro hc))<;>(refine qf ?_))|(refine qc 6 ?_;(iterate 4 refine mv ?_);refine qf ?_)))
  ·refine qo ⟨_,rfl,?_⟩;exact ⟨i2,e2,rfl,.inr (.inl ⟨hv,hq⟩),S.drop⟩
  ·exact absurd (by omega) hq.1
 have ho:RO p.rl:=Vw.1 hq;all_goals (repeat' (first|refine qg ?_|refine qh rfl ?_|refine qi ?_|(refine qc 5 ?_;refine mv ?_;(refine cF ?_)<;>(refine qf ?_))))
 (repeat (refine qg ?_));first|refine jC (σ:=Unit) (fun _ h'=>Hs h0 h' [.blk bp v.cs 28]∧(p.cl.length=0∨p.cl.length=p.us.length)) (fun _=>[(1,.pointer (some ⟨bp,0,none⟩))]) ?_ ?_
 ·have hl2:v.rl.gs.length=p.us.length:=hl;all_goals (repeat' (first|refine qg ?_|refine qh rfl ?_|refine qi ?_|(refine qc 7 ?_;refine vl ?_;refine lB S rfl rfl ?_;refine jf S ?_;(first|(refine cS ?_ ?_<;>intro hc))<;>(refine mv ?_;(first|refine off ?_|(refine vl ?_));(first|refine off ?_|(refine lB S rfl rfl ?_));(first|refine off ?_|(refine jf S ?_));(first|refine off ?_|(refine vl ?_));(first|refine off ?_|(refine lB S rfl rfl ?_));(first|refine off ?_|(refine jf S ?_));(first|refine off ?_|(first|(refine cS ?_ ?_<;>intro hc)))<;>(refine vl ?_;refine qf ?_)))|(refine qc 8 ?_;refine mv ?_;refine mv ?_;refine qf ?_)))
  ·refine qo ⟨_,rfl,?_⟩;exact ⟨0,44,rfl,.inr (.inr ⟨hv,ho,.inl ⟨fun q=>by have:=q.1;omega,rfl,rfl⟩⟩),S.drop⟩
  ·exact ⟨(),⟨S,by omega⟩,(qx)⟩
  ·exact ⟨(),⟨S,by omega⟩,(qx)⟩
 clear S;rintro _ h ⟨S,h1⟩;all_goals (repeat' (first|refine qg ?_|refine qj ?_|(refine qc 9 ?_;refine mv ?_;refine qf ?_)))
 refine qH (σ:=Nat) (fun i h'=>Hs h0 h' [.blk bp v.cs 28]∧i≤p.cl.length∧∀ j,j<i→0≤p.cl.getD j default∧p.cl.getD j default<64) (fun i=>p.cl.length - i) (fun i=>[(1,.pointer (some ⟨bp,0,none⟩)),(7,.int .i64 i)]) 0 qx ?_ ?_
 ·exact ⟨S,zB0 _,fun j hj=>absurd hj (zB7 _)⟩
 clear S;rintro i h ⟨S,k1,k2⟩;all_goals (repeat' (first|refine qg ?_|refine qh rfl ?_|refine qi ?_|refine qC ?_|refine qj ?_|(refine qc 10 ?_;refine mv ?_;refine vl ?_;refine lB S rfl rfl ?_;refine jf S ?_;(first|(refine cS ?_ ?_<;>intro hc))<;>(refine qf ?_))|(refine qc 12 ?_;refine vl ?_;refine lB S rfl rfl ?_;refine mv ?_;refine jF S ?_;refine jk S ?_;(first|(refine cS ?_ ?_<;>intro hc))<;>(refine mv ?_;(first|refine off ?_|(refine vl ?_));(first|refine off ?_|(refine lB S rfl rfl ?_));(first|refine off ?_|refine mv ?_);(first|refine off ?_|(refine jF S ?_));(first|refine off ?_|(refine jk S ?_));(first|refine off ?_|(first|(refine cS ?_ ?_<;>intro hc)))<;>(refine vl ?_;refine qf ?_)))|(refine qc 13 ?_;refine mv ?_;refine mv ?_;refine qf ?_)))
 ·refine qo ⟨_,rfl,?_⟩;exact ⟨0,44,rfl,.inr (.inr ⟨hv,ho,.inl ⟨fun q=>by have:=(q.2 _ (qQ (show i<p.cl.length by omega))).1;simp only [zA0] at *;omega,rfl,rfl⟩⟩),S.drop⟩
 ·refine qo ⟨_,rfl,?_⟩;exact ⟨0,44,rfl,.inr (.inr ⟨hv,ho,.inl ⟨fun q=>by have:=(q.2 _ (qQ (show i<p.cl.length by omega))).2;simp only [zA0] at *;omega,rfl,rfl⟩⟩),S.drop⟩
 ·(try simp only [zA0] at *)
  all_goals (repeat' (first|(refine qc 11 ?_;refine mv ?_;refine ad ?_;refine mv ?_;refine qf ?_)))
  refine ⟨i+1,?_,?_,qx⟩
  ·show p.cl.length - (i+1)<p.cl.length - i;omega
  ·exact ⟨S,by omega,Qj k2 ⟨by omega,by omega⟩⟩
 have hco:(p.cl.length=0∨p.cl.length=p.us.length)∧∀ c∈p.cl,0≤c∧c<64:=⟨h1,fun c hc2=>by
  obtain ⟨j,hj,rfl⟩:=zx.1 hc2;exact k2 j (by omega)⟩
 have hs:=zQ p.tabs p.tabs.length;have hl2:v.rl.gs.length=p.us.length:=hl;(repeat (refine qg ?_));refine ZJ (id:=14) [(1,(0,1))] [some (bp)] ?_;refine qy ?_;(first|(refine vl ?_<;>refine qf ⟨⟨by (first|exact True.intro),rfl⟩,?_⟩));refine qy ?_;(first|(refine lB S rfl rfl ?_<;>refine qf ⟨⟨by (first|exact Or.inr rfl),rfl⟩,?_⟩));refine qy ?_;(first|(refine jf S ?_<;>refine qf ⟨⟨by (first|exact True.intro),rfl⟩,?_⟩));refine qy ?_;(first|(refine vl ?_<;>refine qf ⟨⟨by (first|exact True.intro),rfl⟩,?_⟩));refine qy ?_;(first|(refine lB S rfl rfl ?_<;>refine qf ⟨⟨by (first|exact True.intro),rfl⟩,?_⟩));((refine qy ?_;first|refine qw rfl rfl rfl rfl rfl ((wQ S.wf v.vt.val p.tabs (htab.ext w S.ext) htl).mono ?_));rintro _ h ⟨rfl,x⟩)<;>((refine qf ⟨⟨True.intro,?_⟩,?_⟩;(focus ((show keepsX _ _ _ _ _;simp only [keepsX];(repeat' (first|exact True.intro|refine And.intro ?_ ?_));all_goals (intro hw;first|exact x.ext.old _ S.bB)))));replace S:=S.qE x;clear x;refine qy ?_;(first|((refine cS ?_ ?_<;>intro hc)<;>refine qf ⟨⟨by (first|exact True.intro),rfl⟩,?_⟩))<;>(refine Xq ?_))
 all_goals (all_goals (repeat' (first|refine qg ?_|refine qh rfl ?_|refine qi ?_|(refine qc 15 ?_;refine mv ?_;refine mv ?_;refine qf ?_))))
 ·refine qo ⟨_,rfl,?_⟩;exact ⟨0,45,rfl,.inr (.inr ⟨hv,ho,.inr ⟨hco,.inl ⟨by omega,rfl,rfl⟩⟩⟩),S.drop⟩
 ·all_goals (repeat' (first|(refine qc 16 ?_;refine mv ?_;refine mv ?_;refine qf ?_)))
  refine qo ⟨_,rfl,?_⟩;exact ⟨0,0,rfl,.inr (.inr ⟨hv,ho,.inr ⟨hco,.inr ⟨by omega,rfl,rfl⟩⟩⟩),S.drop⟩
theorem qaV {h0:AH} (w:WfH h0) (v:PbV) (p:Pb) (H:PbOk h0 v p) (M:PbM v p):Fn Tryz.prog Xh 156 [v.val] h0 (fun u h'=>∃ i e,u = .tuple #[.int .i64 i,.int .i64 e]∧CkP p i e∧Hs h0 h' []):=by
 have S:=Hs.start w;have hr:=H.ru;have hlr:=H.lr;unfold PbV.val;refine qL (by first|rfl) Tryz.func156 rfl rfl ?_;all_goals (repeat' (first|refine qg ?_|(refine qc 0 ?_;(refine bx S ?_;clear S;intro b h S);refine mv ?_;refine mv ?_;refine qf ?_)|(refine qc 1 ?_;refine lB S rfl rfl ?_)))
 obtain ⟨bp,hnm⟩:∃ x,x=b:=⟨_,rfl⟩;subst hnm;(refine qw rfl rfl rfl rfl rfl ((qcD S.wf v p (H.ext w S.ext) M).mono ?_);rintro _ h ⟨i,e,rfl,hk,x⟩)<;>(replace S:=S.qE x;clear x;refine mv ?_;refine vl ?_;refine vl ?_;refine mv ?_;refine mv ?_;refine qf ?_)
 all_goals (repeat' (first|refine qg ?_|refine qh rfl ?_|refine qi ?_|(refine qc 2 ?_;refine mv ?_;(first|(refine cS ?_ ?_<;>intro hc))<;>(refine qf ?_))|(refine qc 3 ?_;(iterate 4 refine mv ?_);refine qf ?_)))
 ·refine qo ⟨_,rfl,?_⟩;exact ⟨i,e,rfl,.inl ⟨by assumption,hk⟩,S.drop⟩
 have he:e=0:=by omega
 subst he;obtain ⟨hb,rfl⟩:=hk.bo;all_goals (repeat' (first|refine qj ?_|(refine qc 4 ?_;refine mv ?_;refine qf ?_)))
 refine qH (σ:=Nat) (fun i h'=>Hs h0 h' [.blk bp v.cs 28]∧i≤p.ru.length∧i≤64∧∀ j,j<i→wP p (p.ru.getD j default)=0) (fun i=>p.ru.length - i) (fun i=>[(1,.pointer (some ⟨bp,0,none⟩)),(6,.int .i64 i)]) 0 qx ?_ ?_
 ·exact ⟨S,zB0 _,zB0 _,fun j hj=>absurd hj (zB7 _)⟩
 clear S;rintro i h ⟨S,k1,k3,k2⟩;all_goals (repeat' (first|refine qg ?_|refine qh rfl ?_|refine qi ?_|refine qC ?_|refine qj ?_|(refine qc 5 ?_;refine mv ?_;refine vl ?_;refine lB S rfl rfl ?_;refine jf S ?_;(first|(refine cS ?_ ?_<;>intro hc))<;>(refine qf ?_))))
 ·have hi:i<p.ru.length:=by omega
  all_goals (repeat' (first|(refine qM 7 ?_;refine lB S rfl rfl ?_;refine vl ?_;refine lB S rfl rfl ?_;refine mv ?_;refine jF S ?_;refine jk S ?_)))
  (try simp only [zA0] at *)
  obtain ⟨r,hre⟩:∃ r,p.ru.getD i default=r:=⟨_,rfl⟩
  have hrk:=M.ru r (by rw [← hre];exact qQ hi);rw [hre];(refine qw rfl rfl rfl rfl rfl ((qaP S.wf v p (H.ext w S.ext) r hrk).mono ?_);rintro _ h ⟨rfl,x⟩)<;>(replace S:=S.qE x;clear x;refine mv ?_;refine qf ?_)
  all_goals (repeat' (first|refine qg ?_|refine qh rfl ?_|refine qi ?_|(refine qc 8 ?_;refine mv ?_;(first|(refine cS ?_ ?_<;>intro hc))<;>(refine qf ?_))|(refine qc 9 ?_;(iterate 4 refine mv ?_);refine qf ?_)|(refine qc 10 ?_;refine mv ?_;(first|(refine cS ?_ ?_<;>intro hc))<;>(refine qf ?_))|(refine qc 11 ?_;(iterate 3 refine mv ?_);refine qf ?_)))
  ·refine qo ⟨_,rfl,?_⟩;exact ⟨i,_,rfl,.inr ⟨hb,.inl ⟨i,hi,rfl,k3,k2,.inl ⟨by rw [hre];assumption,by rw [hre]⟩⟩⟩,S.drop⟩
  ·refine qo ⟨_,rfl,?_⟩;exact ⟨i,7,rfl,.inr ⟨hb,.inl ⟨i,hi,rfl,k3,k2,.inr ⟨by rw [hre];omega,by omega,rfl⟩⟩⟩,S.drop⟩
  ·all_goals (repeat' (first|(refine qc 6 ?_;refine mv ?_;refine ad ?_;refine mv ?_;refine qf ?_)))
   refine ⟨i+1,?_,?_,qx⟩
   ·show p.ru.length - (i+1)<p.ru.length - i;omega
   ·exact ⟨S,by omega,by omega,Qj k2 (by rw [hre];omega)⟩
 ·all_goals (repeat' (first|(refine qc 12 ?_;refine mv ?_;refine mv ?_;refine qf ?_)))
  refine qo ⟨_,rfl,?_⟩;exact ⟨0,0,rfl,.inr ⟨hb,.inr ⟨by omega,fun j hj=>k2 j (by omega),rfl,rfl⟩⟩,S.drop⟩
theorem qaU {h0:AH} (w:WfH h0) (v:PbV) (p:Pb) (H:PbOk h0 v p) (M:PbM v p) (vq:Value) (q:List Int) (rq:zC h0 vq 1 eI q) (hq:q.length≤9223372036854775807) (wh:Bool) :
 Fn Tryz.prog Xh 96 [v.val,vq,.bool wh] h0 (fun u h'=>∃ i e,u = .tuple #[.int .i64 i,.int .i64 e]∧PaC p q wh i e∧Hs h0 h' []):=by
 have S:=Hs.start w;have hrg:=H.rol.rg;have hgl:v.gs.length=p.us.length:=H.rol.len;have hgl2:v.rl.gs.length=p.us.length:=hgl;have hs:=zQ p.tabs p.tabs.length;have htl:=H.tab.len;have htab:=H.tab.rd;unfold PbV.val;refine qL (by first|rfl) Tryz.func96 rfl rfl ?_;all_goals (repeat' (first|refine qg ?_|(refine qc 0 ?_;(refine bx S ?_;clear S;intro b h S);refine mv ?_;refine mv ?_;refine qf ?_)|(refine qc 1 ?_;refine lB S rfl rfl ?_)))
 obtain ⟨b3,hnm⟩:∃ x,x=b:=⟨_,rfl⟩;subst hnm;(refine qw rfl rfl rfl rfl rfl ((qaV S.wf v p (H.ext w S.ext) M).mono ?_);rintro _ h ⟨i,e,rfl,hk,x⟩)<;>(replace S:=S.qE x;clear x;refine mv ?_;refine vl ?_;refine vl ?_;refine mv ?_;refine mv ?_;refine qf ?_)
 have hpo:=hk.po;all_goals (repeat' (first|refine qg ?_|refine qh rfl ?_|refine qi ?_|(refine qc 2 ?_;refine mv ?_;(first|(refine cS ?_ ?_<;>intro hc))<;>(refine qf ?_))|(refine qc 3 ?_;(iterate 3 refine mv ?_);refine qf ?_)))
 ·refine qo ⟨_,rfl,?_⟩;exact ⟨0,e,rfl,.inl ⟨fun q=>(by assumption:¬ e=0) (hpo.2 q),rfl,by assumption,i,hk⟩,S.drop⟩
 have hp:PO p:=hpo.1 (by omega);obtain ⟨N,hN⟩:∃ N:Nat,sumT p.tabs p.tabs.length=N:=⟨(sumT p.tabs p.tabs.length).toNat,by omega⟩
 have mk:∀ {i e:Int},PaE N q p.us.length wh i e→PaC p q wh i e:=fun h=>.inr ⟨hp,by rw [hN];exact h⟩;all_goals (repeat' (first|refine qg ?_|refine qh rfl ?_|refine qi ?_|(refine qc 4 ?_;refine mv ?_;refine jf S ?_;refine vl ?_;refine lB S rfl rfl ?_;refine jf S ?_;(first|(refine cS ?_ ?_<;>intro hc))<;>(refine qf ?_))|(refine qc 5 ?_;refine mv ?_;refine mv ?_;refine qf ?_)))
 ·refine qo ⟨_,rfl,?_⟩;exact ⟨0,53,rfl,mk (.inl ⟨by omega,rfl,rfl⟩),S.drop⟩
 have hql:q.length=p.us.length:=by omega
 all_goals (repeat' (first|(refine qc 6 ?_;refine vl ?_;refine lB S rfl rfl ?_)))
 (refine qw rfl rfl rfl rfl rfl ((wQ S.wf v.vt.val p.tabs (htab.ext w S.ext) htl).mono ?_);rintro _ h ⟨rfl,x⟩)<;>(replace S:=S.qE x;clear x;refine mv ?_;refine qf ?_)
 rw [hN];all_goals (repeat' (first|refine qg ?_|refine qj ?_|(refine qc 7 ?_;refine mv ?_;refine qf ?_)))
 refine qH (σ:=Nat) (fun k h'=>Hs h0 h' [.blk b3 v.cs 28]∧k≤p.us.length∧PaI N q k∧(wh=true→∀ j,j<k→q.getD j default≠-1)) (fun k=>p.us.length - k) (fun k=>[(1,vq),(2,.bool wh),(10,.int .i64 N),(11,.int .i64 k)]) 0 qx ?_ ?_
 ·exact ⟨S,zB0 _,⟨fun i hi=>absurd hi (zB7 _),fun i j _ hj=>absurd hj (zB7 _)⟩,fun _ j hj=>absurd hj (zB7 _)⟩
 clear S;rintro k h ⟨S,g1,g2,g3⟩;all_goals (repeat' (first|refine qg ?_|refine qh rfl ?_|refine qi ?_|refine qC ?_|refine qj ?_|(refine qc 8 ?_;refine mv ?_;refine mv ?_;refine jf S ?_;(first|(refine cS ?_ ?_<;>intro hc))<;>(refine qf ?_))))
 ·have hk:k<p.us.length:=by omega
  have hx:q.getD k default=q.getD (k:Int).toNat default:=rfl;have step : -1≤q.getD (k:Int).toNat default∧q.getD (k:Int).toNat default<N→(0≤q.getD (k:Int).toNat default→∀ j,j<k→q.getD j default≠q.getD (k:Int).toNat default)→PaI N q (k+1):=fun h1 h2=>by
   refine ⟨Qj g2.1 h1,fun i j hij hj h0=>?_⟩;rcases zA7 j k with r|r
   ·exact g2.2 i j hij r h0
   ·obtain rfl:j=k:=by omega
    intro e;exact h2 (by omega) i hij e
  have stepW:¬ (wh=true∧q.getD (k:Int).toNat default = -1)→(wh=true→∀ j,j<k+1→q.getD j default≠-1):=fun h1 h2=>Qj (g3 h2) (fun e=>h1 ⟨h2,e⟩);all_goals (repeat' (first|refine qg ?_|refine qh rfl ?_|refine qi ?_|(refine qc 10 ?_;refine mv ?_;refine mv ?_;refine jF S ?_;refine jk S ?_;(first|(refine cS ?_ ?_<;>intro hc))<;>(refine qf ?_))))
  ·cases hwh:wh
   ·subst hwh;all_goals (repeat' (first|refine qh rfl ?_|refine qi ?_|refine qC ?_|(refine qc 9 ?_;refine mv ?_;refine ad ?_;refine mv ?_;refine qf ?_)|(refine qc 11 ?_;refine mv ?_;refine qf ?_)))
    refine ⟨k+1,?_,?_,qx⟩
    ·show p.us.length - (k+1)<p.us.length - k;omega
    ·exact ⟨S,by omega,step ⟨by omega,by omega⟩ (fun h=>by omega),stepW (fun h=>by cases h.1)⟩
   ·subst hwh;all_goals (repeat' (first|refine qg ?_|refine qh rfl ?_|(refine qc 11 ?_;refine mv ?_;refine qf ?_)|(refine qc 12 ?_;(iterate 3 refine mv ?_);refine qf ?_)))
    refine qo ⟨_,rfl,?_⟩;exact ⟨k,52,rfl,mk (.inr ⟨hql,.inl ⟨k,hk,rfl,g2,g3,.inl ⟨rfl,by rw [hx];assumption,rfl⟩⟩⟩),S.drop⟩
  have hne:¬ q.getD (k:Int).toNat default = -1:=by assumption
  all_goals (repeat' (first|refine qg ?_|refine qh rfl ?_|refine qi ?_|(refine qc 13 ?_;refine mv ?_;refine mv ?_;refine jF S ?_;refine jk S ?_;(first|(refine cS ?_ ?_<;>intro hc))<;>(refine mv ?_;(first|refine off ?_|refine mv ?_);(first|refine off ?_|refine mv ?_);(first|refine off ?_|(refine jF S ?_));(first|refine off ?_|(refine jk S ?_));(first|refine off ?_|refine mv ?_);(first|refine off ?_|(first|(refine cS ?_ ?_<;>intro hc)))<;>(refine vl ?_;refine qf ?_)))|(refine qc 14 ?_;(iterate 3 refine mv ?_);refine qf ?_)))
  ·refine qo ⟨_,rfl,?_⟩;exact ⟨k,50,rfl,mk (.inr ⟨hql,.inl ⟨k,hk,rfl,g2,g3,.inr (.inl ⟨by rw [hx];omega,rfl⟩)⟩⟩),S.drop⟩
  ·refine qo ⟨_,rfl,?_⟩;exact ⟨k,50,rfl,mk (.inr ⟨hql,.inl ⟨k,hk,rfl,g2,g3,.inr (.inl ⟨by rw [hx];omega,rfl⟩)⟩⟩),S.drop⟩
  have hrg2:0≤q.getD (k:Int).toNat default∧q.getD (k:Int).toNat default<N:=by omega
  all_goals (repeat' (first|refine qj ?_|(refine qc 15 ?_;refine mv ?_;refine qf ?_)))
  refine qH (σ:=Nat) (fun m h'=>Hs h0 h' [.blk b3 v.cs 28]∧m≤k∧∀ j,j<m→q.getD j default≠q.getD (k:Int).toNat default) (fun m=>k - m) (fun m=>[(1,vq),(2,.bool wh),(10,.int .i64 N),(11,.int .i64 k),(12,.int .i64 m)]) 0 qx ?_ ?_
  ·exact ⟨S,zB0 _,fun j hj=>absurd hj (zB7 _)⟩
  clear S;rintro m h ⟨S,f1,f2⟩;all_goals (repeat' (first|refine qg ?_|refine qh rfl ?_|refine qi ?_|refine qC ?_|refine qj ?_|(refine qc 16 ?_;refine mv ?_;refine mv ?_;(first|(refine cS ?_ ?_<;>intro hc))<;>(refine qf ?_))))
  ·have hm:m<k:=by omega
   all_goals (repeat' (first|refine qg ?_|refine qh rfl ?_|refine qi ?_|(refine qM 18 ?_;refine mv ?_;refine mv ?_;refine jF S ?_;refine jk S ?_;refine mv ?_;refine mv ?_;refine jF S ?_;refine jk S ?_;(first|(refine cS ?_ ?_<;>intro hc))<;>(refine qf ?_))|(refine qc 19 ?_;(iterate 3 refine mv ?_);refine qf ?_)))
   ·refine qo ⟨_,rfl,?_⟩;exact ⟨k,51,rfl,mk (.inr ⟨hql,.inl ⟨k,hk,rfl,g2,g3,.inr (.inr ⟨hrg2.1,hrg2.2,⟨m,hm,by assumption⟩,rfl⟩)⟩⟩),S.drop⟩
   ·all_goals (repeat' (first|(refine qc 17 ?_;refine mv ?_;refine ad ?_;refine mv ?_;refine qf ?_)))
    refine ⟨m+1,?_,?_,qx⟩
    ·show k - (m+1)<k - m;omega
    ·exact ⟨S,by omega,Qj f2 (by assumption)⟩
  ·obtain rfl:m=k:=by omega
   all_goals (repeat' (first|(refine qc 9 ?_;refine mv ?_;refine ad ?_;refine mv ?_;refine qf ?_)))
   refine ⟨m+1,?_,?_,qx⟩
   ·show p.us.length - (m+1)<p.us.length - m;omega
   ·exact ⟨S,by omega,step ⟨by omega,by omega⟩ (fun _=>f2),stepW (fun h=>hne h.2)⟩
 ·obtain rfl:k=p.us.length:=by omega
  all_goals (repeat' (first|(refine qc 20 ?_;refine mv ?_;refine mv ?_;refine qf ?_)))
  refine qo ⟨_,rfl,?_⟩;exact ⟨0,0,rfl,mk (.inr ⟨hql,.inr ⟨g2,g3,rfl,rfl⟩⟩),S.drop⟩
end Go.Proofs.Xx
namespace Go.Proofs.Xx
open Go Go.Proofs
variable [Flag]
structure qgS (h:AH) (v:PbV) (p:Pb):Prop where
 ok:PbOk h v p
 op:∀ i,i<p.tabs.length→(p.tabs.getD i default).opn.length*8≤140737488351232
 tg:∀ i,i<v.gs.length→(v.gs.getD i default).tg.length≤8796093021952
 few:p.tabs.length≤1000∧p.us.length≤1000∧p.ts.length≤1000∧p.cl.length≤1000∧p.ru.length≤1000
abbrev pbL (v:PbV) (p:Pb):List Rs:=[.sl v.vt.val 93 7 eT p.tabs,xZ WJ p.tabs,.sl v.vg.val 45 9 eG v.gs,tgO v.gs,.sl v.vi.val 198 3 QG p.ts,.sl v.vc.val 3 1 eI p.cl,.sl v.vr.val 158 6 XR p.ru]
theorem qhH {h0:AH} (w:WfH h0) (v:PbV) (p:Pb) (H:qgS h0 v p):Fn Tryz.prog Xh 35 [v.val] h0 (fun u h'=>∃ (v':PbV) (tabs:List Tab),u=v'.val∧tabs.map (·.toC)=p.tabs.map (·.toC)∧v'.gs.map (·.toGu)=p.us∧Hs h0 h' (pbL v' { p with tabs:=tabs })):=by
 have S:=Hs.start w;obtain ⟨f1,f2,f3,f4,f5⟩:=H.few;have hgl:v.gs.length=p.us.length:=by have e:=congrArg List.length H.ok.rol.us;simpa using e
 unfold PbV.val;refine qL (by first|rfl) Tryz.func35 rfl rfl ?_;all_goals (repeat' (first|refine qg ?_|(refine qc 0 ?_;(refine bx S ?_;clear S;intro b h S);(refine al S ?_;clear S;intro b h S);refine qf ?_)))
 obtain ⟨b2,hnm⟩:∃ x,x=b:=⟨_,rfl⟩;subst hnm;obtain ⟨b1,hnm⟩:∃ x,x=b:=⟨_,rfl⟩;subst hnm;(repeat (refine qg ?_));refine ZJ (id:=1) [(4,(0,1)),(7,(0,2)),(10,(0,3)),(13,(0,4))] [some (b1),some (b1),some (b1),some (b1)] ?_;refine qy ?_;(first|(refine vl ?_<;>refine qf ⟨⟨by (first|exact True.intro),rfl⟩,?_⟩));refine qy ?_;(first|(refine lB S rfl rfl ?_<;>refine qf ⟨⟨by (first|exact True.intro),rfl⟩,?_⟩));((refine qy ?_;first|refine qw rfl rfl rfl rfl rfl ((qeM S.wf v.vt.val p.tabs (H.ok.tab.rd.ext w S.ext) (fun i hi=>⟨(H.ok.tab.tab i hi).1.ext w S.ext,H.op i hi⟩) (by omega)).mono ?_));rintro _ h ⟨vt,tabs,rfl,g1,x⟩)<;>((refine qf ⟨⟨True.intro,?_⟩,?_⟩;(focus ((show keepsX _ _ _ _ _;simp only [keepsX];(repeat' (first|exact True.intro|refine And.intro ?_ ?_));all_goals (intro hw;first|exact x.ext.old _ S.bB)))));replace S:=S.qgH x;clear x;refine qy ?_;(first|(refine vl ?_<;>refine qf ⟨⟨by (first|exact True.intro),rfl⟩,?_⟩));refine qy ?_;(first|(refine lB S rfl rfl ?_<;>refine qf ⟨⟨by (first|exact Or.inr rfl),rfl⟩,?_⟩)))
 ((refine qy ?_;first|refine qw rfl rfl rfl rfl rfl ((qf2 S.wf v.vg.val v.gs (H.ok.rol.rg.ext w S.ext) (fun i hi=>⟨(H.ok.rol.tg i hi).1.ext w S.ext,H.tg i hi⟩) (by omega)).mono ?_));rintro _ h ⟨vg,gs,rfl,g2,x⟩)<;>((refine qf ⟨⟨True.intro,?_⟩,?_⟩;(focus ((show keepsX _ _ _ _ _;simp only [keepsX];(repeat' (first|exact True.intro|refine And.intro ?_ ?_));all_goals (intro hw;first|exact absurd hw (by decide +kernel)|exact x.ext.old _ S.bB)))));replace S:=S.qgH x;clear x;refine qy ?_;(first|(refine vl ?_<;>refine qf ⟨⟨by (first|exact True.intro),rfl⟩,?_⟩));refine qy ?_;(first|(refine lB S rfl rfl ?_<;>refine qf ⟨⟨by (first|exact Or.inr rfl),rfl⟩,?_⟩)))
 ((refine qy ?_;first|refine qw rfl rfl rfl rfl rfl ((qhG S.wf v.vi.val p.ts (H.ok.rol.rt.ext w S.ext) (by omega)).mono ?_));rintro u h x)<;>((refine qf ⟨⟨True.intro,?_⟩,?_⟩;(focus ((show keepsX _ _ _ _ _;simp only [keepsX];(repeat' (first|exact True.intro|refine And.intro ?_ ?_));all_goals (intro hw;first|exact absurd hw (by decide +kernel)|exact x.ext.old _ S.bB)))));replace S:=S.jm x;clear x;obtain ⟨vi,rfl⟩:=S.sV u;refine qy ?_;(first|(refine vl ?_<;>refine qf ⟨⟨by (first|exact True.intro),rfl⟩,?_⟩));refine qy ?_;(first|(refine lB S rfl rfl ?_<;>refine qf ⟨⟨by (first|exact Or.inr rfl),rfl⟩,?_⟩)))
 ((refine qy ?_;first|refine qw rfl rfl rfl rfl rfl ((qeN S.wf v.vc.val p.cl (H.ok.cl.ext w S.ext) (by omega)).mono ?_));rintro u h x)<;>((refine qf ⟨⟨True.intro,?_⟩,?_⟩;(focus ((show keepsX _ _ _ _ _;simp only [keepsX];(repeat' (first|exact True.intro|refine And.intro ?_ ?_));all_goals (intro hw;first|exact absurd hw (by decide +kernel)|exact x.ext.old _ S.bB)))));replace S:=S.jm x;clear x;obtain ⟨vc,rfl⟩:=S.sV u;refine qy ?_;(first|(refine vl ?_<;>refine qf ⟨⟨by (first|exact True.intro),rfl⟩,?_⟩));refine qy ?_;(first|(refine lB S rfl rfl ?_<;>refine qf ⟨⟨by (first|exact Or.inr rfl),rfl⟩,?_⟩)))
 ((refine qy ?_;first|refine qw rfl rfl rfl rfl rfl ((qf1 S.wf v.vr.val p.ru (H.ok.ru.ext w S.ext) (by omega)).mono ?_));rintro u h x)<;>((refine qf ⟨⟨True.intro,?_⟩,?_⟩;(focus ((show keepsX _ _ _ _ _;simp only [keepsX];(repeat' (first|exact True.intro|refine And.intro ?_ ?_));all_goals (intro hw;first|exact absurd hw (by decide +kernel))))));replace S:=S.jm x;clear x;obtain ⟨vr,rfl⟩:=S.sV u;refine qy ?_;(first|(refine vl ?_<;>refine qf ⟨⟨by (first|exact True.intro),rfl⟩,?_⟩));refine qy ?_;(first|((refine sB S rfl rfl ?_;have S0:=S;clear S;intro h S);refine qf ⟨⟨True.intro,?_⟩,?_⟩;(focus ((show keepsX _ _ _ _ _;simp only [keepsX];(repeat' (first|exact True.intro|refine And.intro ?_ ?_));all_goals (intro hw;first|exact absurd hw (by decide +kernel)))));clear S0));refine Xq ?_)
 all_goals (repeat' (fail))
 refine qo ⟨_,JI S rfl (by first|exact .there (.there (.there (.there (.there (.there (.there .here))))))) (by exact rfl) (by exact rfl),?_⟩;refine ⟨⟨vt,vg,vi,vc,vr,gs⟩,tabs,rfl,g1,g2.trans H.ok.rol.us,?_⟩;exact (show Hs h0 h [.sl vt.val 93 7 eT tabs,xZ WJ tabs,.sl vg.val 45 9 eG gs,tgO gs,.sl vi.val 198 3 QG p.ts,.sl vc.val 3 1 eI p.cl,.sl vr.val 158 6 XR p.ru] from S.pick)
end Go.Proofs.Xx
namespace Go.Proofs.Xx
open Go Go.Proofs
variable [Flag]
def qfi (p q:Pb):Prop:=p.tabs.map (·.toC)=q.tabs.map (·.toC)∧p.us=q.us∧p.ts=q.ts∧p.cl=q.cl∧p.ru=q.ru
theorem qcv {h0:AH} (w:WfH h0) (v u:PbV) (p q:Pb) (H:PbOk h0 v p) (K:PbOk h0 u q):Fn Tryz.prog Xh 97 [v.val,u.val] h0 (fun x h'=>qZ x (qfi p q)∧Hs h0 h' []):=by
 have S:=Hs.start w;have e1:=H.rol.len;have e2:=K.rol.len;have l1:=H.rol.lg;have l2:=K.rol.lg;have us1:v.gs.map (·.toGu)=p.us:=H.rol.us;have us2:u.gs.map (·.toGu)=q.us:=K.rol.us;have g1:v.gs.length≤9223372036854775807:=zD0 (Nat.le_of_eq H.rol.len) H.rol.lg;have g2:u.gs.length≤9223372036854775807:=zD0 (Nat.le_of_eq K.rol.len) K.rol.lg;have k1:=H.tab.len;have k2:=K.tab.len;have m1:=H.lc;have m2:=K.lc;have n1:=H.lr;have n2:=K.lr;have t1:p.ts.length≤9223372036854775807:=H.rol.lt;have t2:q.ts.length≤9223372036854775807:=K.rol.lt;unfold PbV.val;refine qL (by first|rfl) Tryz.func97 rfl rfl ?_;all_goals (repeat' (first|refine qg ?_|(refine qc 0 ?_;(refine bx S ?_;clear S;intro b h S);(refine bx S ?_;clear S;intro b h S);refine mv ?_;refine qf ?_)|(refine qc 1 ?_;refine vl ?_;refine lB S rfl rfl ?_;refine vl ?_;refine lB S rfl rfl ?_)))
 (refine qw rfl rfl rfl rfl rfl ((qaK S.wf v.vt.val u.vt.val p.tabs q.tabs (H.tab.rd.ext w S.ext) (K.tab.rd.ext w S.ext) (fun i hi=>⟨(H.tab.tab i hi).1.ext w S.ext,(H.tab.tab i hi).2.2⟩) (fun i hi=>⟨(K.tab.tab i hi).1.ext w S.ext,(K.tab.tab i hi).2.2⟩) (by omega) (by omega)).mono ?_);rintro _ h ⟨⟨rfl,z1⟩|⟨rfl,z1⟩,x⟩)<;>(replace S:=S.qE x;clear x;refine mv ?_;(first|refine off ?_|(refine vl ?_));(first|refine off ?_|(refine lB S rfl rfl ?_));(first|refine off ?_|(refine vl ?_));(first|refine off ?_|(refine lB S rfl rfl ?_));(first|(refine off ?_;refine vl ?_;refine mv ?_;refine off ?_;refine off ?_;refine off ?_;refine off ?_;(first|(refine off ?_;refine vl ?_;refine mv ?_;refine off ?_;refine off ?_;refine off ?_;refine off ?_;(first|(refine off ?_;refine vl ?_;refine mv ?_;refine off ?_;refine off ?_;refine off ?_;refine off ?_;(first|(refine off ?_;refine vl ?_;refine mv ?_;refine qf ?_)))))))|skip))
 rotate_left
 ·all_goals (repeat' (fail))
  refine qo ⟨_,rfl,?_⟩;exact ⟨.inr ⟨rfl,fun e=>z1 e.1⟩,S.drop⟩
 (refine qw rfl rfl rfl rfl rfl ((vN S.wf v.vg.val u.vg.val v.gs u.gs (H.rol.rg.ext w S.ext) (K.rol.rg.ext w S.ext) (fun i hi=>⟨(H.rol.tg i hi).1.ext w S.ext,(H.rol.tg i hi).2⟩) (fun i hi=>⟨(K.rol.tg i hi).1.ext w S.ext,(K.rol.tg i hi).2⟩) g1 g2).mono ?_);rintro _ h ⟨⟨rfl,z2⟩|⟨rfl,z2⟩,x⟩)<;>(replace S:=S.qE x;clear x;refine vl ?_;refine mv ?_;(first|refine off ?_|(refine vl ?_));(first|refine off ?_|(refine lB S rfl rfl ?_));(first|refine off ?_|(refine vl ?_));(first|refine off ?_|(refine lB S rfl rfl ?_));(first|(refine off ?_;refine vl ?_;refine mv ?_;refine off ?_;refine off ?_;refine off ?_;refine off ?_;(first|(refine off ?_;refine vl ?_;refine mv ?_;refine off ?_;refine off ?_;refine off ?_;refine off ?_;(first|(refine off ?_;refine vl ?_;refine mv ?_;refine qf ?_)))))|skip))
 rotate_left
 ·all_goals (repeat' (fail))
  refine qo ⟨_,rfl,?_⟩;exact ⟨.inr ⟨rfl,fun e=>z2 (by rw [us1,us2];exact e.2.1)⟩,S.drop⟩
 (refine qw rfl rfl rfl rfl rfl ((pU S.wf v.vi.val u.vi.val p.ts q.ts (H.rol.rt.ext w S.ext) (K.rol.rt.ext w S.ext) t1 t2).mono ?_);rintro _ h ⟨⟨rfl,z3⟩|⟨rfl,z3⟩,x⟩)<;>(replace S:=S.qE x;clear x;refine vl ?_;refine mv ?_;(first|refine off ?_|(refine vl ?_));(first|refine off ?_|(refine lB S rfl rfl ?_));(first|refine off ?_|(refine vl ?_));(first|refine off ?_|(refine lB S rfl rfl ?_));(first|(refine off ?_;refine vl ?_;refine mv ?_;refine off ?_;refine off ?_;refine off ?_;refine off ?_;(first|(refine off ?_;refine vl ?_;refine mv ?_;refine qf ?_)))|skip))
 rotate_left
 ·all_goals (repeat' (fail))
  refine qo ⟨_,rfl,?_⟩;exact ⟨.inr ⟨rfl,fun e=>z3 e.2.2.1⟩,S.drop⟩
 (refine qw rfl rfl rfl rfl rfl ((Wl S.wf v.vc.val u.vc.val p.cl q.cl (H.cl.ext w S.ext) (K.cl.ext w S.ext) (by omega) (by omega)).mono ?_);rintro _ h ⟨⟨rfl,z4⟩|⟨rfl,z4⟩,x⟩)<;>(replace S:=S.qE x;clear x;refine vl ?_;refine mv ?_;(first|refine off ?_|(refine vl ?_));(first|refine off ?_|(refine lB S rfl rfl ?_));(first|refine off ?_|(refine vl ?_));(first|refine off ?_|(refine lB S rfl rfl ?_));(first|(refine off ?_;refine vl ?_;refine mv ?_;refine qf ?_)|skip))
 rotate_left
 ·all_goals (repeat' (fail))
  refine qo ⟨_,rfl,?_⟩;exact ⟨.inr ⟨rfl,fun e=>z4 e.2.2.2.1⟩,S.drop⟩
 (refine qw rfl rfl rfl rfl rfl ((Kt S.wf v.vr.val u.vr.val p.ru q.ru (H.ru.ext w S.ext) (K.ru.ext w S.ext) (by omega) (by omega)).mono ?_);rintro _ h ⟨⟨rfl,z5⟩|⟨rfl,z5⟩,x⟩)<;>(replace S:=S.qE x;clear x;refine vl ?_;refine mv ?_;refine qf ?_)
 rotate_left
 ·all_goals (repeat' (fail))
  refine qo ⟨_,rfl,?_⟩;exact ⟨.inr ⟨rfl,fun e=>z5 e.2.2.2.2⟩,S.drop⟩
 all_goals (repeat' (fail))
 refine qo ⟨_,rfl,?_⟩;exact ⟨.inl ⟨rfl,z1,by rw [← us1,← us2];exact z2,z3,z4,z5⟩,S.drop⟩
end Go.Proofs.Xx
