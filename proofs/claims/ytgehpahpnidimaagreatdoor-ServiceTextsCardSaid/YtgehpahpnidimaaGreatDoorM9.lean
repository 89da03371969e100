/-
  Rolls that are right;Load.
-/
import Derived.Test.YtgehpahpnidimaaGreatDoorM8
import Derived.Test.YtgehpahpnidimaaGreatDoorM7
set_option linter.unusedSimpArgs false
set_option linter.unusedVariables false
set_option linter.unusedSectionVars false
set_option maxRecDepth 100000
set_option maxHeartbeats 4000000
namespace Go.Proofs.Xx
open Go Go.Proofs
structure RlV where
 vg:SlV
 vt:SlV
 gs:List Zf
def RlV.val (v:RlV):Value:=.agg #[v.vg.val,v.vt.val]
structure RlOk (h:AH) (v:RlV) (r:Rl):Prop where
 rg:qY h v.vg.val 9 eG v.gs
 rt:qY h v.vt.val 3 Qa r.ts
 tg:∀ i,i<v.gs.length→qY h (v.gs.getD i default).tv.val 1 eS (v.gs.getD i default).tg∧(v.gs.getD i default).tg.length≤9223372036854775807
 us:v.gs.map (·.toGu)=r.us
 lg:r.us.length≤9223372036854775807
 lt:r.ts.length≤9223372036854775807
theorem RlOk.ext {h h':AH} {v:RlV} {r:Rl} (a:RlOk h v r) (w:WfH h) (x:Ext h h'):RlOk h' v r:=⟨a.rg.ext w x,a.rt.ext w x,fun i hi=>⟨(a.tg i hi).1.ext w x,(a.tg i hi).2⟩,a.us,a.lg,a.lt⟩
theorem RlOk.len {h:AH} {v:RlV} {r:Rl} (a:RlOk h v r):v.gs.length=r.us.length:=by rw [← a.us];simp
theorem zn {α β:Type} [Inhabited α] [Inhabited β] {f:α→β} {l:List α} {i:Nat} (hi:i<l.length):(l.map f).getD i default=f (l.getD i default):=by
 rw [zA2,zA2,zH6,zA4 hi];rfl
theorem RlOk.at_ {h:AH} {v:RlV} {r:Rl} (a:RlOk h v r) {i:Nat} (hi:i<v.gs.length):(v.gs.getD i default).toGu=r.us.getD i default:=by rw [← a.us,zn hi]
noncomputable def gE0 (us:List Gu) (i:Nat):Int:=(XM ⟨us.take i,[]⟩ (us.getD i default)).2
open Classical in
noncomputable def J9 (r:Rl) (i:Nat):Int :=
 if jT (r.ts.getD i default).a (r.ts.getD i default).b∧(i=0∨¬ Ze (r.ts.getD i default) (r.ts.getD (i - 1) default)) then (Zg ⟨r.us,r.ts.take i⟩ (r.ts.getD i default).a (r.ts.getD i default).b (r.ts.getD i default).k).2 else 23
def VRl (r:Rl):Prop:=(∀ i,i<r.us.length→gE0 r.us i=0)∧∀ i,i<r.ts.length→J9 r i=0
def Bad (r:Rl) (i e:Int):Prop:=e≠0∧((∃ j:Nat,j<r.us.length∧(∀ k,k<j→gE0 r.us k=0)∧gE0 r.us j=e∧i=j)∨((∀ k,k<r.us.length→gE0 r.us k=0)∧∃ j:Nat,j<r.ts.length∧(∀ k,k<j→J9 r k=0)∧J9 r j=e∧i=r.us.length+j))
theorem WE {p:Nat→Int} {j k:Nat} (h1:∀ i,i<j→p i=0) (h2:p j≠0) (h3:∀ i,i<k→p i=0) (h4:p k≠0):j=k:=by
 rcases zE6 j k with q|q|q
 ·exact absurd (h3 j q) h2
 ·exact q
 ·exact absurd (h1 k q) h4
theorem Bad.uniq {r:Rl} {i e i' e':Int} (a:Bad r i e) (b:Bad r i' e'):i=i'∧e=e':=by
 obtain ⟨h1,a⟩:=a;obtain ⟨h2,b⟩:=b;rcases a with ⟨j,a1,a2,a3,a4⟩|⟨a0,j,a1,a2,a3,a4⟩<;>rcases b with ⟨k,b1,b2,b3,b4⟩|⟨b0,k,b1,b2,b3,b4⟩
 ·obtain rfl:=WE a2 (a3 ▸ h1) b2 (b3 ▸ h2);exact ⟨a4.trans b4.symm,a3.symm.trans b3⟩
 ·exact absurd (b0 j a1) (a3 ▸ h1)
 ·exact absurd (a0 k b1) (b3 ▸ h2)
 ·obtain rfl:=WE a2 (a3 ▸ h1) b2 (b3 ▸ h2);exact ⟨a4.trans b4.symm,a3.symm.trans b3⟩
theorem Bad.not {r:Rl} {i e:Int} (a:Bad r i e):¬ VRl r:=fun v=>by
 obtain ⟨h1,⟨j,a1,a2,a3,a4⟩|⟨a0,j,a1,a2,a3,a4⟩⟩:=a
 ·exact h1 (a3 ▸ v.1 j a1)
 ·exact h1 (a3 ▸ v.2 j a1)
theorem YR {r:Rl} {g:Gu} (h:(XM r g).2=0):Qs g=0∧gat r.us g.name=none∧r.us.length<64∧(XM r g).1=⟨r.us ++ [g],r.ts⟩:=by
 by_cases h1:Qs g=0
 ·by_cases h2:gat r.us g.name=none
  ·by_cases h3:64≤r.us.length
   ·rw [GV h1 h2 h3] at h;cases h
   ·rw [vX h1 h2 h3];exact ⟨h1,h2,by omega,rfl⟩
  ·rw [GX h1 h2] at h;cases h
 ·rw [GU h1] at h;exact absurd h h1
theorem JS {r:Rl} {a b:List UInt8} {k:Int} (h:(Zg r a b k).2=0):(k=1∨k=2)∧a≠b∧gat r.us a≠none∧gat r.us b≠none∧¬ tied r.ts a b∧r.ts.length<256∧(Zg r a b k).1=⟨r.us,Gs r.ts (yK a b k)⟩:=by
 by_cases h1:(k≠1∧k≠2)∨a=b
 ·rw [pI h1] at h;cases h
 ·by_cases h2:gat r.us a=none∨gat r.us b=none
  ·rw [KJ h1 h2] at h;cases h
  ·by_cases h3:tied r.ts a b
   ·rw [KL h1 h2 h3] at h;cases h
   ·by_cases h4:256≤r.ts.length
    ·rw [KI h1 h2 h3 h4] at h;cases h
    ·rw [yJ h1 h2 h3 h4];exact ⟨by omega,fun q=>h1 (.inr q),fun q=>h2 (.inl q),fun q=>h2 (.inr q),h3,by omega,rfl⟩
theorem qK {α:Type} [Inhabited α] {l:List α} {i:Nat} (hi:i<l.length):l.take (i+1)=l.take i ++ [l.getD i default]:=by
 rw [List.take_add_one,zA2,zA4 hi];rfl
theorem Pm {us:List Gu} {i:Nat} (hi:i≤us.length) (h:∀ k,k<i→gE0 us k=0):i≤64:=by
 cases i with
 | zero=>omega
 | succ i =>
  have:=(YR (h i (zF9 i))).2.2.1;simp at this;omega
theorem getD_take {α:Type} [Inhabited α] {l:List α} {i j:Nat} (h:j<i):(l.take i).getD j default=l.getD j default:=by
 rw [zA2,zA2,zC7,if_pos h]
theorem TS.mk_ {ts:List Ti} (h:∀ i j,i<j→j<ts.length→Ze (ts.getD i default) (ts.getD j default)):TS ts:=by
 rw [TS,zD2];intro i j hi hj hij;have:=h i j hij hj;rw [zA2,zA2,zA4 hj,zA4 hi] at this;exact this
theorem TS.app {ts:List Ti} {t:Ti} (h:TS ts) (h2:∀ j,j<ts.length→Ze (ts.getD j default) t):TS (ts ++ [t]):=TS.mk_ fun i j hij hj=>by
 simp at hj;rw [gA1 (show i<ts.length by omega)];rcases zA7 j ts.length with q|q
 ·rw [gA1 q];exact h.lt hij q
 ·obtain rfl:j=ts.length:=by omega
  rw [gA2 (zA3 _),zG5];exact h2 i (by omega)
theorem XY {r:Rl} {i:Nat} (h:J9 r i=0):jT (r.ts.getD i default).a (r.ts.getD i default).b∧(i=0∨¬ Ze (r.ts.getD i default) (r.ts.getD (i - 1) default))∧(Zg ⟨r.us,r.ts.take i⟩ (r.ts.getD i default).a (r.ts.getD i default).b (r.ts.getD i default).k).2=0:=by
 unfold J9 at h;split at h
 ·rename_i q;exact ⟨q.1,q.2,h⟩
 ·cases h
theorem VF {a b:List UInt8} (h:jT a b):YA a b=a:=by unfold YA;rw [if_neg (YC h)]
theorem VG {a b:List UInt8} (h:jT a b):YB a b=b:=by unfold YB;rw [if_pos h]
theorem yN {r:Rl}:∀ {i:Nat},i≤r.ts.length→(∀ k,k<i→J9 r k=0)→TS (r.ts.take i)∧(i<r.ts.length→J9 r i=0→∀ j,j<i→Ze (r.ts.getD j default) (r.ts.getD i default))
 | i,hi,h=>by
  have key:∀ i,i≤r.ts.length→(∀ k,k<i→J9 r k=0)→TS (r.ts.take i)→i<r.ts.length→J9 r i=0→∀ j,j<i→Ze (r.ts.getD j default) (r.ts.getD i default):=by
   intro i hi h hs hl h0 j hj;obtain ⟨z1,z2,z3⟩:=XY h0;have z4:=(JS z3).2.2.2.2.1;have hp:Ze (r.ts.getD (i - 1) default) (r.ts.getD i default):=by
    rcases vW (r.ts.getD (i - 1) default) (r.ts.getD i default) with q|⟨e1,e2⟩|q
    ·exact q
    ·refine absurd ⟨r.ts.getD (i - 1) default,?_,?_⟩ z4
     ·rw [← getD_take (show i - 1<i by omega)];have hl2:i - 1<(r.ts.take i).length:=by simp;omega
      rw [zA2,zA4 hl2];exact List.getElem_mem hl2
     ·rw [VF z1,VG z1];exact ⟨e1,e2⟩
    ·rcases z2 with z2|z2
     ·omega
     ·exact absurd q z2
   rcases zA7 j (i - 1) with q|q
   ·have hl2:i - 1<(r.ts.take i).length:=by simp;omega
    have:=hs.lt q hl2;rw [getD_take (by omega),getD_take (by omega)] at this;exact Q5 this hp
   ·obtain rfl:j=i - 1:=by omega
    exact hp
  have all:∀ i,i≤r.ts.length→(∀ k,k<i→J9 r k=0)→TS (r.ts.take i):=by
   intro i;induction i with
   | zero=>intro _ _;simp [TS]
   | succ i ih =>
    intro hi h;have hs:=ih (by omega) fun k hk=>h k (by omega);rw [qK (by omega)];refine hs.app fun j hj=>?_;simp at hj;rw [getD_take (by omega)];exact key i (by omega) (fun k hk=>h k (by omega)) hs (by omega) (h i (by omega)) j (by omega)
  exact ⟨all i hi h,key i hi h (all i hi h)⟩
theorem pJ {r:Rl} {i:Nat} (hi:i≤r.ts.length) (h:∀ k,k<i→J9 r k=0):i≤256:=by
 cases i with
 | zero=>omega
 | succ i =>
  have:=(JS (XY (h i (zF9 i))).2.2).2.2.2.2.2.1;simp at this;omega
theorem qcl {r:Rl} {i:Nat} (hi:i<r.ts.length) (h:∀ k,k<i→J9 r k=0) (h0:J9 r i=0):(Zg ⟨r.us,r.ts.take i⟩ (r.ts.getD i default).a (r.ts.getD i default).b (r.ts.getD i default).k).1=⟨r.us,r.ts.take (i+1)⟩:=by
 obtain ⟨z1,z2,z3⟩:=XY h0;rw [(JS z3).2.2.2.2.2.2];have e:yK (r.ts.getD i default).a (r.ts.getD i default).b (r.ts.getD i default).k=r.ts.getD i default:=by unfold yK;rw [VF z1,VG z1]
 have hl:(r.ts.take i).length=i:=by simp;omega
 show (⟨r.us,Gs (r.ts.take i) _⟩:Rl)=_
 rw [e,V5 (i:=i) ⟨by omega,fun j hj=>by rw [getD_take hj];exact (yN (by omega) h).2 hi h0 j hj,fun j h1 h2=>by omega⟩,qK hi];simp [List.take_take]
theorem qeu {c:Int} {x t:Ti} (e1:c<0↔Ze x t) (e2:c=0↔x.a=t.a∧x.b=t.b):c≤0↔¬ Ze t x:=by
 constructor
 ·intro z q;rcases Int.lt_or_eq_of_le z with z|z
  ·exact Pz _ (Q5 (e1.1 z) q)
  ·have:=e2.1 z;rcases q with q|q
   ·rw [this.1] at q;exact zS _ q
   ·rw [this.2] at q;exact zS _ q.2
 ·intro z;rcases vW x t with q|q|q
  ·have:=e1.2 q;omega
  ·have:=e2.2 q;omega
  ·exact absurd q z
variable [Flag]
theorem qcB {h0:AH} (w:WfH h0) (v:RlV) (r:Rl) (H:RlOk h0 v r) :
 Fn Tryz.prog Xh 216 [v.val] h0 (fun u h'=>(∃ p,u = .tuple #[.pointer (some ⟨p,0,none⟩),.int .i64 0,.int .i64 0]∧VRl r∧Hs h0 h' [Jn p r])∨(∃ i e,u = .tuple #[.pointer none,.int .i64 i,.int .i64 e]∧Bad r i e∧Hs h0 h' [])):=by
 have S:=Hs.start w;have hgl:=H.len;have hrg:=H.rg;have hrt:=H.rt;have hlg:=H.lg;have hlt:=H.lt;unfold RlV.val;refine qF (by first|rfl) Tryz.func216 rfl rfl ?_;all_goals (repeat' (first|refine qg ?_|(refine qc 0 ?_;(refine bx S ?_;clear S;intro b h S);(iterate 3 refine mv ?_);refine qf ?_)|(refine qc 1 ?_;skip)))
 (refine qo rfl rfl rfl rfl rfl ((qd5 S.wf).mono ?_);rintro _ h ⟨p,rfl,x⟩)<;>(replace S:=S.join1 x;clear x;refine mv ?_;refine qf ?_)
 all_goals (repeat' (first|refine qg ?_|refine ql ?_|(refine qc 2 ?_;refine vl ?_;refine lB S rfl rfl ?_;refine zT S ?_;refine mv ?_;refine qf ?_)))
 obtain ⟨q,hnm⟩:∃ x,x=b:=⟨_,rfl⟩;subst hnm;replace S:Hs h0 h [Jn p ⟨[],[]⟩,.blk q [v.vg.val,v.vt.val] 151]:=S;refine qG (σ:=Nat) (fun i h'=>Hs h0 h' [Jn p ⟨r.us.take i,[]⟩,.blk q [v.vg.val,v.vt.val] 151]∧i≤r.us.length∧∀ k,k<i→gE0 r.us k=0) (fun i=>r.us.length - i) (fun i=>[(1,.pointer (some ⟨q,0,none⟩)),(5,.pointer (some ⟨p,0,none⟩)),(14,v.vg.val),(15,.int .i64 v.gs.length),(16,.int .i64 i)]) 0 qw ?_ ?_
 ·exact ⟨S,zB0 _,fun j hj=>absurd hj (zB7 _)⟩
 clear S;rintro i h ⟨S,g1,g2⟩;have hi64:=Pm g1 g2;all_goals (repeat' (first|refine qg ?_|refine qh rfl ?_|refine qj ?_|refine qx ?_|refine ql ?_|(refine qc 3 ?_;(first|(refine cS ?_ ?_<;>intro hc))<;>(refine qf ?_))|(refine qc 4 ?_;refine mv ?_;refine jB S ?_;refine jA S ?_;(refine al S ?_;clear S;intro b h S);refine mv ?_;(first|(refine sB S rfl rfl ?_;clear S;intro h S));refine qf ?_)|(refine qc 5 ?_;refine mv ?_;refine lB S rfl rfl ?_)|(refine qc 9 ?_;refine vl ?_;refine lB S rfl rfl ?_;refine zT S ?_;refine mv ?_;refine qf ?_)))
 ·have hil:i<v.gs.length:=by omega
  have hat:=H.at_ hil;simp only [zA0] at S;simp only [zA0];have htl:(r.us.take i).length≤64:=by simp;omega
  (refine qo rfl rfl rfl rfl rfl ((qeA (S.front (.there .here)) (v.gs.getD i default) (RdS.base w (H.tg i hil).1) (H.tg i hil).2 htl).mono ?_);rintro _ h ⟨rfl,S⟩)<;>(refine mv ?_;refine qf ?_)
  rw [hat] at S;simp only [hat];all_goals (repeat' (first|refine qg ?_|refine qh rfl ?_|refine qj ?_|(refine qc 6 ?_;refine mv ?_;(first|(refine cS ?_ ?_<;>intro hc))<;>(refine qf ?_))|(refine qc 7 ?_;(iterate 5 refine mv ?_);refine qf ?_)|(refine qc 8 ?_;refine ad ?_;refine mv ?_;refine qf ?_)))
  ·refine qi ⟨_,rfl,?_⟩;exact .inr ⟨i,_,rfl,⟨hc,.inl ⟨i,by omega,g2,rfl,rfl⟩⟩,S.drop⟩
  ·have hz:gE0 r.us i=0:=zF2.1 hc;rw [(YR hz).2.2.2] at S;refine ⟨i+1,?_,?_,qw⟩
   ·show r.us.length - (i+1)<r.us.length - i;omega
   ·refine ⟨?_,by omega,jr g2 hz⟩;rw [qK (by omega)];exact S.pick
 ·obtain rfl:i=r.us.length:=by omega
  rw [zD4] at S;refine qG (σ:=Nat) (fun i h'=>Hs h0 h' [Jn p ⟨r.us,r.ts.take i⟩,.blk q [v.vg.val,v.vt.val] 151]∧i≤r.ts.length∧∀ k,k<i→J9 r k=0) (fun i=>r.ts.length - i) (fun i=>[(1,.pointer (some ⟨q,0,none⟩)),(5,.pointer (some ⟨p,0,none⟩)),(30,v.vt.val),(31,.int .i64 r.ts.length),(32,.int .i64 i)]) 0 qw ?_ ?_
  ·exact ⟨S,zB0 _,fun j hj=>absurd hj (zB7 _)⟩
  clear S;rintro i h ⟨S,k1,k2⟩;have hi256:=pJ k1 k2;have hTS:=(yN k1 k2).1;have htl:(r.ts.take i).length≤256:=by simp;omega
  all_goals (repeat' (first|refine qg ?_|refine qh rfl ?_|refine qj ?_|refine qx ?_|refine ql ?_|(refine qc 10 ?_;(first|(refine cS ?_ ?_<;>intro hc))<;>(refine qf ?_))|(refine qc 11 ?_;refine mv ?_;refine jB S ?_;refine jA S ?_;(refine al S ?_;clear S;intro b h S);refine mv ?_;(first|(refine sB S rfl rfl ?_;clear S;intro h S));refine qf ?_)|(refine qc 12 ?_;refine mv ?_;refine qf ?_)|(refine qc 18 ?_;(iterate 4 refine mv ?_);refine qf ?_)))
  ·obtain ⟨t,ht⟩:∃ t,t=r.ts.getD i default:=⟨_,rfl⟩
   simp only [zA0] at S;simp only [zA0];replace S:Hs h0 h [.blk b (Qa t) 174,Jn p ⟨r.us,r.ts.take i⟩,.blk q [v.vg.val,v.vt.val] 151]:=by rw [ht];exact S
   (repeat (refine qg ?_));first|refine zL (σ:=Rl) (fun r' h'=>Hs h0 h' [Jn p r',.blk q [v.vg.val,v.vt.val] 151]∧(J9 r i=0→r'=⟨r.us,r.ts.take (i+1)⟩)) (fun r'=>[(1,.pointer (some ⟨q,0,none⟩)),(5,.pointer (some ⟨p,0,none⟩)),(9,.int .i64 i),(11,.int .i64 (J9 r i)),(30,v.vt.val),(31,.int .i64 r.ts.length),(32,.int .i64 i)]) ?_ ?_
   ·have he1:jT t.a t.b→(i=0∨¬ Ze t (r.ts.getD (i - 1) default))→J9 r i=(Zg ⟨r.us,r.ts.take i⟩ t.a t.b t.k).2:=fun z1 z2=>by rw [ht] at z1 z2 ⊢;unfold J9;rw [if_pos ⟨z1,z2⟩]
    have he2:¬ (jT t.a t.b∧(i=0∨¬ Ze t (r.ts.getD (i - 1) default)))→J9 r i=23:=fun z=>by rw [ht] at z;unfold J9;rw [if_neg z]
    have he3:J9 r i=0→(Zg ⟨r.us,r.ts.take i⟩ t.a t.b t.k).1=⟨r.us,r.ts.take (i+1)⟩:=fun z=>by rw [ht];exact qcl (by omega) k2 z
    all_goals (repeat' (first|refine qh rfl ?_|refine qj ?_|(refine qQ 13 ?_;refine vl ?_;refine lB S rfl rfl ?_;refine vl ?_;refine lB S rfl rfl ?_;(refine tO ?_ ?_<;>intro hc)<;>(refine mv ?_;(first|refine off ?_|refine mv ?_);(first|refine off ?_|(first|(refine cS ?_ ?_<;>intro hc)))<;>((first|refine off ?_|refine mv ?_);(first|refine off ?_|(refine vl ?_));(first|refine off ?_|(refine lB S rfl rfl ?_));(first|refine off ?_|refine mv ?_);(first|refine off ?_|(refine sb ?_));(first|refine off ?_|(refine jB S ?_));(first|refine off ?_|(refine jA S ?_));(first|refine off ?_|(refine lB S rfl rfl ?_));(first|(refine off ?_;(refine off ?_)<;>((first|refine off ?_|refine vl ?_);refine vl ?_;refine qf ?_))|skip))))))
    ·all_goals (repeat' (first|(refine qc 14 ?_;refine mv ?_;refine vl ?_;refine lB S rfl rfl ?_;refine vl ?_;refine lB S rfl rfl ?_;refine vl ?_;refine lB S rfl rfl ?_)))
     (refine qo rfl rfl rfl rfl rfl ((qaO (S.front (.there .here)) t.a t.b t.k htl hTS).mono ?_);rintro _ h ⟨rfl,S⟩)<;>(refine mv ?_;refine qf ?_)
     have he:=he1 (by assumption) (.inl (by omega));refine ⟨_,⟨S.pick,he3⟩,?_⟩;rw [he];exact qw
    ·(refine qo rfl rfl rfl rfl rfl ((We S.wf (r.ts.getD ((i:Int) - 1).toNat default) t).mono ?_);rintro _ h ⟨⟨c,rfl,e1,e2⟩,x⟩)<;>(replace S:=S.join0 x;clear x;(first|(first|(refine cS ?_ ?_<;>intro hc)))<;>((refine vl ?_);refine vl ?_;refine qf ?_))
     all_goals rw [show ((i:Int) - 1).toNat=i - 1 by omega] at e1 e2
     all_goals have ec:=qeu e1 e2
     all_goals (repeat' (first|refine qh rfl ?_|refine qj ?_))
     ·all_goals (repeat' (first|(refine qc 14 ?_;refine mv ?_;refine vl ?_;refine lB S rfl rfl ?_;refine vl ?_;refine lB S rfl rfl ?_;refine vl ?_;refine lB S rfl rfl ?_)))
      (refine qo rfl rfl rfl rfl rfl ((qaO (S.front (.there .here)) t.a t.b t.k htl hTS).mono ?_);rintro _ h ⟨rfl,S⟩)<;>(refine mv ?_;refine qf ?_)
      have he:=he1 (by assumption) (.inr (ec.1 (by assumption)));refine ⟨_,⟨S.pick,he3⟩,?_⟩;rw [he];exact qw
     ·have he:=he2 (fun z=>z.2.elim (fun q=>by omega) (fun q=>absurd (ec.2 q) (by assumption)));refine ⟨⟨r.us,r.ts.take i⟩,⟨S.pick,fun q=>by rw [he] at q;cases q⟩,?_⟩;rw [he];exact qw
    ·have he:=he2 (fun z=>absurd z.1 (by assumption));refine ⟨⟨r.us,r.ts.take i⟩,⟨S.pick,fun q=>by rw [he] at q;cases q⟩,?_⟩;rw [he];exact qw
   ·clear S;rintro r' h ⟨S,hr'⟩;all_goals (repeat' (first|refine qg ?_|refine qh rfl ?_|refine qj ?_|(refine qc 15 ?_;refine mv ?_;(first|(refine cS ?_ ?_<;>intro hc))<;>(refine qf ?_))|(refine qQ 16 ?_;refine vl ?_;refine lB S rfl rfl ?_;refine zT S ?_;refine mv ?_;refine ad ?_;(iterate 4 refine mv ?_);refine qf ?_)|(refine qc 17 ?_;refine ad ?_;refine mv ?_;refine qf ?_)))
    ·refine qi ⟨_,rfl,?_⟩;exact .inr ⟨_,_,rfl,⟨hc,.inr ⟨g2,i,by omega,k2,rfl,by rw [hgl]⟩⟩,S.drop⟩
    ·have hz:J9 r i=0:=zF2.1 hc;obtain rfl:=hr' hz;refine ⟨i+1,?_,?_,qw⟩
     ·show r.ts.length - (i+1)<r.ts.length - i;omega
     ·exact ⟨S,by omega,jr k2 hz⟩
  ·refine qi ⟨_,rfl,?_⟩;obtain rfl:i=r.ts.length:=by omega
   rw [zD4] at S;exact .inl ⟨p,rfl,⟨g2,k2⟩,S.pick⟩
end Go.Proofs.Xx
namespace Go.Proofs.Xx
open Go Go.Proofs
theorem JG {us:List Gu} {n:List UInt8}:gat us n=none↔∀ g∈us,g.name≠n:=by
 induction us with
 | nil=>simp [gat]
 | cons x r ih =>
  simp only [gat];by_cases h:x.name=n
  ·simp [h]
  ·simp only [if_neg h,Option.map_eq_none_iff,ih,zE7];constructor
   ·rintro q g (rfl|hg)
    ·exact h
    ·exact q g hg
   ·exact fun q g hg=>q g (.inr hg)
theorem Yh {us:List Gu} {n:List UInt8} {i:Nat} (h:gat us n=some i):i<us.length∧(us.getD i default).name=n∧∀ j,j<i→(us.getD j default).name≠n:=by
 induction us generalizing i with
 | nil=>cases h
 | cons x r ih =>
  simp only [gat] at h;by_cases hx:x.name=n
  ·rw [if_pos hx] at h;cases h
   exact ⟨by simp,hx,fun j hj=>absurd hj (zB7 _)⟩
  ·rw [if_neg hx] at h;cases hr:gat r n with
   | none=>rw [hr] at h;cases h
   | some k =>
    rw [hr] at h;cases h
    obtain ⟨h1,h2,h3⟩:=ih hr;refine ⟨by simp;omega,h2,fun j hj=>?_⟩;cases j with
    | zero=>exact hx
    | succ j=>exact h3 j (by simp only at hj;omega)
theorem qL {α:Type} [Inhabited α] {l:List α} {i:Nat} (h:i<l.length):l.getD i default∈l:=by
 rw [zA2,zA4 h];exact List.getElem_mem h
theorem qR {α:Type} [Inhabited α] {l:List α} {x:α}:x∈l↔∃ i,i<l.length∧l.getD i default=x:=by
 constructor
 ·intro h;obtain ⟨i,hi,rfl⟩:=List.mem_iff_getElem.1 h;exact ⟨i,hi,by rw [zA2,zA4 hi];rfl⟩
 ·rintro ⟨i,hi,rfl⟩;exact qL hi
structure RO (r:Rl):Prop where
 chk:∀ g∈r.us,Qs g=0
 nd:∀ i j,i<j→j<r.us.length→(r.us.getD i default).name≠(r.us.getD j default).name
 l64:r.us.length≤64
 ts:TS r.ts
 tt:∀ t∈r.ts,jT t.a t.b∧(t.k=1∨t.k=2)∧gat r.us t.a≠none∧gat r.us t.b≠none
 l256:r.ts.length≤256
theorem RO.gat {r:Rl} (h:RO r) {i:Nat} (hi:i<r.us.length):gat r.us (r.us.getD i default).name=some i:=by
 cases hq:Xx.gat r.us (r.us.getD i default).name with
 | none=>exact absurd rfl (JG.1 hq _ (qL hi))
 | some j =>
  obtain ⟨h1,h2,h3⟩:=Yh hq;rcases zE6 i j with q|q|q
  ·exact absurd rfl (h3 i q)
  ·rw [q]
  ·exact absurd h2 (h.nd j i q hi)
theorem vN {us:List Gu} {i:Nat} (hi:i<us.length):gE0 us i=0↔Qs (us.getD i default)=0∧(∀ j,j<i→(us.getD j default).name≠(us.getD i default).name)∧i<64:=by
 unfold gE0;have hl:(us.take i).length=i:=by simp;omega
 have hg:Xx.gat (us.take i) (us.getD i default).name=none↔∀ j,j<i→(us.getD j default).name≠(us.getD i default).name:=by
  rw [JG];constructor
  ·intro h j hj;have:=h _ (qL (show j<(us.take i).length by omega));rwa [getD_take hj] at this
  ·intro h g hg;obtain ⟨j,hj,rfl⟩:=qR.1 hg;rw [getD_take (by omega)];exact h j (by omega)
 constructor
 ·intro h;obtain ⟨h1,h2,h3,-⟩:=YR h;exact ⟨h1,hg.1 h2,by simpa [hl] using h3⟩
 ·rintro ⟨h1,h2,h3⟩;rw [vX h1 (hg.2 h2) (by show ¬ 64≤(us.take i).length;omega)]
theorem qaN {ts:List Ti} {a b:List UInt8} (h:jT a b):tied ts a b↔∃ t∈ts,t.a=a∧t.b=b:=by unfold tied;rw [VF h,VG h]
theorem Yt {r:Rl}:VRl r↔RO r:=by
 constructor
 ·rintro ⟨h1,h2⟩;refine ⟨fun g hg=>?_,fun i j hij hj=>((vN hj).1 (h1 j hj)).2.1 i hij,Pm (zA3 _) h1,?_,fun t ht=>?_,pJ (zA3 _) h2⟩
  ·obtain ⟨i,hi,rfl⟩:=qR.1 hg;exact ((vN hi).1 (h1 i hi)).1
  ·have:=(yN (zA3 _) h2).1;rwa [zD4] at this
  ·obtain ⟨i,hi,rfl⟩:=qR.1 ht;obtain ⟨z1,z2,z3⟩:=XY (h2 i hi);obtain ⟨y1,y2,y3,y4,y5,y6,y7⟩:=JS z3;exact ⟨z1,y1,y3,y4⟩
 ·intro h;refine ⟨fun i hi=>(vN hi).2 ⟨h.chk _ (qL hi),fun j hj=>h.nd j i hj hi,by have:=h.l64;omega⟩,fun i hi=>?_⟩;obtain ⟨z1,z2,z3,z4⟩:=h.tt _ (qL hi);have hb:∀ j,j<i→Ze (r.ts.getD j default) (r.ts.getD i default):=fun j hj=>h.ts.lt hj hi;have hz:i=0∨¬ Ze (r.ts.getD i default) (r.ts.getD (i - 1) default):=by
   rcases zF3 i with q|q
   ·exact .inl q
   ·exact .inr fun q2=>Pz _ (Q5 (hb (i - 1) (by omega)) q2)
  unfold J9;rw [if_pos ⟨z1,hz⟩,yJ]
  ·rintro (q|q)
   ·omega
   ·rw [q] at z1;exact zS _ z1
  ·rintro (q|q)
   ·exact z3 q
   ·exact z4 q
  ·rw [qaN z1];rintro ⟨t,ht,e1,e2⟩;obtain ⟨j,hj,rfl⟩:=qR.1 ht;have hl:(r.ts.take i).length=i:=by simp;omega
   replace hj:j<i:=by rw [← hl];exact hj
   rw [getD_take (by omega)] at e1 e2;rcases hb j (by omega) with q|q
   ·rw [e1] at q;exact zS _ q
   ·rw [e2] at q;exact zS _ q.2
  ·have:=h.l256;simp;omega
def num (j:Nat):List UInt8:=[UInt8.ofNat (97+j / 26 % 26),UInt8.ofNat (97+j % 26)]
theorem qe0 {a b:Nat} (ha:a<256) (hb:b<256):UInt8.ofNat a<UInt8.ofNat b↔a<b:=by
 rw [UInt8.lt_iff_toNat_lt];simp [UInt8.toNat_ofNat,Nat.mod_eq_of_lt ha,Nat.mod_eq_of_lt hb]
theorem qf8 {a b:Nat} (ha:a<256) (hb:b<256):UInt8.ofNat a=UInt8.ofNat b↔a=b:=by
 constructor
 ·intro h;have:=congrArg UInt8.toNat h;simpa [UInt8.toNat_ofNat,Nat.mod_eq_of_lt ha,Nat.mod_eq_of_lt hb] using this
 ·rintro rfl;rfl
theorem Wi {i j:Nat} (hi:i<676) (hj:j<676):jT (num i) (num j)↔i<j:=by
 unfold num;rw [Q7,Q7,qe0 (by omega) (by omega),qf8 (by omega) (by omega),qe0 (by omega) (by omega)];constructor
 ·rintro (h|⟨h1,h2|⟨h2,h3⟩⟩)
  ·omega
  ·omega
  ·exact absurd h3 (zS _)
 ·intro h;rcases zA7 (i / 26) (j / 26) with q|q
  ·exact .inl (by omega)
  ·exact .inr ⟨by omega,.inl (by omega)⟩
variable [Flag]
end Go.Proofs.Xx
namespace Go.Proofs.Xx
open Go Go.Proofs
structure Ru where
 k:Int
 w:Int
 a:List UInt8
 b:List UInt8
 t:List UInt8
 n:Int
instance:Inhabited Ru:=⟨⟨0,0,[],[],[],0⟩⟩
def JL (r:Ru):List Value:=[.int .u8 r.k,.int .i64 r.w,str r.a,str r.b,str r.t,.int .i64 r.n]
abbrev ruV (r:Ru):Value:=.agg (JL r).toArray
structure Pb where
 tabs:List Tab
 us:List Gu
 ts:List Ti
 cl:List Int
 ru:List Ru
abbrev Pb.rl (p:Pb):Rl:=⟨p.us,p.ts⟩
structure PbV where
 vt:SlV
 vg:SlV
 vi:SlV
 vc:SlV
 vr:SlV
 gs:List Zf
abbrev PbV.cs (v:PbV):List Value:=[v.vt.val,v.vg.val,v.vi.val,v.vc.val,v.vr.val]
def PbV.val (v:PbV):Value:=.agg #[v.vt.val,v.vg.val,v.vi.val,v.vc.val,v.vr.val]
abbrev PbV.rl (v:PbV):RlV:=⟨v.vg,v.vi,v.gs⟩
structure PbOk (h:AH) (v:PbV) (p:Pb):Prop where
 tab:HallR h v.vt.val p.tabs
 rol:RlOk h v.rl p.rl
 cl:qY h v.vc.val 1 eI p.cl
 ru:qY h v.vr.val 6 JL p.ru
 lc:p.cl.length≤1000000
 lr:p.ru.length≤1000000
theorem PbOk.ext {h h':AH} {v:PbV} {p:Pb} (a:PbOk h v p) (w:WfH h) (x:Ext h h'):PbOk h' v p:=⟨a.tab.ext w x,a.rol.ext w x,a.cl.ext w x,a.ru.ext w x,a.lc,a.lr⟩
structure Kd where
 a:Int
 b:Bool
 t:Int
 n:Bool
 lo:Int
 seat:Bool
instance:Inhabited Kd:=⟨⟨0,false,0,false,0,false⟩⟩
def kdL:List Kd:=[⟨103,true,0,true,0,false⟩,⟨103,true,0,false,0,false⟩,⟨103,true,0,false,0,false⟩,⟨103,true,0,true,1,false⟩,⟨103,true,0,false,0,false⟩,
 ⟨103,false,116,false,0,false⟩,⟨103,false,116,true,0,true⟩,⟨0,false,101,false,0,false⟩,⟨0,false,101,false,0,false⟩,⟨101,false,0,false,0,false⟩,
 ⟨0,false,101,false,0,false⟩,⟨0,false,101,false,0,false⟩,⟨0,false,101,false,0,false⟩,⟨0,false,101,false,0,false⟩,⟨0,false,101,true,0,false⟩,
 ⟨0,false,101,true,0,false⟩,⟨100,false,116,false,0,false⟩,⟨0,false,101,false,0,false⟩]
def Qr (k:Int):Kd:=kdL.getD (k.toNat - 1) default
def gI (us:List Gu) (n:List UInt8):Int:=match gat us n with|some i=>i|none=>-1
theorem Q3 {us:List Gu} {n:List UInt8}:gI us n<0↔gat us n=none:=by
 unfold gI;cases gat us n with
 | none=>simp
 | some i=>simp
def QI (l:List Tab) (n:List UInt8):Prop:=∃ j,j<l.length∧(tb l j).name=n
def tix (l:List Tab) (n:List UInt8):Nat:=l.findIdx fun t=>decide (t.name=n)
theorem VM {l:List Tab} {n:List UInt8} {k:Nat} (hk:k<l.length) (h1:(tb l k).name=n) (h2:∀ j,j<k→¬ (tb l j).name=n):tix l n=k:=by
 unfold tix;rw [List.findIdx_eq hk];unfold tb at h1 h2;refine ⟨?_,fun j hj=>?_⟩
 ·rw [zA2,zA4 hk] at h1;simpa using h1
 ·have:=h2 j hj;rw [zA2,zA4 (by omega)] at this;simpa using this
def Kd.plain (k:Kd) (r:Ru):Prop:=(k.a≠0∨r.a=[])∧(k.b=true∨r.b=[])∧(k.t≠0∨r.t=[])∧(k.n=true∨r.n=0)
def Kd.unk (k:Kd) (us:List Gu) (r:Ru):Prop:=(k.a=103∧gat us r.a=none)∨(k.a=101∧r.a≠[]∧gat us r.a=none)∨(k.b=true∧gat us r.b=none)
def Kd.ut (k:Kd) (l:List Tab) (r:Ru):Prop:=(k.t=116∧¬ QI l r.t)∨(k.t=101∧r.t≠[]∧¬ QI l r.t)
def Kd.most (k:Kd) (l:List Tab) (r:Ru):Int:=if k.seat=true then zl (tb l (tix l r.t)) - 1 else 24
open Classical in
noncomputable def Kd.err (k:Kd) (p:Pb) (r:Ru):Int :=
 if r.w<0∨1000<r.w then 41 else if ¬ k.plain r then 43 else if k.unk p.us r then 6 else if k.a=100∧¬ Qg r.a then 4 else if k.b=true∧r.a=r.b then 5 else
 if k.ut p.tabs r then 6 else if k.n=true∧(r.n<k.lo∨k.most p.tabs r<r.n) then 42 else 0
noncomputable def xX (p:Pb) (r:Ru):Int:=if 1≤r.k∧r.k≤18 then (Qr r.k).err p r else 40
structure PO (p:Pb):Prop where
 tabs:ValidL p.tabs
 rl:RO p.rl
 cl:(p.cl.length=0∨p.cl.length=p.us.length)∧∀ c∈p.cl,0≤c∧c<64
 room:(p.us.length:Int)≤sumT p.tabs p.tabs.length
 ru:∀ r∈p.ru,xX p r=0
 lr:p.ru.length≤64
def BasP (p:Pb) (i e:Int):Prop :=
 (e≠0∧ChkAll p.tabs i e)∨(ValidL p.tabs∧Bad p.rl i e)∨(ValidL p.tabs∧RO p.rl∧((¬ ((p.cl.length=0∨p.cl.length=p.us.length)∧∀ c∈p.cl,0≤c∧c<64)∧i=0∧e=44) ∨
  (((p.cl.length=0∨p.cl.length=p.us.length)∧∀ c∈p.cl,0≤c∧c<64)∧((sumT p.tabs p.tabs.length<p.us.length∧i=0∧e=45)∨((p.us.length:Int)≤sumT p.tabs p.tabs.length∧i=0∧e=0)))))
structure BO (p:Pb):Prop where
 tabs:ValidL p.tabs
 rl:RO p.rl
 cl:(p.cl.length=0∨p.cl.length=p.us.length)∧∀ c∈p.cl,0≤c∧c<64
 room:(p.us.length:Int)≤sumT p.tabs p.tabs.length
theorem BasP.bo {p:Pb} {i:Int} (b:BasP p i 0):BO p∧i=0:=by
 rcases b with ⟨h,-⟩|⟨-,h,-⟩|⟨h1,h2,⟨-,-,h⟩|⟨h3,⟨-,-,h⟩|⟨h4,h5,-⟩⟩⟩
 ·exact absurd rfl h
 ·exact absurd rfl h
 ·cases h
 ·cases h
 ·exact ⟨⟨h1,h2,h3,h4⟩,h5⟩
theorem BO.basP {p:Pb} (h:BO p) {i e:Int} (b:BasP p i e):i=0∧e=0:=by
 rcases b with ⟨h1,h2⟩|⟨-,h1,h2⟩|⟨h1,h2,⟨h3,-,-⟩|⟨h3,⟨h4,-,-⟩|⟨h4,h5,h6⟩⟩⟩
 ·exact absurd (h2.valid.2 h.tabs) h1
 ·have hv:=Yt.2 h.rl;rcases h2 with ⟨j,h3,h4,h5,-⟩|⟨h0,j,h3,h4,h5,-⟩
  ·exact absurd (h5.symm.trans (hv.1 j h3)) h1
  ·exact absurd (h5.symm.trans (hv.2 j h3)) h1
 ·exact absurd h.cl h3
 ·have:=h.room;omega
 ·exact ⟨h5,h6⟩
def CkP (p:Pb) (i e:Int):Prop :=
 (e≠0∧BasP p i e)∨(BO p∧((∃ j:Nat,j<p.ru.length∧i=j∧j≤64∧(∀ q,q<j→xX p (p.ru.getD q default)=0)∧((xX p (p.ru.getD j default)≠0∧e=xX p (p.ru.getD j default))∨(xX p (p.ru.getD j default)=0∧j=64∧e=7))) ∨
  (p.ru.length≤64∧(∀ q,q<p.ru.length→xX p (p.ru.getD q default)=0)∧i=0∧e=0)))
theorem PO.bo {p:Pb} (h:PO p):BO p:=⟨h.tabs,h.rl,h.cl,h.room⟩
theorem CkP.po {p:Pb} {i e:Int} (c:CkP p i e):e=0↔PO p:=by
 rcases c with ⟨h1,h2⟩|⟨h1,⟨j,h2,h3,h4,h5,⟨h6,h7⟩|⟨h6,h7,h8⟩⟩|⟨h2,h3,h4,h5⟩⟩
 ·exact ⟨fun h=>absurd h h1,fun h=>(h.bo.basP h2).2⟩
 ·exact ⟨fun h=>absurd (h7.symm.trans h) h6,fun h=>absurd (h.ru _ (qL h2)) h6⟩
 ·exact ⟨fun h=>by omega,fun h=>by have:=h.lr;omega⟩
 ·refine ⟨fun _=>⟨h1.tabs,h1.rl,h1.cl,h1.room,fun r hr=>?_,h2⟩,fun _=>h5⟩;obtain ⟨q,hq,rfl⟩:=qR.1 hr;exact h3 q hq
structure PartOk (p:Pb) (q:List Int):Prop where
 len:q.length=p.us.length
 rng:∀ x∈q,-1≤x∧x<sumT p.tabs p.tabs.length
 nd:∀ i j,i<j→j<q.length→0≤q.getD i default→q.getD i default≠q.getD j default
def ptX (l:List Tab) (t:Int):Int:=if t<0 then 0 else (tb l t.toNat).X
def ptY (l:List Tab) (t:Int):Int:=if t<0 then 0 else (tb l t.toNat).Y
def stp (l:List Tab) (a b:Int):Int:=max (ptX l a - ptX l b) (ptX l b - ptX l a)+max (ptY l a - ptY l b) (ptY l b - ptY l a)
def e16 (x:Nat):List Value:=[.int .u16 x]
def MdG (g:Gu) (i:Nat):Prop:=g.name=num (25*i)∧X4 g.rank∧X4 g.court∧X4 g.diet∧(0≤g.since∧g.since≤9999)∧(0≤g.side∧g.side≤2)
def MdT (l:List (List UInt8)) (k:Nat):Prop:=l.length≤k∧(∀ j,j<l.length→∃ m,m<k∧l.getD j default=num m)∧∀ j,j+1<l.length→jT (l.getD j default) (l.getD (j+1) default)
theorem MdT.next {l:List (List UInt8)} {k:Nat} (h:MdT l k):MdT l (k+1):=⟨by have:=h.1;omega,fun j hj=>by obtain ⟨m,h1,h2⟩:=h.2.1 j hj;exact ⟨m,by omega,h2⟩,h.2.2⟩
theorem MdT.app {l:List (List UInt8)} {k:Nat} (h:MdT l k) (hk:k<4):MdT (l ++ [num k]) (k+1):=by
 refine ⟨by simp;exact h.1,fun j hj=>?_,fun j hj=>?_⟩
 ·simp at hj;rcases zA7 j l.length with q|q
  ·rw [gA1 q];exact h.next.2.1 j q
  ·obtain rfl:j=l.length:=by omega
   rw [gA2 (zA3 _),zG5];exact ⟨k,by omega,rfl⟩
 ·simp at hj;rw [gA1 (show j<l.length by omega)];rcases zA7 (j+1) l.length with q|q
  ·rw [gA1 q];exact h.2.2 j q
  ·rw [gA2 q,show j+1 - l.length=0 by omega];obtain ⟨m,h1,h2⟩:=h.2.1 j (by omega);rw [h2];exact (Wi (by omega) (by omega)).2 h1
abbrev MdR (q q4:Nat) (gs:List Zf) (vg:SlV):List Rs:=[KP gs,.sl vg.val 125 9 eG gs,.blk q [vg.val,.slice none 0 0] 151,.blk q4 [.slice none 0 0,.slice none 0 0] 151]
abbrev MdI (h0:AH) (q q4:Nat) (la:List Nat) (gs:List Zf) (vg:SlV) (h:AH):Prop:=Hs h0 h (MdR q q4 gs vg)∧gs.length≤12∧gs.length≤la.length∧∀ i,i<gs.length→MdG (gs.getD i default).toGu i∧MdT (gs.getD i default).tg 4
abbrev MdJ (h0:AH) (q q4:Nat) (gs:List Zf) (vg:SlV) (k:Nat) (b:Nat) (g:Zf) (h:AH):Prop:=Hs h0 h (.blk b (eG g) 125 :: .sl g.tv.val 9 1 eS g.tg :: MdR q q4 gs vg)∧MdG g.toGu gs.length∧MdT g.tg k
def TI (us:List Gu) (ts:List Ti) (i k:Nat):Prop:=TS ts∧(∀ t∈ts,jT t.a t.b∧(t.k=1∨t.k=2)∧gat us t.a≠none∧gat us t.b≠none)∧(∀ t∈ts,jT t.a (num i)∨(t.a=num i∧jT t.b (num k)))∧ts.length≤13*((i+24) / 25)+(if i % 25=0 then (k+24) / 25 else 0)
def TIo (us:List Gu) (ts:List Ti) (i:Nat):Prop:=TS ts∧(∀ t∈ts,jT t.a t.b∧(t.k=1∨t.k=2)∧gat us t.a≠none∧gat us t.b≠none)∧(∀ t∈ts,jT t.a (num i))∧ts.length≤13*((i+24) / 25)
theorem TI.out {us:List Gu} {ts:List Ti} {i k:Nat} (h:TI us ts i k) (hi:i<312) (hk:k≤312):TIo us ts (i+1):=by
 refine ⟨h.1,h.2.1,fun t ht=>?_,?_⟩
 ·have:=(Wi (i:=i) (j:=i+1) (by omega) (by omega)).2 (by omega);rcases h.2.2.1 t ht with q|q
  ·exact Q4 q this
  ·rw [q.1];exact this
 ·have:=h.2.2.2;split at this<;>omega
theorem TI.next {us:List Gu} {ts:List Ti} {i k:Nat} (h:TI us ts i k) (hk:k<312):TI us ts i (k+1):=by
 refine ⟨h.1,h.2.1,fun t ht=>?_,?_⟩
 ·rcases h.2.2.1 t ht with q|q
  ·exact .inl q
  ·exact .inr ⟨q.1,Q4 q.2 ((Wi (by omega) (by omega)).2 (by omega))⟩
 ·have:=h.2.2.2;split at this<;>split<;>omega
theorem TI.app {us:List Gu} {ts:List Ti} {i k:Nat} {z:Int} (h:TI us ts i k) (hik:i<k) (hk:k<312) (hz:z=1∨z=2) (hi2:i % 25=0) (hk2:k % 25=0) (g1:gat us (num i)≠none) (g2:gat us (num k)≠none):TI us (ts ++ [⟨num i,num k,z⟩]) i (k+1):=by
 refine ⟨h.1.app fun j hj=>?_,fun t ht=>?_,fun t ht=>?_,?_⟩
 ·exact h.2.2.1 _ (qL hj)
 ·rcases zB8.1 ht with q|q
  ·exact h.2.1 t q
  ·obtain rfl:=zB5.1 q;exact ⟨(Wi (by omega) (by omega)).2 hik,hz,g1,g2⟩
 ·rcases zB8.1 ht with q|q
  ·exact (h.next hk).2.2.1 t q
  ·obtain rfl:=zB5.1 q;exact .inr ⟨rfl,(Wi (by omega) (by omega)).2 (by omega)⟩
 ·have:=h.2.2.2;rw [if_pos hi2] at this ⊢;simp;omega
abbrev MdQ (q q4:Nat) (gs:List Zf) (vg:SlV) (ts:List Ti) (vt:SlV):List Rs:=[.sl vg.val 125 9 eG gs,.blk q4 [.slice none 0 0,.slice none 0 0] 151,KP gs,.blk q [vg.val,vt.val] 151,.sl vt.val 174 3 Qa ts]
variable [Flag]
end Go.Proofs.Xx
namespace Go.Proofs.Xx
open Go Go.Proofs
def VK (k:Nat):List UInt8:=[116,UInt8.ofNat (97+k % 26)]
theorem PH {i j:Nat} (hi:i<26) (hj:j<26) (h:VK i=VK j):i=j:=by
 unfold VK at h;have h1:=congrArg UInt8.toNat (List.cons.inj (List.cons.inj h).2).1;rw [UInt8.toNat_ofNat',UInt8.toNat_ofNat',Nat.mod_eq_of_lt (by omega),Nat.mod_eq_of_lt (by omega)] at h1;omega
def tsz (s a b:Int):Int:=if s=2 then 2*a+b else if s=3 then a+2*b else a
structure qgy (i x:Nat) (t:Tab):Prop where
 name:t.name=VK i
 sh:1≤t.shape∧t.shape≤4
 X:t.X=x
 Y:t.Y=255 - x
 A:1≤t.A∧t.A≤6
 B:0≤t.B∧t.B≤6
 sz:zl t=tsz t.shape t.A t.B∧1≤zl t
def qgA (s A B:Int):Prop:=(1≤A∧A≤6)∧(0≤B∧B≤6)∧1≤je s A B∧je s A B=tsz s A B
abbrev tnM (i m:Nat) (A B:Int) (os:SlV) (l:List Int):Tab:=⟨VK i,1+(m:Int) % 4,A,B,os,l,m,255 - m⟩
theorem qfy {k:Kd} {p:Pb} {r:Ru} (h1:0≤r.w∧r.w≤1000) (h2:k.plain r) (h3:¬ k.unk p.us r) (h4:¬ (k.a=100∧¬ Qg r.a)) (h5:¬ (k.b=true∧r.a=r.b)) (h6:¬ k.ut p.tabs r) (h7:¬ (k.n=true∧(r.n<k.lo∨k.most p.tabs r<r.n))):k.err p r=0:=by
 unfold Kd.err;rw [if_neg (by omega),if_neg (fun q=>q h2),if_neg h3,if_neg h4,if_neg h5,if_neg h6,if_neg h7]
theorem Wy {l m:List Tab} {n:List UInt8} (h:QI l n):QI (l ++ m) n∧tix (l ++ m) n=tix l n∧tb (l ++ m) (tix l n)=tb l (tix l n):=by
 obtain ⟨j,hj,hn⟩:=h;have hlt:tix l n<l.length:=by
  unfold tix;refine List.findIdx_lt_length.2 ⟨tb l j,qL hj,by simpa using hn⟩
 refine ⟨⟨j,by simp;omega,by unfold tb;rw [gA1 hj];exact hn⟩,?_,by unfold tb;rw [gA1 hlt]⟩;unfold tix at hlt ⊢;rw [List.findIdx_append,if_pos hlt]
theorem qcu {p p':Pb} {r:Ru} {m:List Tab} (hu:p'.us=p.us) (ht:p'.tabs=p.tabs ++ m) (h:xX p r=0):xX p' r=0:=by
 unfold xX at h ⊢;split at h
 rotate_left
 ·cases h
 rename_i hk
 rw [if_pos hk];have hks:(Qr r.k).seat=true→(Qr r.k).t=116:=by
  have:∀ i,i<18→(kdL.getD i default).seat=true→(kdL.getD i default).t=116:=by decide
  exact this _ (by omega)
 generalize Qr r.k=k at h hks ⊢
 unfold Kd.err at h;split at h;· cases h
 split at h;· cases h
 split at h;· cases h
 split at h;· cases h
 split at h;· cases h
 split at h;· cases h
 split at h;· cases h
 rename_i h1 h2 h3 h4 h5 h6 h7
 refine qfy (by omega) (zF2.1 h2) (by rw [hu];exact h3) h4 h5 ?_ ?_
 ·rintro (⟨q1,q2⟩|⟨q1,q2,q3⟩)
  ·exact h6 (.inl ⟨q1,fun q=>q2 (by rw [ht];exact (Wy q).1)⟩)
  ·exact h6 (.inr ⟨q1,q2,fun q=>q3 (by rw [ht];exact (Wy q).1)⟩)
 ·rintro ⟨q1,q2⟩;refine h7 ⟨q1,q2.imp id fun q=>?_⟩;unfold Kd.most at q ⊢;split at q
  ·rename_i hs
   rw [if_pos hs];by_cases hT:QI p.tabs r.t
   ·obtain ⟨-,e1,e2⟩:=Wy (m:=m) hT;rw [ht,e1,e2] at q;exact q
   ·exact absurd (.inl ⟨hks hs,hT⟩) h6
  ·rename_i hs
   rw [if_neg hs];exact q
def e32 (x:Nat):List Value:=[.int .u32 x]
def OpOk (l:List Tab) (h:AH) (fp:Fp):Prop:=∀ t∈l,(Rs.rd t.ov 1 eI t.opn).ok h fp
abbrev opR (l:List Tab):Rs:=.any (OpOk l)
theorem OpOk.rd {h:AH} {fp:Fp} {gs:List Tab} (k:OpOk gs h fp) {i:Nat} (hi:i<gs.length):qY h (tb gs i).ov 1 eI (tb gs i).opn:=by
 have q:=k _ (List.getElem_mem hi);show qY h (gs.getD i default).ov 1 eI (gs.getD i default).opn
 rw [show gs.getD i default=gs[i] by rw [zA2,zA4 hi];rfl];rcases q with ⟨q1,q2⟩|⟨b,o,cap,cc,e,s,r,q1,q2,q3,q4⟩
 ·exact .inl ⟨q1,by rw [q2];rfl,by rw [q2];rfl⟩
 ·exact .inr ⟨b,o,cap,cc,e,s,r,q1,q2,q4⟩
structure NuV where
 vt:SlV
 vg:SlV
 vi:SlV
 vr:SlV
abbrev NuV.cs (v:NuV):List Value:=[v.vt.val,v.vg.val,v.vi.val,v.vr.val]
structure NuR (h:AH) (v:NuV) (a b c d:List Nat):Prop where
 ra:qY h v.vt.val 1 eU a
 rb:qY h v.vg.val 1 e16 b
 cap:Qu v.vg.val
 rc:qY h v.vi.val 1 eU c
 rd:qY h v.vr.val 1 e32 d
 la:a.length≤9223372036854775807
 lb:b.length≤9223372036854775807
 lc:c.length≤9223372036854775807
 ld:d.length≤9223372036854775807
 ha:∀ i,i<a.length→a.getD i default<256
 hb:∀ i,i<b.length→b.getD i default<65536
 hc:∀ i,i<c.length→c.getD i default<256
 hd:∀ i,i<d.length→d.getD i default<4294967296
abbrev PbR (v:PbV) (p:Pb):List Rs:=[.sl v.vt.val 84 7 eT p.tabs,.sl v.vg.val 125 9 eG v.gs,.sl v.vi.val 174 3 Qa p.ts,.sl v.vc.val 3 1 eI p.cl,.sl v.vr.val 155 6 JL p.ru,KP v.gs,opR p.tabs]
def TabsM (l:List Tab):Prop:=∀ j,j<l.length→(∃ m,m<256∧qgy j m (tb l j))∧chk (tb l j)=0∧(tb l j).opn.length≤24
theorem TabsM.valid {l:List Tab} (h:TabsM l) (hl:l.length≤16):ValidL l:=⟨hl,fun j hj=>⟨(h j hj).2.1,fun ⟨i,hi,he⟩=>by
 obtain ⟨⟨m,-,h1⟩,-⟩:=h i (by omega);obtain ⟨⟨m',-,h2⟩,-⟩:=h j hj;rw [h1.name,h2.name] at he;have:=PH (by omega) (by omega) he;omega⟩⟩
theorem qaQ {l:List Tab} {t:Tab} (n:Nat):n≤l.length→sumT (l ++ [t]) n=sumT l n:=by
 induction n with
 | zero=>intro _;rfl
 | succ n ih =>
  intro h;have e:tb (l ++ [t]) n=tb l n:=by unfold tb;rw [gA1 (show n<l.length by omega)]
  simp only [sumT,ih (by omega),e]
section
variable {P:Program} {X:Extern} {sz:Nat} {L L':Ks} {h h0:AH} {rs:List Rs} {ops:Array Oper} {os:List Oper} {o:Oper} {R:Ks→AH→Prop}
end
def xq (k:Nat):List UInt8:=[114,UInt8.ofNat (97+k)]
theorem P6 {k:Nat} (hk:k<26):Qg (xq k):=by
 refine ⟨by simp [xq],by simp [xq],fun i hi=>?_⟩;have hi:i<2:=by simpa [xq] using hi
 rcases (show i=0∨i=1 by omega) with rfl|rfl
 ·show QO 114
  unfold QO;decide
 ·show QO (UInt8.ofNat (97+k))
  unfold QO;rw [UInt8.toNat_ofNat',Nat.mod_eq_of_lt (by omega)];omega
theorem qa9 {i j:Nat} (hi:i<26) (hj:j<26) (h:xq i=xq j):i=j:=by
 unfold xq at h;have h1:=congrArg UInt8.toNat (List.cons.inj (List.cons.inj h).2).1;rw [UInt8.toNat_ofNat',UInt8.toNat_ofNat',Nat.mod_eq_of_lt (by omega),Nat.mod_eq_of_lt (by omega)] at h1;omega
theorem P5 {i j:Nat}:xq i≠VK j:=fun h=>by
 have h1:=congrArg UInt8.toNat (List.cons.inj h).1;revert h1;decide
def rowT (k x:Nat):Tab:=⟨xq k,4,1+(x:Int) % 3,0,⟨none,0,0⟩,[],(x:Int) / 3 % 50,(x:Int) / 150 % 50⟩
theorem qa8 {k x:Nat} (hk:k<26):chk (rowT k x)=0:=by
 have hs:zl (rowT k x)=1+(x:Int) % 3:=by
  show Z8 (1+(x:Int) % 3) 0=_
  unfold Z8;rw [if_pos (by omega)]
 unfold chk;rw [if_neg (fun q=>q (P6 hk)),if_neg (by rw [hs];omega),if_neg (fun q=>q fun i hi=>absurd hi (zB7 _)),if_neg];exact fun q=>q ⟨by show 0≤(x:Int) / 3 % 50;omega,by show (x:Int) / 3 % 50≤1000;omega,by show 0≤(x:Int) / 150 % 50;omega,by show (x:Int) / 150 % 50≤1000;omega⟩
def NmI (l:List Tab) (i:Nat):Prop:=∀ j,j<l.length→((∃ k,(tb l j).name=VK k)∨∃ k,k<i∧(tb l j).name=xq k)∧(tb l j).opn.length≤24
theorem PO.row {p:Pb} {i x:Nat} (h:PO p) (hn:NmI p.tabs i) (hi:i<6) (hl:p.tabs.length≤15):PO { p with tabs:=p.tabs ++ [rowT i x] }∧NmI (p.tabs ++ [rowT i x]) (i+1):=by
 have e1:∀ j,j<p.tabs.length→tb (p.tabs ++ [rowT i x]) j=tb p.tabs j:=fun j hj=>by unfold tb;rw [gA1 hj]
 have e2:tb (p.tabs ++ [rowT i x]) p.tabs.length=rowT i x:=by unfold tb;rw [gA2 (zA3 _),zG5];rfl
 have hlen:(p.tabs ++ [rowT i x]).length=p.tabs.length+1:=by simp
 have hsz:=QH (rowT i x);refine ⟨⟨⟨by rw [hlen];omega,fun j hj=>?_⟩,h.rl,h.cl,?_,fun r hr=>qcu (p:=p) rfl rfl (h.ru r hr),h.lr⟩,fun j hj=>?_⟩
 ·rcases zA7 j p.tabs.length with q|q
  ·have g:=h.tabs.2 j q;refine ⟨by rw [e1 j q];exact g.1,fun ⟨m,hm,he⟩=>g.2 ⟨m,hm,by rw [e1 m (by omega),e1 j q] at he;exact he⟩⟩
  ·have hj:j=p.tabs.length:=by rw [hlen] at hj;omega
   subst hj;refine ⟨by rw [e2];exact qa8 (by omega),fun ⟨m,hm,he⟩=>?_⟩;rw [e1 m hm,e2] at he;rcases (hn m hm).1 with ⟨k,hk⟩|⟨k,hk,hk2⟩
   ·exact P5 (he.symm.trans hk)
   ·have:=qa9 (by omega) (by omega) (hk2.symm.trans he);omega
 ·have:=h.room;show (p.us.length:Int)≤sumT (p.tabs ++ [rowT i x]) (p.tabs ++ [rowT i x]).length
  rw [hlen];show _≤sumT (p.tabs ++ [rowT i x]) p.tabs.length+zl (tb (p.tabs ++ [rowT i x]) p.tabs.length)
  rw [qaQ _ (zA3 _),e2];omega
 ·rcases zA7 j p.tabs.length with q|q
  ·rw [e1 j q];exact ⟨(hn j q).1.imp id fun ⟨k,h1,h2⟩=>⟨k,by omega,h2⟩,(hn j q).2⟩
  ·have hj:j=p.tabs.length:=by rw [hlen] at hj;omega
   rw [hj,e2];exact ⟨.inr ⟨i,by omega,rfl⟩,zB0 _⟩
theorem NuR.ext {h h':AH} {v:NuV} {a b c d:List Nat} (H:NuR h v a b c d) (w:WfH h) (x:Ext h h'):NuR h' v a b c d:=⟨H.ra.ext w x,H.rb.ext w x,H.cap,H.rc.ext w x,H.rd.ext w x,H.la,H.lb,H.lc,H.ld,H.ha,H.hb,H.hc,H.hd⟩
structure SeI (N:Nat) (q:List Int) (tk:List Bool):Prop where
 tl:tk.length=N
 rng:∀ x∈q,-1≤x∧x<N
 nd:∀ i j,i<j→j<q.length→0≤q.getD i default→q.getD i default≠q.getD j default
 fr:∀ k,k<N→tk.getD k default=false→(k:Int) ∉ q
theorem SeI.none {N:Nat} {q:List Int} {tk:List Bool} (h:SeI N q tk):SeI N (q ++ [-1]) tk:=by
 refine ⟨h.tl,fun x hx=>?_,fun i j hij hj h0=>?_,fun k hk ht hx=>?_⟩
 ·rcases zB8.1 hx with q|q
  ·exact h.rng x q
  ·obtain rfl:=zB5.1 q;omega
 ·simp at hj;rw [gA1 (show i<q.length by omega)] at h0 ⊢;rcases zA7 j q.length with r|r
  ·rw [gA1 r];exact h.nd i j hij r h0
  ·rw [gA2 r,show j - q.length=0 by omega];show q.getD i default≠-1
   omega
 ·rcases zB8.1 hx with q|q
  ·exact h.fr k hk ht q
  ·have:=zB5.1 q;omega
theorem SeI.some {N:Nat} {q:List Int} {tk:List Bool} (h:SeI N q tk) {s:Nat} (hs:s<N) (hf:tk.getD s default=false):SeI N (q ++ [(s:Int)]) (tk.set s true):=by
 have hn:=h.fr s hs hf;refine ⟨by simp [h.tl],fun x hx=>?_,fun i j hij hj h0=>?_,fun k hk ht hx=>?_⟩
 ·rcases zB8.1 hx with q|q
  ·exact h.rng x q
  ·obtain rfl:=zB5.1 q;omega
 ·simp at hj;rw [gA1 (show i<q.length by omega)] at h0 ⊢;rcases zA7 j q.length with r|r
  ·rw [gA1 r];exact h.nd i j hij r h0
  ·rw [gA2 r,show j - q.length=0 by omega];show q.getD i default≠(s:Int)
   intro e;exact hn (e ▸ qL (show i<q.length by omega))
 ·rw [zA2,List.getElem?_set] at ht;by_cases e:s=k
  ·rw [if_pos e,if_pos (by rw [h.tl];exact hs)] at ht;cases ht
  ·rw [if_neg e,← zA2] at ht;rcases zB8.1 hx with q|q
   ·exact h.fr k hk ht q
   ·have:=zB5.1 q;omega
theorem qch {h0:AH} (w:WfH h0) (g:Zf) (nm:List UInt8) (b:Nat) (hb:h0.get b=some (.cells [str nm] 9 none false)):Fn Tryz.prog Xh 233 [gV g,.pointer (some ⟨b,0,none⟩)] h0 (fun v h'=>qI v (g.name=nm)∧Hs h0 h' []):=by
 have S:=Hs.start w;refine qF (by first|rfl) Tryz.func233 rfl rfl ?_;all_goals (repeat' (first|refine qg ?_|(refine qc 0 ?_;(refine bx S ?_;clear S;intro b h S);refine mv ?_;refine qf ?_)|(refine qc 1 ?_;refine vl ?_;refine lB S rfl rfl ?_;refine lH S ?_;(refine tS ?_ ?_<;>intro hc)<;>(refine mv ?_;refine qf ?_))))
 all_goals (refine qi ⟨_,rfl,?_⟩)
 all_goals (refine ⟨?_,S.drop⟩;unfold qI)
 ·exact .inl ⟨rfl,hc⟩
 ·exact .inr ⟨rfl,hc⟩
theorem qcL {h0:AH} (w:WfH h0) (v:Value) (l:List Zf) (g:Nat) (cap:List Value) (p:Nat→Prop) (hr:qY h0 v 9 eG l) (hl:l.length≤9223372036854775807)
 (hf:∀ i h,i<l.length→Hs h0 h []→Fn Tryz.prog Xh g (gV (l.getD i default) :: cap) h (fun v h'=>qI v (p i)∧Hs h h' [])) :
 Fn Tryz.prog Xh 232 [v,.func (.func g) #[] cap.toArray] h0 (fun r h'=>Kw r p l.length∧Hs h0 h' []):=by
 have S:=Hs.start w;refine qF (by first|rfl) Tryz.func232 rfl rfl ?_;all_goals (repeat' (first|refine qg ?_|refine ql ?_|(refine qc 0 ?_;refine mv ?_;refine qf ?_)|(refine qc 1 ?_;refine mv ?_;refine zT S ?_;refine mv ?_;refine qf ?_)))
 refine qG (σ:=Nat) (fun i h'=>Hs h0 h' []∧i≤l.length∧∀ j,j<i→¬ p j) (fun i=>l.length - i) (fun i=>[(0,v),(1,.func (.func g) #[] cap.toArray),(7,.int .i64 l.length),(8,.int .i64 i)]) 0 qw ?_ ?_
 ·exact ⟨S,zB0 _,fun j hj=>absurd hj (zB7 _)⟩
 clear S;rintro i h ⟨S,h1,h2⟩;all_goals (repeat' (first|refine qg ?_|refine qh rfl ?_|refine qj ?_|refine qx ?_|refine ql ?_|(refine qc 2 ?_;(first|(refine cS ?_ ?_<;>intro hc))<;>(refine qf ?_))|(refine qc 3 ?_;refine mv ?_;refine mv ?_;refine qf ?_)|(refine qc 4 ?_;(iterate 3 refine mv ?_);refine jB S ?_;refine jA S ?_)|(refine qc 7 ?_;refine mv ?_;refine qf ?_)))
 ·(refine jX rfl rfl rfl rfl ((hf i _ (by omega) S).mono ?_);rintro _ h ⟨⟨rfl,hq⟩|⟨rfl,hq⟩,x⟩)<;>(replace S:=S.join0 x;clear x;refine qf ?_)
  all_goals (repeat' (first|refine qg ?_|refine qh rfl ?_|refine qj ?_|(refine qc 5 ?_;refine mv ?_;refine mv ?_;refine qf ?_)|(refine qc 6 ?_;refine ad ?_;refine mv ?_;refine qf ?_)))
  ·refine qi ⟨_,rfl,?_⟩;exact ⟨.inl ⟨i,by omega,rfl,hq,h2⟩,S⟩
  ·refine ⟨i+1,?_,?_,qw⟩
   ·show l.length - (i+1)<l.length - i;omega
   ·exact ⟨S,by omega,jr h2 hq⟩
 ·refine qi ⟨_,rfl,?_⟩;exact ⟨.inr ⟨rfl,fun j hj=>h2 j (by omega)⟩,S⟩
theorem qcM {gs:List Zf} {us:List Gu} (hu:gs.map (·.toGu)=us) (nm:List UInt8) {v:Value} (h:Kw v (fun i=>(gs.getD i default).name=nm) gs.length):v = .int .i64 (gI us nm):=by
 have e:∀ i,i<gs.length→(us.getD i default).name=(gs.getD i default).name:=fun i hi=>by
  rw [← hu,zn hi]
 have hl:gs.length=us.length:=by rw [← hu];simp
 unfold gI;rcases h with ⟨i,hi,rfl,h1,h2⟩|⟨rfl,h2⟩
 ·cases hq:gat us nm with
  | none=>exact absurd ((e i hi).trans h1) (JG.1 hq _ (qL (by omega)))
  | some j =>
   obtain ⟨q1,q2,q3⟩:=Yh hq;rcases zE6 i j with q|q|q
   ·exact absurd ((e i hi).trans h1) (q3 i q)
   ·rw [q]
   ·exact absurd ((e j (by omega)).symm.trans q2) (h2 j q)
 ·cases hq:gat us nm with
  | none=>rfl
  | some j =>
   obtain ⟨q1,q2,q3⟩:=Yh hq;exact absurd ((e j (by omega)).symm.trans q2) (h2 j (by omega))
theorem Yw {h0:AH} (w:WfH h0) (v:PbV) (p:Pb) (H:PbOk h0 v p) (nm:List UInt8):Fn Tryz.prog Xh 174 [v.val,str nm] h0 (fun r h'=>r = .int .i64 (gI p.us nm)∧Hs h0 h' []):=by
 have S:=Hs.start w;have hr:=H.rol.rg;have hl:=H.rol.len;have hlg:v.gs.length≤9223372036854775807:=by rw [hl];exact H.rol.lg
 unfold PbV.val;refine qF (by first|rfl) Tryz.func174 rfl rfl ?_;all_goals (repeat' (first|refine qg ?_|(refine qc 0 ?_;(refine bx S ?_;clear S;intro b h S);(refine bx S ?_;clear S;intro b h S);refine mv ?_;refine qf ?_)|(refine qc 1 ?_;refine vl ?_;refine lB S rfl rfl ?_;refine vl ?_)))
 have gb:=S.gB (b:=b);have hf:∀ i h',i<v.gs.length→Hs h h' []→Fn Tryz.prog Xh 233 (gV (v.gs.getD i default) :: [.pointer (some ⟨b,0,none⟩)]) h' (fun v' h''=>qI v' ((v.gs.getD i default).name=nm)∧Hs h' h'' []):=fun i h' hi x=>qch x.wf (v.gs.getD i default) nm b (x.ext.get S.wf gb);(refine qo rfl rfl rfl rfl rfl ((qcL S.wf v.vg.val v.gs 233 [.pointer (some ⟨b,0,none⟩)] (fun i=>(v.gs.getD i default).name=nm) (hr.ext w S.ext) hlg hf).mono ?_);rintro _ h ⟨hq,x⟩)<;>(replace S:=S.join0 x;clear x;refine mv ?_;refine qf ?_)
 obtain rfl:=qcM H.rol.us nm hq;all_goals (repeat' (fail))
 refine qi ⟨_,rfl,?_⟩;exact ⟨rfl,S.drop⟩
theorem qba {h:AH} (s:List UInt8):Fn Tryz.prog Xh 175 [str s] h (fun v h'=>qI v (Qg s)∧h'=h):=by
 refine qF (by first|rfl) Tryz.func175 rfl rfl ?_;all_goals (repeat' (first|refine qg ?_|refine qh rfl ?_|refine qj ?_|(refine qc 0 ?_;refine mv ?_;refine qf ?_)|(refine qc 1 ?_;refine mv ?_;refine tl ?_;(first|(refine cS ?_ ?_<;>intro hc))<;>(refine mv ?_;(first|refine off ?_|refine mv ?_);(first|refine off ?_|refine tl ?_);(first|refine off ?_|(first|(refine cS ?_ ?_<;>intro hc)))<;>(refine vl ?_;refine qf ?_)))|(refine qc 2 ?_;refine mv ?_;refine qf ?_)))
 ·refine qi ⟨_,rfl,?_⟩;exact ⟨.inr ⟨rfl,fun q=>by have:=q.1;omega⟩,rfl⟩
 ·refine qi ⟨_,rfl,?_⟩;exact ⟨.inr ⟨rfl,fun q=>by have:=q.2.1;omega⟩,rfl⟩
 all_goals (repeat' (first|refine ql ?_|(refine qc 3 ?_;refine mv ?_;refine tl ?_;refine mv ?_;refine qf ?_)))
 refine qG (σ:=Nat) (fun i h'=>h'=h∧i≤s.length∧∀ j,j<i→QO (s.getD j default)) (fun i=>s.length - i) (fun i=>[(0,str s),(13,.int .i64 s.length),(14,.int .i64 i)]) 0 qw ?_ ?_
 ·exact ⟨rfl,zB0 _,fun j hj=>absurd hj (zB7 _)⟩
 rintro i h ⟨rfl,h1,h2⟩;all_goals (repeat' (first|refine qg ?_|refine qh rfl ?_|refine qj ?_|refine qx ?_|refine ql ?_|(refine qc 4 ?_;(first|(refine cS ?_ ?_<;>intro hc))<;>(refine qf ?_))|(refine qc 5 ?_;refine mv ?_;refine mv ?_;refine qf ?_)|(refine qc 6 ?_;refine mv ?_;refine mv ?_;refine ti ?_;(first|(refine cS ?_ ?_<;>intro hc))<;>(refine mv ?_;(first|refine off ?_|refine mv ?_);(first|refine off ?_|refine mv ?_);(first|refine off ?_|(refine ti ?_));(first|refine off ?_|(first|(refine cS ?_ ?_<;>intro hc)))<;>(refine vl ?_;refine qf ?_)))|(refine qc 7 ?_;refine mv ?_;refine qf ?_)|(refine qc 8 ?_;refine ad ?_;refine mv ?_;refine qf ?_)|(refine qc 9 ?_;refine mv ?_;refine qf ?_)))
 all_goals (try simp only [zA0] at *)
 ·refine qi ⟨_,rfl,?_⟩;exact ⟨.inr ⟨rfl,fun q=>by have:=q.2.2 i (by omega);unfold QO at this;simp only [Qk] at this;omega⟩,rfl⟩
 ·refine qi ⟨_,rfl,?_⟩;exact ⟨.inr ⟨rfl,fun q=>by have:=q.2.2 i (by omega);unfold QO at this;simp only [Qk] at this;omega⟩,rfl⟩
 ·refine ⟨i+1,?_,?_,qw⟩
  ·show s.length - (i+1)<s.length - i;omega
  ·refine ⟨rfl,by omega,jr h2 ?_⟩;unfold QO;simp only [Qk];omega
 ·refine qi ⟨_,rfl,?_⟩;exact ⟨.inl ⟨rfl,by omega,by omega,fun j hj=>h2 j (by omega)⟩,rfl⟩
def eKd (wd:List UInt8) (k:Kd) (f:Value):List Value:=[str wd,.int .u8 k.a,.bool k.b,.int .u8 k.t,.bool k.n,.int .i64 k.lo,.bool k.seat,f]
abbrev kdV (wd:List UInt8) (k:Kd) (f:Value):Value:=.agg (eKd wd k f).toArray
theorem qbl {h0:AH} (w:WfH h0) (wd:List UInt8) (k:Kd) (f:Value) (r:Ru):Fn Tryz.prog Xh 173 [kdV wd k f,ruV r] h0 (fun v h'=>qI v (k.plain r)∧Hs h0 h' []):=by
 have S:=Hs.start w;obtain ⟨ka,kb,kt,kn,lo,st⟩:=k;unfold kdV eKd ruV JL;cases kb<;>cases kn
 all_goals (refine qF (by first|rfl) Tryz.func173 rfl rfl ?_)
 all_goals (all_goals (repeat' (first|refine qg ?_|(refine qc 0 ?_;(refine bx S ?_;clear S;intro b h S);(refine bx S ?_;clear S;intro b h S);refine mv ?_;refine qf ?_)|(refine qc 1 ?_;refine vl ?_;refine lB S rfl rfl ?_;(first|(refine cS ?_ ?_<;>intro hc))<;>(refine mv ?_;(first|refine off ?_|(refine vl ?_));(first|refine off ?_|(refine lB S rfl rfl ?_));(first|refine off ?_|(refine tS ?_ ?_<;>intro hc))<;>(refine vl ?_;refine mv ?_;(first|refine off ?_|(refine vl ?_));(first|refine off ?_|(refine lB S rfl rfl ?_));(first|refine off ?_|refine mv ?_);(first|refine off ?_|(refine vl ?_));(first|refine off ?_|(refine lB S rfl rfl ?_));(first|refine off ?_|(refine tS ?_ ?_<;>intro hc))<;>((first|refine off ?_|refine vl ?_);refine vl ?_;refine mv ?_;(first|refine off ?_|(refine vl ?_));(first|refine off ?_|(refine lB S rfl rfl ?_));(first|refine off ?_|(first|(refine cS ?_ ?_<;>intro hc)))<;>((first|refine off ?_|refine mv ?_);(first|refine off ?_|(refine vl ?_));(first|refine off ?_|(refine lB S rfl rfl ?_));(first|refine off ?_|(refine tS ?_ ?_<;>intro hc))<;>((first|refine off ?_|refine vl ?_);refine vl ?_;refine mv ?_;(first|refine off ?_|(refine vl ?_));(first|refine off ?_|(refine lB S rfl rfl ?_));(first|refine off ?_|refine mv ?_);(first|refine off ?_|(refine vl ?_));(first|refine off ?_|(refine lB S rfl rfl ?_));(first|refine off ?_|(first|(refine cS ?_ ?_<;>intro hc)))<;>((first|refine off ?_|refine vl ?_);refine vl ?_;refine mv ?_;refine qf ?_))))))))))
 all_goals (refine qi ⟨_,rfl,?_⟩)
 all_goals refine ⟨?_,S.drop⟩
 all_goals unfold qI
 all_goals first|exact .inl ⟨rfl,by simp_all [Kd.plain]⟩|exact .inr ⟨rfl,by simp_all [Kd.plain]⟩
theorem countOne {h0:AH} (w:WfH h0) {v:Value} {t:Tab} (hr:qY h0 v 7 eT [t]) (hc:Qu v) (ht:TabR h0 t) (hk:chk t=0):Fn Tryz.prog Xh 154 [v] h0 (fun r h'=>r = .int .i64 (zl t)∧Hs h0 h' []):=by
 refine (gU w v [t] ⟨hr,fun i hi=>?_,by simp,hc⟩).mono ?_
 ·have:i=0:=by simp at hi;omega
  subst this;exact ht
 ·rintro r h ⟨rfl,x⟩;refine ⟨?_,x⟩;have:ValidL [t]:=⟨by simp,fun j hj=>by
   have:j=0:=by simp at hj;omega
   subst this;exact ⟨hk,fun ⟨i,hi,_⟩=>absurd hi (zB7 _)⟩⟩
  unfold YN;rw [if_pos this];simp [sumT,tb]
theorem yl {us:List Gu} {n:List UInt8}:¬ gI us n<0↔gat us n≠none:=by rw [Q3]
theorem Kd.err41 {k:Kd} {p:Pb} {r:Ru} (h:r.w<0∨1000<r.w):k.err p r=41:=by unfold Kd.err;rw [if_pos h]
theorem Kd.err43 {k:Kd} {p:Pb} {r:Ru} (h:¬ (r.w<0∨1000<r.w)) (h2:¬ k.plain r):k.err p r=43:=by unfold Kd.err;rw [if_neg h,if_pos h2]
theorem Kd.err6 {k:Kd} {p:Pb} {r:Ru} (h:¬ (r.w<0∨1000<r.w)) (h2:k.plain r) (h3:k.unk p.us r):k.err p r=6:=by unfold Kd.err;rw [if_neg h,if_neg (fun q=>q h2),if_pos h3]
theorem Kd.err4 {k:Kd} {p:Pb} {r:Ru} (h:¬ (r.w<0∨1000<r.w)) (h2:k.plain r) (h3:¬ k.unk p.us r) (h4:k.a=100∧¬ Qg r.a):k.err p r=4:=by unfold Kd.err;rw [if_neg h,if_neg (fun q=>q h2),if_neg h3,if_pos h4]
structure Kd.one (k:Kd) (p:Pb) (r:Ru):Prop where
 w:¬ (r.w<0∨1000<r.w)
 pl:k.plain r
 un:¬ k.unk p.us r
 nm:¬ (k.a=100∧¬ Qg r.a)
theorem Kd.err5 {k:Kd} {p:Pb} {r:Ru} (h:k.one p r) (h5:k.b=true∧r.a=r.b):k.err p r=5:=by unfold Kd.err;rw [if_neg h.w,if_neg (fun q=>q h.pl),if_neg h.un,if_neg h.nm,if_pos h5]
open Classical in
theorem Kd.errR {k:Kd} {p:Pb} {r:Ru} (h:k.one p r) (h5:¬ (k.b=true∧r.a=r.b)):k.err p r=if k.ut p.tabs r then 6 else if k.n=true∧(r.n<k.lo∨k.most p.tabs r<r.n) then 42 else 0:=by
 unfold Kd.err;rw [if_neg h.w,if_neg (fun q=>q h.pl),if_neg h.un,if_neg h.nm,if_neg h5]
theorem qan {h0:AH} (w:WfH h0) (wd:List UInt8) (k:Kd) (f:Value) (v:PbV) (p:Pb) (H:PbOk h0 v p) (hv:ValidL p.tabs) (r:Ru) (hw:wd≠[]) (hs:k.seat=true→k.t=116) :
 Fn Tryz.prog Xh 116 [kdV wd k f,v.val,ruV r] h0 (fun u h'=>u = .int .i64 (k.err p r)∧Hs h0 h' []):=by
 have S:=Hs.start w;have hr:=H.tab.rd;have hl:=H.tab.len;obtain ⟨ka,kb,kt,kn,lo,st⟩:=k;unfold kdV eKd ruV JL PbV.val;refine qF (by first|rfl) Tryz.func116 rfl rfl ?_;all_goals (repeat' (first|refine qg ?_|(refine qc 0 ?_;(refine bx S ?_;clear S;intro b h S);(refine bx S ?_;clear S;intro b h S);(refine bx S ?_;clear S;intro b h S);refine mv ?_;refine qf ?_)))
 rename_i b3 h3 b4 h4
 (repeat (refine qg ?_));first|refine wH (σ:=Unit) (fun _ h'=>Hs h0 h' [.blk b (JL r) 155,.blk b4 v.cs 28,.blk b3 (eKd wd (Kd.mk ka kb kt kn lo st) f) 164]∧(Kd.mk ka kb kt kn lo st).one p r∧¬ (kb=true∧r.a=r.b)) (fun _=>[(3,.pointer (some ⟨b3,0,none⟩)),(4,.pointer (some ⟨b4,0,none⟩)),(5,.pointer (some ⟨b,0,none⟩)),(6,.int .i64 0)]) ?_ ?_
 ·all_goals (repeat' (first|refine qg ?_|refine qh rfl ?_|refine ql ?_|(refine qc 1 ?_;refine vl ?_;refine lB S rfl rfl ?_;(refine tS ?_ ?_<;>intro hc)<;>(refine mv ?_;refine qf ?_))|(refine qc 2 ?_;refine mv ?_;refine qf ?_)|(refine qc 3 ?_;refine vl ?_;refine lB S rfl rfl ?_;(first|(refine cS ?_ ?_<;>intro hc))<;>(refine mv ?_;(first|refine off ?_|(refine vl ?_));(first|refine off ?_|(refine lB S rfl rfl ?_));(first|refine off ?_|(first|(refine cS ?_ ?_<;>intro hc)))<;>(refine vl ?_;refine mv ?_;refine qf ?_)))|(refine qc 4 ?_;refine mv ?_;refine qf ?_)|(refine qc 5 ?_;refine lB S rfl rfl ?_;refine lB S rfl rfl ?_)))
  ·exact absurd hc hw
  ·refine qi ⟨_,rfl,?_⟩;exact ⟨by rw [Kd.err41 (.inl hc)];rfl,S.drop⟩
  ·refine qi ⟨_,rfl,?_⟩;exact ⟨by rw [Kd.err41 (.inr (by omega))];rfl,S.drop⟩
  rename_i hw1
  have hww:¬ (r.w<0∨1000<r.w):=by omega
  (refine qo rfl rfl rfl rfl rfl ((qbl S.wf wd (Kd.mk ka kb kt kn lo st) f r).mono ?_);rintro _ h ⟨⟨rfl,hp⟩|⟨rfl,hp⟩,x⟩)<;>(replace S:=S.join0 x;clear x;refine vl ?_;refine mv ?_;refine qf ?_)
  all_goals (repeat' (first|refine qg ?_|refine qh rfl ?_|(refine qc 6 ?_;refine mv ?_;refine qf ?_)))
  rotate_left
  ·refine qi ⟨_,rfl,?_⟩;exact ⟨by rw [Kd.err43 hww hp];rfl,S.drop⟩
  (repeat (refine qg ?_));first|refine zL (σ:=Bool) (fun c h'=>Hs h0 h' [.blk b (JL r) 155,.blk b4 v.cs 28,.blk b3 (eKd wd (Kd.mk ka kb kt kn lo st) f) 164]∧(c=true↔(Kd.mk ka kb kt kn lo st).unk p.us r)) (fun c=>[(3,.pointer (some ⟨b3,0,none⟩)),(4,.pointer (some ⟨b4,0,none⟩)),(5,.pointer (some ⟨b,0,none⟩)),(6,.int .i64 0),(28,.bool c)]) ?_ ?_
  ·all_goals (repeat' (first|refine qg ?_|refine qh rfl ?_|(refine qc 7 ?_;refine vl ?_;refine lB S rfl rfl ?_;(first|(refine cS ?_ ?_<;>intro hc))<;>(refine mv ?_;(first|refine off ?_|(refine lB S rfl rfl ?_));(first|refine off ?_|(refine vl ?_));(first|refine off ?_|(refine lB S rfl rfl ?_));(first|(refine off ?_;(refine off ?_)<;>(refine vl ?_;refine mv ?_;refine qf ?_))|skip)))))
   ·have h103:ka=103:=hc;(refine qo rfl rfl rfl rfl rfl ((Yw S.wf v p (H.ext w S.ext) r.a).mono ?_);rintro _ h ⟨rfl,x⟩)<;>(replace S:=S.join0 x;clear x;(first|(first|(refine cS ?_ ?_<;>intro hc)))<;>(refine vl ?_;refine mv ?_;refine qf ?_))
    all_goals (repeat' (first|refine qg ?_|refine qh rfl ?_|refine qj ?_|(refine qc 8 ?_;refine vl ?_;refine lB S rfl rfl ?_;(refine cF ?_)<;>(refine mv ?_;refine off ?_;refine off ?_;(refine off ?_)<;>(refine vl ?_;refine mv ?_;refine off ?_;refine off ?_;refine off ?_;(first|(refine off ?_;(refine off ?_)<;>(refine vl ?_;refine mv ?_;refine qf ?_))))))))
    ·exact ⟨true,⟨S,fun _=>.inl ⟨h103,Q3.1 hc⟩,fun _=>rfl⟩,(qw)⟩
    have ha1:¬ (ka=103∧gat p.us r.a=none):=fun q=>yl.1 hc q.2;have ha2:¬ (ka=101∧r.a≠[]∧gat p.us r.a=none):=fun q=>by have:=q.1;omega
    cases kb
    ·all_goals (repeat' (first|(refine qc 9 ?_;refine vl ?_;refine lB S rfl rfl ?_;refine mv ?_;refine off ?_;refine off ?_;refine off ?_;(first|(refine off ?_;(refine off ?_)<;>(refine vl ?_;refine mv ?_;refine qf ?_))))))
     exact ⟨false,⟨S,fun q=>(by cases q),fun q=>q.elim (fun q=>absurd q ha1) fun q=>q.elim (fun q=>absurd q ha2) fun q=>(by cases q.1)⟩,(qw)⟩
    ·all_goals (repeat' (first|(refine qc 9 ?_;refine vl ?_;refine lB S rfl rfl ?_;refine mv ?_;(first|(refine lB S rfl rfl ?_));(first|(refine vl ?_));(first|(refine lB S rfl rfl ?_));(skip))))
     (refine qo rfl rfl rfl rfl rfl ((Yw S.wf v p (H.ext w S.ext) r.b).mono ?_);rintro _ h ⟨rfl,x⟩)<;>(replace S:=S.join0 x;clear x;(first|(first|(refine cS ?_ ?_<;>intro hc)))<;>(refine vl ?_;refine mv ?_;refine qf ?_))
     all_goals (repeat' (fail))
     ·exact ⟨true,⟨S,fun _=>.inr (.inr ⟨rfl,Q3.1 hc⟩),fun _=>rfl⟩,(qw)⟩
     ·exact ⟨false,⟨S,fun q=>(by cases q),fun q=>q.elim (fun q=>absurd q ha1) fun q=>q.elim (fun q=>absurd q ha2) fun q=>absurd q.2 (yl.1 hc)⟩,(qw)⟩
   ·have h103:ka≠103:=hc;have ha1:¬ (ka=103∧gat p.us r.a=none):=fun q=>h103 q.1;all_goals (repeat' (first|refine qh rfl ?_|(refine qc 8 ?_;refine vl ?_;refine lB S rfl rfl ?_;(first|(refine cS ?_ ?_<;>intro hc))<;>(refine mv ?_;(first|refine off ?_|(refine vl ?_));(first|refine off ?_|(refine lB S rfl rfl ?_));(first|refine off ?_|(refine tS ?_ ?_<;>intro hc))<;>(refine vl ?_;refine mv ?_;(first|refine off ?_|(refine lB S rfl rfl ?_));(first|refine off ?_|(refine vl ?_));(first|refine off ?_|(refine lB S rfl rfl ?_));(first|(refine off ?_;(refine off ?_)<;>(refine vl ?_;refine mv ?_;refine qf ?_))|skip))))))
    ·have ha2:¬ (ka=101∧r.a≠[]∧gat p.us r.a=none):=fun q=>q.2.1 hc;cases kb
     ·all_goals (repeat' (first|(refine qc 9 ?_;refine vl ?_;refine lB S rfl rfl ?_;refine mv ?_;refine off ?_;refine off ?_;refine off ?_;(first|(refine off ?_;(refine off ?_)<;>(refine vl ?_;refine mv ?_;refine qf ?_))))))
      exact ⟨false,⟨S,fun q=>(by cases q),fun q=>q.elim (fun q=>absurd q ha1) fun q=>q.elim (fun q=>absurd q ha2) fun q=>(by cases q.1)⟩,(qw)⟩
     ·all_goals (repeat' (first|(refine qc 9 ?_;refine vl ?_;refine lB S rfl rfl ?_;refine mv ?_;(first|(refine lB S rfl rfl ?_));(first|(refine vl ?_));(first|(refine lB S rfl rfl ?_));(skip))))
      (refine qo rfl rfl rfl rfl rfl ((Yw S.wf v p (H.ext w S.ext) r.b).mono ?_);rintro _ h ⟨rfl,x⟩)<;>(replace S:=S.join0 x;clear x;(first|(first|(refine cS ?_ ?_<;>intro hc)))<;>(refine vl ?_;refine mv ?_;refine qf ?_))
      all_goals (repeat' (fail))
      ·exact ⟨true,⟨S,fun _=>.inr (.inr ⟨rfl,Q3.1 hc⟩),fun _=>rfl⟩,(qw)⟩
      ·exact ⟨false,⟨S,fun q=>(by cases q),fun q=>q.elim (fun q=>absurd q ha1) fun q=>q.elim (fun q=>absurd q ha2) fun q=>absurd q.2 (yl.1 hc)⟩,(qw)⟩
    ·have h101:ka=101:=by assumption
     have hne:r.a≠[]:=hc;(refine qo rfl rfl rfl rfl rfl ((Yw S.wf v p (H.ext w S.ext) r.a).mono ?_);rintro _ h ⟨rfl,x⟩)<;>(replace S:=S.join0 x;clear x;(first|(first|(refine cS ?_ ?_<;>intro hc)))<;>(refine vl ?_;refine mv ?_;refine qf ?_))
     all_goals (repeat' (first|refine qh rfl ?_|refine qj ?_))
     ·exact ⟨true,⟨S,fun _=>.inr (.inl ⟨h101,hne,Q3.1 hc⟩),fun _=>rfl⟩,(qw)⟩
     have ha2:¬ (ka=101∧r.a≠[]∧gat p.us r.a=none):=fun q=>yl.1 hc q.2.2;cases kb
     ·all_goals (repeat' (first|(refine qc 9 ?_;refine vl ?_;refine lB S rfl rfl ?_;refine mv ?_;refine off ?_;refine off ?_;refine off ?_;(first|(refine off ?_;(refine off ?_)<;>(refine vl ?_;refine mv ?_;refine qf ?_))))))
      exact ⟨false,⟨S,fun q=>(by cases q),fun q=>q.elim (fun q=>absurd q ha1) fun q=>q.elim (fun q=>absurd q ha2) fun q=>(by cases q.1)⟩,(qw)⟩
     ·all_goals (repeat' (first|(refine qc 9 ?_;refine vl ?_;refine lB S rfl rfl ?_;refine mv ?_;(first|(refine lB S rfl rfl ?_));(first|(refine vl ?_));(first|(refine lB S rfl rfl ?_));(skip))))
      (refine qo rfl rfl rfl rfl rfl ((Yw S.wf v p (H.ext w S.ext) r.b).mono ?_);rintro _ h ⟨rfl,x⟩)<;>(replace S:=S.join0 x;clear x;(first|(first|(refine cS ?_ ?_<;>intro hc)))<;>(refine vl ?_;refine mv ?_;refine qf ?_))
      all_goals (repeat' (fail))
      ·exact ⟨true,⟨S,fun _=>.inr (.inr ⟨rfl,Q3.1 hc⟩),fun _=>rfl⟩,(qw)⟩
      ·exact ⟨false,⟨S,fun q=>(by cases q),fun q=>q.elim (fun q=>absurd q ha1) fun q=>q.elim (fun q=>absurd q ha2) fun q=>absurd q.2 (yl.1 hc)⟩,(qw)⟩
    ·have ha2:¬ (ka=101∧r.a≠[]∧gat p.us r.a=none):=fun q=>hc q.1;cases kb
     ·all_goals (repeat' (first|(refine qc 9 ?_;refine vl ?_;refine lB S rfl rfl ?_;refine mv ?_;refine off ?_;refine off ?_;refine off ?_;(first|(refine off ?_;(refine off ?_)<;>(refine vl ?_;refine mv ?_;refine qf ?_))))))
      exact ⟨false,⟨S,fun q=>(by cases q),fun q=>q.elim (fun q=>absurd q ha1) fun q=>q.elim (fun q=>absurd q ha2) fun q=>(by cases q.1)⟩,(qw)⟩
     ·all_goals (repeat' (first|(refine qc 9 ?_;refine vl ?_;refine lB S rfl rfl ?_;refine mv ?_;(first|(refine lB S rfl rfl ?_));(first|(refine vl ?_));(first|(refine lB S rfl rfl ?_));(skip))))
      (refine qo rfl rfl rfl rfl rfl ((Yw S.wf v p (H.ext w S.ext) r.b).mono ?_);rintro _ h ⟨rfl,x⟩)<;>(replace S:=S.join0 x;clear x;(first|(first|(refine cS ?_ ?_<;>intro hc)))<;>(refine vl ?_;refine mv ?_;refine qf ?_))
      all_goals (repeat' (fail))
      ·exact ⟨true,⟨S,fun _=>.inr (.inr ⟨rfl,Q3.1 hc⟩),fun _=>rfl⟩,(qw)⟩
      ·exact ⟨false,⟨S,fun q=>(by cases q),fun q=>q.elim (fun q=>absurd q ha1) fun q=>q.elim (fun q=>absurd q ha2) fun q=>absurd q.2 (yl.1 hc)⟩,(qw)⟩
  clear S;rintro c h ⟨S,hu⟩;cases c
  ·have hun:¬ (Kd.mk ka kb kt kn lo st).unk p.us r:=fun q=>by have:=hu.2 q;cases this
   all_goals (repeat' (first|refine qg ?_|refine qh rfl ?_|(refine qc 11 ?_;refine vl ?_;refine lB S rfl rfl ?_;(first|(refine cS ?_ ?_<;>intro hc))<;>(refine mv ?_;(first|refine off ?_|(refine vl ?_));(first|refine off ?_|(refine lB S rfl rfl ?_));(first|(refine off ?_;refine off ?_;refine vl ?_;refine mv ?_;refine qf ?_)|skip)))))
   ·have h100:ka=100:=hc;(refine qo rfl rfl rfl rfl rfl ((qba r.a).mono ?_);rintro _ _ ⟨⟨rfl,hn⟩|⟨rfl,hn⟩,rfl⟩)<;>((refine vl ?_);refine vl ?_;refine mv ?_;refine qf ?_)
    ·have hnm:¬ (ka=100∧¬ Qg r.a):=fun q=>q.2 hn;all_goals (repeat' (first|refine qg ?_|refine qh rfl ?_))
     cases kb
     ·all_goals (repeat' (first|refine qh rfl ?_|refine qj ?_|(refine qc 13 ?_;refine vl ?_;refine lB S rfl rfl ?_;refine mv ?_;refine off ?_;refine off ?_;refine off ?_;refine off ?_;(refine off ?_)<;>(refine vl ?_;refine mv ?_;refine qf ?_))))
      exact ⟨(),⟨S,⟨hww,hp,hun,hnm⟩,fun q=>(by cases q.1)⟩,(qw)⟩
     ·all_goals (repeat' (first|refine qg ?_|refine qh rfl ?_|refine qj ?_|(refine qc 13 ?_;refine vl ?_;refine lB S rfl rfl ?_;refine mv ?_;(first|(refine vl ?_));(first|(refine lB S rfl rfl ?_));(first|(refine vl ?_));(first|(refine lB S rfl rfl ?_));(first|(refine tS ?_ ?_<;>intro hc))<;>(refine vl ?_;refine mv ?_;refine qf ?_))|(refine qc 14 ?_;refine mv ?_;refine qf ?_)))
      ·refine qi ⟨_,rfl,?_⟩;exact ⟨by rw [Kd.err5 ⟨hww,hp,hun,hnm⟩ ⟨rfl,hc⟩];rfl,S.drop⟩
      ·exact ⟨(),⟨S,⟨hww,hp,hun,hnm⟩,fun q=>hc q.2⟩,(qw)⟩
    ·all_goals (repeat' (first|refine qg ?_|refine qh rfl ?_|(refine qc 12 ?_;refine mv ?_;refine qf ?_)))
     refine qi ⟨_,rfl,?_⟩;exact ⟨by rw [Kd.err4 hww hp hun ⟨h100,hn⟩];rfl,S.drop⟩
   ·have hnm:¬ (ka=100∧¬ Qg r.a):=fun q=>hc q.1;cases kb
    ·all_goals (repeat' (first|refine qh rfl ?_|refine qj ?_|(refine qc 13 ?_;refine vl ?_;refine lB S rfl rfl ?_;refine mv ?_;refine off ?_;refine off ?_;refine off ?_;refine off ?_;(refine off ?_)<;>(refine vl ?_;refine mv ?_;refine qf ?_))))
     exact ⟨(),⟨S,⟨hww,hp,hun,hnm⟩,fun q=>(by cases q.1)⟩,(qw)⟩
    ·all_goals (repeat' (first|refine qg ?_|refine qh rfl ?_|refine qj ?_|(refine qc 13 ?_;refine vl ?_;refine lB S rfl rfl ?_;refine mv ?_;(first|(refine vl ?_));(first|(refine lB S rfl rfl ?_));(first|(refine vl ?_));(first|(refine lB S rfl rfl ?_));(first|(refine tS ?_ ?_<;>intro hc))<;>(refine vl ?_;refine mv ?_;refine qf ?_))|(refine qc 14 ?_;refine mv ?_;refine qf ?_)))
     ·refine qi ⟨_,rfl,?_⟩;exact ⟨by rw [Kd.err5 ⟨hww,hp,hun,hnm⟩ ⟨rfl,hc⟩];rfl,S.drop⟩
     ·exact ⟨(),⟨S,⟨hww,hp,hun,hnm⟩,fun q=>hc q.2⟩,(qw)⟩
  ·have hun:(Kd.mk ka kb kt kn lo st).unk p.us r:=hu.1 rfl;all_goals (repeat' (first|refine qg ?_|refine qh rfl ?_|(refine qc 10 ?_;refine mv ?_;refine qf ?_)))
   refine qi ⟨_,rfl,?_⟩;exact ⟨by rw [Kd.err6 hww hp hun];rfl,S.drop⟩
 clear S;rintro _ h ⟨S,ho,h5⟩;(repeat (refine qg ?_));first|refine wH (σ:=Int×Bool) (fun (i,c) h'=>Hs h0 h' [.blk b (JL r) 155,.blk b4 v.cs 28,.blk b3 (eKd wd (Kd.mk ka kb kt kn lo st) f) 164]∧((c=true∧QI p.tabs r.t∧i=tix p.tabs r.t∧tix p.tabs r.t<p.tabs.length)∨(c=false∧¬ QI p.tabs r.t))) (fun (i,c)=>[(3,.pointer (some ⟨b3,0,none⟩)),(4,.pointer (some ⟨b4,0,none⟩)),(5,.pointer (some ⟨b,0,none⟩)),(6,.int .i64 0),(7,.int .i64 i),(8,.bool c)]) ?_ ?_
 ·all_goals (repeat' (first|(refine qc 15 ?_;refine vl ?_;refine lB S rfl rfl ?_;refine vl ?_;refine lB S rfl rfl ?_)))
  (refine qo rfl rfl rfl rfl rfl ((gu S.wf v.vt.val p.tabs (H.tab.ext w S.ext) r.t).mono ?_);rintro _ h ⟨⟨k,rfl,-,hk,hn,hmin⟩|⟨rfl,hnot⟩,x⟩)<;>(replace S:=S.join0 x;clear x;refine mv ?_;refine vl ?_;refine vl ?_;refine mv ?_;refine mv ?_;refine qf ?_)
  ·all_goals (repeat' (fail))
   exact ⟨((k:Int),true),⟨S,.inl ⟨rfl,⟨k,hk,hn⟩,by rw [VM hk hn hmin],by rw [VM hk hn hmin];exact hk⟩⟩,(qw)⟩
  ·all_goals (repeat' (fail))
   exact ⟨(0,false),⟨S,.inr ⟨rfl,fun ⟨j,hj,hn⟩=>hnot.elim (fun q=>q hv) fun q=>q j hj hn⟩⟩,(qw)⟩
 clear S;rintro ⟨i,c⟩ h ⟨S,hf⟩;(repeat (refine qg ?_));first|refine zL (σ:=Unit) (fun _ h'=>Hs h0 h' [.blk b (JL r) 155,.blk b4 v.cs 28,.blk b3 (eKd wd (Kd.mk ka kb kt kn lo st) f) 164]∧¬ (Kd.mk ka kb kt kn lo st).ut p.tabs r) (fun _=>[(3,.pointer (some ⟨b3,0,none⟩)),(4,.pointer (some ⟨b4,0,none⟩)),(5,.pointer (some ⟨b,0,none⟩)),(6,.int .i64 0),(7,.int .i64 i),(8,.bool c)]) ?_ ?_
 ·rcases hf with ⟨rfl,hT,-,-⟩|⟨rfl,hT⟩
  ·all_goals (repeat' (first|refine qh rfl ?_|refine qj ?_|(refine qc 16 ?_;refine vl ?_;refine lB S rfl rfl ?_;(first|(refine cS ?_ ?_<;>intro hc))<;>(refine mv ?_;(first|refine off ?_|refine mv ?_);(first|refine off ?_|refine vl ?_);refine vl ?_;refine mv ?_;(first|(refine vl ?_));(first|(refine lB S rfl rfl ?_));(first|(first|refine cF ?_|(refine cS ?_ ?_<;>intro hc)))<;>((refine mv ?_);(first|refine off ?_|(refine vl ?_));(first|refine off ?_|(refine lB S rfl rfl ?_));(first|refine off ?_|(refine tS ?_ ?_<;>intro hc))<;>((refine vl ?_);refine mv ?_;(first|refine off ?_|refine mv ?_);(first|refine off ?_|refine vl ?_);refine vl ?_;refine vl ?_;refine qf ?_))))))
   all_goals exact ⟨(),⟨S,fun q=>q.elim (fun q=>q.2 hT) fun q=>q.2.2 hT⟩,(qw)⟩
  ·all_goals (repeat' (first|refine qg ?_|refine qh rfl ?_|refine qj ?_|(refine qc 16 ?_;refine vl ?_;refine lB S rfl rfl ?_;(first|(refine cS ?_ ?_<;>intro hc))<;>(refine mv ?_;(first|refine off ?_|refine mv ?_);(first|refine off ?_|refine vl ?_);refine vl ?_;refine mv ?_;(first|refine off ?_|(refine vl ?_));(first|refine off ?_|(refine lB S rfl rfl ?_));(first|refine off ?_|(first|(refine cS ?_ ?_<;>intro hc)))<;>((first|refine off ?_|refine mv ?_);(first|refine off ?_|(refine vl ?_));(first|refine off ?_|(refine lB S rfl rfl ?_));(first|refine off ?_|(refine tS ?_ ?_<;>intro hc))<;>((first|refine off ?_|refine vl ?_);(first|refine off ?_|refine mv ?_);(first|refine off ?_|refine mv ?_);(first|refine off ?_|refine vl ?_);(first|refine off ?_|refine vl ?_);refine vl ?_;refine qf ?_))))|(refine qc 17 ?_;refine mv ?_;refine qf ?_)))
   all_goals first|((refine qi ⟨_,rfl,?_⟩);have hut:(Kd.mk ka kb kt kn lo st).ut p.tabs r:=(by first|exact .inl ⟨by assumption,hT⟩|exact .inr ⟨by assumption,by assumption,hT⟩);exact ⟨by rw [Kd.errR ho h5,if_pos hut];rfl,S.drop⟩)|exact ⟨(),⟨S,fun q=>by rcases q with ⟨q1,-⟩|⟨q1,q2,-⟩<;>first|contradiction⟩,(qw)⟩
 clear S;rintro _ h ⟨S,hut⟩;all_goals (repeat' (first|refine qg ?_|(refine qc 18 ?_;refine mv ?_;refine qf ?_)))
 (repeat (refine qg ?_));first|refine zL (σ:=Unit) (fun _ h'=>Hs h0 h' [.blk b (JL r) 155,.blk b4 v.cs 28,.blk b3 (eKd wd (Kd.mk ka kb kt kn lo st) f) 164]) (fun _=>[(3,.pointer (some ⟨b3,0,none⟩)),(4,.pointer (some ⟨b4,0,none⟩)),(5,.pointer (some ⟨b,0,none⟩)),(6,.int .i64 0),(7,.int .i64 i),(8,.bool c),(9,.int .i64 ((Kd.mk ka kb kt kn lo st).most p.tabs r))]) ?_ ?_
 ·cases st
  ·all_goals (repeat' (first|refine qh rfl ?_|refine qj ?_|(refine qc 19 ?_;refine vl ?_;refine lB S rfl rfl ?_;refine qf ?_)))
   exact ⟨(),S,(qw)⟩
  ·have h116:kt=116:=hs rfl;rcases hf with ⟨rfl,hT,rfl,hti⟩|⟨rfl,hT⟩
   ·have hg:=(hv.2 _ hti).1;have ht:=H.tab.tab _ hti;have hone:(p.tabs.drop (tix p.tabs r.t)).take (tix p.tabs r.t+1 - tix p.tabs r.t)=[tb p.tabs (tix p.tabs r.t)]:=by
     rw [Nat.add_sub_cancel_left];unfold tb;rw [zA2,zA4 hti,zG6 hti];rfl
    have b1:=QH (tb p.tabs (tix p.tabs r.t));all_goals (repeat' (first|refine qh rfl ?_|(refine qc 19 ?_;refine vl ?_;refine lB S rfl rfl ?_;refine qf ?_)|(refine qc 20 ?_;refine vl ?_;refine lB S rfl rfl ?_;refine mv ?_;refine mv ?_;refine ad ?_)))
    refine su (tix p.tabs r.t) (tix p.tabs r.t+1) (hr.ext w S.ext) H.tab.cap ?_;intro vs hrs hcs;(skip);rw [hone] at hrs;(refine qo rfl rfl rfl rfl rfl ((countOne S.wf hrs hcs (ht.ext w S.ext) hg).mono ?_);rintro _ h ⟨rfl,x⟩)<;>(replace S:=S.join0 x;clear x;refine sb ?_;refine mv ?_;refine qf ?_)
    all_goals (repeat' (fail))
    exact ⟨(),S,(qw)⟩
   ·exact absurd (.inl ⟨h116,hT⟩) hut
 clear S;rintro _ h S;cases kn
 ·all_goals (repeat' (first|refine qg ?_|refine qh rfl ?_|refine qj ?_|(refine qc 21 ?_;refine vl ?_;refine lB S rfl rfl ?_;refine mv ?_;refine off ?_;refine off ?_;refine off ?_;refine off ?_;(refine off ?_)<;>((refine off ?_);refine off ?_;refine off ?_;refine off ?_;(refine off ?_)<;>((refine off ?_);refine vl ?_;refine qf ?_)))|(refine qc 23 ?_;refine mv ?_;refine qf ?_)))
  refine qi ⟨_,rfl,?_⟩;exact ⟨by rw [Kd.errR ho h5,if_neg hut,if_neg (fun q=>by cases q.1)];rfl,S.drop⟩
 ·all_goals (repeat' (first|refine qg ?_|refine qh rfl ?_|refine qj ?_|(refine qc 21 ?_;refine vl ?_;refine lB S rfl rfl ?_;refine mv ?_;(first|(refine vl ?_));(first|(refine lB S rfl rfl ?_));(first|(refine vl ?_));(first|(refine lB S rfl rfl ?_));(first|(first|(refine cS ?_ ?_<;>intro hc)))<;>((refine mv ?_);(first|refine off ?_|(refine vl ?_));(first|refine off ?_|(refine lB S rfl rfl ?_));(first|refine off ?_|refine mv ?_);(first|refine off ?_|(first|(refine cS ?_ ?_<;>intro hc)))<;>((refine vl ?_);refine vl ?_;refine qf ?_)))|(refine qc 22 ?_;refine mv ?_;refine qf ?_)|(refine qc 23 ?_;refine mv ?_;refine qf ?_)))
  ·refine qi ⟨_,rfl,?_⟩;exact ⟨by rw [Kd.errR ho h5,if_neg hut,if_pos ⟨rfl,.inl hc⟩];rfl,S.drop⟩
  ·refine qi ⟨_,rfl,?_⟩;exact ⟨by rw [Kd.errR ho h5,if_neg hut,if_pos ⟨rfl,.inr hc⟩];rfl,S.drop⟩
  ·refine qi ⟨_,rfl,?_⟩;exact ⟨by rw [Kd.errR ho h5,if_neg hut,if_neg (fun q=>q.2.elim (fun q=>by contradiction) fun q=>by contradiction)];rfl,S.drop⟩
def mkP (b:Nat) (es:List (Value×Value×Nat)) (c:Nat) (h:AH) (fp:Fp):Prop:=h.get b=some (.map es c)∧fp b
abbrev mkR (b:Nat) (es:List (Value×Value×Nat)) (c:Nat):Rs:=.any (mkP b es c)
def mvO (r:Option (Nat×Value)) (z:Value):Value:=match r with|some q=>q.2|none=>z
section
variable {P:Program} {X:Extern} {sz:Nat} {L:Ks} {h h0:AH} {rs:List Rs} {ops:Array Oper} {os:List Oper} {o:Oper} {R:Ks→AH→Prop}
theorem qgl {ty:TypeId} {d:Tmp} (S:Hs h0 h rs) (w:∀ b h',Hs h0 h' (mkR b [] 0 :: rs)→KO P X sz ops os (L.put d (.map (some b))) h' R) (ho:o.op = .makeMap ty none:=by exact rfl) (hg:qm ops L.tree o.guard=some true:=by exact rfl) (hdst:o.dst=some d:=by exact rfl) (hds:Nat.blt d sz=true:=by exact rfl):KO P X sz ops (o :: os) L h R :=
 qV hg (v:=.map (some h.next)) (h':=h.add (.map [] 0)) (by rw [ho];rfl) (show qB sz L o.dst _=some (L.put d _) by simp only [qB,hdst,hds]) (w _ _ (S.grow (fp:=fun b=>b=h.next) ((Ext.refl S.wf).add _) (fun h' q=>⟨by rw [q _ rfl,AH.get_add,if_pos rfl],rfl⟩) fun b hb=>by subst hb;exact ⟨zA3 _,zF9 _⟩))
theorem ins {b c:Nat} {es es2:List (Value×Value×Nat)} {m k x:Operand} {ty et:TypeId} {kv xv:Value} {kd:TypeDesc} {L':Ks} (S:Hs h0 h (mkR b es c :: rs)) (w:∀ h',Hs h0 h' (mkR b es2 (c+1) :: rs)→KO P X sz ops os L' h' R)
 (ho:o.op = .insert ty m k x:=by exact rfl) (hg:qm ops L.tree o.guard=some true:=by exact rfl) (hm:kA L m=some (.map (some b)):=by exact rfl) (hk:kA L k=some kv:=by exact rfl) (hx:kA L x=some xv:=by exact rfl)
 (hT:Vr P ty kv=some (kd,et):=by exact rfl) (hf:QU kd kv es 0=some none:=by exact rfl) (he:es ++ [(kv,xv,c)]=es2:=by exact rfl) (hp:qB sz L o.dst (.tuple #[])=some L':=by exact rfl):KO P X sz ops (o :: os) L h R:=by
 obtain ⟨fp,k1,k2⟩:=At.here.ok S.sep;obtain ⟨g1,g2⟩:=k1 h fun _ _=>rfl;have g3:=fun j (hj:fp j)=>k2 j hj;have e:jI P ty (.map (some b)) kv xv h=some (h.put b (.map es2 (c+1))):=by
  unfold jI;simp only [hT,g1,hf,he]
 refine wI hg (h':=h.put b (.map es2 (c+1))) ?_ hp (w _ ?_)
 ·rw [ho];simp only [zC,qA hm,qA hk,qA hx,e]
 ·refine S.turn .here (zA3 _) (S.wf.put (g3 b g2).2.1 _) fun fq q1 q2=>?_;obtain ⟨g4,g5⟩:=q1 h fun _ _=>rfl;exact ⟨fun j _ hj=>by rw [AH.get_put,if_neg];intro q;subst q;exact hj g5,fq,fun h' q=>⟨by rw [q b g5,AH.get_put,if_pos rfl],g5⟩,fun j hj=>⟨(q2 j hj).2,.inl hj⟩⟩
theorem qfq {b c:Nat} {es:List (Value×Value×Nat)} {ty et:TypeId} {kv z:Value} {kd:TypeDesc} {r:Option (Nat×Value)} (S:Hs h0 h rs) (a:At rs (mkR b es c)) (hT:Vr P ty kv=some (kd,et)) (hf:QU kd kv es 0=some r) (hz:zeroV P et=some z) :
 jW P ty (.map (some b)) kv false h=some (mvO r z):=by
 obtain ⟨fp,⟨g1,g2⟩⟩:=S.anyP a;unfold jW JP;simp only [hT,g1,hf,hz];cases r<;>rfl
theorem lkK {b c:Nat} {es:List (Value×Value×Nat)} {m k:Operand} {ty et:TypeId} {kv z v:Value} {kd:TypeDesc} {r:Option (Nat×Value)} {L':Ks} (S:Hs h0 h rs) (a:At rs (mkR b es c)) (hf:QU kd kv es 0=some r) (hv:mvO r z=v) (w:KO P X sz ops os L' h R)
 (ho:o.op = .lookup ty m k false:=by exact rfl) (hg:qm ops L.tree o.guard=some true:=by exact rfl) (hm:kA L m=some (.map (some b)):=by exact rfl) (hk:kA L k=some kv:=by exact rfl) (hT:Vr P ty kv=some (kd,et):=by exact rfl) (hz:zeroV P et=some z:=by exact rfl) (hp:qB sz L o.dst v=some L':=by exact rfl):KO P X sz ops (o :: os) L h R:=by
 have e:=qfq S a hT hf hz;rw [hv] at e;refine qV hg (v:=v) (h':=h) ?_ hp w;rw [ho];simp only [zC,qA hm,qA hk,e,qH]
end
def kwL:List (List UInt8):=[[97,112,97,114,116],[98,101,115,105,100,101],[97,99,114,111,115,115],[110,101,97,114],[116,111,103,101,116,104,101,114],[97,116],[115,101,97,116],[97,108,116,101,114,110,97,116,101],[104,111,115,116],[114,101,97,99,104],[115,112,101,97,107],[112,101,97,99,101],[99,111,109,112,97,110,121],[104,111,110,111,117,114],[102,105,108,108],[108,105,109,105,116],[107,105,116,99,104,101,110],[109,105,120]]
def kfL:List Value:=[Jm 155,Jm 156,Jm 157,Jm 158,Jm 159,Jm 160,Jm 161,Jm 162,Jm 163,Jm 164,Jm 165,Jm 166,Jm 167,Jm 168,Jm 169,Jm 170,Jm 171,Jm 172]
def kEs:List (Value×Value×Nat):=(List.range 18).map fun i=>(.int .u8 ((i+1:Nat):Int),kdV (kwL.getD i []) (kdL.getD i default) (kfL.getD i .nilFunc),i)
theorem qbA {h0:AH} (w:WfH h0):Fn Tryz.prog Xh 115 [] h0 (fun u h'=>∃ b,u = .map (some b)∧Hs h0 h' [mkR b kEs 18]):=by
 have S:=Hs.start w;refine qF (by first|rfl) Tryz.func115 rfl rfl ?_;all_goals (repeat' (first|refine qg ?_|(refine qc 0 ?_;refine mv ?_;refine qf ?_)))
 (repeat (refine qg ?_));refine qc 1 ?_;refine qgl S ?_;clear S;intro b h S;refine vl ?_;refine ins (es2:=kEs.take 1) S ?_;clear S;intro h S;refine vl ?_;refine ins (es2:=kEs.take 2) S ?_;clear S;intro h S;refine vl ?_;refine ins (es2:=kEs.take 3) S ?_;clear S;intro h S;refine vl ?_;refine ins (es2:=kEs.take 4) S ?_;clear S;intro h S;refine vl ?_;refine ins (es2:=kEs.take 5) S ?_;clear S;intro h S;refine vl ?_;refine ins (es2:=kEs.take 6) S ?_;clear S;intro h S;refine vl ?_;refine ins (es2:=kEs.take 7) S ?_;clear S;intro h S;refine vl ?_;refine ins (es2:=kEs.take 8) S ?_;clear S;intro h S;refine vl ?_;refine ins (es2:=kEs.take 9) S ?_;clear S;intro h S;refine vl ?_;refine ins (es2:=kEs.take 10) S ?_;clear S;intro h S;refine vl ?_;refine ins (es2:=kEs.take 11) S ?_;clear S;intro h S;refine vl ?_;refine ins (es2:=kEs.take 12) S ?_;clear S;intro h S;refine vl ?_;refine ins (es2:=kEs.take 13) S ?_;clear S;intro h S;refine vl ?_;refine ins (es2:=kEs.take 14) S ?_;clear S;intro h S;refine vl ?_;refine ins (es2:=kEs.take 15) S ?_;clear S;intro h S;refine vl ?_;refine ins (es2:=kEs.take 16) S ?_;clear S;intro h S;refine vl ?_;refine ins (es2:=kEs.take 17) S ?_;clear S;intro h S;refine vl ?_;refine ins (es2:=kEs.take 18) S ?_;clear S;intro h S;refine mv ?_;refine mv ?_;refine qf ?_;all_goals (repeat' (fail))
 refine qi ⟨_,rfl,?_⟩;exact ⟨b,rfl,S⟩
def Wu (k:Int):Value:=if 1≤k∧k≤18 then kdV (kwL.getD (k.toNat - 1) []) (Qr k) (kfL.getD (k.toNat - 1) .nilFunc) else kdV [] ⟨0,false,0,false,0,false⟩ .nilFunc
variable [Flag]
theorem qap {h0:AH} (w:WfH h0) (v:RlV) (r:Rl) (H:RlOk h0 v r):Fn Tryz.prog Xh 153 [v.val] h0 (fun u h'=>((u = .tuple #[.int .i64 0,.int .i64 0]∧VRl r)∨∃ i e,u = .tuple #[.int .i64 i,.int .i64 e]∧Bad r i e)∧Hs h0 h' []):=by
 have S:=Hs.start w;unfold RlV.val;refine qF (by first|rfl|exact KX.no _ _ _ (by decide) rfl) Tryz.func153 rfl rfl ?_;all_goals (repeat' (first|refine qg ?_|refine qh rfl ?_|refine qj ?_|refine qx ?_|refine ql ?_|refine qZ ?_|refine zf ?_|(refine qc 0 ?_;(refine bx S ?_;clear S;intro b h S);refine mv ?_;refine mv ?_;refine qf ?_)|(refine qc 1 ?_;(first|refine lB S rfl rfl ?_|refine XD S rfl rfl ?_|refine jA S ?_|refine lH S ?_))))
 (refine qo rfl rfl rfl rfl rfl ((qcB S.wf v r (H.ext w S.ext)).mono ?_);rintro _ h (⟨p,rfl,hv,x⟩|⟨i,e,rfl,hb,x⟩))<;>(refine mv ?_;refine vl ?_;refine vl ?_;refine vl ?_;(iterate 3 refine mv ?_);refine qf ?_)
 ·replace S:=S.join x;all_goals (repeat' (first|refine qg ?_|refine qh rfl ?_|refine qj ?_|refine qx ?_|refine ql ?_|refine qZ ?_|refine zf ?_|(refine qc 2 ?_;(iterate 4 refine mv ?_);refine qf ?_)))
  refine qi ⟨_,rfl,?_⟩;exact ⟨.inl ⟨rfl,hv⟩,S.drop⟩
 ·replace S:=S.join x;all_goals (repeat' (first|refine qg ?_|refine qh rfl ?_|refine qj ?_|refine qx ?_|refine ql ?_|refine qZ ?_|refine zf ?_|(refine qc 2 ?_;(iterate 4 refine mv ?_);refine qf ?_)))
  refine qi ⟨_,rfl,?_⟩;exact ⟨.inr ⟨_,_,rfl,hb⟩,S.drop⟩
end Go.Proofs.Xx
