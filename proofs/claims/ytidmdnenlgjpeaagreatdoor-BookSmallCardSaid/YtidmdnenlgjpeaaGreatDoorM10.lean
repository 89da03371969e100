/-
  Rolls that are right;Load.
-/
import Derived.Test.YtidmdnenlgjpeaaGreatDoorM9
import Derived.Test.YtidmdnenlgjpeaaGreatDoorM7
set_option linter.unusedSimpArgs false
set_option linter.unusedVariables false
set_option linter.unusedSectionVars false
set_option maxRecDepth 100000
namespace Go.Proofs.Xx
open Go Go.Proofs
structure RlV where
 vg:SlV
 vt:SlV
 gs:List QM
def RlV.val (v:RlV):Value:=.agg #[v.vg.val,v.vt.val]
structure RlOk (h:AH) (v:RlV) (r:Rl):Prop where
 rg:Qq h v.vg.val 9 eG v.gs
 rt:Qq h v.vt.val 3 jb r.ts
 tg:∀ i,i<v.gs.length→Qq h (v.gs.getD i default).tv.val 1 eS (v.gs.getD i default).tg∧(v.gs.getD i default).tg.length≤9223372036854775807
 us:v.gs.map (·.toGu)=r.us
 lg:r.us.length≤9223372036854775807
 lt:r.ts.length≤9223372036854775807
theorem RlOk.ext {h h':AH} {v:RlV} {r:Rl} (a:RlOk h v r) (w:WfH h) (x:Ext h h'):RlOk h' v r:=⟨a.rg.ext w x,a.rt.ext w x,fun i hi=>⟨(a.tg i hi).1.ext w x,(a.tg i hi).2⟩,a.us,a.lg,a.lt⟩
theorem RlOk.len {h:AH} {v:RlV} {r:Rl} (a:RlOk h v r):v.gs.length=r.us.length:=by rw [← a.us];simp
theorem zx {α β:Type} [Inhabited α] [Inhabited β] {f:α→β} {l:List α} {i:Nat} (hi:i<l.length):(l.map f).getD i default=f (l.getD i default):=by
 rw [zA2,zA2,zH9,zA4 hi];rfl
theorem RlOk.at_ {h:AH} {v:RlV} {r:Rl} (a:RlOk h v r) {i:Nat} (hi:i<v.gs.length):(v.gs.getD i default).toGu=r.us.getD i default:=by rw [← a.us,zx hi]
noncomputable def gE0 (us:List Gu) (i:Nat):Int:=(JV ⟨us.take i,[]⟩ (us.getD i default)).2
open Classical in
noncomputable def Xw (r:Rl) (i:Nat):Int :=
 if zB (r.ts.getD i default).a (r.ts.getD i default).b∧(i=0∨¬ Zu (r.ts.getD i default) (r.ts.getD (i - 1) default)) then (QP ⟨r.us,r.ts.take i⟩ (r.ts.getD i default).a (r.ts.getD i default).b (r.ts.getD i default).k).2 else 23
def VRl (r:Rl):Prop:=(∀ i,i<r.us.length→gE0 r.us i=0)∧∀ i,i<r.ts.length→Xw r i=0
def Bad (r:Rl) (i e:Int):Prop:=e≠0∧((∃ j:Nat,j<r.us.length∧(∀ k,k<j→gE0 r.us k=0)∧gE0 r.us j=e∧i=j)∨((∀ k,k<r.us.length→gE0 r.us k=0)∧∃ j:Nat,j<r.ts.length∧(∀ k,k<j→Xw r k=0)∧Xw r j=e∧i=r.us.length+j))
theorem WS {p:Nat→Int} {j k:Nat} (h1:∀ i,i<j→p i=0) (h2:p j≠0) (h3:∀ i,i<k→p i=0) (h4:p k≠0):j=k:=by
 rcases zE7 j k with q|q|q
 ·exact absurd (h3 j q) h2
 ·exact q
 ·exact absurd (h1 k q) h4
theorem Bad.uniq {r:Rl} {i e i' e':Int} (a:Bad r i e) (b:Bad r i' e'):i=i'∧e=e':=by
 obtain ⟨h1,a⟩:=a;obtain ⟨h2,b⟩:=b;rcases a with ⟨j,a1,a2,a3,a4⟩|⟨a0,j,a1,a2,a3,a4⟩<;>rcases b with ⟨k,b1,b2,b3,b4⟩|⟨b0,k,b1,b2,b3,b4⟩
 ·obtain rfl:=WS a2 (a3 ▸ h1) b2 (b3 ▸ h2);exact ⟨a4.trans b4.symm,a3.symm.trans b3⟩
 ·exact absurd (b0 j a1) (a3 ▸ h1)
 ·exact absurd (a0 k b1) (b3 ▸ h2)
 ·obtain rfl:=WS a2 (a3 ▸ h1) b2 (b3 ▸ h2);exact ⟨a4.trans b4.symm,a3.symm.trans b3⟩
theorem Bad.not {r:Rl} {i e:Int} (a:Bad r i e):¬ VRl r:=fun v=>by
 obtain ⟨h1,⟨j,a1,a2,a3,a4⟩|⟨a0,j,a1,a2,a3,a4⟩⟩:=a
 ·exact h1 (a3 ▸ v.1 j a1)
 ·exact h1 (a3 ▸ v.2 j a1)
theorem Y9 {r:Rl} {g:Gu} (h:(JV r g).2=0):QJ g=0∧gat r.us g.name=none∧r.us.length<64∧(JV r g).1=⟨r.us ++ [g],r.ts⟩:=by
 by_cases h1:QJ g=0
 ·by_cases h2:gat r.us g.name=none
  ·by_cases h3:64≤r.us.length
   ·rw [wB h1 h2 h3] at h;cases h
   ·rw [wE h1 h2 h3];exact ⟨h1,h2,by omega,rfl⟩
  ·rw [wC h1 h2] at h;cases h
 ·rw [pF h1] at h;exact absurd h h1
theorem Z9 {r:Rl} {a b:List UInt8} {k:Int} (h:(QP r a b k).2=0):(k=1∨k=2)∧a≠b∧gat r.us a≠none∧gat r.us b≠none∧¬ tied r.ts a b∧r.ts.length<256∧(QP r a b k).1=⟨r.us,vz r.ts (XL a b k)⟩:=by
 by_cases h1:(k≠1∧k≠2)∨a=b
 ·rw [pY h1] at h;cases h
 ·by_cases h2:gat r.us a=none∨gat r.us b=none
  ·rw [KW h1 h2] at h;cases h
  ·by_cases h3:tied r.ts a b
   ·rw [yU h1 h2 h3] at h;cases h
   ·by_cases h4:256≤r.ts.length
    ·rw [yT h1 h2 h3 h4] at h;cases h
    ·rw [We h1 h2 h3 h4];exact ⟨by omega,fun q=>h1 (.inr q),fun q=>h2 (.inl q),fun q=>h2 (.inr q),h3,by omega,rfl⟩
theorem zi {α:Type} [Inhabited α] {l:List α} {i:Nat} (hi:i<l.length):l.take (i+1)=l.take i ++ [l.getD i default]:=by
 rw [List.take_add_one,zA2,zA4 hi];rfl
theorem Py {us:List Gu} {i:Nat} (hi:i≤us.length) (h:∀ k,k<i→gE0 us k=0):i≤64:=by
 cases i with
 | zero=>omega
 | succ i =>
  have:=(Y9 (h i (zG0 i))).2.2.1;simp at this;omega
theorem getD_take {α:Type} [Inhabited α] {l:List α} {i j:Nat} (h:j<i):(l.take i).getD j default=l.getD j default:=by
 rw [zA2,zA2,zC7,if_pos h]
theorem TS.mk_ {ts:List Ti} (h:∀ i j,i<j→j<ts.length→Zu (ts.getD i default) (ts.getD j default)):TS ts:=by
 rw [TS,zD2];intro i j hi hj hij;have:=h i j hij hj;rw [zA2,zA2,zA4 hj,zA4 hi] at this;exact this
theorem TS.app {ts:List Ti} {t:Ti} (h:TS ts) (h2:∀ j,j<ts.length→Zu (ts.getD j default) t):TS (ts ++ [t]):=TS.mk_ fun i j hij hj=>by
 simp at hj;rw [gA1 (show i<ts.length by omega)];rcases zA7 j ts.length with q|q
 ·rw [gA1 q];exact h.lt hij q
 ·obtain rfl:j=ts.length:=by omega
  rw [gA2 (zA3 _),zG6];exact h2 i (by omega)
theorem Yf {r:Rl} {i:Nat} (h:Xw r i=0):zB (r.ts.getD i default).a (r.ts.getD i default).b∧(i=0∨¬ Zu (r.ts.getD i default) (r.ts.getD (i - 1) default))∧(QP ⟨r.us,r.ts.take i⟩ (r.ts.getD i default).a (r.ts.getD i default).b (r.ts.getD i default).k).2=0:=by
 unfold Xw at h;split at h
 ·rename_i q;exact ⟨q.1,q.2,h⟩
 ·cases h
theorem QY {a b:List UInt8} (h:zB a b):jV a b=a:=by unfold jV;rw [if_neg (zX h)]
theorem QZ {a b:List UInt8} (h:zB a b):jW a b=b:=by unfold jW;rw [if_pos h]
theorem yV {r:Rl}:∀ {i:Nat},i≤r.ts.length→(∀ k,k<i→Xw r k=0)→TS (r.ts.take i)∧(i<r.ts.length→Xw r i=0→∀ j,j<i→Zu (r.ts.getD j default) (r.ts.getD i default))
 | i,hi,h=>by
  have key:∀ i,i≤r.ts.length→(∀ k,k<i→Xw r k=0)→TS (r.ts.take i)→i<r.ts.length→Xw r i=0→∀ j,j<i→Zu (r.ts.getD j default) (r.ts.getD i default):=by
   intro i hi h hs hl h0 j hj;obtain ⟨z1,z2,z3⟩:=Yf h0;have z4:=(Z9 z3).2.2.2.2.1;have hp:Zu (r.ts.getD (i - 1) default) (r.ts.getD i default):=by
    rcases V6 (r.ts.getD (i - 1) default) (r.ts.getD i default) with q|⟨e1,e2⟩|q
    ·exact q
    ·refine absurd ⟨r.ts.getD (i - 1) default,?_,?_⟩ z4
     ·rw [← getD_take (show i - 1<i by omega)];have hl2:i - 1<(r.ts.take i).length:=by simp;omega
      rw [zA2,zA4 hl2];exact List.getElem_mem hl2
     ·rw [QY z1,QZ z1];exact ⟨e1,e2⟩
    ·rcases z2 with z2|z2
     ·omega
     ·exact absurd q z2
   rcases zA7 j (i - 1) with q|q
   ·have hl2:i - 1<(r.ts.take i).length:=by simp;omega
    have:=hs.lt q hl2;rw [getD_take (by omega),getD_take (by omega)] at this;exact QW this hp
   ·obtain rfl:j=i - 1:=by omega
    exact hp
  have all:∀ i,i≤r.ts.length→(∀ k,k<i→Xw r k=0)→TS (r.ts.take i):=by
   intro i;induction i with
   | zero=>intro _ _;simp [TS]
   | succ i ih =>
    intro hi h;have hs:=ih (by omega) fun k hk=>h k (by omega);rw [zi (by omega)];refine hs.app fun j hj=>?_;simp at hj;rw [getD_take (by omega)];exact key i (by omega) (fun k hk=>h k (by omega)) hs (by omega) (h i (by omega)) j (by omega)
  exact ⟨all i hi h,key i hi h (all i hi h)⟩
theorem Pg {r:Rl} {i:Nat} (hi:i≤r.ts.length) (h:∀ k,k<i→Xw r k=0):i≤256:=by
 cases i with
 | zero=>omega
 | succ i =>
  have:=(Z9 (Yf (h i (zG0 i))).2.2).2.2.2.2.2.1;simp at this;omega
theorem qbZ {r:Rl} {i:Nat} (hi:i<r.ts.length) (h:∀ k,k<i→Xw r k=0) (h0:Xw r i=0):(QP ⟨r.us,r.ts.take i⟩ (r.ts.getD i default).a (r.ts.getD i default).b (r.ts.getD i default).k).1=⟨r.us,r.ts.take (i+1)⟩:=by
 obtain ⟨z1,z2,z3⟩:=Yf h0;rw [(Z9 z3).2.2.2.2.2.2];have e:XL (r.ts.getD i default).a (r.ts.getD i default).b (r.ts.getD i default).k=r.ts.getD i default:=by unfold XL;rw [QY z1,QZ z1]
 have hl:(r.ts.take i).length=i:=by simp;omega
 show (⟨r.us,vz (r.ts.take i) _⟩:Rl)=_
 rw [e,Yo (i:=i) ⟨by omega,fun j hj=>by rw [getD_take hj];exact (yV (by omega) h).2 hi h0 j hj,fun j h1 h2=>by omega⟩,zi hi];simp [List.take_take]
theorem qdO {c:Int} {x t:Ti} (e1:c<0↔Zu x t) (e2:c=0↔x.a=t.a∧x.b=t.b):c≤0↔¬ Zu t x:=by
 constructor
 ·intro z q;rcases Int.lt_or_eq_of_le z with z|z
  ·exact PN _ (QW (e1.1 z) q)
  ·have:=e2.1 z;rcases q with q|q
   ·rw [this.1] at q;exact zh _ q
   ·rw [this.2] at q;exact zh _ q.2
 ·intro z;rcases V6 x t with q|q|q
  ·have:=e1.2 q;omega
  ·have:=e2.2 q;omega
  ·exact absurd q z
variable [Flag]
theorem V3 {h0:AH} (w:WfH h0) (v:RlV) (r:Rl) (H:RlOk h0 v r) :
 Fn Tryz.prog Xh 33 [v.val] h0 (fun u h'=>(∃ p,u = .tuple #[.pointer (some ⟨p,0,none⟩),.int .i64 0,.int .i64 0]∧VRl r∧Hs h0 h' [zT p r])∨(∃ i e,u = .tuple #[.pointer none,.int .i64 i,.int .i64 e]∧Bad r i e∧Hs h0 h' [])):=by
 have S:=Hs.start w;have hgl:=H.len;have hrg:=H.rg;have hrt:=H.rt;have hlg:=H.lg;have hlt:=H.lt;unfold RlV.val;refine qV rfl Tryz.func33 rfl rfl ?_;all_goals (repeat' (first|refine qi ?_|(refine qc 0 ?_;(refine bx S ?_;clear S;intro b h S);(iterate 3 refine mv ?_);refine qf ?_)|(refine qc 1 ?_;skip)))
 (refine qx rfl rfl rfl rfl rfl ((qdv S.wf).mono ?_);rintro _ h ⟨p,rfl,x⟩)<;>(replace S:=S.Qd x;clear x;refine mv ?_;refine qf ?_)
 all_goals (repeat' (first|refine qi ?_|refine qh ?_|(refine qc 2 ?_;refine vl ?_;refine lB S rfl rfl ?_;refine Qa S ?_;refine mv ?_;refine qf ?_)))
 obtain ⟨q,hnm⟩:∃ x,x=b:=⟨_,rfl⟩;subst hnm;replace S:Hs h0 h [zT p ⟨[],[]⟩,.blk q [v.vg.val,v.vt.val] 32]:=S;refine qJ (σ:=Nat) (fun i h'=>Hs h0 h' [zT p ⟨r.us.take i,[]⟩,.blk q [v.vg.val,v.vt.val] 32]∧i≤r.us.length∧∀ k,k<i→gE0 r.us k=0) (fun i=>r.us.length - i) (fun i=>[(1,.pointer (some ⟨q,0,none⟩)),(5,.pointer (some ⟨p,0,none⟩)),(14,v.vg.val),(15,.int .i64 v.gs.length),(16,.int .i64 i)]) 0 qy ?_ ?_
 ·exact ⟨S,zB0 _,fun j hj=>absurd hj (zB7 _)⟩
 clear S;rintro i h ⟨S,g1,g2⟩;have hi64:=Py g1 g2;all_goals (repeat' (first|refine qi ?_|refine qg rfl ?_|refine qj ?_|refine qo ?_|refine qh ?_|(refine qc 3 ?_;(first|(refine cS ?_ ?_<;>intro hc))<;>(refine qf ?_))|(refine qc 4 ?_;refine mv ?_;refine Qv S ?_;refine zu S ?_;(refine al S ?_;clear S;intro b h S);refine mv ?_;(first|(refine sB S rfl rfl ?_;clear S;intro h S));refine qf ?_)|(refine qc 5 ?_;refine mv ?_;refine lB S rfl rfl ?_)|(refine qc 9 ?_;refine vl ?_;refine lB S rfl rfl ?_;refine Qa S ?_;refine mv ?_;refine qf ?_)))
 ·have hil:i<v.gs.length:=by omega
  have hat:=H.at_ hil;simp only [zA0] at S;simp only [zA0];have htl:(r.us.take i).length≤64:=by simp;omega
  (refine qx rfl rfl rfl rfl rfl ((pz (S.front (.there .here)) (v.gs.getD i default) (RdS.base w (H.tg i hil).1) (H.tg i hil).2 htl).mono ?_);rintro _ h ⟨rfl,S⟩)<;>(refine mv ?_;refine qf ?_)
  rw [hat] at S;simp only [hat];all_goals (repeat' (first|refine qi ?_|refine qg rfl ?_|refine qj ?_|(refine qc 6 ?_;refine mv ?_;(first|(refine cS ?_ ?_<;>intro hc))<;>(refine qf ?_))|(refine qc 7 ?_;(iterate 5 refine mv ?_);refine qf ?_)|(refine qc 8 ?_;refine ad ?_;refine mv ?_;refine qf ?_)))
  ·refine qC ⟨_,rfl,?_⟩;exact .inr ⟨i,_,rfl,⟨hc,.inl ⟨i,by omega,g2,rfl,rfl⟩⟩,S.drop⟩
  ·have hz:gE0 r.us i=0:=zF3.1 hc;rw [(Y9 hz).2.2.2] at S;refine ⟨i+1,?_,?_,qy⟩
   ·show r.us.length - (i+1)<r.us.length - i;omega
   ·refine ⟨?_,by omega,Zb g2 hz⟩;rw [zi (by omega)];exact S.pick
 ·obtain rfl:i=r.us.length:=by omega
  rw [zD4] at S;refine qJ (σ:=Nat) (fun i h'=>Hs h0 h' [zT p ⟨r.us,r.ts.take i⟩,.blk q [v.vg.val,v.vt.val] 32]∧i≤r.ts.length∧∀ k,k<i→Xw r k=0) (fun i=>r.ts.length - i) (fun i=>[(1,.pointer (some ⟨q,0,none⟩)),(5,.pointer (some ⟨p,0,none⟩)),(30,v.vt.val),(31,.int .i64 r.ts.length),(32,.int .i64 i)]) 0 qy ?_ ?_
  ·exact ⟨S,zB0 _,fun j hj=>absurd hj (zB7 _)⟩
  clear S;rintro i h ⟨S,k1,k2⟩;have hi256:=Pg k1 k2;have hTS:=(yV k1 k2).1;have htl:(r.ts.take i).length≤256:=by simp;omega
  all_goals (repeat' (first|refine qi ?_|refine qg rfl ?_|refine qj ?_|refine qo ?_|refine qh ?_|(refine qc 10 ?_;(first|(refine cS ?_ ?_<;>intro hc))<;>(refine qf ?_))|(refine qc 11 ?_;refine mv ?_;refine Qv S ?_;refine zu S ?_;(refine al S ?_;clear S;intro b h S);refine mv ?_;(first|(refine sB S rfl rfl ?_;clear S;intro h S));refine qf ?_)|(refine qc 12 ?_;refine mv ?_;refine qf ?_)|(refine qc 18 ?_;(iterate 4 refine mv ?_);refine qf ?_)))
  ·obtain ⟨t,ht⟩:∃ t,t=r.ts.getD i default:=⟨_,rfl⟩
   simp only [zA0] at S;simp only [zA0];replace S:Hs h0 h [.blk b (jb t) 111,zT p ⟨r.us,r.ts.take i⟩,.blk q [v.vg.val,v.vt.val] 32]:=by rw [ht];exact S
   (repeat (refine qi ?_));first|refine Zj (σ:=Rl) (fun r' h'=>Hs h0 h' [zT p r',.blk q [v.vg.val,v.vt.val] 32]∧(Xw r i=0→r'=⟨r.us,r.ts.take (i+1)⟩)) (fun r'=>[(1,.pointer (some ⟨q,0,none⟩)),(5,.pointer (some ⟨p,0,none⟩)),(9,.int .i64 i),(11,.int .i64 (Xw r i)),(30,v.vt.val),(31,.int .i64 r.ts.length),(32,.int .i64 i)]) ?_ ?_
   ·have he1:zB t.a t.b→(i=0∨¬ Zu t (r.ts.getD (i - 1) default))→Xw r i=(QP ⟨r.us,r.ts.take i⟩ t.a t.b t.k).2:=fun z1 z2=>by rw [ht] at z1 z2 ⊢;unfold Xw;rw [if_pos ⟨z1,z2⟩]
    have he2:¬ (zB t.a t.b∧(i=0∨¬ Zu t (r.ts.getD (i - 1) default)))→Xw r i=23:=fun z=>by rw [ht] at z;unfold Xw;rw [if_neg z]
    have he3:Xw r i=0→(QP ⟨r.us,r.ts.take i⟩ t.a t.b t.k).1=⟨r.us,r.ts.take (i+1)⟩:=fun z=>by rw [ht];exact qbZ (by omega) k2 z
    all_goals (repeat' (first|refine qg rfl ?_|refine qj ?_|(refine qK 13 ?_;refine vl ?_;refine lB S rfl rfl ?_;refine vl ?_;refine lB S rfl rfl ?_;(refine tO ?_ ?_<;>intro hc)<;>(refine mv ?_;(first|refine off ?_|refine mv ?_);(first|refine off ?_|(first|(refine cS ?_ ?_<;>intro hc)))<;>((first|refine off ?_|refine mv ?_);(first|refine off ?_|(refine vl ?_));(first|refine off ?_|(refine lB S rfl rfl ?_));(first|refine off ?_|refine mv ?_);(first|refine off ?_|(refine sb ?_));(first|refine off ?_|(refine Qv S ?_));(first|refine off ?_|(refine zu S ?_));(first|refine off ?_|(refine lB S rfl rfl ?_));(first|(refine off ?_;(refine off ?_)<;>((first|refine off ?_|refine vl ?_);refine vl ?_;refine qf ?_))|skip))))))
    ·all_goals (repeat' (first|(refine qc 14 ?_;refine mv ?_;refine vl ?_;refine lB S rfl rfl ?_;refine vl ?_;refine lB S rfl rfl ?_;refine vl ?_;refine lB S rfl rfl ?_)))
     (refine qx rfl rfl rfl rfl rfl ((V8 (S.front (.there .here)) t.a t.b t.k htl hTS).mono ?_);rintro _ h ⟨rfl,S⟩)<;>(refine mv ?_;refine qf ?_)
     have he:=he1 (by assumption) (.inl (by omega));refine ⟨_,⟨S.pick,he3⟩,?_⟩;rw [he];exact qy
    ·(refine qx rfl rfl rfl rfl rfl ((WB S.wf (r.ts.getD ((i:Int) - 1).toNat default) t).mono ?_);rintro _ h ⟨⟨c,rfl,e1,e2⟩,x⟩)<;>(replace S:=S.qL x;clear x;(first|(first|(refine cS ?_ ?_<;>intro hc)))<;>((refine vl ?_);refine vl ?_;refine qf ?_))
     all_goals rw [show ((i:Int) - 1).toNat=i - 1 by omega] at e1 e2
     all_goals have ec:=qdO e1 e2
     all_goals (repeat' (first|refine qg rfl ?_|refine qj ?_))
     ·all_goals (repeat' (first|(refine qc 14 ?_;refine mv ?_;refine vl ?_;refine lB S rfl rfl ?_;refine vl ?_;refine lB S rfl rfl ?_;refine vl ?_;refine lB S rfl rfl ?_)))
      (refine qx rfl rfl rfl rfl rfl ((V8 (S.front (.there .here)) t.a t.b t.k htl hTS).mono ?_);rintro _ h ⟨rfl,S⟩)<;>(refine mv ?_;refine qf ?_)
      have he:=he1 (by assumption) (.inr (ec.1 (by assumption)));refine ⟨_,⟨S.pick,he3⟩,?_⟩;rw [he];exact qy
     ·have he:=he2 (fun z=>z.2.elim (fun q=>by omega) (fun q=>absurd (ec.2 q) (by assumption)));refine ⟨⟨r.us,r.ts.take i⟩,⟨S.pick,fun q=>by rw [he] at q;cases q⟩,?_⟩;rw [he];exact qy
    ·have he:=he2 (fun z=>absurd z.1 (by assumption));refine ⟨⟨r.us,r.ts.take i⟩,⟨S.pick,fun q=>by rw [he] at q;cases q⟩,?_⟩;rw [he];exact qy
   ·clear S;rintro r' h ⟨S,hr'⟩;all_goals (repeat' (first|refine qi ?_|refine qg rfl ?_|refine qj ?_|(refine qc 15 ?_;refine mv ?_;(first|(refine cS ?_ ?_<;>intro hc))<;>(refine qf ?_))|(refine qK 16 ?_;refine vl ?_;refine lB S rfl rfl ?_;refine Qa S ?_;refine mv ?_;refine ad ?_;(iterate 4 refine mv ?_);refine qf ?_)|(refine qc 17 ?_;refine ad ?_;refine mv ?_;refine qf ?_)))
    ·refine qC ⟨_,rfl,?_⟩;exact .inr ⟨_,_,rfl,⟨hc,.inr ⟨g2,i,by omega,k2,rfl,by rw [hgl]⟩⟩,S.drop⟩
    ·have hz:Xw r i=0:=zF3.1 hc;obtain rfl:=hr' hz;refine ⟨i+1,?_,?_,qy⟩
     ·show r.ts.length - (i+1)<r.ts.length - i;omega
     ·exact ⟨S,by omega,Zb k2 hz⟩
  ·refine qC ⟨_,rfl,?_⟩;obtain rfl:i=r.ts.length:=by omega
   rw [zD4] at S;exact .inl ⟨p,rfl,⟨g2,k2⟩,S.pick⟩
end Go.Proofs.Xx
namespace Go.Proofs.Xx
open Go Go.Proofs
theorem Jj {us:List Gu} {n:List UInt8}:gat us n=none↔∀ g∈us,g.name≠n:=by
 induction us with
 | nil=>simp [gat]
 | cons x r ih =>
  simp only [gat];by_cases h:x.name=n
  ·simp [h]
  ·simp only [if_neg h,Option.map_eq_none_iff,ih,zE8];constructor
   ·rintro q g (rfl|hg)
    ·exact h
    ·exact q g hg
   ·exact fun q g hg=>q g (.inr hg)
theorem Yy {us:List Gu} {n:List UInt8} {i:Nat} (h:gat us n=some i):i<us.length∧(us.getD i default).name=n∧∀ j,j<i→(us.getD j default).name≠n:=by
 induction us generalizing i with
 | nil=>cases h
 | cons x r ih =>
  simp only [gat] at h;by_cases hx:x.name=n
  ·rw [if_pos hx] at h;cases h
   exact ⟨by simp,hx,fun j hj=>absurd hj (zB7 _)⟩
  ·rw [if_neg hx] at h;cases hr:gat r n with
   | none=>rw [hr] at h;cases h
   | some k =>
    rw [hr] at h;cases h
    obtain ⟨h1,h2,h3⟩:=ih hr;refine ⟨by simp;omega,h2,fun j hj=>?_⟩;cases j with
    | zero=>exact hx
    | succ j=>exact h3 j (by simp only at hj;omega)
theorem Xo {us:List Gu} {n:List UInt8}:gat us n≠none↔∃ g∈us,g.name=n:=by
 rw [Ne,Jj];constructor
 ·intro h;apply zG8
  intro q;exact h fun g hg e=>q ⟨g,hg,e⟩
 ·rintro ⟨g,hg,e⟩ q;exact q g hg e
theorem qO {α:Type} [Inhabited α] {l:List α} {i:Nat} (h:i<l.length):l.getD i default∈l:=by
 rw [zA2,zA4 h];exact List.getElem_mem h
theorem qQ {α:Type} [Inhabited α] {l:List α} {x:α}:x∈l↔∃ i,i<l.length∧l.getD i default=x:=by
 constructor
 ·intro h;obtain ⟨i,hi,rfl⟩:=List.mem_iff_getElem.1 h;exact ⟨i,hi,by rw [zA2,zA4 hi];rfl⟩
 ·rintro ⟨i,hi,rfl⟩;exact qO hi
structure RO (r:Rl):Prop where
 chk:∀ g∈r.us,QJ g=0
 nd:∀ i j,i<j→j<r.us.length→(r.us.getD i default).name≠(r.us.getD j default).name
 l64:r.us.length≤64
 ts:TS r.ts
 tt:∀ t∈r.ts,zB t.a t.b∧(t.k=1∨t.k=2)∧gat r.us t.a≠none∧gat r.us t.b≠none
 l256:r.ts.length≤256
theorem RO.gat {r:Rl} (h:RO r) {i:Nat} (hi:i<r.us.length):gat r.us (r.us.getD i default).name=some i:=by
 cases hq:Xx.gat r.us (r.us.getD i default).name with
 | none=>exact absurd rfl (Jj.1 hq _ (qO hi))
 | some j =>
  obtain ⟨h1,h2,h3⟩:=Yy hq;rcases zE7 i j with q|q|q
  ·exact absurd rfl (h3 i q)
  ·rw [q]
  ·exact absurd h2 (h.nd j i q hi)
theorem vT {us:List Gu} {i:Nat} (hi:i<us.length):gE0 us i=0↔QJ (us.getD i default)=0∧(∀ j,j<i→(us.getD j default).name≠(us.getD i default).name)∧i<64:=by
 unfold gE0;have hl:(us.take i).length=i:=by simp;omega
 have hg:Xx.gat (us.take i) (us.getD i default).name=none↔∀ j,j<i→(us.getD j default).name≠(us.getD i default).name:=by
  rw [Jj];constructor
  ·intro h j hj;have:=h _ (qO (show j<(us.take i).length by omega));rwa [getD_take hj] at this
  ·intro h g hg;obtain ⟨j,hj,rfl⟩:=qQ.1 hg;rw [getD_take (by omega)];exact h j (by omega)
 constructor
 ·intro h;obtain ⟨h1,h2,h3,-⟩:=Y9 h;exact ⟨h1,hg.1 h2,by simpa [hl] using h3⟩
 ·rintro ⟨h1,h2,h3⟩;rw [wE h1 (hg.2 h2) (by show ¬ 64≤(us.take i).length;omega)]
theorem kE {ts:List Ti} {a b:List UInt8} (h:zB a b):tied ts a b↔∃ t∈ts,t.a=a∧t.b=b:=by unfold tied;rw [QY h,QZ h]
theorem PQ {r:Rl}:VRl r↔RO r:=by
 constructor
 ·rintro ⟨h1,h2⟩;refine ⟨fun g hg=>?_,fun i j hij hj=>((vT hj).1 (h1 j hj)).2.1 i hij,Py (zA3 _) h1,?_,fun t ht=>?_,Pg (zA3 _) h2⟩
  ·obtain ⟨i,hi,rfl⟩:=qQ.1 hg;exact ((vT hi).1 (h1 i hi)).1
  ·have:=(yV (zA3 _) h2).1;rwa [zD4] at this
  ·obtain ⟨i,hi,rfl⟩:=qQ.1 ht;obtain ⟨z1,z2,z3⟩:=Yf (h2 i hi);obtain ⟨y1,y2,y3,y4,y5,y6,y7⟩:=Z9 z3;exact ⟨z1,y1,y3,y4⟩
 ·intro h;refine ⟨fun i hi=>(vT hi).2 ⟨h.chk _ (qO hi),fun j hj=>h.nd j i hj hi,by have:=h.l64;omega⟩,fun i hi=>?_⟩;obtain ⟨z1,z2,z3,z4⟩:=h.tt _ (qO hi);have hb:∀ j,j<i→Zu (r.ts.getD j default) (r.ts.getD i default):=fun j hj=>h.ts.lt hj hi;have hz:i=0∨¬ Zu (r.ts.getD i default) (r.ts.getD (i - 1) default):=by
   rcases zF4 i with q|q
   ·exact .inl q
   ·exact .inr fun q2=>PN _ (QW (hb (i - 1) (by omega)) q2)
  unfold Xw;rw [if_pos ⟨z1,hz⟩,We]
  ·rintro (q|q)
   ·omega
   ·rw [q] at z1;exact zh _ z1
  ·rintro (q|q)
   ·exact z3 q
   ·exact z4 q
  ·rw [kE z1];rintro ⟨t,ht,e1,e2⟩;obtain ⟨j,hj,rfl⟩:=qQ.1 ht;have hl:(r.ts.take i).length=i:=by simp;omega
   replace hj:j<i:=by rw [← hl];exact hj
   rw [getD_take (by omega)] at e1 e2;rcases hb j (by omega) with q|q
   ·rw [e1] at q;exact zh _ q
   ·rw [e2] at q;exact zh _ q.2
  ·have:=h.l256;simp;omega
def num (j:Nat):List UInt8:=[UInt8.ofNat (97+j / 26 % 26),UInt8.ofNat (97+j % 26)]
theorem qd7 {a b:Nat} (ha:a<256) (hb:b<256):UInt8.ofNat a<UInt8.ofNat b↔a<b:=by
 rw [UInt8.lt_iff_toNat_lt];simp [UInt8.toNat_ofNat,Nat.mod_eq_of_lt ha,Nat.mod_eq_of_lt hb]
theorem qe4 {a b:Nat} (ha:a<256) (hb:b<256):UInt8.ofNat a=UInt8.ofNat b↔a=b:=by
 constructor
 ·intro h;have:=congrArg UInt8.toNat h;simpa [UInt8.toNat_ofNat,Nat.mod_eq_of_lt ha,Nat.mod_eq_of_lt hb] using this
 ·rintro rfl;rfl
theorem XT {i j:Nat} (hi:i<676) (hj:j<676):zB (num i) (num j)↔i<j:=by
 unfold num;rw [Zy,Zy,qd7 (by omega) (by omega),qe4 (by omega) (by omega),qd7 (by omega) (by omega)];constructor
 ·rintro (h|⟨h1,h2|⟨h2,h3⟩⟩)
  ·omega
  ·omega
  ·exact absurd h3 (zh _)
 ·intro h;rcases zA7 (i / 26) (j / 26) with q|q
  ·exact .inl (by omega)
  ·exact .inr ⟨by omega,.inl (by omega)⟩
theorem VY {i j:Nat} (hi:i<676) (hj:j<676) (h:num i=num j):i=j:=by
 rcases zE7 i j with q|q|q
 ·have:=(XT hi hj).2 q;rw [h] at this;exact absurd this (zh _)
 ·exact q
 ·have:=(XT hj hi).2 q;rw [h] at this;exact absurd this (zh _)
theorem qa9 (j:Nat):VA (num j):=by
 refine ⟨by simp [num],by simp [num],fun i hi=>?_⟩;have h1:j / 26 % 26<26:=Nat.mod_lt _ (by decide);have h2:j % 26<26:=Nat.mod_lt _ (by decide);have hi:i<2:=by simpa [num] using hi
 rcases (show i=0∨i=1 by omega) with rfl|rfl
 ·show Y0 (UInt8.ofNat (97+j / 26 % 26))
  unfold Y0;rw [UInt8.toNat_ofNat',Nat.mod_eq_of_lt (by omega)];omega
 ·show Y0 (UInt8.ofNat (97+j % 26))
  unfold Y0;rw [UInt8.toNat_ofNat',Nat.mod_eq_of_lt (by omega)];omega
variable [Flag]
theorem qah {h0:AH} (w:WfH h0) (j:Nat) (hj:j≤1000000):Fn Tryz.prog Xh 69 [.int .i64 j] h0 (fun v h'=>v=str (num j)∧Hs h0 h' []):=by
 have S:=Hs.start w;refine qV rfl Tryz.func69 rfl rfl ?_;all_goals (repeat' (first|refine qi ?_|(refine qc 0 ?_;refine mv ?_;refine qf ?_)|(refine qc 1 ?_;refine mv ?_;refine qu ?_;refine rm ?_;refine ad ?_;refine cU ?_;refine mv ?_;refine rm ?_;refine ad ?_;refine cU ?_)))
 refine bsn (α:=Nat) (z:=1) eU [97+j / 26 % 26,97+j % 26] S ?_;clear S;intro u h S;refine bS (Rd.Qc S .here) ?_;(refine mv ?_;refine qf ?_);all_goals (repeat' (fail))
 refine qC ⟨_,rfl,?_⟩;exact ⟨rfl,S.drop⟩
theorem XR {h0:AH} (w:WfH h0) {z:Int} (j:Nat) (hz:z=j) (hj:j≤1000000):Fn Tryz.prog Xh 69 [.int .i64 z] h0 (fun v h'=>v=str (num j)∧Hs h0 h' []):=by
 subst hz;exact qah w j hj
end Go.Proofs.Xx
namespace Go.Proofs.Xx
section
variable {α:Type} [Inhabited α]
theorem Qh (l:List α) {i:Nat} (x:α) (h:i<l.length) (j:Nat):(l.set i x).getD j default=if j=i then x else l.getD j default:=by
 rw [zA2,zA2,List.getElem?_set];by_cases e:i=j
 ·subst e;rw [if_pos rfl,if_pos rfl,if_pos h];rfl
 ·rw [if_neg e,if_neg (fun q=>e q.symm)]
def swp (l:List α) (i j:Nat):List α:=(l.set i (l.getD j default)).set j (l.getD i default)
theorem qb3 (l:List α) (i j:Nat):(swp l i j).length=l.length:=by simp [swp]
theorem swp_get {l:List α} {i j:Nat} (hi:i<l.length) (hj:j<l.length) (k:Nat):(swp l i j).getD k default=if k=j then l.getD i default else if k=i then l.getD j default else l.getD k default:=by
 unfold swp;rw [Qh _ _ (by simpa using hj),Qh _ _ hi]
theorem qaO {l:List α} {i j:Nat} (hi:i<l.length) (hj:j<l.length):(swp l i j).Perm l:=by
 unfold swp;have e1:l.getD i default=l[i]:=by simp [zA2,zA4 hi]
 have e2:l.getD j default=l[j]:=by simp [zA2,zA4 hj]
 rw [e1,e2];exact List.set_set_perm hi hj
inductive Sw (a b:Nat):List α→List α→Prop
 | refl (l:List α):Sw a b l l
 | step {l l':List α} (i j:Nat) (h:Sw a b l l') (hi:a≤i∧i<b) (hj:a≤j∧j<b) (hb:b≤l'.length):Sw a b l (swp l' i j)
theorem Sw.len {a b:Nat} {l l':List α} (h:Sw a b l l'):l'.length=l.length:=by
 induction h with
 | refl=>rfl
 | step i j h hi hj hb ih=>rw [qb3,ih]
theorem Sw.perm {a b:Nat} {l l':List α} (h:Sw a b l l'):l'.Perm l:=by
 induction h with
 | refl=>exact .refl _
 | step i j h hi hj hb ih=>exact (qaO (by omega) (by omega)).trans ih
theorem Sw.out {a b:Nat} {l l':List α} (h:Sw a b l l') {k:Nat} (hk:k<a∨b≤k):l'.getD k default=l.getD k default:=by
 induction h with
 | refl=>rfl
 | step i j h hi hj hb ih=>rw [swp_get (by omega) (by omega),if_neg (by omega),if_neg (by omega),ih]
theorem Sw.in_ {a b:Nat} {l l':List α} (h:Sw a b l l'):∀ {k:Nat},a≤k→k<b→∃ m,a≤m∧m<b∧l'.getD k default=l.getD m default:=by
 induction h with
 | refl=>intro k h1 h2;exact ⟨k,h1,h2,rfl⟩
 | step i j h hi hj hb ih =>
  intro k h1 h2;rw [swp_get (by omega) (by omega)];split
  ·exact ih hi.1 hi.2
  ·split
   ·exact ih hj.1 hj.2
   ·exact ih h1 h2
theorem Sw.trans {a b:Nat} {l m n:List α} (h:Sw a b l m) (g:Sw a b m n):Sw a b l n:=by
 induction g with
 | refl=>exact h
 | step i j g hi hj hb ih=>exact .step i j ih hi hj hb
theorem Sw.mono {a b a' b':Nat} {l m:List α} (h:Sw a b l m) (ha:a'≤a) (hb:b≤b') (hl:b'≤l.length):Sw a' b' l m:=by
 induction h with
 | refl=>exact .refl _
 | step i j g hi hj hbl ih =>
  exact .step i j ih ⟨by omega,by omega⟩ ⟨by omega,by omega⟩ (by rw [g.len];exact hl)
theorem Sw.one {a b:Nat} {l:List α} (i j:Nat) (hi:a≤i∧i<b) (hj:a≤j∧j<b) (hb:b≤l.length):Sw a b l (swp l i j):=.step i j (.refl l) hi hj hb
structure WOrd (lt:α→α→Prop):Prop where
 irr:∀ x,¬ lt x x
 tr:∀ {x y z},lt x y→lt y z→lt x z
 ntr:∀ {x y z},¬ lt y x→¬ lt z y→¬ lt z x
theorem WOrd.asym {lt:α→α→Prop} (W:WOrd lt) {x y:α} (h:lt x y):¬ lt y x:=fun g=>W.irr x (W.tr h g)
def Srt (lt:α→α→Prop) (a b:Nat) (l:List α):Prop:=∀ i j,a≤i→i<j→j<b→¬ lt (l.getD j default) (l.getD i default)
theorem Srt.adj {lt:α→α→Prop} (W:WOrd lt) {a b:Nat} {l:List α} (h:∀ i,a≤i→i+1<b→¬ lt (l.getD (i+1) default) (l.getD i default)):Srt lt a b l:=by
 intro i j h1 h2 h3;induction j with
 | zero=>omega
 | succ j ih =>
  rcases zA7 i j with q|q
  ·exact W.ntr (ih q (by omega)) (h j (by omega) h3)
  ·have:i=j:=by omega
   subst this;exact h i h1 h3
def InsI (lt:α→α→Prop) (a i j:Nat) (l:List α):Prop:=∀ p q,a≤p→p<q→q≤i→q≠j→¬ lt (l.getD q default) (l.getD p default)
theorem InsI.start {lt:α→α→Prop} {a i:Nat} {l:List α} (h:Srt lt a i l):InsI lt a i i l:=fun p q h1 h2 h3 h4=>h p q h1 h2 (by omega)
theorem InsI.next {lt:α→α→Prop} (W:WOrd lt) {a i j:Nat} {l:List α} (h:InsI lt a i j l) (hj:a<j) (hji:j≤i) (hl:i<l.length) (hc:lt (l.getD j default) (l.getD (j - 1) default)):InsI lt a i (j - 1) (swp l j (j - 1)):=by
 intro p q h1 h2 h3 h4;have g:=swp_get (l:=l) (i:=j) (j:=j - 1) (by omega) (by omega);rw [g q,g p,if_neg h4];by_cases e1:q=j
 ·subst e1;rw [if_pos rfl];by_cases e2:p=q - 1
  ·rw [if_pos e2];exact W.asym hc
  ·rw [if_neg e2,if_neg (by omega)];exact h p (q - 1) h1 (by omega) (by omega) (by omega)
 ·rw [if_neg e1];by_cases e2:p=j - 1
  ·rw [if_pos e2];exact h j q (by omega) (by omega) h3 e1
  ·rw [if_neg e2];by_cases e3:p=j
   ·rw [if_pos e3];exact h (j - 1) q (by omega) (by omega) h3 e1
   ·rw [if_neg e3];exact h p q h1 h2 h3 e1
theorem InsI.done {lt:α→α→Prop} (W:WOrd lt) {a i j:Nat} {l:List α} (h:InsI lt a i j l) (hc:j≤a∨¬ lt (l.getD j default) (l.getD (j - 1) default)):Srt lt a (i+1) l:=by
 intro p q h1 h2 h3;by_cases e:q=j
 ·subst e;rcases hc with hc|hc
  ·omega
  ·by_cases e2:p=q - 1
   ·rw [e2];exact hc
   ·exact W.ntr (h p (q - 1) h1 (by omega) (by omega) (by omega)) hc
 ·exact h p q h1 h2 (by omega) e
def wV (lt:α→α→Prop) (f hi k:Nat) (l:List α):Prop :=
 (2*k+1<hi→¬ lt (l.getD (f+k) default) (l.getD (f+(2*k+1)) default))∧(2*k+2<hi→¬ lt (l.getD (f+k) default) (l.getD (f+(2*k+2)) default))
def Heap (lt:α→α→Prop) (f lo hi:Nat) (l:List α):Prop:=∀ k,lo≤k→wV lt f hi k l
def SiftI (lt:α→α→Prop) (f lo hi root:Nat) (l:List α):Prop :=
 (∀ k,lo≤k→k≠root→wV lt f hi k l)∧∀ k,lo≤k→(root=2*k+1∨root=2*k+2)→∀ c,(c=2*root+1∨c=2*root+2)→c<hi→¬ lt (l.getD (f+k) default) (l.getD (f+c) default)
theorem SiftI.start {lt:α→α→Prop} {f lo hi:Nat} {l:List α} (h:Heap lt f (lo+1) hi l):SiftI lt f lo hi lo l:=⟨fun k h1 h2=>h k (by omega),fun k h1 h2=>by omega⟩
theorem SiftI.done {lt:α→α→Prop} {f lo hi root:Nat} {l:List α} (h:SiftI lt f lo hi root l) (hc:wV lt f hi root l):Heap lt f lo hi l:=fun k h1=>by
 by_cases e:k=root
 ·subst e;exact hc
 ·exact h.1 k h1 e
theorem SiftI.next {lt:α→α→Prop} (W:WOrd lt) {f lo hi root c:Nat} {l:List α} (h:SiftI lt f lo hi root l) (hr:lo≤root) (hcc:c=2*root+1∨c=2*root+2) (hch:c<hi) (hl:f+hi≤l.length)
 (hm:∀ d,(d=2*root+1∨d=2*root+2)→d<hi→¬ lt (l.getD (f+c) default) (l.getD (f+d) default)) (hc:lt (l.getD (f+root) default) (l.getD (f+c) default)) :
 SiftI lt f lo hi c (swp l (f+root) (f+c)):=by
 have g:=swp_get (l:=l) (i:=f+root) (j:=f+c) (by omega) (by omega);have at_c:(swp l (f+root) (f+c)).getD (f+c) default=l.getD (f+root) default:=by rw [g,if_pos rfl]
 have at_r:(swp l (f+root) (f+c)).getD (f+root) default=l.getD (f+c) default:=by rw [g,if_neg (by omega),if_pos rfl]
 have at_o:∀ k,k≠c→k≠root→(swp l (f+root) (f+c)).getD (f+k) default=l.getD (f+k) default:=fun k h1 h2=>by rw [g,if_neg (by omega),if_neg (by omega)]
 refine ⟨fun k h1 h2=>?_,fun k h1 h2 d hd hdh=>?_⟩
 ·by_cases e:k=root
  ·subst e;refine ⟨fun q=>?_,fun q=>?_⟩
   ·rw [at_r];by_cases e1:2*k+1=c
    ·rw [e1,at_c];exact W.asym hc
    ·rw [at_o _ e1 (by omega)];exact hm _ (.inl rfl) q
   ·rw [at_r];by_cases e1:2*k+2=c
    ·rw [e1,at_c];exact W.asym hc
    ·rw [at_o _ e1 (by omega)];exact hm _ (.inr rfl) q
  ·have hk:=h.1 k h1 e;rw [wV,at_o k h2 e];refine ⟨fun q=>?_,fun q=>?_⟩
   ·by_cases e1:2*k+1=root
    ·rw [e1,at_r];exact h.2 k h1 (.inl e1.symm) c hcc hch
    ·by_cases e2:2*k+1=c
     ·omega
     ·rw [at_o _ e2 e1];exact hk.1 q
   ·by_cases e1:2*k+2=root
    ·rw [e1,at_r];exact h.2 k h1 (.inr e1.symm) c hcc hch
    ·by_cases e2:2*k+2=c
     ·omega
     ·rw [at_o _ e2 e1];exact hk.2 q
 ·have e:k=root:=by omega
  subst e;rw [at_r,at_o d (by omega) (by omega)];have hk:=h.1 c (by omega) (by omega);rcases hd with hd|hd
  ·subst hd;exact hk.1 hdh
  ·subst hd;exact hk.2 hdh
theorem Heap.max {lt:α→α→Prop} (W:WOrd lt) {f hi:Nat} {l:List α} (h:Heap lt f 0 hi l) (k:Nat) (hk:k<hi):¬ lt (l.getD (f+0) default) (l.getD (f+k) default):=by
 induction k using Nat.strongRecOn with
 | _ k ih =>
  rcases zF4 k with e|e
  ·subst e;exact W.irr _
  ·have hp:=h ((k - 1) / 2) (zB0 _);have hi':=ih ((k - 1) / 2) (by omega) (by omega);rcases (by omega:k=2*((k - 1) / 2)+1∨k=2*((k - 1) / 2)+2) with q|q
   ·have:=hp.1 (by omega);rw [← q] at this;exact W.ntr this hi'
   ·have:=hp.2 (by omega);rw [← q] at this;exact W.ntr this hi'
def HeapI (lt:α→α→Prop) (f i n:Nat) (l:List α):Prop:=Heap lt f 0 i l∧∀ p q,p<q→i≤q→q<n→¬ lt (l.getD (f+q) default) (l.getD (f+p) default)
theorem HeapI.pop {lt:α→α→Prop} (W:WOrd lt) {f i n:Nat} {l l':List α} (h:HeapI lt f (i+1) n l) (hin:i<n) (hl:f+n≤l.length) (s:Sw f (f+i) (swp l f (f+i)) l') (hh:Heap lt f 0 i l'):HeapI lt f i n l':=by
 refine ⟨hh,fun p q h1 h2 h3=>?_⟩;have g:=swp_get (l:=l) (i:=f) (j:=f+i) (by omega) (by omega);have hq:l'.getD (f+q) default=if q=i then l.getD f default else l.getD (f+q) default:=by
  rw [s.out (by omega),g];by_cases e:q=i
  ·rw [if_pos (by omega),if_pos e]
  ·rw [if_neg (by omega),if_neg (by omega),if_neg e]
 rw [hq];have hp:∃ m,m<n∧(m≤i∨m=p)∧m≤q∧(m<q∨q=i)∧l'.getD (f+p) default=l.getD (f+m) default:=by
  rcases zA7 p i with q1|q1
  ·obtain ⟨m,m1,m2,m3⟩:=s.in_ (k:=f+p) (by omega) (by omega);rw [g] at m3;rw [if_neg (by omega)] at m3;by_cases e:m=f
   ·rw [if_pos e] at m3;exact ⟨i,by omega,.inl (zA3 _),by omega,by omega,m3⟩
   ·rw [if_neg e] at m3;exact ⟨m - f,by omega,.inl (by omega),by omega,by omega,by rw [m3];congr 1;omega⟩
  ·rw [s.out (by omega),g];by_cases e:p=i
   ·refine ⟨0,by omega,.inl (by omega),by omega,by omega,?_⟩;rw [if_pos (by omega)];rfl
   ·exact ⟨p,by omega,.inr rfl,by omega,by omega,by rw [if_neg (by omega),if_neg (by omega)]⟩
 obtain ⟨m,m1,m2,m3,m4,m5⟩:=hp;rw [m5];by_cases e:q=i
 ·rw [if_pos e];exact Heap.max W h.1 m (by omega)
 ·rw [if_neg e];exact h.2 m q (by omega) (by omega) h3
def DoneI (lt:α→α→Prop) (a b a' b':Nat) (l:List α):Prop:=∀ i j,a≤i→i<j→j<b→(i<a'∨b'≤j)→¬ lt (l.getD j default) (l.getD i default)
theorem DoneI.start {lt:α→α→Prop} {a b:Nat} {l:List α}:DoneI lt a b a b l:=fun i j h1 h2 h3 h4=>by omega
theorem DoneI.sw {lt:α→α→Prop} {a b a' b':Nat} {l l':List α} (h:DoneI lt a b a' b' l) (s:Sw a' b' l l') (h1:a≤a') (h2:b'≤b):DoneI lt a b a' b' l':=by
 intro i j q1 q2 q3 q4;rcases q4 with q4|q4
 ·rw [s.out (k:=i) (.inl q4)];rcases zA7 j a' with q5|q5
  ·rw [s.out (.inl q5)];exact h i j q1 q2 q3 (.inl q4)
  ·rcases zA7 j b' with q6|q6
   ·obtain ⟨m,m1,m2,m3⟩:=s.in_ q5 q6;rw [m3];exact h i m q1 (by omega) (by omega) (.inl q4)
   ·rw [s.out (.inr q6)];exact h i j q1 q2 q3 (.inl q4)
 ·rw [s.out (k:=j) (.inr q4)];rcases zA7 i a' with q5|q5
  ·rw [s.out (.inl q5)];exact h i j q1 q2 q3 (.inl q5)
  ·rcases zA7 i b' with q6|q6
   ·obtain ⟨m,m1,m2,m3⟩:=s.in_ q5 q6;rw [m3];exact h m j (by omega) (by omega) q3 (.inr q4)
   ·rw [s.out (.inr q6)];exact h i j q1 q2 q3 (.inr q4)
theorem DoneI.finish {lt:α→α→Prop} {a b a' b':Nat} {l:List α} (h:DoneI lt a b a' b' l) (s:Srt lt a' b' l):Srt lt a b l:=by
 intro i j q1 q2 q3;by_cases e:i<a'∨b'≤j
 ·exact h i j q1 q2 q3 e
 ·exact s i j (by omega) q2 (by omega)
def Parted (lt:α→α→Prop) (a b m:Nat) (l:List α):Prop:=(∀ k,a≤k→k<m→lt (l.getD k default) (l.getD m default))∧∀ k,m<k→k<b→¬ lt (l.getD k default) (l.getD m default)
theorem Parted.across {lt:α→α→Prop} (W:WOrd lt) {a b m:Nat} {l:List α} (h:Parted lt a b m l) {i j:Nat} (h1:a≤i) (h2:i≤m) (h3:m≤j) (h4:j<b) (h5:i<j):¬ lt (l.getD j default) (l.getD i default):=by
 have e1:¬ lt (l.getD m default) (l.getD i default):=by
  rcases zA7 i m with q|q
  ·exact W.asym (h.1 i h1 q)
  ·have:i=m:=by omega
   subst this;exact W.irr _
 have e2:¬ lt (l.getD j default) (l.getD m default):=by
  rcases zA7 m j with q|q
  ·exact h.2 j q h4
  ·have:j=m:=by omega
   subst this;exact W.irr _
 exact W.ntr e1 e2
theorem DoneI.left {lt:α→α→Prop} (W:WOrd lt) {a b a' b' m:Nat} {l l':List α} (h:DoneI lt a b a' b' l) (p:Parted lt a' b' m l) (hm:a'≤m∧m<b') (hab:a≤a'∧b'≤b) (s:Sw a' m l l') (hs:Srt lt a' m l') (hl:b'≤l.length):DoneI lt a b (m+1) b' l':=by
 have h':=h.sw (s.mono (zA3 _) (by omega) hl) hab.1 hab.2;intro i j q1 q2 q3 q4;by_cases e:i<a'∨b'≤j
 ·exact h' i j q1 q2 q3 e
 ·rcases q4 with q4|q4
  ·rcases zA7 j m with q5|q5
   ·exact hs i j (by omega) q2 q5
   ·rw [s.out (k:=j) (.inr q5)];rcases zA7 i m with q6|q6
    ·obtain ⟨k,k1,k2,k3⟩:=s.in_ (k:=i) (by omega) q6;rw [k3];exact p.across W k1 (by omega) q5 (by omega) (by omega)
    ·rw [s.out (.inr q6)];exact p.across W (by omega) (by omega) q5 (by omega) q2
  ·omega
theorem DoneI.right {lt:α→α→Prop} (W:WOrd lt) {a b a' b' m:Nat} {l l':List α} (h:DoneI lt a b a' b' l) (p:Parted lt a' b' m l) (hm:a'≤m∧m<b') (hab:a≤a'∧b'≤b) (s:Sw (m+1) b' l l') (hs:Srt lt (m+1) b' l') (hl:b'≤l.length):DoneI lt a b a' m l':=by
 have h':=h.sw (s.mono (by omega) (zA3 _) hl) hab.1 hab.2;intro i j q1 q2 q3 q4;by_cases e:i<a'∨b'≤j
 ·exact h' i j q1 q2 q3 e
 ·rcases q4 with q4|q4
  ·omega
  ·rcases zA7 m i with q5|q5
   ·exact hs i j (by omega) q2 (by omega)
   ·rw [s.out (k:=i) (.inl (by omega))];rcases zA7 m j with q6|q6
    ·obtain ⟨k,k1,k2,k3⟩:=s.in_ (k:=j) (by omega) (by omega);rw [k3];exact p.across W (by omega) q5 (by omega) k2 (by omega)
    ·rw [s.out (.inl (by omega))];exact p.across W (by omega) q5 (by omega) (by omega) q2
theorem DoneI.eq_ {lt:α→α→Prop} (W:WOrd lt) {a b a' b' m:Nat} {l:List α} {x:α} (h:DoneI lt a b a' b' l) (hm:a'≤m∧m≤b') (h1:∀ k,a'≤k→k<m→¬ lt x (l.getD k default)) (h2:∀ k,m≤k→k<b'→lt x (l.getD k default)) (h3:∀ k,a'≤k→k<b'→¬ lt (l.getD k default) x):DoneI lt a b m b' l:=by
 intro i j q1 q2 q3 q4;by_cases e:i<a'∨b'≤j
 ·exact h i j q1 q2 q3 e
 ·rcases q4 with q4|q4
  ·exact W.ntr (h1 i (by omega) q4) (h3 j (by omega) (by omega))
  ·omega
theorem Sw.all {a b:Nat} {l l':List α} (s:Sw a b l l') {p:α→Prop} (h:∀ k,a≤k→k<b→p (l.getD k default)):∀ k,a≤k→k<b→p (l'.getD k default):=fun k h1 h2=>by
 obtain ⟨m,m1,m2,m3⟩:=s.in_ h1 h2;rw [m3];exact h m m1 m2
end
end Go.Proofs.Xx
namespace Go.Proofs.Xx
section
variable {α:Type} [Inhabited α]
def xch (a b n k:Nat):Nat:=if a≤k∧k<a+n then k+(b - a) else if b≤k∧k<b+n then k - (b - a) else k
def IsXch (a b n:Nat) (l l':List α):Prop:=∀ k,l'.getD k default=l.getD (xch a b n k) default
theorem IsXch.zero {a b:Nat} {l:List α}:IsXch a b 0 l l:=fun k=>by
 unfold xch;rw [if_neg (by omega),if_neg (by omega)]
theorem IsXch.next {a b i:Nat} {l l':List α} (h:IsXch a b i l l') (hab:a+i<b) (hl:b+i<l'.length):IsXch a b (i+1) l (swp l' (a+i) (b+i)):=fun k=>by
 rw [swp_get (by omega) hl];rw [h,h,h];unfold xch;repeat' split
 all_goals first|omega|rfl|(congr 1<;>omega)
def rot (a m b k:Nat):Nat:=if k<a then k else if k<a+(b - m) then k+(m - a) else if k<b then k - (b - m) else k
def qc0 (a m b:Nat) (l l':List α):Prop:=∀ k,l'.getD k default=l.getD (rot a m b k) default
def RotI (a m b i j:Nat) (l c:List α):Prop:=∀ k,l.getD (rot a m b k) default=c.getD (rot (m - i) m (m+j) k) default
theorem RotI.start {a m b:Nat} {l:List α} (h1:a≤m) (h2:m≤b):RotI a m b (m - a) (b - m) l l:=fun k=>by
 rw [show m - (m - a)=a by omega,show m+(b - m)=b by omega]
theorem RotI.left {a m b i j:Nat} {l c c':List α} (h:RotI a m b i j l c) (hi:i≤m) (hij:j<i) (x:IsXch (m - i) m j c c'):RotI a m b (i - j) j l c':=fun k=>by
 rw [h k,x];congr 1
 unfold xch rot;repeat' split
 all_goals omega
theorem RotI.right {a m b i j:Nat} {l c c':List α} (h:RotI a m b i j l c) (hi:i≤m) (hij:i<j) (x:IsXch (m - i) (m+j - i) i c c'):RotI a m b i (j - i) l c':=fun k=>by
 rw [h k,x];congr 1
 unfold xch rot;repeat' split
 all_goals omega
theorem RotI.done {a m b i:Nat} {l c c':List α} (h:RotI a m b i i l c) (hi:i≤m) (x:IsXch (m - i) m i c c'):qc0 a m b l c':=fun k=>by
 rw [h k,x];congr 1
 unfold xch rot;repeat' split
 all_goals omega
def IsUp (a k:Nat) (l l':List α):Prop:=∀ x,l'.getD x default=l.getD (if x<a then x else if x<k then x+1 else if x=k then a else x) default
theorem IsUp.start {a:Nat} {l:List α}:IsUp a a l l:=fun x=>by
 congr 1
 repeat' split
 all_goals omega
theorem IsUp.next {a k:Nat} {l l':List α} (h:IsUp a k l l') (hak:a≤k) (hl:k+1<l'.length):IsUp a (k+1) l (swp l' k (k+1)):=fun x=>by
 rw [swp_get (by omega) hl];rw [h,h,h];repeat' split
 all_goals first|omega|rfl|(congr 1<;>omega)
def IsDown (m k:Nat) (l l':List α):Prop:=∀ x,l'.getD x default=l.getD (if x<k then x else if x=k then m else if x≤m then x - 1 else x) default
theorem IsDown.start {m:Nat} {l:List α}:IsDown m m l l:=fun x=>by
 congr 1
 repeat' split
 all_goals omega
theorem IsDown.next {m k:Nat} {l l':List α} (h:IsDown m k l l') (hk:0<k∧k≤m) (hl:m<l'.length):IsDown m (k - 1) l (swp l' k (k - 1)):=fun x=>by
 rw [swp_get (by omega) (by omega)];rw [h,h,h];repeat' split
 all_goals first|omega|rfl|(congr 1<;>omega)
end
def ZE (key:Int→Int) (x y:Int):Prop:=key x<key y∨(key x=key y∧x<y)
theorem WG (key:Int→Int):WOrd (ZE key) where
 irr x h:=by unfold ZE at h;omega
 tr h1 h2:=by unfold ZE at *;omega
 ntr h1 h2:=by unfold ZE at *;omega
structure Mrg (key:Int→Int) (a m b:Nat) (l:List Int):Prop where
 sl:Srt (ZE key) a m l
 sr:Srt (ZE key) m b l
 cr:∀ p q,a≤p→p<m→m≤q→q<b→l.getD p default<l.getD q default
theorem Mrg.up {key:Int→Int} {a b i:Nat} {l l':List Int} (h:Mrg key a (a+1) b l) (hi:a+1≤i∧i≤b) (h1:∀ k,a+1≤k→k<i→ZE key (l.getD k default) (l.getD a default)) (h2:∀ k,i≤k→k<b→¬ ZE key (l.getD k default) (l.getD a default)) (u:IsUp a (i - 1) l l'):Srt (ZE key) a b l':=by
 have W:=WG key;have u1:∀ x,a≤x→x<i - 1→l'.getD x default=l.getD (x+1) default:=fun x q1 q2=>by rw [u x,if_neg (by omega),if_pos q2]
 have u2:l'.getD (i - 1) default=l.getD a default:=by
  rw [u,if_neg (by omega),if_neg (by omega),if_pos rfl]
 have u3:∀ x,i - 1<x→l'.getD x default=l.getD x default:=fun x q1=>by rw [u x,if_neg (by omega),if_neg (by omega),if_neg (by omega)]
 intro p q q1 q2 q3;rcases zE7 p (i - 1) with e1|e1|e1
 ·rw [u1 p q1 e1];rcases zE7 q (i - 1) with e2|e2|e2
  ·rw [u1 q (by omega) e2];exact h.sr _ _ (by omega) (by omega) (by omega)
  ·rw [e2,u2];exact W.asym (h1 _ (by omega) (by omega))
  ·rw [u3 q e2];exact h.sr _ _ (by omega) (by omega) (by omega)
 ·rw [e1,u2,u3 q (by omega)];exact h2 _ (by omega) q3
 ·rw [u3 p e1,u3 q (by omega)];exact h.sr _ _ (by omega) (by omega) (by omega)
theorem Mrg.down {key:Int→Int} {a m i:Nat} {l l':List Int} (h:Mrg key a m (m+1) l) (hi:a≤i∧i≤m) (h1:∀ k,a≤k→k<i→¬ ZE key (l.getD m default) (l.getD k default)) (h2:∀ k,i≤k→k<m→ZE key (l.getD m default) (l.getD k default)) (u:IsDown m i l l'):Srt (ZE key) a (m+1) l':=by
 have W:=WG key;have u1:∀ x,x<i→l'.getD x default=l.getD x default:=fun x q1=>by rw [u x,if_pos q1]
 have u2:l'.getD i default=l.getD m default:=by
  rw [u,if_neg (by omega),if_pos rfl]
 have u3:∀ x,i<x→x≤m→l'.getD x default=l.getD (x - 1) default:=fun x q1 q2=>by rw [u x,if_neg (by omega),if_neg (by omega),if_pos q2]
 intro p q q1 q2 q3;rcases zE7 p i with e1|e1|e1
 ·rw [u1 p e1];rcases zE7 q i with e2|e2|e2
  ·rw [u1 q e2];exact h.sl _ _ (by omega) (by omega) (by omega)
  ·rw [e2,u2];exact h1 _ (by omega) (by omega)
  ·rw [u3 q e2 (by omega)];exact h.sl _ _ (by omega) (by omega) (by omega)
 ·rw [e1,u2,u3 q (by omega) (by omega)];exact W.asym (h2 _ (by omega) (by omega))
 ·rw [u3 p e1 (by omega),u3 q (by omega) (by omega)];exact h.sl _ _ (by omega) (by omega) (by omega)
structure SrI (key:Int→Int) (a m b mid s r:Nat) (l:List Int):Prop where
 lo:(if m > mid then mid+m - b else a)≤s
 sr:s≤r
 hi:r≤(if m > mid then mid else m)
 low:(if m > mid then mid+m - b else a)<s→¬ ZE key (l.getD (mid+m - s) default) (l.getD (s - 1) default)
 high:r<(if m > mid then mid else m)→ZE key (l.getD (mid+m - 1 - r) default) (l.getD r default)
theorem Mrg.search {key:Int→Int} {a m b mid s:Nat} {l l2:List Int} (h:Mrg key a m b l) (hm:mid=(a+b) / 2) (hab:a<m∧m<b) (I:SrI key a m b mid s s l)
 (hr:qc0 s m (mid+m - s) l l2):(a≤s∧s≤mid∧s≤m∧m≤mid+m - s∧mid+m - s≤b)∧Mrg key a s mid l2∧Mrg key mid (mid+m - s) b l2∧∀ x y,a≤x→x<mid→mid≤y→y<b→¬ ZE key (l2.getD y default) (l2.getD x default):=by
 have W:=WG key;have lo:=I.lo;have hi:=I.hi;have low:=I.low;have high:=I.high;have hs:a≤s∧s≤mid∧s≤m∧m≤mid+m - s∧mid+m - s≤b:=by
  split at lo<;>split at hi<;>omega
 have r1:∀ k,k<s→l2.getD k default=l.getD k default:=fun k hk=>by rw [hr k];unfold rot;rw [if_pos hk]
 have r2:∀ k,s≤k→k<mid→l2.getD k default=l.getD (k+(m - s)) default:=fun k h1 h2=>by rw [hr k];unfold rot;rw [if_neg (by omega),if_pos (by omega)]
 have r3:∀ k,mid≤k→k<mid+m - s→l2.getD k default=l.getD (k - (mid - s)) default:=fun k h1 h2=>by
  rw [hr k];unfold rot;rw [if_neg (by omega),if_neg (by omega),if_pos (by omega)];congr 1;omega
 have r4:∀ k,mid+m - s≤k→l2.getD k default=l.getD k default:=fun k h1=>by rw [hr k];unfold rot;rw [if_neg (by omega),if_neg (by omega),if_neg (by omega)]
 refine ⟨hs,⟨fun i j q1 q2 q3=>?_,fun i j q1 q2 q3=>?_,fun p q q1 q2 q3 q4=>?_⟩,⟨fun i j q1 q2 q3=>?_,fun i j q1 q2 q3=>?_,fun p q q1 q2 q3 q4=>?_⟩,fun x y q1 q2 q3 q4=>?_⟩
 ·rw [r1 i (by omega),r1 j q3];exact h.sl i j q1 q2 (by omega)
 ·rw [r2 i q1 (by omega),r2 j (by omega) q3];exact h.sr _ _ (by omega) (by omega) (by omega)
 ·rw [r1 p q2,r2 q q3 q4];exact h.cr _ _ q1 (by omega) (by omega) (by omega)
 ·rw [r3 i q1 (by omega),r3 j (by omega) q3];exact h.sl _ _ (by omega) (by omega) (by omega)
 ·rw [r4 i q1,r4 j (by omega)];exact h.sr _ _ (by omega) q2 q3
 ·rw [r3 p q1 q2,r4 q q3];exact h.cr _ _ (by omega) (by omega) (by omega) q4
 ·
  have le_of:∀ {i j:Nat},a≤i→i≤j→j<m→¬ ZE key (l.getD j default) (l.getD i default):=fun {i j} g1 g2 g3=>by
   rcases zA7 i j with q|q
   ·exact h.sl i j g1 q g3
   ·have:i=j:=by omega
    subst this;exact W.irr _
  have le_of2:∀ {i j:Nat},m≤i→i≤j→j<b→¬ ZE key (l.getD j default) (l.getD i default):=fun {i j} g1 g2 g3=>by
   rcases zA7 i j with q|q
   ·exact h.sr i j g1 q g3
   ·have:i=j:=by omega
    subst this;exact W.irr _
  rcases zA7 x s with e1|e1
  ·rw [r1 x e1];rcases zA7 y (mid+m - s) with e2|e2
   ·rw [r3 y q3 e2];exact le_of q1 (by omega) (by omega)
   ·rw [r4 y e2];have g:¬ ZE key (l.getD (mid+m - s) default) (l.getD (s - 1) default):=low (by split<;>omega);have g1:¬ ZE key (l.getD (s - 1) default) (l.getD x default):=le_of q1 (by omega) (by omega);have g2:¬ ZE key (l.getD y default) (l.getD (mid+m - s) default):=le_of2 (by omega) e2 q4;exact W.ntr (W.ntr g1 g) g2
  ·rw [r2 x e1 q2];rcases zA7 y (mid+m - s) with e2|e2
   ·rw [r3 y q3 e2];have g:ZE key (l.getD (mid+m - 1 - s) default) (l.getD s default):=high (by split<;>omega);have g1:¬ ZE key (l.getD (y - (mid - s)) default) (l.getD s default):=le_of (by omega) (by omega) (by omega);have g2:¬ ZE key (l.getD (mid+m - 1 - s) default) (l.getD (x+(m - s)) default):=le_of2 (by omega) (by omega) (by omega);exact W.ntr (W.ntr g2 (W.asym g)) g1
   ·rw [r4 y e2];exact le_of2 (by omega) (by omega) q4
end Go.Proofs.Xx
namespace Go.Proofs.Xx
section
variable {α:Type} [Inhabited α] {lt:α→α→Prop}
theorem Heap.pop {f i:Nat} {l:List α} (h:Heap lt f 0 (i+1) l) (hl:f+i<l.length):Heap lt f 1 i (swp l f (f+i)):=by
 intro k hk;have g:=swp_get (l:=l) (i:=f) (j:=f+i) (by omega) (by omega);have hh:=h k (zB0 _);refine ⟨fun q=>?_,fun q=>?_⟩
 ·rw [g,g,if_neg (by omega),if_neg (by omega),if_neg (by omega),if_neg (by omega)];exact hh.1 (by omega)
 ·rw [g,g,if_neg (by omega),if_neg (by omega),if_neg (by omega),if_neg (by omega)];exact hh.2 (by omega)
theorem HeapI.done {f n b:Nat} {l:List α} (h:HeapI lt f 0 n l) (hb:b=f+n):Srt lt f b l:=fun i j h1 h2 h3=>by
 have:=h.2 (i - f) (j - f) (by omega) (zB0 _) (by omega);rwa [show f+(j - f)=j by omega,show f+(i - f)=i by omega] at this
structure PartI (lt:α→α→Prop) (a b:Nat) (x:α) (i j:Nat) (m:List α):Prop where
 bi:a<i∧i≤j+1∧j<b
 lo:∀ k,a<k→k<i→lt (m.getD k default) x
 hi:∀ k,j<k→k<b→¬ lt (m.getD k default) x
 x:m.getD a default=x
theorem PartI.swap {a b:Nat} {x:α} {i j:Nat} {m:List α} (h:PartI lt a b x i j m) (hb:b≤m.length) (hij:i≤j) (h1:¬ lt (m.getD i default) x) (h2:lt (m.getD j default) x):i<j∧PartI lt a b x (i+1) (j - 1) (swp m i j):=by
 have hbi:=h.bi;have hne:i≠j:=fun q=>by subst q;exact h1 h2
 have g:=swp_get (l:=m) (i:=i) (j:=j) (by omega) (by omega);refine ⟨by omega,⟨by omega,fun k q1 q2=>?_,fun k q1 q2=>?_,?_⟩⟩
 ·rw [g,if_neg (by omega)];split
  ·exact h2
  ·exact h.lo k q1 (by omega)
 ·rw [g];split
  ·exact h1
  ·rw [if_neg (by omega)];exact h.hi k (by omega) q2
 ·rw [g,if_neg (by omega),if_neg (by omega)];exact h.x
theorem PartI.done (W:WOrd lt) {a b:Nat} {x:α} {i j:Nat} {m:List α} (h:PartI lt a b x i j m) (hb:b≤m.length) (hij:j<i):Parted lt a b j (swp m j a):=by
 have hbi:=h.bi;have g:=swp_get (l:=m) (i:=j) (j:=a) (by omega) (by omega);have gj:(swp m j a).getD j default=x:=by
  rw [g];split
  ·rename_i e;rw [e];exact h.x
  ·rw [if_pos rfl];exact h.x
 refine ⟨fun k q1 q2=>?_,fun k q1 q2=>?_⟩
 ·rw [gj,g];split
  ·exact h.lo j (by omega) (by omega)
  ·rw [if_neg (by omega)];exact h.lo k (by omega) (by omega)
 ·rw [gj,g,if_neg (by omega),if_neg (by omega)];exact h.hi k q1 q2
structure EqI (lt:α→α→Prop) (a b:Nat) (x:α) (i j:Nat) (m:List α):Prop where
 bi:a<i∧i≤j+1∧j<b
 lo:∀ k,a<k→k<i→¬ lt x (m.getD k default)
 hi:∀ k,j<k→k<b→lt x (m.getD k default)
 x:m.getD a default=x
theorem EqI.swap {a b:Nat} {x:α} {i j:Nat} {m:List α} (h:EqI lt a b x i j m) (hb:b≤m.length) (hij:i≤j) (h1:lt x (m.getD i default)) (h2:¬ lt x (m.getD j default)):i<j∧EqI lt a b x (i+1) (j - 1) (swp m i j):=by
 have hbi:=h.bi;have hne:i≠j:=fun q=>by subst q;exact h2 h1
 have g:=swp_get (l:=m) (i:=i) (j:=j) (by omega) (by omega);refine ⟨by omega,⟨by omega,fun k q1 q2=>?_,fun k q1 q2=>?_,?_⟩⟩
 ·rw [g,if_neg (by omega)];split
  ·exact h2
  ·exact h.lo k q1 (by omega)
 ·rw [g];split
  ·exact h1
  ·rw [if_neg (by omega)];exact h.hi k (by omega) q2
 ·rw [g,if_neg (by omega),if_neg (by omega)];exact h.x
theorem DoneI.low {a b a' b':Nat} {l:List α} (h:DoneI lt a b a' b' l) (h1:a<a') (h2:b'≤b):∀ k,a'≤k→k<b'→¬ lt (l.getD k default) (l.getD (a' - 1) default):=fun k q1 q2=>h (a' - 1) k (by omega) (by omega) (by omega) (.inl (by omega))
end
def lenTab:List UInt8:=[0,1] ++ List.replicate 2 2 ++ List.replicate 4 3 ++ List.replicate 8 4 ++ List.replicate 16 5 ++ List.replicate 32 6 ++ List.replicate 64 7 ++ List.replicate 128 8
theorem qam:∀ n,n<256→0<n→(lenTab.getD n 0).toNat≤8∧n<2 ^ (lenTab.getD n 0).toNat∧2 ^ (lenTab.getD n 0).toNat≤2*n:=by decide +kernel
theorem WJ:lenTab.length=256:=by decide +kernel
theorem qH (j:Nat):((j:Int) - 1).toNat=j - 1:=by omega
theorem qG (j:Nat):((j:Int)+1).toNat=j+1:=by omega
theorem qI (i j:Nat):((i:Int)+(j:Int)).toNat=i+j:=by omega
variable [Flag]
theorem gQ {h0:AH} (w:WfH h0) (n:Nat) (hn:n<256):Fn Tryz.prog Xh 162 [.int .u64 n] h0 (fun v h'=>v = .int .i64 ((lenTab.getD n 0).toNat:Int)∧Hs h0 h' []):=by
 have S:=Hs.start w;have hl:=WJ;have hb:(lenTab.getD n 0).toNat<256:=UInt8.toNat_lt _;refine qV rfl Tryz.func162 rfl rfl ?_;all_goals (repeat' (first|refine qi ?_|refine qg rfl ?_|refine qj ?_|refine qo ?_|refine qh ?_|refine qp ?_|refine qw ?_|(refine qc 0 ?_;refine mv ?_;refine qf ?_)|(refine qc 1 ?_;refine mv ?_;(first|refine cT ?_|refine cF ?_|(refine cS ?_ ?_<;>intro hc))<;>(refine qf ?_))|(refine qc 4 ?_;refine mv ?_;(first|refine cT ?_|refine cF ?_|(refine cS ?_ ?_<;>intro hc))<;>(refine qf ?_))|(refine qc 7 ?_;refine mv ?_;(first|refine cT ?_|refine cF ?_|(refine cS ?_ ?_<;>intro hc))<;>(refine qf ?_))))
 refine qc 10 ?_;refine mv ?_;refine mv ?_;refine cU ?_;refine ti (l:=lenTab) ?_;rw [zA0];(first|refine cI ?_|refine vl ?_);(first|refine ad ?_|refine vl ?_);refine mv ?_;refine qf ?_;all_goals (repeat' (first|refine qi ?_|refine qg rfl ?_|refine qj ?_|refine qo ?_|refine qh ?_|refine qp ?_|refine qw ?_|(refine qc 0 ?_;refine mv ?_;refine qf ?_)|(refine qc 1 ?_;refine mv ?_;(first|refine cT ?_|refine cF ?_|(refine cS ?_ ?_<;>intro hc))<;>(refine qf ?_))|(refine qc 2 ?_;refine mv ?_;(first|refine sR1 ?_|refine sR ?_);refine mv ?_;refine qf ?_)|(refine qc 3 ?_;refine mv ?_;refine qf ?_)|(refine qc 4 ?_;refine mv ?_;(first|refine cT ?_|refine cF ?_|(refine cS ?_ ?_<;>intro hc))<;>(refine qf ?_))|(refine qc 5 ?_;refine mv ?_;(first|refine sR1 ?_|refine sR ?_);refine mv ?_;refine qf ?_)|(refine qc 6 ?_;refine mv ?_;(first|refine ad ?_|refine vl ?_);refine mv ?_;refine qf ?_)|(refine qc 7 ?_;refine mv ?_;(first|refine cT ?_|refine cF ?_|(refine cS ?_ ?_<;>intro hc))<;>(refine qf ?_))|(refine qc 8 ?_;refine mv ?_;(first|refine sR1 ?_|refine sR ?_);refine mv ?_;refine qf ?_)|(refine qc 9 ?_;refine mv ?_;(first|refine ad ?_|refine vl ?_);refine mv ?_;refine qf ?_)|(refine qc 10 ?_;refine mv ?_;refine mv ?_;(first|refine cU ?_|refine vl ?_);(first|refine ti ?_|refine vl ?_);(first|refine cI ?_|refine vl ?_);(first|refine ad ?_|refine vl ?_);refine mv ?_;refine qf ?_)))
 refine qC ⟨_,rfl,?_⟩;exact ⟨by show Value.int .i64 (0+_)=_;rw [Int.zero_add],S⟩
theorem qbi {h0:AH} (w:WfH h0) (n:Nat) (hn:n<256):Fn Tryz.prog Xh 126 [.int .u64 n] h0 (fun v h'=>v = .int .i64 ((lenTab.getD n 0).toNat:Int)∧Hs h0 h' []):=by
 have S:=Hs.start w;refine qV rfl Tryz.func126 rfl rfl ?_;all_goals (repeat' (first|refine qi ?_|refine qg rfl ?_|refine qj ?_|refine qo ?_|refine qh ?_|refine qp ?_|refine qw ?_|(refine qc 0 ?_;refine mv ?_;refine qf ?_)|(refine qc 2 ?_;refine mv ?_)))
 (refine qx rfl rfl rfl rfl rfl ((gQ S.wf n hn).mono ?_);rintro _ h ⟨rfl,x⟩)<;>(replace S:=S.qL x;clear x;refine mv ?_;refine qf ?_)
 all_goals (repeat' (first|refine qi ?_|refine qg rfl ?_|refine qj ?_|refine qo ?_|refine qh ?_|refine qp ?_|refine qw ?_|(refine qc 0 ?_;refine mv ?_;refine qf ?_)|(refine qc 1 ?_;refine mv ?_;refine cv32 ?_)|(refine qc 2 ?_;refine mv ?_)))
 refine qC ⟨_,rfl,?_⟩;exact ⟨rfl,S⟩
theorem qcg {h0:AH} (w:WfH h0) (n:Nat) (hn:0<n∧n<256):Fn Tryz.prog Xh 189 [.int .i64 n] h0 (fun v h'=>∃ P:Int,v = .int .u64 P∧(n:Int)<P∧P≤2*n∧Hs h0 h' []):=by
 have S:=Hs.start w;have hk:=qam n hn.2 hn.1;refine qV rfl Tryz.func189 rfl rfl ?_;all_goals (repeat' (first|refine qi ?_|refine qg rfl ?_|refine qj ?_|refine qo ?_|refine qh ?_|refine qp ?_|refine qw ?_|(refine qc 0 ?_;refine mv ?_;refine qf ?_)|(refine qc 1 ?_;refine mv ?_;(first|refine cW ?_|refine vl ?_))))
 (refine qx rfl rfl rfl rfl rfl ((qbi S.wf n hn.2).mono ?_);rintro _ h ⟨rfl,x⟩)<;>(replace S:=S.qL x;clear x;(first|refine sL ?_|(refine aW ?_;intro r1 hr1 hr2));refine mv ?_;refine qf ?_)
 all_goals (repeat' (first|refine qi ?_|refine qg rfl ?_|refine qj ?_|refine qo ?_|refine qh ?_|refine qp ?_|refine qw ?_))
 refine qC ⟨_,rfl,?_⟩;refine ⟨_,rfl,?_,?_,S⟩
 ·have:(n:Int)<((2 ^ (lenTab.getD n 0).toNat:Nat):Int):=by exact_mod_cast hk.2.1
  simpa using this
 ·have:((2 ^ (lenTab.getD n 0).toNat:Nat):Int)≤((2*n:Nat):Int):=by exact_mod_cast hk.2.2
  simpa using this
theorem wZ {h0 h:AH} {rs:List Rs} {bs:Nat} {z:Int} (S:Hs h0 h (.blk bs [.int .u64 z] 217 :: rs)) (hz:0≤z∧z≤18446744073709551615):Fn Tryz.prog Xh 190 [.pointer (some ⟨bs,0,none⟩)] h (fun r h'=>∃ y,r = .int .u64 y∧(0≤y∧y≤18446744073709551615)∧Hs h0 h' (.blk bs [.int .u64 y] 217 :: rs)):=by
 refine qV rfl Tryz.func190 rfl rfl ?_;all_goals (repeat' (first|refine qi ?_|refine qg rfl ?_|refine qj ?_|refine qo ?_|refine qh ?_|refine qp ?_|refine qw ?_|(refine qc 0 ?_;refine mv ?_;refine qf ?_)|(refine qK 1 ?_;refine mv ?_;refine vl ?_;(first|refine lB S rfl rfl ?_|refine qB S rfl rfl ?_|refine zu S ?_|refine lH S ?_);refine mv ?_;refine vl ?_;(first|refine lB S rfl rfl ?_|refine qB S rfl rfl ?_|refine zu S ?_|refine lH S ?_);(first|refine sL ?_|(refine aW ?_;intro r1 hr1 hr2));(first|refine sL ?_|(refine aW ?_;intro r1 hr1 hr2));refine vl ?_;(first|(refine sB S rfl rfl ?_;clear S;intro h S)|(refine zZ S rfl rfl ?_;clear S;intro h S));refine qf ?_)|(refine qK 2 ?_;refine mv ?_;refine vl ?_;(first|refine lB S rfl rfl ?_|refine qB S rfl rfl ?_|refine zu S ?_|refine lH S ?_);refine mv ?_;refine vl ?_;(first|refine lB S rfl rfl ?_|refine qB S rfl rfl ?_|refine zu S ?_|refine lH S ?_);(first|refine sR1 ?_|refine sR ?_);(first|refine sL ?_|(refine aW ?_;intro r1 hr1 hr2));refine vl ?_;(first|(refine sB S rfl rfl ?_;clear S;intro h S)|(refine zZ S rfl rfl ?_;clear S;intro h S));refine qf ?_)|(refine qK 3 ?_;refine mv ?_;refine vl ?_;(first|refine lB S rfl rfl ?_|refine qB S rfl rfl ?_|refine zu S ?_|refine lH S ?_);refine mv ?_;refine vl ?_;(first|refine lB S rfl rfl ?_|refine qB S rfl rfl ?_|refine zu S ?_|refine lH S ?_);(first|refine sL ?_|(refine aW ?_;intro r1 hr1 hr2));(first|refine sL ?_|(refine aW ?_;intro r1 hr1 hr2));refine vl ?_;(first|(refine sB S rfl rfl ?_;clear S;intro h S)|(refine zZ S rfl rfl ?_;clear S;intro h S));refine qf ?_)|(refine qc 4 ?_;refine mv ?_;refine vl ?_;(first|refine lB S rfl rfl ?_|refine qB S rfl rfl ?_|refine zu S ?_|refine lH S ?_);refine mv ?_;refine qf ?_)))
 refine qC ⟨_,rfl,?_⟩;exact ⟨_,rfl,by omega,S⟩
end Go.Proofs.Xx
