/-
  The reference's diets.
-/
import Derived.Test.YtidmdnenlgjpeaaGreatDoorM13
import Derived.Test.YtidmdnenlgjpeaaGreatDoorM11
import Derived.Test.YtidmdnenlgjpeaaGreatDoorM10
import Derived.Below
import Derived.ChangeSame
import Derived.ChangeArms
import Derived.OpenShut
set_option linter.unusedSimpArgs false
set_option linter.unusedVariables false
set_option linter.unusedSectionVars false
set_option maxRecDepth 100000
set_option maxHeartbeats 4000000
namespace Go.Proofs.Xx
open Go Go.Proofs
structure RP (l:List (List UInt8)) (i:Nat) (out:List Ct):Prop where
 ss:SS (out.map (·.d))
 n:∀ c∈out,c.n=((l.take i).count c.d:Int)
 all:∀ x,x∈out.map (·.d)↔x∈l.take i
 last:0<i→0<out.length∧(out.getD (out.length - 1) default).d=l.getD (i - 1) default
 ln:out.length≤i
theorem J6 {l:List (List UInt8)} {i:Nat} (hi:i<l.length) (d:List UInt8):(l.take (i+1)).count d=(l.take i).count d+if d=l.getD i default then 1 else 0:=by
 rw [zq hi,List.count_append,List.count_cons,List.count_nil];by_cases e:d=l.getD i default
 ·rw [if_pos e,e];simp
 ·rw [if_neg e];have:(l.getD i default == d)=false:=by simpa using fun q=>e q.symm
  simp only [this];simp
theorem RP.same {l:List (List UInt8)} {i:Nat} {out:List Ct} (R:RP l i out) (hi:i<l.length) (h0:0<i) (e:l.getD i default=l.getD (i - 1) default):RP l (i+1) (out.set (out.length - 1) ⟨(out.getD (out.length - 1) default).d,(out.getD (out.length - 1) default).n+1⟩):=by
 obtain ⟨k1,k2⟩:=R.last h0;rw [← e] at k2;obtain ⟨m,hm⟩:∃ m,out.length - 1=m:=⟨_,rfl⟩
 rw [hm] at k2 ⊢;have hml:m<out.length:=by omega
 have hmap:(out.set m ⟨(out.getD m default).d,(out.getD m default).n+1⟩).map (·.d)=out.map (·.d):=by
  apply JQ (by simp)
  intro j hj;simp at hj;rw [zB (f:=fun c:Ct=>c.d) (by simpa using hj),zB (f:=fun c:Ct=>c.d) hj,QG _ _ hml];split
  ·rename_i q;rw [q]
  ·rfl
 refine ⟨by rw [hmap];exact R.ss,fun c hc=>?_,fun x=>?_,fun _=>⟨by simp;omega,?_⟩,by have:=R.ln;simp;omega⟩
 ·obtain ⟨j,j1,j2⟩:=qM.1 hc;simp at j1;rw [QG _ _ hml] at j2;rw [← j2,J6 hi];by_cases q:j=m
  ·rw [if_pos q];show (out.getD m default).n+1=_
   have h1:=R.n _ (qJ hml);show (out.getD m default).n+1=((((l.take i).count (out.getD m default).d+if (out.getD m default).d=l.getD i default then 1 else 0:Nat)):Int)
   rw [if_pos k2];omega
  ·rw [if_neg q];have hne:(out.getD j default).d≠l.getD i default:=fun z=>by
    rw [← k2] at z;have:=R.ss.inj (i:=j) (j:=m) (by simpa using j1) (by simpa using hml) (by
     rw [zB (f:=fun c:Ct=>c.d) j1,zB (f:=fun c:Ct=>c.d) hml];exact z)
    exact q this
   rw [if_neg hne,R.n _ (qJ j1)];omega
 ·rw [hmap,R.all,jg hi];constructor
  ·exact .inl
  ·rintro (q|q)
   ·exact q
   ·rw [q,← k2];exact (R.all _).1 (zF1.2 ⟨_,qJ hml,rfl⟩)
 ·rw [zF5,hm,QG _ _ hml,if_pos rfl];exact k2
theorem RP.new {l:List (List UInt8)} {i:Nat} {out:List Ct} (R:RP l i out) (hs:Srt jk 0 l.length l) (hi:i<l.length) (h:i=0∨l.getD i default≠l.getD (i - 1) default):RP l (i+1) (out ++ [⟨l.getD i default,1⟩]):=by
 have hlt:∀ x∈l.take i,jk x (l.getD i default):=fun x hx=>by
  obtain ⟨j,j1,j2⟩:=qM.1 hx;rw [zA9] at j1;rw [getD_take (show j<i by omega)] at j2;rcases h with h|h
  ·omega
  ·have a1:=hs (i - 1) i (zB0 _) (by omega) hi;have a2:jk (l.getD (i - 1) default) (l.getD i default):=by
    rcases Xg a1 with q|q
    ·exact absurd q.symm h
    ·exact q
   rcases Nat.eq_or_lt_of_le (show j≤i - 1 by omega) with e|e
   ·rw [← j2,e];exact a2
   ·have a3:=hs j (i - 1) (zB0 _) e (by omega);rw [← j2];exact vV a3 a2
 have hni:l.getD i default ∉ l.take i:=fun q=>zA _ (hlt _ q);refine ⟨?_,fun c hc=>?_,fun x=>?_,fun _=>⟨by simp,?_⟩,by have:=R.ln;simp;omega⟩
 ·rw [zC9];intro a b hab hb;rw [zB2,zC5] at hb;simp at hb;rcases zA7 b out.length with q|q
  ·rw [YL (by simp;omega),YL (by simpa using q)];exact R.ss a b hab (by simpa using q)
  ·obtain rfl:b=out.length:=by omega
   rw [YL (by simpa using hab),Gt (by simp),zC5,zG6];exact hlt _ ((R.all _).1 (qJ (by simpa using hab)))
 ·rw [J6 hi];rcases zB8.1 hc with q|q
  ·have hne:c.d≠l.getD i default:=fun e=>hni (e ▸ (R.all _).1 (zF1.2 ⟨c,q,rfl⟩));rw [if_neg hne,R.n c q];omega
  ·rw [zB5.1 q];show (1:Int)=(((l.take i).count (l.getD i default)+if l.getD i default=l.getD i default then 1 else 0:Nat):Int)
   rw [if_pos rfl,List.count_eq_zero.2 hni];rfl
 ·rw [zC9,zB8,R.all,jg hi];simp
 ·rw [zB2,zD5,Nat.add_sub_cancel,Nat.add_sub_cancel,Gt (zA3 _),zG6];rfl
theorem RP.fin {r:Rl} {l:List (List UInt8)} {out:List Ct} (R:RP l l.length out) (p:l.Perm (Y2 r)):qcr r out:=by
 refine ⟨R.ss,fun c hc=>?_,fun x=>?_⟩
 ·rw [R.n c hc,zD4,p.count_eq]
 ·rw [R.all,zD4,p.mem_iff]
variable [Flag]
end Go.Proofs.Xx
namespace Go.Proofs.Xx
open Go Go.Proofs
structure KA (r:Rl) (out:List Int):Prop where
 len:out.length=r.us.length
 rng:∀ j,j<out.length→out.getD j default = -1∨out.getD j default=0∨out.getD j default=1
 z:∀ j,j<out.length→0≤out.getD j default→out.getD j default=0∨∃ k,k<j∧Rch r 2 (Zb r k) (Zb r j)
 u:∀ cs,VC r cs→∀ j,j<out.length→0≤out.getD j default→out.getD j default=cs.getD j default
def KC (r:Rl) (out:List Int):Prop:=∀ a b,a<out.length→b<out.length→adj r 2 (Zb r a) (Zb r b)→0≤out.getD a default→0≤out.getD b default∧out.getD a default≠out.getD b default
theorem PY {r:Rl} {x:List UInt8} (h:gat r.us x≠none):∃ j,j<r.us.length∧Zb r j=x:=by
 obtain ⟨g,h1,h2⟩:=JM.1 h;obtain ⟨j,j1,j2⟩:=qM.1 h1;exact ⟨j,j1,by unfold Zb;rw [j2];exact h2⟩
theorem PX {r:Rl} (H:RO r) {i j:Nat} (hi:i<r.us.length) (hj:j<r.us.length) (e:Zb r i=Zb r j):i=j:=by
 rcases zE7 i j with q|q|q
 ·exact absurd e (H.nd i j q hj)
 ·exact q
 ·exact absurd e.symm (H.nd j i q hi)
theorem KC.rch {r:Rl} (H:RO r) {out:List Int} (hl:out.length=r.us.length) (C:KC r out) {k:Nat} (hk:k<out.length) (h0:0≤out.getD k default) {x:List UInt8} (h:Rch r 2 (Zb r k) x):∃ j,j<out.length∧Zb r j=x∧0≤out.getD j default:=by
 induction h with
 | refl=>exact ⟨k,hk,rfl,h0⟩
 | step h a ih =>
  obtain ⟨j,j1,j2,j3⟩:=ih;obtain ⟨m,m1,m2⟩:=PY (XK H a).2.1;rw [← j2,← m2] at a;exact ⟨m,by omega,m2,(C j m j1 (by omega) a j3).1⟩
structure KP (r:Rl) (i:Nat) (out0 out:List Int):Prop where
 a:KA r out
 l0:out0.length=r.us.length
 c0:KC r out0
 m0:∀ j,j<i→0≤out0.getD j default
 i0:0≤out.getD i default
 old:∀ j,j<out.length→0≤out0.getD j default→0≤out.getD j default
 nw:∀ j,j<out.length→0≤out.getD j default→0≤out0.getD j default∨Rch r 2 (Zb r i) (Zb r j)
theorem KP.root {r:Rl} (H:RO r) {i:Nat} {out:List Int} (A:KA r out) (C:KC r out) (hm:∀ j,j<i→0≤out.getD j default) (hi:i<out.length) (hn:out.getD i default<0):KP r i out (out.set i 0):=by
 have hg:∀ j,(out.set i (0:Int)).getD j default=if j=i then 0 else out.getD j default:=fun j=>QG _ _ hi j
 refine ⟨⟨by simp;exact A.len,fun j hj=>?_,fun j hj h=>?_,fun cs hc j hj h=>?_⟩,A.len,C,hm,by rw [hg,if_pos rfl];exact Int.le_refl _,fun j hj h=>?_,fun j hj h=>?_⟩
 ·simp at hj;rw [hg];split
  ·exact .inr (.inl rfl)
  ·exact A.rng j hj
 ·simp at hj;rw [hg] at h ⊢;by_cases e:j=i
  ·rw [if_pos e];exact .inl rfl
  ·rw [if_neg e] at h ⊢;exact A.z j hj h
 ·simp at hj;rw [hg] at h ⊢;by_cases e:j=i
  ·rw [if_pos e,e];rcases hc.z i (by rw [hc.len,← A.len];exact hi) with z|⟨k,k1,k2⟩
   ·exact z.symm
   ·exfalso
    obtain ⟨m,m1,m2,m3⟩:=C.rch H A.len (by omega) (hm k k1) k2;have:=PX H (by rw [← A.len];exact m1) (by rw [← A.len];exact hi) m2;rw [this] at m3;omega
  ·rw [if_neg e] at h ⊢;exact A.u cs hc j hj h
 ·rw [hg];split
  ·exact Int.le_refl _
  ·exact h
 ·rw [hg] at h;by_cases e:j=i
  ·rw [e];exact .inr .refl
  ·rw [if_neg e] at h;exact .inl h
theorem KP.step {r:Rl} {i:Nat} {out0 out:List Int} (K:KP r i out0 out) {a b:Nat} (ha:a<out.length) (hb:b<out.length) (h:adj r 2 (Zb r a) (Zb r b)) (h1:0≤out.getD a default) (h2:out.getD b default<0):KP r i out0 (out.set b (1 - out.getD a default)):=by
 have hl:=K.a.len;have hl0:=K.l0;have hg:∀ j,(out.set b (1 - out.getD a default)).getD j default=if j=b then 1 - out.getD a default else out.getD j default:=fun j=>QG _ _ hb j
 have hra:=K.a.rng a ha;have hb0:¬ 0≤out0.getD b default:=fun q=>by have:=K.old b hb q;omega
 have hRa:Rch r 2 (Zb r i) (Zb r a):=by
  rcases K.nw a ha h1 with q|q
  ·exact absurd (K.c0 a b (by omega) (by omega) h q).1 hb0
  ·exact q
 have hib:i<b:=by
  rcases zE7 i b with q|q|q
  ·exact q
  ·have:=K.i0;rw [q] at this;omega
  ·exact absurd (K.m0 b q) hb0
 refine ⟨⟨by simp;exact hl,fun j hj=>?_,fun j hj q=>?_,fun cs hc j hj q=>?_⟩,hl0,K.c0,K.m0,?_,fun j hj q=>?_,fun j hj q=>?_⟩
 ·simp at hj;rw [hg];split
  ·omega
  ·exact K.a.rng j hj
 ·simp at hj;rw [hg] at q ⊢;by_cases e:j=b
  ·rw [e];exact .inr ⟨i,hib,hRa.step h⟩
  ·rw [if_neg e] at q ⊢;exact K.a.z j hj q
 ·simp at hj;rw [hg] at q ⊢;by_cases e:j=b
  ·rw [if_pos e,e];have e1:=K.a.u cs hc a ha h1;have e2:=hc.ne a b (by rw [hc.len];omega) (by rw [hc.len];omega) h;have e3:=hc.b b (by rw [hc.len];omega);have e4:=hc.b a (by rw [hc.len];omega);omega
  ·rw [if_neg e] at q ⊢;exact K.a.u cs hc j hj q
 ·rw [hg];split
  ·omega
  ·exact K.i0
 ·simp at hj;rw [hg];split
  ·omega
  ·exact K.old j hj q
 ·simp at hj;rw [hg] at q;by_cases e:j=b
  ·rw [e];exact .inr (hRa.step h)
  ·rw [if_neg e] at q;exact K.nw j hj q
theorem KA.no {r:Rl} {out:List Int} (A:KA r out) {a b:Nat} (ha:a<out.length) (hb:b<out.length) (h:adj r 2 (Zb r a) (Zb r b)) (h1:0≤out.getD a default) (e:out.getD a default=out.getD b default) (cs:List Int):¬ VC r cs:=fun hc=>by
 have e1:=A.u cs hc a ha h1;have e2:=A.u cs hc b hb (by omega);have hl:=A.len;exact hc.ne a b (by rw [hc.len];omega) (by rw [hc.len];omega) h (by omega)
def qfV (r:Rl) (out:List Int) (t:Ti):Prop:=t.k=2→∀ a b,a<out.length→b<out.length→Zb r a=t.a→Zb r b=t.b→(0≤out.getD a default↔0≤out.getD b default)∧(0≤out.getD a default→out.getD a default≠out.getD b default)
theorem KC.of {r:Rl} {out:List Int} (h:∀ t∈r.ts,qfV r out t):KC r out:=fun a b ha hb q h0=>by
 obtain ⟨t,t1,t2,t3⟩:=q;rcases t3 with ⟨q1,q2⟩|⟨q1,q2⟩
 ·obtain ⟨g1,g2⟩:=h t t1 t2 a b ha hb q1.symm q2.symm;exact ⟨g1.1 h0,g2 h0⟩
 ·obtain ⟨g1,g2⟩:=h t t1 t2 b a hb ha q2.symm q1.symm;have:=g1.2 h0;exact ⟨this,fun e=>g2 this e.symm⟩
def qf6 (out:List Int):Nat:=(out.map fun x=>(-x).toNat).sum
theorem KA.fin {r:Rl} {out:List Int} (A:KA r out) (C:KC r out) (hm:∀ j,j<out.length→0≤out.getD j default):VC r out∧∀ cs,VC r cs→cs=out:=by
 have hl:=A.len;refine ⟨⟨hl,fun i hi=>?_,fun i j hi hj a=>(C i j hi hj a (hm i hi)).2,fun j hj=>A.z j hj (hm j hj)⟩,fun cs hc=>?_⟩
 ·have:=A.rng i hi;have:=hm i hi;omega
 ·apply JQ (by rw [hc.len,hl])
  intro i hi;rw [hc.len] at hi;exact (A.u cs hc i (by omega) (hm i (by omega))).symm
theorem RingOk.no {r:Rl} (H:RO r) {R:List (List UInt8)} (h:RingOk r R) (cs:List Int):¬ VC r cs:=fun hc=>by
 have h3:=h.three;have hidx:∀ i,i<R.length→∃ j,j<cs.length∧Zb r j=R.getD i default:=fun i hi=>by
  obtain ⟨j,j1,j2⟩:=PY (XK H (h.adj i hi)).1;exact ⟨j,by rw [hc.len];exact j1,j2⟩
 have hne:∀ i j,i<R.length→Xx.adj r 2 (R.getD i default) (R.getD j default)→j<R.length→∀ a b,a<cs.length→b<cs.length→Zb r a=R.getD i default→Zb r b=R.getD j default→cs.getD a default≠cs.getD b default:=fun i j hi ha hj a b h1 h2 e1 e2=>hc.ne a b h1 h2 (by rw [e1,e2];exact ha);obtain ⟨a0,a1,a2⟩:=hidx 0 (by omega);have key:∀ i,i<R.length→∀ a,a<cs.length→Zb r a=R.getD i default→cs.getD a default=if i % 2=0 then cs.getD a0 default else 1 - cs.getD a0 default:=by
  intro i;induction i with
  | zero =>
   intro hi a h1 h2;have:a=a0:=PX H (by rw [← hc.len];exact h1) (by rw [← hc.len];exact a1) (h2.trans a2.symm);rw [this];rfl
  | succ i ih =>
   intro hi a h1 h2;obtain ⟨b,b1,b2⟩:=hidx i (by omega);have e:=ih (by omega) b b1 b2;have ha:=h.adj i (by omega);rw [Nat.mod_eq_of_lt hi] at ha;have hn:=hne i (i+1) (by omega) ha hi b a b1 h1 b2 h2;have c1:=hc.b a h1;have c2:=hc.b b b1;have c3:=hc.b a0 a1;by_cases p:i % 2=0
   ·rw [if_pos p] at e;rw [if_neg (by omega)];omega
   ·rw [if_neg p] at e;rw [if_pos (by omega)];omega
 obtain ⟨b,b1,b2⟩:=hidx (R.length - 1) (by omega);have e:=key (R.length - 1) (by omega) b b1 b2;have hodd:=h.odd;rw [if_pos (by omega)] at e;have ha:=h.adj (R.length - 1) (by omega);rw [show R.length - 1+1=R.length by omega,Nat.mod_self] at ha;exact hne (R.length - 1) 0 (by omega) ha (by omega) b a0 b1 a1 b2 a2 e
variable [Flag]
end Go.Proofs.Xx
namespace Go.Proofs.Xx
open Go Go.Proofs
variable [Flag]
end Go.Proofs.Xx
namespace Go.Proofs.Xx
open Go Go.Proofs
theorem CirOk.wl {r:Rl} (H:RO r) {cs:List Wd} (C:CirOk r cs) {w:Wd} (hw:w∈cs):w.ws.length≤64:=by
 obtain ⟨w1,w2,w3⟩:=C.ss w hw;have:=Qr w1.nodup (m:=r.us.map (·.name)) fun x hx=>by
  obtain ⟨k,rc⟩:=(w3 x).1 hx;exact YK (rc.known H k)
 rw [zC5] at this;have:=H.l64;omega
variable [Flag]
end Go.Proofs.Xx
namespace Go.Proofs.Xx
open Go Go.Proofs
theorem Sep.front {lo:Nat} {h:AH} {r:Rs} {l2:List Rs}:∀ {l1:List Rs} {V:Fp},Sep lo h (l1 ++ r :: l2) V→Sep lo h (r :: (l1 ++ l2)) V
 | [],_,k=>k
 | x :: l1,V,⟨fx,h1,h2,h3⟩=>by
  obtain ⟨fr,k1,k2,k3⟩:=Sep.front h3;exact ⟨fr,k1,fun b hb=>⟨(k2 b hb).1,(k2 b hb).2.1,(k2 b hb).2.2.1⟩,fx,h1,fun b hb=>⟨(h2 b hb).1,(h2 b hb).2.1,(h2 b hb).2.2,fun q=>(k2 b q).2.2.2 hb⟩,k3.mono fun b hb=>⟨⟨hb.1.1,hb.2⟩,hb.1.2⟩⟩
theorem Sep.back {lo:Nat} {h:AH} {r:Rs} {l2:List Rs}:∀ {l1:List Rs} {V:Fp},Sep lo h (r :: (l1 ++ l2)) V→Sep lo h (l1 ++ r :: l2) V
 | [],_,k=>k
 | x :: l1,V,⟨fr,k1,k2,fx,h1,h2,k3⟩ =>
  ⟨fx,h1,fun b hb=>⟨(h2 b hb).1,(h2 b hb).2.1,(h2 b hb).2.2.1⟩,Sep.back ⟨fr,k1,fun b hb=>⟨(k2 b hb).1,(k2 b hb).2.1,(k2 b hb).2.2,fun q=>(h2 b q).2.2.2 hb⟩,k3.mono fun b hb=>⟨⟨hb.1.1,hb.2⟩,hb.1.2⟩⟩⟩
variable [Flag]
theorem qaM {h0:AH} (w:WfH h0) (v:RlV) (r:Rl) (H:RlOk h0 v r):Fn Tryz.prog Xh 44 [v.val] h0 (fun u h'=>((u = .tuple #[.int .i64 0,.int .i64 0]∧VRl r)∨∃ i e,u = .tuple #[.int .i64 i,.int .i64 e]∧Bad r i e)∧Hs h0 h' []):=by
 have S:=Hs.start w;unfold RlV.val;refine zF rfl Tryz.func44 rfl rfl ?_;all_goals (repeat' (first|refine qx ?_|refine qi rfl ?_|refine qw ?_|refine qA ?_|refine qh ?_|refine qj ?_|refine qo ?_|(refine qf 0 ?_;(refine bx S ?_;clear S;intro b h S);refine mv ?_;refine mv ?_;refine qg ?_)|(refine qf 1 ?_;(first|refine lB S rfl rfl ?_|refine zh S rfl rfl ?_|refine zU S ?_|refine lH S ?_))))
 (refine qH rfl rfl rfl rfl rfl ((qcM S.wf v r (H.ext w S.ext)).mono ?_);rintro _ h (⟨p,rfl,hv,x⟩|⟨i,e,rfl,hb,x⟩))<;>(refine mv ?_;refine vl ?_;refine vl ?_;refine vl ?_;(iterate 3 refine mv ?_);refine qg ?_)
 ·replace S:=S.join x;all_goals (repeat' (first|refine qx ?_|refine qi rfl ?_|refine qw ?_|refine qA ?_|refine qh ?_|refine qj ?_|refine qo ?_|(refine qf 2 ?_;(iterate 4 refine mv ?_);refine qg ?_)))
  refine qF ⟨_,rfl,?_⟩;exact ⟨.inl ⟨rfl,hv⟩,S.drop⟩
 ·replace S:=S.join x;all_goals (repeat' (first|refine qx ?_|refine qi rfl ?_|refine qw ?_|refine qA ?_|refine qh ?_|refine qj ?_|refine qo ?_|(refine qf 2 ?_;(iterate 4 refine mv ?_);refine qg ?_)))
  refine qF ⟨_,rfl,?_⟩;exact ⟨.inr ⟨_,_,rfl,hb⟩,S.drop⟩
end Go.Proofs.Xx
namespace Go.Proofs.Xx
open Go Go.Proofs
theorem Yr (l:List (List UInt8)) (w:List UInt8):txt (l ++ [w])=txt l ++ (w ++ [10]):=by simp [txt]
theorem qbB (t:Ti):XQ t ++ [10]=(if t.k=1 then [102,114,105,101,110,100,32] else [102,101,117,100,32]) ++ t.a ++ [32] ++ t.b ++ [10]:=by
 unfold XQ tws jW JY;split<;>simp [WW]
variable [Flag]
theorem qb5 {h0 h:AH} {rs:List Rs} {bb:Nat} {q:Value} (S:Hs h0 h (bst bb q (.slice none 0 0) :: rs)):Fn Tryz.prog Xh 115 [.pointer (some ⟨bb,0,none⟩)] h (fun r h'=>r=str []∧Hs h0 h' (bst bb q (.slice none 0 0) :: rs)):=by
 refine zF rfl Tryz.func115 rfl rfl ?_;all_goals (repeat' (first|refine qx ?_|refine qi rfl ?_|refine qw ?_|refine qA ?_|refine qh ?_|refine qj ?_|refine qo ?_|(refine qf 0 ?_;refine mv ?_;refine qg ?_)))
 refine ji 1 ?_;refine mv ?_;refine vl ?_;refine vl ?_;refine lB S rfl rfl ?_;refine vl ?_;refine mv ?_;refine vl ?_;refine vl ?_;refine lB S rfl rfl ?_;refine vl ?_;refine vl ?_;refine mv ?_;refine qg ?_;all_goals (repeat' (first|refine qx ?_|refine qi rfl ?_|refine qw ?_|refine qA ?_|refine qh ?_|refine qj ?_|refine qo ?_|(refine qf 0 ?_;refine mv ?_;refine qg ?_)|(refine ji 1 ?_;refine mv ?_;refine vl ?_;(first|refine vl ?_|refine fB S ?_|refine fS S rfl rfl ?_|refine fA ?_);(first|refine lB S rfl rfl ?_|refine zh S rfl rfl ?_|refine zU S ?_|refine lH S ?_))))
 refine qF ⟨_,rfl,?_⟩;exact ⟨rfl,S⟩
theorem xg {h0:AH} (w:WfH h0) (hf:Flag.b=true) (v:RlV) (r:Rl) (H:RlOk h0 v r):Fn Tryz.prog Xh 52 [v.val] h0 (fun u h'=>((RO r∧u=str (fmt r))∨(¬ VRl r∧u=str []))∧Hs h0 h' []):=by
 have S:=Hs.start w;have hgl:=H.len;have hrg:=H.rg;have hrt:=H.rt;have hlg:=H.lg;have hlt:=H.lt;unfold RlV.val;refine zF rfl Tryz.func52 rfl rfl ?_;all_goals (repeat' (first|refine qx ?_|refine qi rfl ?_|refine qw ?_|refine qA ?_|refine qh ?_|refine qj ?_|refine qo ?_|(refine qf 0 ?_;(refine bx S ?_;clear S;intro b h S);refine mv ?_;refine qg ?_)))
 obtain ⟨b1,hnm⟩:∃ x,x=b:=⟨_,rfl⟩;subst hnm;all_goals (repeat' (first|refine qx ?_|refine qi rfl ?_|refine qw ?_|refine qA ?_|refine qh ?_|refine qj ?_|refine qo ?_|(refine qf 1 ?_;(first|refine lB S rfl rfl ?_|refine zh S rfl rfl ?_|refine zU S ?_|refine lH S ?_))))
 (refine qH rfl rfl rfl rfl rfl ((qaM S.wf v r (H.ext w S.ext)).mono ?_);rintro _ h ⟨⟨rfl,hV⟩|⟨i,e,rfl,hB⟩,x⟩)<;>(replace S:=S.zn x;clear x;refine mv ?_;refine vl ?_;refine vl ?_;refine mv ?_;refine mv ?_;refine qg ?_)
 rotate_left
 ·have he:e≠0:=hB.1;all_goals (repeat' (first|refine qx ?_|refine qi rfl ?_|refine qw ?_|refine qA ?_|refine qh ?_|refine qj ?_|refine qo ?_|(refine qf 2 ?_;refine mv ?_;(first|refine cT ?_|refine cF ?_|(refine cS ?_ ?_<;>intro hc))<;>(refine qg ?_))|(refine qf 3 ?_;refine mv ?_;refine qg ?_)))
  all_goals first|exact absurd rfl he|skip
  refine qF ⟨_,rfl,?_⟩;exact ⟨.inr ⟨hB.not,rfl⟩,S.drop⟩
 have HR:=qae.1 hV;have h64:=HR.l64;have h256:=HR.l256;all_goals (repeat' (first|refine qx ?_|refine qi rfl ?_|refine qw ?_|refine qA ?_|refine qh ?_|refine qj ?_|refine qo ?_|(refine qf 2 ?_;refine mv ?_;(first|refine cT ?_|refine cF ?_|(refine cS ?_ ?_<;>intro hc))<;>(refine qg ?_))|(refine qf 4 ?_;(refine al S ?_;clear S;intro b h S);refine qg ?_)))
 obtain ⟨bb,hnm⟩:∃ x,x=b:=⟨_,rfl⟩;subst hnm;all_goals (repeat' (first|refine qx ?_|refine qi rfl ?_|refine qw ?_|refine qA ?_|refine qh ?_|refine qj ?_|refine qo ?_|(refine qf 5 ?_;(first|refine vl ?_|refine fB S ?_|refine fS S rfl rfl ?_|refine fA ?_);(first|refine lB S rfl rfl ?_|refine zh S rfl rfl ?_|refine zU S ?_|refine lH S ?_);(first|refine Zg S ?_|refine J5 S rfl rfl ?_);refine mv ?_;refine qg ?_)))
 replace S:Hs h0 h [bst bb (.pointer none) (.slice none 0 0),.blk b1 [v.vg.val,v.vt.val] 32]:=S;refine zK (σ:=Nat×Value×Value) (fun (i,q,vb) h'=>Hs h0 h' [bst bb q vb,kP vb (txt ((r.us.take i).map JJ)),.blk b1 [v.vg.val,v.vt.val] 32]∧QP bb q∧i≤r.us.length∧(i=0→vb = .slice none 0 0)) (fun (i,q,vb)=>r.us.length - i) (fun (i,q,vb)=>[(1,.pointer (some ⟨b1,0,none⟩)),(5,.pointer (some ⟨bb,0,none⟩)),(21,v.vg.val),(22,.int .i64 v.gs.length),(23,.int .i64 i)]) (0,.pointer none,.slice none 0 0) zf ?_ ?_
 ·have S2:=S.x8 (e:=5) (z:=1) (enc:=eU) (α:=Nat);exact ⟨S2.front (.there .here),.inl rfl,zB0 _,fun _=>rfl⟩
 clear S;rintro ⟨i,q,vb⟩ h ⟨S,hq,i1,i2⟩;all_goals (repeat' (first|refine qx ?_|refine qi rfl ?_|refine qw ?_|refine qA ?_|refine qh ?_|refine qj ?_|refine qo ?_|(refine qf 6 ?_;(first|refine cT ?_|refine cF ?_|(refine cS ?_ ?_<;>intro hc))<;>(refine qg ?_))))
 ·have hil:i<v.gs.length:=by omega
  have hat:=H.at_ hil;obtain ⟨rtg,htl⟩:=H.tg i hil;have hck:=HR.chk _ (qJ (show i<r.us.length by omega));all_goals (repeat' (first|refine qx ?_|refine qi rfl ?_|refine qw ?_|refine qA ?_|refine qh ?_|refine qj ?_|refine qo ?_|(refine qf 7 ?_;(first|refine Za S ?_|refine jQ S rfl rfl ?_);(first|refine lB S rfl rfl ?_|refine zh S rfl rfl ?_|refine zU S ?_|refine lH S ?_);(refine al S ?_;clear S;intro b h S);(first|(refine sB S rfl rfl ?_;clear S;intro h S)|(refine J3 S rfl rfl ?_;clear S;intro h S));refine qg ?_)|(refine qf 8 ?_;refine mv ?_;refine qg ?_)))
  simp only [zA0] at S;simp only [zA0];obtain ⟨b7,hnm⟩:∃ x,x=b:=⟨_,rfl⟩;subst hnm;obtain ⟨g,hg⟩:∃ g,g=v.gs.getD i default:=⟨_,rfl⟩
  rw [← hg] at S hat rtg htl;rw [← hat] at hck;obtain ⟨g1,g2,g3,g4⟩:=qbI hck;obtain ⟨-,⟨sn1,sn2⟩,⟨sd1,sd2⟩,tg4,-⟩:=ZZ hck;have hsn:g.since=(g.since.toNat:Int):=by omega
  have hsd:g.side=(g.side.toNat:Int):=by omega
  have wl:∀ u∈kN g.toGu,u.length≤12:=fun u hu=>(g1 u hu).2;replace S:Hs h0 h [.blk b7 (eG g) 24,bst bb q vb,kP vb (txt ((r.us.take i).map JJ)),.blk b1 [v.vg.val,v.vt.val] 32]:=S;all_goals (repeat' (first|refine qx ?_|refine qi rfl ?_|refine qw ?_|refine qA ?_|refine qh ?_|refine qj ?_|refine qo ?_|(refine qf 9 ?_;(first|refine vl ?_|refine fB S ?_|refine fS S rfl rfl ?_|refine fA ?_);(first|refine lB S rfl rfl ?_|refine zh S rfl rfl ?_|refine zU S ?_|refine lH S ?_);refine qg ?_)))
  (repeat (refine qx ?_));first|refine Zr (σ:=List UInt8) (fun s h'=>Hs h0 h' [.blk b7 (eG g) 24,bst bb q vb,kP vb (txt ((r.us.take i).map JJ)),.blk b1 [v.vg.val,v.vt.val] 32]∧s=(if g.host then [104] else [])) (fun s=>[(1,.pointer (some ⟨b1,0,none⟩)),(5,.pointer (some ⟨bb,0,none⟩)),(7,.pointer (some ⟨b7,0,none⟩)),(8,str s),(21,v.vg.val),(22,.int .i64 v.gs.length),(23,.int .i64 i)]) ?_ ?_|refine qco (σ:=List UInt8) (fun s h'=>Hs h0 h' [.blk b7 (eG g) 24,bst bb q vb,kP vb (txt ((r.us.take i).map JJ)),.blk b1 [v.vg.val,v.vt.val] 32]∧s=(if g.host then [104] else [])) (fun s=>[(1,.pointer (some ⟨b1,0,none⟩)),(5,.pointer (some ⟨bb,0,none⟩)),(7,.pointer (some ⟨b7,0,none⟩)),(8,str s),(21,v.vg.val),(22,.int .i64 v.gs.length),(23,.int .i64 i)]) ?_ ?_
  ·cases hh:g.host with
   | true =>
    all_goals (repeat' (first|refine qx ?_|refine qi rfl ?_|refine qw ?_|refine qA ?_|refine qh ?_|refine qj ?_|refine qo ?_|(refine qf 10 ?_;refine mv ?_;refine tc ?_;refine mv ?_;refine qg ?_)))
    exact ⟨[104],⟨S,rfl⟩,(zf)⟩
   | false =>
    all_goals (repeat' (first|refine qx ?_|refine qi rfl ?_|refine qw ?_|refine qA ?_|refine qh ?_|refine qj ?_|refine qo ?_|(refine qf 10 ?_;refine mv ?_;refine tc ?_;refine mv ?_;refine qg ?_)))
    exact ⟨[],⟨S,rfl⟩,(zf)⟩
  clear S;rintro s h ⟨S,hs⟩;have hsl:s.length≤1:=by rw [hs];split<;>simp
  all_goals (repeat' (first|refine qx ?_|refine qi rfl ?_|refine qw ?_|refine qA ?_|refine qh ?_|refine qj ?_|refine qo ?_|(refine qf 11 ?_;(first|refine vl ?_|refine fB S ?_|refine fS S rfl rfl ?_|refine fA ?_);(first|refine lB S rfl rfl ?_|refine zh S rfl rfl ?_|refine zU S ?_|refine lH S ?_);refine qg ?_)))
  (repeat (refine qx ?_));first|refine Zr (σ:=List UInt8) (fun s h'=>Hs h0 h' [.blk b7 (eG g) 24,bst bb q vb,kP vb (txt ((r.us.take i).map JJ)),.blk b1 [v.vg.val,v.vt.val] 32]∧s=flg g.toGu) (fun s=>[(1,.pointer (some ⟨b1,0,none⟩)),(5,.pointer (some ⟨bb,0,none⟩)),(7,.pointer (some ⟨b7,0,none⟩)),(8,str s),(21,v.vg.val),(22,.int .i64 v.gs.length),(23,.int .i64 i)]) ?_ ?_|refine qco (σ:=List UInt8) (fun s h'=>Hs h0 h' [.blk b7 (eG g) 24,bst bb q vb,kP vb (txt ((r.us.take i).map JJ)),.blk b1 [v.vg.val,v.vt.val] 32]∧s=flg g.toGu) (fun s=>[(1,.pointer (some ⟨b1,0,none⟩)),(5,.pointer (some ⟨bb,0,none⟩)),(7,.pointer (some ⟨b7,0,none⟩)),(8,str s),(21,v.vg.val),(22,.int .i64 v.gs.length),(23,.int .i64 i)]) ?_ ?_
  ·cases ha:g.access with
   | true =>
    all_goals (repeat' (first|refine qx ?_|refine qi rfl ?_|refine qw ?_|refine qA ?_|refine qh ?_|refine qj ?_|refine qo ?_|(refine qf 12 ?_;refine mv ?_;refine tc ?_;refine mv ?_;refine qg ?_)))
    exact ⟨s ++ [97],⟨S,by unfold flg;rw [ha,hs];rfl⟩,(zf)⟩
   | false =>
    all_goals (repeat' (first|refine qx ?_|refine qi rfl ?_|refine qw ?_|refine qA ?_|refine qh ?_|refine qj ?_|refine qo ?_|(refine qf 12 ?_;refine mv ?_;refine tc ?_;refine mv ?_;refine qg ?_)))
    exact ⟨s,⟨S,by unfold flg;rw [ha,hs];simp⟩,(zf)⟩
  clear S hs hsl;rintro s h ⟨S,hs⟩;(repeat (refine qx ?_));refine Z9 (id:=13) [(1,(0,6)),(6,(0,1)),(9,(0,2)),(12,(0,3)),(15,(0,4)),(21,(0,7))] [some (b7),some (b7),some (b7),some (b7),some (b7),some (b7)] ?_;refine qB ?_;(first|(refine vl ?_<;>refine qg ⟨⟨by (first|exact True.intro|exact Or.inl rfl|exact Or.inr rfl|exact Or.inr (congrArg some (qy _ _ _ _))|exact ⟨Or.inl rfl,rfl⟩|exact ⟨Or.inr rfl,rfl⟩),rfl⟩,?_⟩)|(refine fB S ?_<;>refine qg ⟨⟨by (first|exact True.intro|exact Or.inl rfl|exact Or.inr rfl|exact Or.inr (congrArg some (qy _ _ _ _))|exact ⟨Or.inl rfl,rfl⟩|exact ⟨Or.inr rfl,rfl⟩),rfl⟩,?_⟩)|(refine fS S rfl rfl ?_<;>refine qg ⟨⟨by (first|exact True.intro|exact Or.inl rfl|exact Or.inr rfl|exact Or.inr (congrArg some (qy _ _ _ _))|exact ⟨Or.inl rfl,rfl⟩|exact ⟨Or.inr rfl,rfl⟩),rfl⟩,?_⟩)|(refine fA ?_<;>refine qg ⟨⟨by (first|exact True.intro|exact Or.inl rfl|exact Or.inr rfl|exact Or.inr (congrArg some (qy _ _ _ _))|exact ⟨Or.inl rfl,rfl⟩|exact ⟨Or.inr rfl,rfl⟩),rfl⟩,?_⟩));refine qB ?_;(first|(refine lB S rfl rfl ?_<;>refine qg ⟨⟨by (first|exact True.intro|exact Or.inl rfl|exact Or.inr rfl|exact Or.inr (congrArg some (qy _ _ _ _))|exact ⟨Or.inl rfl,rfl⟩|exact ⟨Or.inr rfl,rfl⟩),rfl⟩,?_⟩)|(refine zh S rfl rfl ?_<;>refine qg ⟨⟨by (first|exact True.intro|exact Or.inl rfl|exact Or.inr rfl|exact Or.inr (congrArg some (qy _ _ _ _))|exact ⟨Or.inl rfl,rfl⟩|exact ⟨Or.inr rfl,rfl⟩),rfl⟩,?_⟩)|(refine zU S ?_<;>refine qg ⟨⟨by (first|exact True.intro|exact Or.inl rfl|exact Or.inr rfl|exact Or.inr (congrArg some (qy _ _ _ _))|exact ⟨Or.inl rfl,rfl⟩|exact ⟨Or.inr rfl,rfl⟩),rfl⟩,?_⟩)|(refine lH S ?_<;>refine qg ⟨⟨by (first|exact True.intro|exact Or.inl rfl|exact Or.inr rfl|exact Or.inr (congrArg some (qy _ _ _ _))|exact ⟨Or.inl rfl,rfl⟩|exact ⟨Or.inr rfl,rfl⟩),rfl⟩,?_⟩));refine qB ?_;(first|(refine vl ?_<;>refine qg ⟨⟨by (first|exact True.intro|exact Or.inl rfl|exact Or.inr rfl|exact Or.inr (congrArg some (qy _ _ _ _))|exact ⟨Or.inl rfl,rfl⟩|exact ⟨Or.inr rfl,rfl⟩),rfl⟩,?_⟩)|(refine fB S ?_<;>refine qg ⟨⟨by (first|exact True.intro|exact Or.inl rfl|exact Or.inr rfl|exact Or.inr (congrArg some (qy _ _ _ _))|exact ⟨Or.inl rfl,rfl⟩|exact ⟨Or.inr rfl,rfl⟩),rfl⟩,?_⟩)|(refine fS S rfl rfl ?_<;>refine qg ⟨⟨by (first|exact True.intro|exact Or.inl rfl|exact Or.inr rfl|exact Or.inr (congrArg some (qy _ _ _ _))|exact ⟨Or.inl rfl,rfl⟩|exact ⟨Or.inr rfl,rfl⟩),rfl⟩,?_⟩)|(refine fA ?_<;>refine qg ⟨⟨by (first|exact True.intro|exact Or.inl rfl|exact Or.inr rfl|exact Or.inr (congrArg some (qy _ _ _ _))|exact ⟨Or.inl rfl,rfl⟩|exact ⟨Or.inr rfl,rfl⟩),rfl⟩,?_⟩));refine qB ?_;(first|(refine lB S rfl rfl ?_<;>refine qg ⟨⟨by (first|exact True.intro|exact Or.inl rfl|exact Or.inr rfl|exact Or.inr (congrArg some (qy _ _ _ _))|exact ⟨Or.inl rfl,rfl⟩|exact ⟨Or.inr rfl,rfl⟩),rfl⟩,?_⟩)|(refine zh S rfl rfl ?_<;>refine qg ⟨⟨by (first|exact True.intro|exact Or.inl rfl|exact Or.inr rfl|exact Or.inr (congrArg some (qy _ _ _ _))|exact ⟨Or.inl rfl,rfl⟩|exact ⟨Or.inr rfl,rfl⟩),rfl⟩,?_⟩)|(refine zU S ?_<;>refine qg ⟨⟨by (first|exact True.intro|exact Or.inl rfl|exact Or.inr rfl|exact Or.inr (congrArg some (qy _ _ _ _))|exact ⟨Or.inl rfl,rfl⟩|exact ⟨Or.inr rfl,rfl⟩),rfl⟩,?_⟩)|(refine lH S ?_<;>refine qg ⟨⟨by (first|exact True.intro|exact Or.inl rfl|exact Or.inr rfl|exact Or.inr (congrArg some (qy _ _ _ _))|exact ⟨Or.inl rfl,rfl⟩|exact ⟨Or.inr rfl,rfl⟩),rfl⟩,?_⟩));((refine qB ?_;first|refine qH rfl rfl rfl rfl rfl ((YJ S.wf g.rank).mono ?_));rintro _ h ⟨rfl,x⟩)<;>((refine qg ⟨⟨True.intro,?_⟩,?_⟩;(focus ((show keepsX _ _ _ _ _;simp only [keepsX];(repeat' (first|exact True.intro|refine And.intro ?_ ?_));all_goals (intro hw;first|exact True.intro|exact rfl|exact absurd hw (by decide +kernel)|exact x.ext.old _ S.bB|exact x.ext.old _ (S.bR (by first|omega|grind))|exact x.ext.old _ (S.bX (by assumption) (by assumption) (by first|omega|grind))|exact x.ext.old _ (S.bY (by assumption) (by assumption))|(refine x.ext.old _ ?_;assumption)|exact absurd hw (by decide +kernel))))));replace S:=S.zn x;clear x;refine qB ?_;(first|(refine vl ?_<;>refine qg ⟨⟨by (first|exact True.intro|exact Or.inl rfl|exact Or.inr rfl|exact Or.inr (congrArg some (qy _ _ _ _))|exact ⟨Or.inl rfl,rfl⟩|exact ⟨Or.inr rfl,rfl⟩),rfl⟩,?_⟩)|(refine fB S ?_<;>refine qg ⟨⟨by (first|exact True.intro|exact Or.inl rfl|exact Or.inr rfl|exact Or.inr (congrArg some (qy _ _ _ _))|exact ⟨Or.inl rfl,rfl⟩|exact ⟨Or.inr rfl,rfl⟩),rfl⟩,?_⟩)|(refine fS S rfl rfl ?_<;>refine qg ⟨⟨by (first|exact True.intro|exact Or.inl rfl|exact Or.inr rfl|exact Or.inr (congrArg some (qy _ _ _ _))|exact ⟨Or.inl rfl,rfl⟩|exact ⟨Or.inr rfl,rfl⟩),rfl⟩,?_⟩)|(refine fA ?_<;>refine qg ⟨⟨by (first|exact True.intro|exact Or.inl rfl|exact Or.inr rfl|exact Or.inr (congrArg some (qy _ _ _ _))|exact ⟨Or.inl rfl,rfl⟩|exact ⟨Or.inr rfl,rfl⟩),rfl⟩,?_⟩));refine qB ?_;(first|(refine lB S rfl rfl ?_<;>refine qg ⟨⟨by (first|exact True.intro|exact Or.inl rfl|exact Or.inr rfl|exact Or.inr (congrArg some (qy _ _ _ _))|exact ⟨Or.inl rfl,rfl⟩|exact ⟨Or.inr rfl,rfl⟩),rfl⟩,?_⟩)|(refine zh S rfl rfl ?_<;>refine qg ⟨⟨by (first|exact True.intro|exact Or.inl rfl|exact Or.inr rfl|exact Or.inr (congrArg some (qy _ _ _ _))|exact ⟨Or.inl rfl,rfl⟩|exact ⟨Or.inr rfl,rfl⟩),rfl⟩,?_⟩)|(refine zU S ?_<;>refine qg ⟨⟨by (first|exact True.intro|exact Or.inl rfl|exact Or.inr rfl|exact Or.inr (congrArg some (qy _ _ _ _))|exact ⟨Or.inl rfl,rfl⟩|exact ⟨Or.inr rfl,rfl⟩),rfl⟩,?_⟩)|(refine lH S ?_<;>refine qg ⟨⟨by (first|exact True.intro|exact Or.inl rfl|exact Or.inr rfl|exact Or.inr (congrArg some (qy _ _ _ _))|exact ⟨Or.inl rfl,rfl⟩|exact ⟨Or.inr rfl,rfl⟩),rfl⟩,?_⟩)))
  ((refine qB ?_;first|refine qH rfl rfl rfl rfl rfl ((YJ S.wf g.court).mono ?_));rintro _ h ⟨rfl,x⟩)<;>((refine qg ⟨⟨True.intro,?_⟩,?_⟩;(focus ((show keepsX _ _ _ _ _;simp only [keepsX];(repeat' (first|exact True.intro|refine And.intro ?_ ?_));all_goals (intro hw;first|exact True.intro|exact rfl|exact absurd hw (by decide +kernel)|exact x.ext.old _ S.bB|exact x.ext.old _ (S.bR (by first|omega|grind))|exact x.ext.old _ (S.bX (by assumption) (by assumption) (by first|omega|grind))|exact x.ext.old _ (S.bY (by assumption) (by assumption))|(refine x.ext.old _ ?_;assumption)|exact absurd hw (by decide +kernel))))));replace S:=S.zn x;clear x;refine qB ?_;(first|(refine vl ?_<;>refine qg ⟨⟨by (first|exact True.intro|exact Or.inl rfl|exact Or.inr rfl|exact Or.inr (congrArg some (qy _ _ _ _))|exact ⟨Or.inl rfl,rfl⟩|exact ⟨Or.inr rfl,rfl⟩),rfl⟩,?_⟩)|(refine fB S ?_<;>refine qg ⟨⟨by (first|exact True.intro|exact Or.inl rfl|exact Or.inr rfl|exact Or.inr (congrArg some (qy _ _ _ _))|exact ⟨Or.inl rfl,rfl⟩|exact ⟨Or.inr rfl,rfl⟩),rfl⟩,?_⟩)|(refine fS S rfl rfl ?_<;>refine qg ⟨⟨by (first|exact True.intro|exact Or.inl rfl|exact Or.inr rfl|exact Or.inr (congrArg some (qy _ _ _ _))|exact ⟨Or.inl rfl,rfl⟩|exact ⟨Or.inr rfl,rfl⟩),rfl⟩,?_⟩)|(refine fA ?_<;>refine qg ⟨⟨by (first|exact True.intro|exact Or.inl rfl|exact Or.inr rfl|exact Or.inr (congrArg some (qy _ _ _ _))|exact ⟨Or.inl rfl,rfl⟩|exact ⟨Or.inr rfl,rfl⟩),rfl⟩,?_⟩));refine qB ?_;(first|(refine lB S rfl rfl ?_<;>refine qg ⟨⟨by (first|exact True.intro|exact Or.inl rfl|exact Or.inr rfl|exact Or.inr (congrArg some (qy _ _ _ _))|exact ⟨Or.inl rfl,rfl⟩|exact ⟨Or.inr rfl,rfl⟩),rfl⟩,?_⟩)|(refine zh S rfl rfl ?_<;>refine qg ⟨⟨by (first|exact True.intro|exact Or.inl rfl|exact Or.inr rfl|exact Or.inr (congrArg some (qy _ _ _ _))|exact ⟨Or.inl rfl,rfl⟩|exact ⟨Or.inr rfl,rfl⟩),rfl⟩,?_⟩)|(refine zU S ?_<;>refine qg ⟨⟨by (first|exact True.intro|exact Or.inl rfl|exact Or.inr rfl|exact Or.inr (congrArg some (qy _ _ _ _))|exact ⟨Or.inl rfl,rfl⟩|exact ⟨Or.inr rfl,rfl⟩),rfl⟩,?_⟩)|(refine lH S ?_<;>refine qg ⟨⟨by (first|exact True.intro|exact Or.inl rfl|exact Or.inr rfl|exact Or.inr (congrArg some (qy _ _ _ _))|exact ⟨Or.inl rfl,rfl⟩|exact ⟨Or.inr rfl,rfl⟩),rfl⟩,?_⟩)))
  ((refine qB ?_;first|refine qH rfl rfl rfl rfl rfl ((KI S.wf hf g.since.toNat hsn (by omega)).mono ?_));rintro _ h ⟨rfl,x⟩)<;>((refine qg ⟨⟨True.intro,?_⟩,?_⟩;(focus ((show keepsX _ _ _ _ _;simp only [keepsX];(repeat' (first|exact True.intro|refine And.intro ?_ ?_));all_goals (intro hw;first|exact True.intro|exact rfl|exact absurd hw (by decide +kernel)|exact x.ext.old _ S.bB|exact x.ext.old _ (S.bR (by first|omega|grind))|exact x.ext.old _ (S.bX (by assumption) (by assumption) (by first|omega|grind))|exact x.ext.old _ (S.bY (by assumption) (by assumption))|(refine x.ext.old _ ?_;assumption)|exact absurd hw (by decide +kernel))))));replace S:=S.zn x;clear x;refine qB ?_;(first|(refine vl ?_<;>refine qg ⟨⟨by (first|exact True.intro|exact Or.inl rfl|exact Or.inr rfl|exact Or.inr (congrArg some (qy _ _ _ _))|exact ⟨Or.inl rfl,rfl⟩|exact ⟨Or.inr rfl,rfl⟩),rfl⟩,?_⟩)|(refine fB S ?_<;>refine qg ⟨⟨by (first|exact True.intro|exact Or.inl rfl|exact Or.inr rfl|exact Or.inr (congrArg some (qy _ _ _ _))|exact ⟨Or.inl rfl,rfl⟩|exact ⟨Or.inr rfl,rfl⟩),rfl⟩,?_⟩)|(refine fS S rfl rfl ?_<;>refine qg ⟨⟨by (first|exact True.intro|exact Or.inl rfl|exact Or.inr rfl|exact Or.inr (congrArg some (qy _ _ _ _))|exact ⟨Or.inl rfl,rfl⟩|exact ⟨Or.inr rfl,rfl⟩),rfl⟩,?_⟩)|(refine fA ?_<;>refine qg ⟨⟨by (first|exact True.intro|exact Or.inl rfl|exact Or.inr rfl|exact Or.inr (congrArg some (qy _ _ _ _))|exact ⟨Or.inl rfl,rfl⟩|exact ⟨Or.inr rfl,rfl⟩),rfl⟩,?_⟩));refine qB ?_;(first|(refine lB S rfl rfl ?_<;>refine qg ⟨⟨by (first|exact True.intro|exact Or.inl rfl|exact Or.inr rfl|exact Or.inr (congrArg some (qy _ _ _ _))|exact ⟨Or.inl rfl,rfl⟩|exact ⟨Or.inr rfl,rfl⟩),rfl⟩,?_⟩)|(refine zh S rfl rfl ?_<;>refine qg ⟨⟨by (first|exact True.intro|exact Or.inl rfl|exact Or.inr rfl|exact Or.inr (congrArg some (qy _ _ _ _))|exact ⟨Or.inl rfl,rfl⟩|exact ⟨Or.inr rfl,rfl⟩),rfl⟩,?_⟩)|(refine zU S ?_<;>refine qg ⟨⟨by (first|exact True.intro|exact Or.inl rfl|exact Or.inr rfl|exact Or.inr (congrArg some (qy _ _ _ _))|exact ⟨Or.inl rfl,rfl⟩|exact ⟨Or.inr rfl,rfl⟩),rfl⟩,?_⟩)|(refine lH S ?_<;>refine qg ⟨⟨by (first|exact True.intro|exact Or.inl rfl|exact Or.inr rfl|exact Or.inr (congrArg some (qy _ _ _ _))|exact ⟨Or.inl rfl,rfl⟩|exact ⟨Or.inr rfl,rfl⟩),rfl⟩,?_⟩)))
  ((refine qB ?_;first|refine qH rfl rfl rfl rfl rfl ((KI S.wf hf g.side.toNat hsd (by omega)).mono ?_));rintro _ h ⟨rfl,x⟩)<;>((refine qg ⟨⟨True.intro,?_⟩,?_⟩;(focus ((show keepsX _ _ _ _ _;simp only [keepsX];(repeat' (first|exact True.intro|refine And.intro ?_ ?_));all_goals (intro hw;first|exact True.intro|exact rfl|exact absurd hw (by decide +kernel)|exact x.ext.old _ S.bB|exact x.ext.old _ (S.bR (by first|omega|grind))|exact x.ext.old _ (S.bX (by assumption) (by assumption) (by first|omega|grind))|exact x.ext.old _ (S.bY (by assumption) (by assumption))|(refine x.ext.old _ ?_;assumption)|exact absurd hw (by decide +kernel))))));replace S:=S.zn x;clear x;refine qB ?_;(first|(refine vl ?_<;>refine qg ⟨⟨by (first|exact True.intro|exact Or.inl rfl|exact Or.inr rfl|exact Or.inr (congrArg some (qy _ _ _ _))|exact ⟨Or.inl rfl,rfl⟩|exact ⟨Or.inr rfl,rfl⟩),rfl⟩,?_⟩)|(refine fB S ?_<;>refine qg ⟨⟨by (first|exact True.intro|exact Or.inl rfl|exact Or.inr rfl|exact Or.inr (congrArg some (qy _ _ _ _))|exact ⟨Or.inl rfl,rfl⟩|exact ⟨Or.inr rfl,rfl⟩),rfl⟩,?_⟩)|(refine fS S rfl rfl ?_<;>refine qg ⟨⟨by (first|exact True.intro|exact Or.inl rfl|exact Or.inr rfl|exact Or.inr (congrArg some (qy _ _ _ _))|exact ⟨Or.inl rfl,rfl⟩|exact ⟨Or.inr rfl,rfl⟩),rfl⟩,?_⟩)|(refine fA ?_<;>refine qg ⟨⟨by (first|exact True.intro|exact Or.inl rfl|exact Or.inr rfl|exact Or.inr (congrArg some (qy _ _ _ _))|exact ⟨Or.inl rfl,rfl⟩|exact ⟨Or.inr rfl,rfl⟩),rfl⟩,?_⟩));refine qB ?_;(first|(refine lB S rfl rfl ?_<;>refine qg ⟨⟨by (first|exact True.intro|exact Or.inl rfl|exact Or.inr rfl|exact Or.inr (congrArg some (qy _ _ _ _))|exact ⟨Or.inl rfl,rfl⟩|exact ⟨Or.inr rfl,rfl⟩),rfl⟩,?_⟩)|(refine zh S rfl rfl ?_<;>refine qg ⟨⟨by (first|exact True.intro|exact Or.inl rfl|exact Or.inr rfl|exact Or.inr (congrArg some (qy _ _ _ _))|exact ⟨Or.inl rfl,rfl⟩|exact ⟨Or.inr rfl,rfl⟩),rfl⟩,?_⟩)|(refine zU S ?_<;>refine qg ⟨⟨by (first|exact True.intro|exact Or.inl rfl|exact Or.inr rfl|exact Or.inr (congrArg some (qy _ _ _ _))|exact ⟨Or.inl rfl,rfl⟩|exact ⟨Or.inr rfl,rfl⟩),rfl⟩,?_⟩)|(refine lH S ?_<;>refine qg ⟨⟨by (first|exact True.intro|exact Or.inl rfl|exact Or.inr rfl|exact Or.inr (congrArg some (qy _ _ _ _))|exact ⟨Or.inl rfl,rfl⟩|exact ⟨Or.inr rfl,rfl⟩),rfl⟩,?_⟩)))
  ((refine qB ?_;first|refine qH rfl rfl rfl rfl rfl ((YJ S.wf g.diet).mono ?_));rintro _ h ⟨rfl,x⟩)<;>((refine qg ⟨⟨True.intro,?_⟩,?_⟩;(focus ((show keepsX _ _ _ _ _;simp only [keepsX];(repeat' (first|exact True.intro|refine And.intro ?_ ?_));all_goals (intro hw;first|exact True.intro|exact rfl|exact absurd hw (by decide +kernel)|exact x.ext.old _ S.bB|exact x.ext.old _ (S.bR (by first|omega|grind))|exact x.ext.old _ (S.bX (by assumption) (by assumption) (by first|omega|grind))|exact x.ext.old _ (S.bY (by assumption) (by assumption))|(refine x.ext.old _ ?_;assumption)|exact absurd hw (by decide +kernel))))));replace S:=S.zn x;clear x;refine qB ?_;(first|(refine mv ?_<;>refine qg ⟨⟨by (first|exact True.intro|exact Or.inl rfl|exact Or.inr rfl|exact Or.inr (congrArg some (qy _ _ _ _))|exact ⟨Or.inl rfl,rfl⟩|exact ⟨Or.inr rfl,rfl⟩),rfl⟩,?_⟩)))
  ((refine qB ?_;first|refine qH rfl rfl rfl rfl rfl ((YJ S.wf s).mono ?_));rintro _ h ⟨rfl,x⟩)<;>((refine qg ⟨⟨True.intro,?_⟩,?_⟩;(focus ((show keepsX _ _ _ _ _;simp only [keepsX];(repeat' (first|exact True.intro|refine And.intro ?_ ?_));all_goals (intro hw;first|exact True.intro|exact rfl|exact absurd hw (by decide +kernel)|exact x.ext.old _ S.bB|exact x.ext.old _ (S.bR (by first|omega|grind))|exact x.ext.old _ (S.bX (by assumption) (by assumption) (by first|omega|grind))|exact x.ext.old _ (S.bY (by assumption) (by assumption))|(refine x.ext.old _ ?_;assumption)|exact absurd hw (by decide +kernel))))));replace S:=S.zn x;clear x)
  refine qB ?_;refine bsn (α:=List UInt8) (z:=1) eS [Zw,g.name,Xt g.rank,Xt g.court,XR g.since.toNat,XR g.side.toNat,Xt g.diet,Xt s] S ?_;have S0:=S;clear S;intro v8 h S;refine qg ⟨⟨True.intro,?_⟩,?_⟩;(focus ((show keepsX _ _ _ _ _;simp only [keepsX];(repeat' (first|exact True.intro|refine And.intro ?_ ?_));all_goals (intro hw;first|exact True.intro|exact absurd hw (by decide +kernel)|exact (S.gB).trans (S0.gB).symm|exact absurd hw (by decide +kernel)))));clear S0;refine qB ?_;(first|(refine vl ?_<;>refine qg ⟨⟨by (first|exact True.intro|exact Or.inl rfl|exact Or.inr rfl|exact Or.inr (congrArg some (qy _ _ _ _))|exact ⟨Or.inl rfl,rfl⟩|exact ⟨Or.inr rfl,rfl⟩),rfl⟩,?_⟩)|(refine fB S ?_<;>refine qg ⟨⟨by (first|exact True.intro|exact Or.inl rfl|exact Or.inr rfl|exact Or.inr (congrArg some (qy _ _ _ _))|exact ⟨Or.inl rfl,rfl⟩|exact ⟨Or.inr rfl,rfl⟩),rfl⟩,?_⟩)|(refine fS S rfl rfl ?_<;>refine qg ⟨⟨by (first|exact True.intro|exact Or.inl rfl|exact Or.inr rfl|exact Or.inr (congrArg some (qy _ _ _ _))|exact ⟨Or.inl rfl,rfl⟩|exact ⟨Or.inr rfl,rfl⟩),rfl⟩,?_⟩)|(refine fA ?_<;>refine qg ⟨⟨by (first|exact True.intro|exact Or.inl rfl|exact Or.inr rfl|exact Or.inr (congrArg some (qy _ _ _ _))|exact ⟨Or.inl rfl,rfl⟩|exact ⟨Or.inr rfl,rfl⟩),rfl⟩,?_⟩));refine qB ?_;(first|(refine lB S rfl rfl ?_<;>refine qg ⟨⟨by (first|exact True.intro|exact Or.inl rfl|exact Or.inr rfl|exact Or.inr (congrArg some (qy _ _ _ _))|exact ⟨Or.inl rfl,rfl⟩|exact ⟨Or.inr rfl,rfl⟩),rfl⟩,?_⟩)|(refine zh S rfl rfl ?_<;>refine qg ⟨⟨by (first|exact True.intro|exact Or.inl rfl|exact Or.inr rfl|exact Or.inr (congrArg some (qy _ _ _ _))|exact ⟨Or.inl rfl,rfl⟩|exact ⟨Or.inr rfl,rfl⟩),rfl⟩,?_⟩)|(refine zU S ?_<;>refine qg ⟨⟨by (first|exact True.intro|exact Or.inl rfl|exact Or.inr rfl|exact Or.inr (congrArg some (qy _ _ _ _))|exact ⟨Or.inl rfl,rfl⟩|exact ⟨Or.inr rfl,rfl⟩),rfl⟩,?_⟩)|(refine lH S ?_<;>refine qg ⟨⟨by (first|exact True.intro|exact Or.inl rfl|exact Or.inr rfl|exact Or.inr (congrArg some (qy _ _ _ _))|exact ⟨Or.inl rfl,rfl⟩|exact ⟨Or.inr rfl,rfl⟩),rfl⟩,?_⟩));refine qB ?_;refine apd S rfl rfl (rtg.ext w S.ext) ?_ (hsz:=by simp only [zC4,List.length_nil];omega);have S0:=S;clear S;intro v9 h S;refine qg ⟨⟨True.intro,?_⟩,?_⟩;(focus ((show keepsX _ _ _ _ _;simp only [keepsX];(repeat' (first|exact True.intro|refine And.intro ?_ ?_));all_goals (intro hw;first|exact True.intro|exact absurd hw (by decide +kernel)|exact (S.gB).trans (S0.gB).symm|exact absurd hw (by decide +kernel)))));clear S0;refine qB ?_;(first|(refine mv ?_<;>refine qg ⟨⟨by (first|exact True.intro|exact Or.inl rfl|exact Or.inr rfl|exact Or.inr (congrArg some (qy _ _ _ _))|exact ⟨Or.inl rfl,rfl⟩|exact ⟨Or.inr rfl,rfl⟩),rfl⟩,?_⟩));refine Xz ?_;rw [show [Zw,g.name,Xt g.rank,Xt g.court,XR g.since.toNat,XR g.side.toNat,Xt g.diet,Xt s] ++ g.tg=kN g.toGu by rw [hs];rfl] at S;have wl2:∀ u∈kN g.toGu,u.length≤1000:=fun u hu=>by have:=wl u hu;omega
  have wn:2≤(kN g.toGu).length∧(kN g.toGu).length≤20:=⟨by simp only [kN,zC4];omega,by omega⟩
  obtain ⟨k1,k2,k3,k4⟩:=WR hck;have ltx:=Y4 (n:=157) (l:=(r.us.take i).map JJ) fun u hu=>by
   obtain ⟨x,hx,rfl⟩:=zF1.1 hu;have:=(WR (HR.chk _ (List.mem_of_mem_take hx))).2.2.1;omega
  have ltl:((r.us.take i).map JJ).length≤64:=by simp;omega
  have lne:WW (kN g.toGu)=JJ g.toGu:=rfl;all_goals (repeat' (first|refine qx ?_|refine qi rfl ?_|refine qw ?_|refine qA ?_|refine qh ?_|refine qj ?_|refine qo ?_|(refine qf 14 ?_;refine mv ?_)))
  (refine qH rfl rfl rfl rfl rfl ((qbh S.wf (Rd.Zf S .here) (S.qfa .here) wn wl2).mono ?_);rintro _ h ⟨rfl,x⟩)<;>(replace S:=S.zn x;clear x;rw [lne];refine tc ?_)
  have hb1:(txt ((r.us.take i).map JJ)).length+(JJ g.toGu ++ [10]).length≤1000000:=by
   rw [zB2,zD5];omega
  (refine qH rfl rfl rfl rfl rfl ((Zv (JJ g.toGu ++ [10]) (show Hs _ h (bst bb q vb :: kP vb (txt ((r.us.take i).map JJ)) :: [.blk b1 [v.vg.val,v.vt.val] 32]) from S.pick) hq hb1).mono ?_);rintro _ h ⟨v2,S2⟩)<;>(clear S;refine qg ?_)
  all_goals (repeat' (first|refine qx ?_|refine qi rfl ?_|refine qw ?_|refine qA ?_|refine qh ?_|refine qj ?_|refine qo ?_|(refine qf 15 ?_;(first|refine ad ?_|refine vl ?_);refine mv ?_;refine qg ?_)))
  refine ⟨(i+1,.pointer (some ⟨bb,0,none⟩),v2),?_,?_,zf⟩
  ·show r.us.length - (i+1)<r.us.length - i;omega
  ·refine ⟨?_,.inr rfl,by omega,fun q=>by omega⟩;rw [zq (by omega),zC9,List.map_cons,List.map_nil,Yr,← hat];exact S2
 ·obtain rfl:i=r.us.length:=by omega
  rw [zD4] at S;all_goals (repeat' (first|refine qx ?_|refine qi rfl ?_|refine qw ?_|refine qA ?_|refine qh ?_|refine qj ?_|refine qo ?_|(refine qf 16 ?_;(first|refine vl ?_|refine fB S ?_|refine fS S rfl rfl ?_|refine fA ?_);(first|refine lB S rfl rfl ?_|refine zh S rfl rfl ?_|refine zU S ?_|refine lH S ?_);(first|refine Zg S ?_|refine J5 S rfl rfl ?_);refine mv ?_;refine qg ?_)))
  refine zK (σ:=Nat×Value×Value) (fun (j,q,vb) h'=>Hs h0 h' [bst bb q vb,kP vb (txt (r.us.map JJ ++ (r.ts.take j).map XQ)),.blk b1 [v.vg.val,v.vt.val] 32]∧QP bb q∧j≤r.ts.length∧(r.us.length=0→vb = .slice none 0 0)) (fun (j,q,vb)=>r.ts.length - j) (fun (j,q,vb)=>[(5,.pointer (some ⟨bb,0,none⟩)),(64,v.vt.val),(65,.int .i64 r.ts.length),(66,.int .i64 j)]) (0,q,vb) zf ?_ ?_
  ·exact ⟨by rw [List.take_zero,List.map_nil,zD7];exact S,hq,zB0 _,i2⟩
  clear S hq i2;rintro ⟨j,q,vb⟩ h ⟨S,hq,j1,i2⟩;have ltx:=Y4 (n:=157) (l:=r.us.map JJ ++ (r.ts.take j).map XQ) fun u hu=>by
   rcases zB8.1 hu with hu|hu
   ·obtain ⟨x,hx,rfl⟩:=zF1.1 hu;have:=(WR (HR.chk _ hx)).2.2.1;omega
   ·obtain ⟨x,hx,rfl⟩:=zF1.1 hu;have hx:=List.mem_of_mem_take hx;have:=(wB (HR.tn hx).1 (HR.tn hx).2 (HR.tt _ hx).2.1).2.2.1;omega
  have ltl:(r.us.map JJ ++ (r.ts.take j).map XQ).length≤320:=by simp;omega
  all_goals (repeat' (first|refine qx ?_|refine qi rfl ?_|refine qw ?_|refine qA ?_|refine qh ?_|refine qj ?_|refine qo ?_|(refine qf 17 ?_;(first|refine cT ?_|refine cF ?_|(refine cS ?_ ?_<;>intro hc))<;>(refine qg ?_))))
  ·have hjl:j<r.ts.length:=by omega
   have hmt:=qJ hjl;obtain ⟨tn1,tn2⟩:=HR.tn hmt;have tl:=wB tn1 tn2 (HR.tt _ hmt).2.1;all_goals (repeat' (first|refine qx ?_|refine qi rfl ?_|refine qw ?_|refine qA ?_|refine qh ?_|refine qj ?_|refine qo ?_|(refine qf 18 ?_;(first|refine Za S ?_|refine jQ S rfl rfl ?_);(first|refine lB S rfl rfl ?_|refine zh S rfl rfl ?_|refine zU S ?_|refine lH S ?_);(refine al S ?_;clear S;intro b h S);(first|(refine sB S rfl rfl ?_;clear S;intro h S)|(refine J3 S rfl rfl ?_;clear S;intro h S));refine qg ?_)|(refine qf 19 ?_;refine mv ?_;refine qg ?_)))
   simp only [zA0] at S;simp only [zA0];obtain ⟨b11,hnm⟩:∃ x,x=b:=⟨_,rfl⟩;subst hnm;obtain ⟨t,ht⟩:∃ t,t=r.ts.getD j default:=⟨_,rfl⟩
   rw [← ht] at S tn1 tn2 tl hmt;replace S:Hs h0 h [.blk b11 (Qm t) 111,bst bb q vb,kP vb (txt (r.us.map JJ ++ (r.ts.take j).map XQ)),.blk b1 [v.vg.val,v.vt.val] 32]:=S;have hb1:(txt (r.us.map JJ ++ (r.ts.take j).map XQ)).length+(XQ t ++ [10]).length≤1000000:=by
    rw [zB2,zD5];omega
   have la:=tn1.2.1;have lb:=tn2.2.1;have hus:r.us.length≠0:=fun q0=>(HR.tt _ hmt).2.2.1 (by rw [zE9.1 q0];rfl);all_goals (repeat' (first|refine qx ?_|refine qi rfl ?_|refine qw ?_|refine qA ?_|refine qh ?_|refine qj ?_|refine qo ?_|(refine qf 20 ?_;(first|refine vl ?_|refine fB S ?_|refine fS S rfl rfl ?_|refine fA ?_);(first|refine lB S rfl rfl ?_|refine zh S rfl rfl ?_|refine zU S ?_|refine lH S ?_);(first|refine cT ?_|refine cF ?_|(refine cS ?_ ?_<;>intro hc))<;>(refine qg ?_))|(refine qf 21 ?_;refine mv ?_;refine qg ?_)))
   all_goals (repeat (refine qx ?_));refine qf 22 ?_
   all_goals refine mv ?_
   all_goals (first|(refine vl ?_)|(refine fB S ?_))
   all_goals (refine lB S rfl rfl ?_)
   all_goals (refine tc ?_ (hb:=by simp only [zB2,zC4,List.length_nil];omega))
   all_goals (refine tc ?_ (hb:=by simp only [zB2,zC4,List.length_nil];omega))
   all_goals (refine vl ?_)
   all_goals (refine lB S rfl rfl ?_)
   all_goals (refine tc ?_ (hb:=by simp only [zB2,zC4,List.length_nil];omega))
   all_goals (refine tc ?_ (hb:=by simp only [zB2,zC4,List.length_nil];omega))
   ·have e:=qbB t;rw [if_pos (by omega)] at e;rw [← e];(refine qH rfl rfl rfl rfl rfl ((Zv (XQ t ++ [10]) (show Hs _ h (bst bb q vb :: kP vb (txt (r.us.map JJ ++ (r.ts.take j).map XQ)) :: [.blk b1 [v.vg.val,v.vt.val] 32]) from S.pick) hq hb1).mono ?_);rintro _ h ⟨v2,S2⟩)<;>(clear S;refine qg ?_)
    all_goals (repeat' (first|refine qx ?_|refine qi rfl ?_|refine qw ?_|refine qA ?_|refine qh ?_|refine qj ?_|refine qo ?_|(refine qf 23 ?_;(first|refine ad ?_|refine vl ?_);refine mv ?_;refine qg ?_)))
    refine ⟨(j+1,.pointer (some ⟨bb,0,none⟩),v2),?_,?_,zf⟩
    ·show r.ts.length - (j+1)<r.ts.length - j;omega
    ·refine ⟨?_,.inr rfl,by omega,fun q0=>absurd q0 hus⟩;rw [zq hjl,zC9,List.map_cons,List.map_nil,← zF2,Yr,← ht];exact S2
   ·have e:=qbB t;rw [if_neg (by omega)] at e;rw [← e];(refine qH rfl rfl rfl rfl rfl ((Zv (XQ t ++ [10]) (show Hs _ h (bst bb q vb :: kP vb (txt (r.us.map JJ ++ (r.ts.take j).map XQ)) :: [.blk b1 [v.vg.val,v.vt.val] 32]) from S.pick) hq hb1).mono ?_);rintro _ h ⟨v2,S2⟩)<;>(clear S;refine qg ?_)
    all_goals (repeat' (first|refine qx ?_|refine qi rfl ?_|refine qw ?_|refine qA ?_|refine qh ?_|refine qj ?_|refine qo ?_|(refine qf 23 ?_;(first|refine ad ?_|refine vl ?_);refine mv ?_;refine qg ?_)))
    refine ⟨(j+1,.pointer (some ⟨bb,0,none⟩),v2),?_,?_,zf⟩
    ·show r.ts.length - (j+1)<r.ts.length - j;omega
    ·refine ⟨?_,.inr rfl,by omega,fun q0=>absurd q0 hus⟩;rw [zq hjl,zC9,List.map_cons,List.map_nil,← zF2,Yr,← ht];exact S2
  ·obtain rfl:j=r.ts.length:=by omega
   rw [zD4] at S ltx ltl;all_goals (repeat' (first|refine qx ?_|refine qi rfl ?_|refine qw ?_|refine qA ?_|refine qh ?_|refine qj ?_|refine qo ?_|(refine qf 24 ?_;skip)))
   by_cases hz:(txt (QK r)).length=0
   ·have hn:QK r=[]:=by
     cases hl:QK r with
     | nil=>rfl
     | cons a t=>rw [hl,Xc,zB2,zC4] at hz;omega
    have hu0:r.us.length=0:=by
     have:=congrArg List.length hn;simp only [QK,zB2,zC5,List.length_nil] at this;omega
    rw [i2 hu0] at S;(refine qH rfl rfl rfl rfl rfl ((qb5 S).mono ?_);rintro _ h ⟨rfl,S2⟩)<;>(clear S;refine mv ?_;refine qg ?_)
    all_goals (repeat' (first|refine qx ?_|refine qi rfl ?_|refine qw ?_|refine qA ?_|refine qh ?_|refine qj ?_|refine qo ?_|(refine qf 24 ?_;skip)))
    refine qF ⟨_,rfl,?_⟩;refine ⟨.inl ⟨HR,?_⟩,S2.drop⟩;unfold fmt;rw [hn];rfl
   ·have hb2:0<(txt (QK r)).length∧(txt (QK r)).length≤1000000:=by
     refine ⟨by omega,?_⟩;unfold QK;omega
    (refine qH rfl rfl rfl rfl rfl ((qab (l:=txt (QK r)) S hb2).mono ?_);rintro _ h ⟨rfl,S2⟩)<;>(clear S;refine mv ?_;refine qg ?_)
    all_goals (repeat' (first|refine qx ?_|refine qi rfl ?_|refine qw ?_|refine qA ?_|refine qh ?_|refine qj ?_|refine qo ?_))
    refine qF ⟨_,rfl,?_⟩;exact ⟨.inl ⟨HR,rfl⟩,S2.drop⟩
end Go.Proofs.Xx
namespace Go.Proofs.Xx
open Go Go.Proofs
variable [Flag]
end Go.Proofs.Xx
namespace Go.Proofs.Xx
open Go Go.Proofs
def qf5 (g:Gu):List UInt8:=[103,117,101,115,116,32] ++ g.name ++ [32] ++ Xt g.rank ++ [32] ++ Xt g.court ++ [32] ++ XR g.since.toNat ++ [32] ++ XR g.side.toNat ++ [32] ++ Xt g.diet ++ [32]
variable [Flag]
end Go.Proofs.Xx
namespace Go.Proofs.Xx
open Go Go.Proofs
variable [Flag]
end Go.Proofs.Xx
namespace Go.Proofs.Xx
open Go Go.Proofs
def Zh {α:Type} (L:List α) (out k:Nat):List α:=L.take (min k out) ++ (L.take k).drop (out+1)
theorem pK {α:Type} {L:List α} {out:Nat}:Zh L out (out+1)=Zh L out out:=by
 unfold Zh;rw [Nat.min_eq_right (by omega),Nat.min_self,List.drop_eq_nil_of_le (by simp;omega),List.drop_eq_nil_of_le (by simp;omega)]
theorem pM {α:Type} [Inhabited α] {L:List α} {out k:Nat} (hk:k<L.length) (h:k≠out):Zh L out (k+1)=Zh L out k ++ [L.getD k default]:=by
 unfold Zh;rcases zA7 k out with q|q
 ·rw [zE5 (by omega),zE5 (by omega),List.drop_eq_nil_of_le (by simp;omega),List.drop_eq_nil_of_le (by simp;omega),zq hk];simp
 ·rw [Nat.min_eq_right (by omega),Nat.min_eq_right (by omega),zq hk,List.drop_append_of_le_length (by simp;omega),zF2]
theorem qaH {α:Type} {L:List α} {out:Nat} (h:out<L.length):Zh L out L.length=L.take out ++ L.drop (out+1):=by
 unfold Zh;rw [Nat.min_eq_right (by omega),zD4]
theorem qaF {α:Type} {L:List α} {out k:Nat}:∀ x∈Zh L out k,x∈L:=fun x hx=>by
 rcases zB8.1 hx with q|q
 ·exact List.mem_of_mem_take q
 ·exact List.mem_of_mem_take (List.mem_of_mem_drop q)
theorem qaG {α:Type} {L:List α} {out k:Nat}:(Zh L out k).length≤L.length:=by
 unfold Zh;rw [zB2,zA9,zB4,zA9];omega
theorem KG {α:Type} (L:List α) (i:Nat):List.Sublist (L.take i ++ L.drop (i+1)) L:=by
 conv=>rhs;rw [← zH1 i L]
 refine List.Sublist.append_left ?_ _;rw [← List.drop_drop];exact List.drop_sublist 1 _
theorem KH {α:Type} {L:List α} {i:Nat} (h:i<L.length):(L.take i ++ L.drop (i+1)).length+1=L.length:=by
 rw [zB2,zA9,zB4];omega
theorem gX:∀ (A B:List (List UInt8)) (r:Rl) (i:Nat) {r':Rl},ZC r i (A ++ B) = .ok r'→∃ q,ZC r i A = .ok q∧∀ C,ZC r i (A ++ C)=ZC q (i+A.length) C
 | [],B,r,i,r',h=>⟨r,rfl,fun C=>rfl⟩
 | s :: A,B,r,i,r',h=>by
  rw [zC6] at h;by_cases e:(QL r s).2=0
  ·rw [XF e] at h;obtain ⟨q,h1,h2⟩:=gX A B _ _ h;refine ⟨q,by rw [XF e];exact h1,fun C=>?_⟩;rw [zC6,XF e,h2,zC4];congr 1
   omega
  ·rw [YE e] at h;cases h
theorem gp:∀ {l:List (List UInt8)} {w:List UInt8},(∀ u∈l,(10:UInt8) ∉ u)→(10:UInt8) ∉ w→jm 10 (txt l ++ w)=l ++ [w]
 | [],w,_,h=>by simpa [txt] using Jl h
 | u :: l,w,k,h=>by
  rw [Xc,zF2,zC6,YA (k u (by simp)),gp (fun x hx=>k x (List.mem_cons_of_mem _ hx)) h];rfl
theorem RO.qbo {r:Rl} (H:RO r) {us:List Gu} {ts:List Ti} (hu:List.Sublist us r.us) (ht:List.Sublist ts r.ts) :
 QB (txt (us.map JJ ++ ts.map XQ)) = .ok ⟨us,ts⟩∨∃ j,QB (txt (us.map JJ ++ ts.map XQ)) = .bad j 6:=by
 have hl:∀ w∈us.map JJ ++ ts.map XQ,(10:UInt8) ∉ w∧w≠[]∧w.length≤156:=fun w hw=>H.lines w (by
  rcases zB8.1 hw with q|q
  ·exact List.mem_append_left _ ((hu.map JJ).subset q)
  ·exact List.mem_append_right _ ((ht.map XQ).subset q))
 have l1:=hu.length_le;have l2:=ht.length_le;have l3:=H.l64;have l4:=H.l256;have lt:=Y4 (n:=157) (l:=us.map JJ ++ ts.map XQ) fun w hw=>by have:=(hl w hw).2.2;omega
 have lt2:(us.map JJ ++ ts.map XQ).length≤320:=by simp;omega
 rw [Y9 (fun w hw=>(hl w hw).1) (by omega),zC9,List.map_map,List.map_map];have k:=G7 us [] 0 (ts.map fun t=>XQ t ++ [10]) (fun g hg=>H.chk g (hu.subset hg)) (by simpa using H.names.sublist (hu.map _)) (by simp;omega);have e:ZC ⟨[],[]⟩ 0 (us.map ((· ++ [10]) ∘ JJ) ++ ts.map ((· ++ [10]) ∘ XQ))=ZC ⟨us,[]⟩ (0+us.length) (ts.map fun t=>XQ t ++ [10]):=k;rw [e];have hts:TS ts:=List.Pairwise.sublist ht H.ts;rcases G8 us ts [] (0+us.length) (by simpa using hts) (by simp;omega) fun t h=>by
  have h:=ht.subset h;exact ⟨(H.tt t h).1,(H.tt t h).2.1,(H.tn h).1,(H.tn h).2⟩ with ⟨-,k2⟩|⟨-,k2⟩
 ·exact .inl k2
 ·exact .inr k2
theorem RO.less {r:Rl} (H:RO r) {out:Nat} (ho:out<(QK r).length) :
 (∃ d,QB (txt (Zh (QK r) out (QK r).length)) = .ok d∧d.us.length+d.ts.length+1=(QK r).length∧d≠r)∨∃ j,QB (txt (Zh (QK r) out (QK r).length)) = .bad j 6:=by
 rw [qaH ho];have hn:(QK r).length=r.us.length+r.ts.length:=by simp [QK]
 rcases zA7 out r.us.length with q|q
 ·have e:(QK r).take out ++ (QK r).drop (out+1)=(r.us.take out ++ r.us.drop (out+1)).map JJ ++ r.ts.map XQ:=by
   unfold QK;rw [List.take_append_of_le_length (by simp;omega),List.drop_append_of_le_length (by simp;omega),zC9,List.map_take,List.map_drop,zF2]
  rw [e];have hl:=KH q;rcases H.qbo (KG r.us out) (List.Sublist.refl r.ts) with k|k
  ·refine .inl ⟨_,k,by simp only;omega,fun h=>?_⟩;have:=congrArg (fun x=>x.us.length) h;simp only at this;omega
  ·exact .inr k
 ·obtain ⟨j,rfl⟩:∃ j,out=r.us.length+j:=⟨out - r.us.length,by omega⟩
  have hj:j<r.ts.length:=by omega
  have e:(QK r).take (r.us.length+j) ++ (QK r).drop (r.us.length+j+1)=r.us.map JJ ++ (r.ts.take j ++ r.ts.drop (j+1)).map XQ:=by
   unfold QK;have h1:(r.us.map JJ).length=r.us.length:=by simp
   rw [List.take_append,List.drop_append,h1,zF8 (by rw [h1];omega),List.drop_eq_nil_of_le (by rw [h1];omega),show r.us.length+j - r.us.length=j by omega,show r.us.length+j+1 - r.us.length=j+1 by omega,zC9,List.map_take,List.map_drop];simp
  rw [e];have hl:=KH hj;rcases H.qbo (List.Sublist.refl r.us) (KG r.ts j) with k|k
  ·refine .inl ⟨_,k,by simp only;omega,fun h=>?_⟩;have:=congrArg (fun x=>x.ts.length) h;simp only at this;omega
  ·exact .inr k
theorem RO.spoilt {r:Rl} (H:RO r) (hn:0<(QK r).length):QB ((fmt r).take ((fmt r).length - 1)) = .bad ((QK r).length - 1) 3:=by
 have hL:=H.lines;have hF:=H.wM;have hP:=H.parse;unfold fmt at hF hP ⊢;obtain ⟨ini,w,e⟩:∃ ini w,QK r=ini ++ [w]:=⟨_,_,(List.dropLast_concat_getLast (List.length_pos_iff.1 hn)).symm⟩
 rw [Y9 (fun w hw=>(hL w hw).1) (by omega)] at hP;rw [e] at hL hF hP ⊢;have hw:=hL w (by simp);have e2:(txt (ini ++ [w])).take ((txt (ini ++ [w])).length - 1)=txt ini ++ w:=by
  have:txt (ini ++ [w])=(txt ini ++ w) ++ [10]:=by simp [txt]
  rw [this,zB2,zD5,Nat.add_sub_cancel,List.take_left]
 rw [e2];have hl2:(txt ini ++ w).length≤65536:=by
  have:=congrArg List.length e2;rw [zA9] at this;omega
 unfold QB;rw [if_neg (by omega),gp (fun u hu=>(hL u (List.mem_append_left _ hu)).1) hw.1,WH hw.2.1];rw [zC9] at hP;obtain ⟨q,-,k⟩:=gX _ _ _ _ hP;rw [k];have ea:=qdh (r:=q) hw.1;rw [YE (by rw [ea];show (3:Int)≠0;decide),ea];simp
section
variable {P:Program} {X:Extern} {sz:Nat} {L L':Ks} {h:AH} {ops:Array Oper} {os:List Oper} {o:Oper} {R:Ks→AH→Prop}
theorem rmT {x y:Operand} {ty ty2:TypeId} {a b:Int} (w:KO P X sz ops os L' h R) (ho:o.op = .binOp .rem ty x y ty2:=by exact rfl) (hg:qC ops L.tree o.guard=some true:=by exact rfl) (hx:kA L x=some (.int .i64 a):=by exact rfl) (hy:kA L y=some (.int .i64 b):=by exact rfl)
 (hb:b≠0:=by omega) (hp:qL sz L o.dst (.int .i64 (a.tmod b))=some L':=by exact rfl):KO P X sz ops (o :: os) L h R :=
 zS ho hg hx hy (by simp only [Qi,decide_true,decide_eq_false hb]) hp w
end
variable [Flag]
theorem qcH {h0:AH} (w:WfH h0) (a:Int) (n:Nat) (hn:1≤n∧n≤1000000):Fn Tryz.prog Xh 55 [.int .i64 a,.int .i64 n] h0 (fun v h'=>∃ out:Nat,v = .int .i64 out∧out<n∧Hs h0 h' []):=by
 have S:=Hs.start w;have e1:=Int.tmod_lt_of_pos a (show (0:Int)<n by omega);have e2 : -(n:Int)<a.tmod n:=by
  rcases Int.lt_or_le a 0 with q|q
  ·have h1:=Int.tmod_lt_of_pos (-a) (show (0:Int)<n by omega);rw [Int.neg_tmod] at h1;omega
  ·have:=Int.tmod_nonneg (n:Int) q;omega
 refine zF rfl Tryz.func55 rfl rfl ?_;all_goals (repeat' (first|refine qx ?_|refine qi rfl ?_|refine qw ?_|refine qA ?_|refine qh ?_|refine qj ?_|refine qo ?_|(refine qf 0 ?_;refine mv ?_;refine qg ?_)))
 (repeat (refine qx ?_));refine qf 1 ?_;refine mv ?_;refine mv ?_;refine rmT ?_;refine mv ?_;refine qg ?_;all_goals (repeat' (first|refine qx ?_|refine qi rfl ?_|refine qw ?_|refine qA ?_|refine qh ?_|refine qj ?_|refine qo ?_|(refine qf 2 ?_;refine mv ?_;(first|refine cT ?_|refine cF ?_|(refine cS ?_ ?_<;>intro hc))<;>(refine qg ?_))|(refine qf 3 ?_;refine mv ?_;refine mv ?_;(first|refine ad ?_|refine vl ?_);refine mv ?_;refine qg ?_)|(refine qf 4 ?_;refine mv ?_;refine mv ?_;refine qg ?_)))
 all_goals (refine qF ⟨_,rfl,?_⟩)
 ·exact ⟨(a.tmod n+n).toNat,by rw [Int.toNat_of_nonneg (by omega)];rfl,by omega,S⟩
 ·exact ⟨(a.tmod n).toNat,by rw [Int.toNat_of_nonneg (by omega)];rfl,by omega,S⟩
theorem yh {h0:AH} (w:WfH h0) (hf:Flag.b=true) (va vb:Value) (la lb:List Nat) (ra:Qk h0 va 1 e16 la) (rb:Qk h0 vb 1 eU lb) (hla:la.length≤9223372036854775807) (hlb:lb.length≤9223372036854775807) (h16:∀ i,i<la.length→la.getD i default<65536) (h8:∀ i,i<lb.length→lb.getD i default<256) (less:Int) :
 Fn Tryz.prog Xh 16 [va,vb,.int .i64 less] h0 (fun v _=>v = .bool true):=by
 have S:=Hs.start w;refine zF rfl Tryz.func16 rfl rfl ?_;all_goals (repeat' (first|refine qx ?_|refine qi rfl ?_|refine qw ?_|refine qA ?_|refine qh ?_|refine qj ?_|refine qo ?_|(refine qf 0 ?_;refine mv ?_;refine qg ?_)|(refine qf 1 ?_;refine mv ?_;refine mv ?_)))
 (refine qH rfl rfl rfl rfl rfl ((qcK w va vb la lb ra rb hla hlb h16 h8).mono ?_);rintro _ h ⟨⟨vg,vt,gs⟩,r,rfl,HR,H,hM,x⟩)<;>(replace S:=S.zn x;clear x;have w0:=w;have w:=S.wf;have S:=Hs.start w;obtain ⟨hB,hnm⟩:∃ x,x=h:=⟨_,rfl⟩;(refine al S ?_;clear S;intro b h S);(first|(refine sB S rfl rfl ?_;clear S;intro h S)|(refine J3 S rfl rfl ?_;clear S;intro h S));refine qg ?_)
 subst hnm;obtain ⟨b7,hnm⟩:∃ x,x=b:=⟨_,rfl⟩;subst hnm;have hV:=qae.2 H;have hF:=H.wM;have hL:=H.lines;have hLn:=H.PR;have hgl:=HR.len;have hrg:=HR.rg;have hrt:=HR.rt;replace S:Hs _ h (.blk b7 [vg.val,vt.val] 32 :: []):=S;all_goals (repeat' (first|refine qx ?_|refine qi rfl ?_|refine qw ?_|refine qA ?_|refine qh ?_|refine qj ?_|refine qo ?_|(refine qf 2 ?_;(first|refine lB S rfl rfl ?_|refine zh S rfl rfl ?_|refine zU S ?_|refine lH S ?_))))
 (refine qH rfl rfl rfl rfl rfl ((xg S.wf hf ⟨vg,vt,gs⟩ r (HR.ext w S.ext)).mono ?_);rintro _ h ⟨⟨-,rfl⟩|⟨H2,rfl⟩,x⟩)<;>(replace S:=S.zn x;clear x;refine mv ?_;refine qg ?_)
 rotate_left
 ·exact absurd hV H2
 all_goals (repeat' (first|refine qx ?_|refine qi rfl ?_|refine qw ?_|refine qA ?_|refine qh ?_|refine qj ?_|refine qo ?_|(refine qf 3 ?_;refine mv ?_)))
 (refine qH rfl rfl rfl rfl rfl ((Vh S.wf (fmt r)).mono ?_);rintro _ h (⟨r2,⟨vg2,vt2,gs2⟩,p1,H4,rfl,hu,x⟩|⟨i,e,p1,rfl,x⟩))<;>((first|replace S:=S.zn x|(replace S:=S.join x;dsimp only [xU,List.cons_append,List.nil_append] at S));clear x;unfold RlV.val;(try unfold rlV0);(try dsimp only);(try dsimp only at hu);refine mv ?_;refine vl ?_;refine vl ?_;refine vl ?_;(refine al S ?_;clear S;intro b h S);(first|(refine sB S rfl rfl ?_;clear S;intro h S)|(refine J3 S rfl rfl ?_;clear S;intro h S));refine mv ?_;refine mv ?_;refine qg ?_)
 rotate_left
 ·rw [H.parse] at p1;cases p1
 obtain rfl:r=r2:=by rw [H.parse] at p1;exact PB.ok.inj p1
 obtain ⟨b9,hnm⟩:∃ x,x=b:=⟨_,rfl⟩;subst hnm;replace S:=(show Hs _ h (.blk b9 [vg2.val,vt2.val] 32 :: .sl vg2.val 24 9 eG gs2 :: .sl vt2.val 111 3 Qm r.ts :: tgO gs2 :: .blk b7 [vg.val,vt.val] 32 :: []) from S)
 have S1:=S.tail;have R1:RlOk h ⟨vg2,vt2,gs2⟩ r:=S1.qeQ (v:=⟨vg2,vt2,gs2⟩) hu H;have w1:=S.wf;all_goals (repeat' (first|refine qx ?_|refine qi rfl ?_|refine qw ?_|refine qA ?_|refine qh ?_|refine qj ?_|refine qo ?_|(refine qf 4 ?_;refine mv ?_;(first|refine cT ?_|refine cF ?_|(refine cS ?_ ?_<;>intro hc))<;>(refine mv ?_;(first|refine off ?_|refine mv ?_);(first|refine off ?_|(first|refine cT ?_|refine cF ?_|(refine cS ?_ ?_<;>intro hc)))<;>(refine vl ?_;refine mv ?_;(first|refine off ?_|(first|refine lB S rfl rfl ?_|refine zh S rfl rfl ?_|refine zU S ?_|refine lH S ?_));(first|refine off ?_|(first|refine lB S rfl rfl ?_|refine zh S rfl rfl ?_|refine zU S ?_|refine lH S ?_));(first|(refine off ?_;(first|refine off ?_|refine vl ?_);refine vl ?_;refine mv ?_;(first|refine off ?_|(first|refine lB S rfl rfl ?_|refine zh S rfl rfl ?_|refine zU S ?_|refine lH S ?_));(first|(refine off ?_;(first|refine off ?_|refine mv ?_);(first|refine off ?_|(refine tS ?_ ?_<;>intro hc))<;>(refine vl ?_;refine qg ?_))|skip))|skip))))))
 (refine qH rfl rfl rfl rfl rfl ((VK S.wf ⟨vg2,vt2,gs2⟩ ⟨vg,vt,gs⟩ r r R1 (HR.ext w S.ext)).mono ?_);rintro _ h2 ⟨⟨rfl,z⟩|⟨rfl,z⟩,x⟩)<;>(have xe:=x.ext;replace S:=S.zn x;clear x;(first|refine off ?_|refine vl ?_);refine vl ?_;refine mv ?_;(first|refine off ?_|(first|refine lB S rfl rfl ?_|refine zh S rfl rfl ?_|refine zU S ?_|refine lH S ?_));(first|(refine off ?_;(first|refine off ?_|refine mv ?_);(first|refine off ?_|(refine tS ?_ ?_<;>intro hc))<;>(refine vl ?_;refine qg ?_))|skip))
 all_goals first|exact absurd rfl z|skip
 (refine qH rfl rfl rfl rfl rfl ((xg S.wf hf ⟨vg2,vt2,gs2⟩ r (R1.ext w1 xe)).mono ?_);rintro _ h ⟨⟨-,rfl⟩|⟨H2,rfl⟩,x⟩)<;>(replace S:=S.zn x;clear x;(first|refine off ?_|refine mv ?_);(first|refine off ?_|(refine tS ?_ ?_<;>intro hc))<;>(refine vl ?_;refine qg ?_))
 all_goals first|exact absurd hV H2|exact absurd rfl hc|skip
 all_goals (repeat' (first|refine qx ?_|refine qi rfl ?_|refine qw ?_|refine qA ?_|refine qh ?_|refine qj ?_|refine qo ?_|(refine qf 6 ?_;refine mv ?_)))
 (refine qH rfl rfl rfl rfl rfl ((qat S.wf (fmt r) (by omega)).mono ?_);rintro _ h ⟨u,wh,l,rfl,hl,x⟩)<;>(replace S:=S.Xo x;clear x;obtain ⟨sl,rfl⟩:=S.sV u;refine mv ?_;refine vl ?_;refine vl ?_;refine mv ?_;refine mv ?_;refine qg ?_)
 have hsp:=vP (l:=QK r) fun w hw=>(hL w hw).1;have hlw:wh=true∧l=QK r:=by
  rcases hl with ⟨-,ini,w,rfl,k2,k3⟩|⟨k1,k2⟩
  ·exfalso
   rw [show fmt r=txt (QK r) from rfl,hsp] at k2;have:=(List.append_inj' k2 rfl).2;exact k3 (List.cons.inj this).1.symm
  ·rw [show fmt r=txt (QK r) from rfl,hsp] at k2;exact ⟨k1,(List.append_inj' k2 rfl).1.symm⟩
 obtain ⟨rfl,rfl⟩:=hlw;have hnl:(QK r).length=r.us.length+r.ts.length:=by simp [QK]
 replace S:=(show Hs _ h (.sl sl.val 9 1 eS (QK r) :: .blk b7 [vg.val,vt.val] 32 :: []) from S.pick)
 all_goals (repeat' (first|refine qx ?_|refine qi rfl ?_|refine qw ?_|refine qA ?_|refine qh ?_|refine qj ?_|refine qo ?_|(refine qf 7 ?_;refine mv ?_;refine vl ?_;refine mv ?_;(first|refine off ?_|refine mv ?_);(first|refine off ?_|(first|refine Zg S ?_|refine J5 S rfl rfl ?_));(first|refine off ?_|(first|refine vl ?_|refine fB S ?_|refine fS S rfl rfl ?_|refine fA ?_));(first|refine off ?_|(first|refine lB S rfl rfl ?_|refine zh S rfl rfl ?_|refine zU S ?_|refine lH S ?_));(first|refine off ?_|(first|refine Zg S ?_|refine J5 S rfl rfl ?_));(first|refine off ?_|(first|refine vl ?_|refine fB S ?_|refine fS S rfl rfl ?_|refine fA ?_));(first|refine off ?_|(first|refine lB S rfl rfl ?_|refine zh S rfl rfl ?_|refine zU S ?_|refine lH S ?_));(first|refine off ?_|(first|refine Zg S ?_|refine J5 S rfl rfl ?_));(first|refine off ?_|(first|refine ad ?_|refine vl ?_));(first|refine off ?_|(first|refine cT ?_|refine cF ?_|(refine cS ?_ ?_<;>intro hc)))<;>(refine vl ?_;refine qg ?_))))
 all_goals first|(exfalso;omega)|skip
 all_goals (repeat' (first|refine qx ?_|refine qi rfl ?_|refine qw ?_|refine qA ?_|refine qh ?_|refine qj ?_|refine qo ?_|(refine qf 9 ?_;refine mv ?_;(first|refine Zg S ?_|refine J5 S rfl rfl ?_);(first|refine cT ?_|refine cF ?_|(refine cS ?_ ?_<;>intro hc))<;>(refine qg ?_))))
 ·all_goals (repeat' (first|refine qx ?_|refine qi rfl ?_|refine qw ?_|refine qA ?_|refine qh ?_|refine qj ?_|refine qo ?_|(refine qf 10 ?_;skip)))
  (refine qH rfl rfl rfl rfl rfl ((Vp S.wf).mono ?_);rintro _ h ⟨rfl,x⟩)<;>(replace S:=S.zn x;clear x;refine mv ?_;refine qg ?_)
  all_goals (repeat' (first|refine qx ?_|refine qi rfl ?_|refine qw ?_|refine qA ?_|refine qh ?_|refine qj ?_|refine qo ?_|(refine qf 9 ?_;refine mv ?_;(first|refine Zg S ?_|refine J5 S rfl rfl ?_);(first|refine cT ?_|refine cF ?_|(refine cS ?_ ?_<;>intro hc))<;>(refine qg ?_))|(refine qf 10 ?_;skip)|(refine qf 11 ?_;refine mv ?_;refine mv ?_;(first|refine Zg S ?_|refine J5 S rfl rfl ?_))))
  refine qF ⟨_,rfl,?_⟩;rfl
 have hn0:0<(QK r).length:=by omega
 all_goals (repeat' (first|refine qx ?_|refine qi rfl ?_|refine qw ?_|refine qA ?_|refine qh ?_|refine qj ?_|refine qo ?_|(refine qf 11 ?_;refine mv ?_;refine mv ?_;(first|refine Zg S ?_|refine J5 S rfl rfl ?_))))
 (refine qH rfl rfl rfl rfl rfl ((qcH S.wf less (QK r).length (by omega)).mono ?_);rintro _ h ⟨out,rfl,ho,x⟩)<;>(replace S:=S.zn x;clear x;refine mv ?_;refine qg ?_)
 all_goals (repeat' (first|refine qx ?_|refine qi rfl ?_|refine qw ?_|refine qA ?_|refine qh ?_|refine qj ?_|refine qo ?_|(refine qf 12 ?_;refine mv ?_;refine qg ?_)|(refine qf 13 ?_;refine mv ?_;refine qg ?_)))
 refine zK (σ:=Nat×List UInt8) (fun (k,x) h'=>Hs hB h' [.sl sl.val 9 1 eS (QK r),.blk b7 [vg.val,vt.val] 32]∧k≤(QK r).length∧x=txt (Zh (QK r) out k)) (fun (k,x)=>(QK r).length - k) (fun (k,x)=>[(7,.pointer (some ⟨b7,0,none⟩)),(8,str (fmt r)),(12,sl.val),(14,.int .i64 out),(15,str x),(16,.int .i64 k)]) (0,[]) zf ?_ ?_
 ·exact ⟨S,zB0 _,by simp [Zh,txt]⟩
 clear S;rintro ⟨k,x⟩ h ⟨S,k1,hx⟩;have lx:=Y4 (n:=157) (l:=Zh (QK r) out k) fun y hy=>by
  have:=(hL y (qaF y hy)).2.2;omega
 have lx2:=qaG (L:=QK r) (out:=out) (k:=k);rw [← hx] at lx;all_goals (repeat' (first|refine qx ?_|refine qi rfl ?_|refine qw ?_|refine qA ?_|refine qh ?_|refine qj ?_|refine qo ?_|(refine qf 14 ?_;refine mv ?_;refine mv ?_;(first|refine Zg S ?_|refine J5 S rfl rfl ?_);(first|refine cT ?_|refine cF ?_|(refine cS ?_ ?_<;>intro hc))<;>(refine qg ?_))))
 ·have hkl:k<(QK r).length:=by omega
  have lw:=(hL _ (qJ hkl)).2.2;have lw':((QK r).getD (k:Int).toNat default).length≤156:=lw;all_goals (repeat' (first|refine qx ?_|refine qi rfl ?_|refine qw ?_|refine qA ?_|refine qh ?_|refine qj ?_|refine qo ?_|(refine qf 16 ?_;refine mv ?_;refine mv ?_;(first|refine cT ?_|refine cF ?_|(refine cS ?_ ?_<;>intro hc))<;>(refine qg ?_))))
  ·all_goals (repeat' (first|refine qx ?_|refine qi rfl ?_|refine qw ?_|refine qA ?_|refine qh ?_|refine qj ?_|refine qo ?_|(refine qf 17 ?_;(iterate 3 refine mv ?_);(first|refine Za S ?_|refine jQ S rfl rfl ?_);(first|refine lB S rfl rfl ?_|refine zh S rfl rfl ?_|refine zU S ?_|refine lH S ?_);refine tc ?_;refine tc ?_;refine mv ?_;refine qg ?_)))
   simp only [zA0];all_goals (repeat' (first|refine qx ?_|refine qi rfl ?_|refine qw ?_|refine qA ?_|refine qh ?_|refine qj ?_|refine qo ?_|(refine qf 15 ?_;refine mv ?_;(first|refine ad ?_|refine vl ?_);refine mv ?_;refine qg ?_)))
   refine ⟨(k+1,x ++ ((QK r).getD k default ++ [10])),?_,?_,zf⟩
   ·show (QK r).length - (k+1)<(QK r).length - k;omega
   ·exact ⟨S,by omega,by rw [pM hkl (by omega),Yr,hx]⟩
  ·obtain rfl:k=out:=by omega
   all_goals (repeat' (first|refine qx ?_|refine qi rfl ?_|refine qw ?_|refine qA ?_|refine qh ?_|refine qj ?_|refine qo ?_|(refine qf 15 ?_;refine mv ?_;(first|refine ad ?_|refine vl ?_);refine mv ?_;refine qg ?_)))
   refine ⟨(k+1,x),?_,?_,zf⟩
   ·show (QK r).length - (k+1)<(QK r).length - k;omega
   ·exact ⟨S,by omega,by rw [pK,hx]⟩
 ·obtain rfl:k=(QK r).length:=by omega
  have hfl:0<(fmt r).length:=by
   obtain ⟨a,t,e⟩:=List.exists_cons_of_length_pos hn0;show 0<(txt (QK r)).length
   rw [e,Xc,zB2,zC4];omega
  all_goals (repeat' (first|refine qx ?_|refine qi rfl ?_|refine qw ?_|refine qA ?_|refine qh ?_|refine qj ?_|refine qo ?_|(refine qf 18 ?_;refine mv ?_)))
  rcases H.less ho with ⟨d,hd,hd1,hd2⟩|⟨jj,hd⟩
  all_goals rw [← hx] at hd
  all_goals ((refine qH rfl rfl rfl rfl rfl ((Vh S.wf x).mono ?_);rintro _ h (⟨r3,⟨vg3,vt3,gs3⟩,p3,H5,rfl,hu3,x3⟩|⟨i3,e3,p3,rfl,x3⟩))<;>((first|replace S:=S.zn x3|(replace S:=S.join x3;dsimp only [xU,List.cons_append,List.nil_append] at S));clear x3;unfold RlV.val;(try unfold rlV0);(try dsimp only);(try dsimp only at hu3);refine mv ?_;refine vl ?_;refine vl ?_;refine vl ?_;(refine al S ?_;clear S;intro b h S);(first|(refine sB S rfl rfl ?_;clear S;intro h S)|(refine J3 S rfl rfl ?_;clear S;intro h S));refine mv ?_;refine mv ?_;refine qg ?_))
  all_goals (first|(exfalso;rw [hd] at p3;cases p3;done)|skip)
  all_goals (obtain ⟨b17,hnm⟩:∃ x,x=b:=⟨_,rfl⟩;subst hnm)
  ·obtain rfl:d=r3:=by rw [hd] at p3;exact PB.ok.inj p3
   have hgs3:gs3.length=d.us.length:=by rw [← hu3,zC5]
   replace S:=(show Hs hB h (.blk b17 [vg3.val,vt3.val] 32 :: .sl vg3.val 24 9 eG gs3 :: .sl vt3.val 111 3 Qm d.ts :: tgO gs3 :: .sl sl.val 9 1 eS (QK r) :: .blk b7 [vg.val,vt.val] 32 :: []) from S)
   have S1:=S.tail;have R3:RlOk h ⟨vg3,vt3,gs3⟩ d:=S1.qeQ (v:=⟨vg3,vt3,gs3⟩) hu3 H5;have d64:=H5.l64;have d256:=H5.l256;all_goals (repeat' (first|refine qx ?_|refine qi rfl ?_|refine qw ?_|refine qA ?_|refine qh ?_|refine qj ?_|refine qo ?_|(refine qf 19 ?_;refine mv ?_;(first|refine cT ?_|refine cF ?_|(refine cS ?_ ?_<;>intro hc))<;>(refine qg ?_))|(refine qf 20 ?_;(first|refine vl ?_|refine fB S ?_|refine fS S rfl rfl ?_|refine fA ?_);(first|refine lB S rfl rfl ?_|refine zh S rfl rfl ?_|refine zU S ?_|refine lH S ?_);(first|refine Zg S ?_|refine J5 S rfl rfl ?_);(first|refine vl ?_|refine fB S ?_|refine fS S rfl rfl ?_|refine fA ?_);(first|refine lB S rfl rfl ?_|refine zh S rfl rfl ?_|refine zU S ?_|refine lH S ?_);(first|refine Zg S ?_|refine J5 S rfl rfl ?_);(first|refine ad ?_|refine vl ?_);refine mv ?_;(first|refine Zg S ?_|refine J5 S rfl rfl ?_);(first|refine sb ?_|refine vl ?_);(first|refine cT ?_|refine cF ?_|(refine cS ?_ ?_<;>intro hc))<;>(refine mv ?_;(first|refine off ?_|(first|refine lB S rfl rfl ?_|refine zh S rfl rfl ?_|refine zU S ?_|refine lH S ?_));(first|refine off ?_|(first|refine lB S rfl rfl ?_|refine zh S rfl rfl ?_|refine zU S ?_|refine lH S ?_));(first|(refine off ?_;(first|refine off ?_|refine vl ?_);refine vl ?_;refine mv ?_;(first|(refine off ?_;refine vl ?_;refine mv ?_;refine qg ?_)|skip))|skip)))))
   all_goals first|(exfalso;omega)|skip
   (refine qH rfl rfl rfl rfl rfl ((VK S.wf ⟨vg3,vt3,gs3⟩ ⟨vg,vt,gs⟩ d r R3 (HR.ext w S.ext)).mono ?_);rintro _ h ⟨⟨rfl,z⟩|⟨rfl,z⟩,x⟩)<;>(replace S:=S.zn x;clear x;(first|refine off ?_|refine vl ?_);refine vl ?_;refine mv ?_;(first|(refine off ?_;refine vl ?_;refine mv ?_;refine qg ?_)|skip))
   all_goals first|exact absurd z hd2|skip
   (refine qH rfl rfl rfl rfl rfl ((Vp S.wf).mono ?_);rintro _ h ⟨rfl,x⟩)<;>(replace S:=S.zn x;clear x;refine vl ?_;refine mv ?_;refine qg ?_)
   all_goals (repeat' (first|refine qx ?_|refine qi rfl ?_|refine qw ?_|refine qA ?_|refine qh ?_|refine qj ?_|refine qo ?_|(refine qf 19 ?_;refine mv ?_;(first|refine cT ?_|refine cF ?_|(refine cS ?_ ?_<;>intro hc))<;>(refine qg ?_))|(refine qf 20 ?_;(first|refine vl ?_|refine fB S ?_|refine fS S rfl rfl ?_|refine fA ?_);(first|refine lB S rfl rfl ?_|refine zh S rfl rfl ?_|refine zU S ?_|refine lH S ?_);(first|refine Zg S ?_|refine J5 S rfl rfl ?_);(first|refine vl ?_|refine fB S ?_|refine fS S rfl rfl ?_|refine fA ?_);(first|refine lB S rfl rfl ?_|refine zh S rfl rfl ?_|refine zU S ?_|refine lH S ?_);(first|refine Zg S ?_|refine J5 S rfl rfl ?_);(first|refine ad ?_|refine vl ?_);refine mv ?_;(first|refine Zg S ?_|refine J5 S rfl rfl ?_);(first|refine sb ?_|refine vl ?_);(first|refine cT ?_|refine cF ?_|(refine cS ?_ ?_<;>intro hc))<;>(refine mv ?_;(first|refine off ?_|(first|refine lB S rfl rfl ?_|refine zh S rfl rfl ?_|refine zU S ?_|refine lH S ?_));(first|refine off ?_|(first|refine lB S rfl rfl ?_|refine zh S rfl rfl ?_|refine zU S ?_|refine lH S ?_));(first|(refine off ?_;(first|refine off ?_|refine vl ?_);refine vl ?_;refine mv ?_;(first|(refine off ?_;refine vl ?_;refine mv ?_;refine qg ?_)|skip))|skip)))|(refine qf 21 ?_;refine mv ?_;refine mv ?_;refine tl ?_;(first|refine sb ?_|refine vl ?_))))
   refine qF ⟨_,rfl,?_⟩;rfl
  ·obtain ⟨rfl,rfl⟩:jj=i3∧(6:Int)=e3:=by rw [hd] at p3;exact PB.bad.inj p3
   all_goals (repeat' (first|refine qx ?_|refine qi rfl ?_|refine qw ?_|refine qA ?_|refine qh ?_|refine qj ?_|refine qo ?_|(refine qf 19 ?_;refine mv ?_;(first|refine cT ?_|refine cF ?_|(refine cS ?_ ?_<;>intro hc))<;>(refine qg ?_))))
   (repeat (refine qx ?_));refine qf 21 ?_;refine mv ?_;refine mv ?_;refine tl ?_;refine sb ?_;rw [show ((fmt r).length:Int) - 1=(((fmt r).length - 1:Nat):Int) by omega];refine kS (l:=fmt r) (a:=0) (b:=(fmt r).length - 1) ?_;rw [show ((fmt r).drop 0).take ((fmt r).length - 1 - 0)=(fmt r).take ((fmt r).length - 1) by simp];have hsp2:=H.spoilt hn0;(refine qH rfl rfl rfl rfl rfl ((Vh S.wf ((fmt r).take ((fmt r).length - 1))).mono ?_);rintro _ h (⟨r3,⟨vg3,vt3,gs3⟩,p4,H5,rfl,hu3,x3⟩|⟨i4,e4,p4,rfl,x3⟩))<;>((first|replace S:=S.zn x3|(replace S:=S.join x3;dsimp only [xU,List.cons_append,List.nil_append] at S));clear x3;unfold RlV.val;(try unfold rlV0);(try dsimp only);(try dsimp only at hu3);refine mv ?_;refine vl ?_;refine vl ?_;refine vl ?_;(refine al S ?_;clear S;intro b h S);(first|(refine sB S rfl rfl ?_;clear S;intro h S)|(refine J3 S rfl rfl ?_;clear S;intro h S));refine mv ?_;refine mv ?_;refine qg ?_)
   ·exfalso;rw [hsp2] at p4;cases p4
   obtain ⟨rfl,rfl⟩:(QK r).length - 1=i4∧(3:Int)=e4:=by rw [hsp2] at p4;exact PB.bad.inj p4
   all_goals (repeat' (first|refine qx ?_|refine qi rfl ?_|refine qw ?_|refine qA ?_|refine qh ?_|refine qj ?_|refine qo ?_|(refine qf 22 ?_;refine mv ?_;(first|refine cT ?_|refine cF ?_|(refine cS ?_ ?_<;>intro hc))<;>(refine mv ?_;(first|refine off ?_|refine mv ?_);(first|refine off ?_|(first|refine cT ?_|refine cF ?_|(refine cS ?_ ?_<;>intro hc)))<;>(refine vl ?_;refine mv ?_;(first|refine off ?_|refine mv ?_);(first|refine off ?_|refine mv ?_);(first|refine off ?_|(first|refine Zg S ?_|refine J5 S rfl rfl ?_));(first|refine off ?_|(first|refine sb ?_|refine vl ?_));(first|refine off ?_|(first|refine cT ?_|refine cF ?_|(refine cS ?_ ?_<;>intro hc)))<;>(refine vl ?_;refine mv ?_;(first|(refine off ?_;refine vl ?_;refine mv ?_;refine qg ?_)|skip)))))))
   all_goals first|(exfalso;omega)|skip
   (refine qH rfl rfl rfl rfl rfl ((Vp S.wf).mono ?_);rintro _ h ⟨rfl,x⟩)<;>(replace S:=S.zn x;clear x;refine vl ?_;refine mv ?_;refine qg ?_)
   all_goals (repeat' (first|refine qx ?_|refine qi rfl ?_|refine qw ?_|refine qA ?_|refine qh ?_|refine qj ?_|refine qo ?_|(refine qf 22 ?_;refine mv ?_;(first|refine cT ?_|refine cF ?_|(refine cS ?_ ?_<;>intro hc))<;>(refine mv ?_;(first|refine off ?_|refine mv ?_);(first|refine off ?_|(first|refine cT ?_|refine cF ?_|(refine cS ?_ ?_<;>intro hc)))<;>(refine vl ?_;refine mv ?_;(first|refine off ?_|refine mv ?_);(first|refine off ?_|refine mv ?_);(first|refine off ?_|(first|refine Zg S ?_|refine J5 S rfl rfl ?_));(first|refine off ?_|(first|refine sb ?_|refine vl ?_));(first|refine off ?_|(first|refine cT ?_|refine cF ?_|(refine cS ?_ ?_<;>intro hc)))<;>(refine vl ?_;refine mv ?_;(first|(refine off ?_;refine vl ?_;refine mv ?_;refine qg ?_)|skip)))))))
   refine qF ⟨_,rfl,?_⟩;rfl
end Go.Proofs.Xx
namespace Go.Proofs.Xx
open Go Go.RowKit
section
variable {H:Type} {enc:TypeId×Value→H} {P:Program} {W W':World}
theorem Js {α β:Type} {f g:α→Option β}:∀ {l:List α} {r:List β},l.mapM f=some r→(∀ a b,a∈l→b∈r→f a=some b→g a=some b)→l.mapM g=some r:=by
 intro l;induction l with
 | nil=>intro r h _;simpa using h
 | cons a l ih =>
  intro r h hk;rw [List.mapM_cons] at h ⊢;cases hf:f a with
  | none=>rw [hf] at h;cases h
  | some b =>
   rw [hf] at h;cases hm:l.mapM f with
   | none=>rw [hm] at h;cases h
   | some r' =>
    rw [hm] at h;simp at h;subst h;rw [hk a b (by simp) (by simp) hf,ih hm fun x y hx hy=>hk x y (by simp [hx]) (by simp [hy])];rfl
theorem pY (hb:∀ k,k<W.heap.size→W'.heap[k]? = W.heap[k]?) {base n:Nat} {a:Addr} {cs:List Value} (h:W.cells? base a n=some cs):W'.cells? base a n=some cs:=by
 unfold World.cells? at h ⊢;split at h
 ·rename_i hba
  rw [if_pos hba];refine Js h fun i v _ _ hv=>?_;have hlt:(a.add i).block<W.heap.size:=by
   rcases zA7 (a.add i).block W.heap.size with q|q
   ·exact q
   ·have:W.cell? (a.add i)=none:=by
     unfold World.cell?;rw [Array.getElem?_eq_none q]
    rw [this] at hv;cases hv
  rw [← hv];exact World.cell?_of_block (w:=W) (hb _ hlt)
 ·cases h
def yB (P:Program):List Field→Nat→Nat→Bool
 | [],at_,n=>Nat.beq at_ n
 | f :: r,at_,n=>Nat.beq f.offset at_ && yB P r (at_+P.cellsOf f.type) n
def QQ (P:Program):Nat→TypeId→Bool
 | 0,_=>false
 | m+1,t=>match P.underlying t with
  | some .bool|some .string=>Nat.beq (P.cellsOf t) 1
  | some (.int _)=>Nat.beq (P.cellsOf t) 1
  | some (.slice e)=>Nat.beq (P.cellsOf t) 1 && (QQ P m e && !Nat.beq (P.cellsOf e) 0)
  | some (.struct fs)=>fs.toList.all (fun f=>QQ P m f.type) && yB P fs.toList 0 (P.cellsOf t)
  | some (.array n e)=>QQ P m e && Nat.beq (P.cellsOf t) (n*P.cellsOf e)
  | _=>false
theorem qak (hb:∀ k,k<W.heap.size→W'.heap[k]? = W.heap[k]?) {base:Nat} {sp:Nat→Bool} {held:Bool}:∀ (fuel m:Nat) (t:TypeId) (cs:List Value) (x:DataW H×List MemPlace),QQ P m t=true →
 DataW.trod enc P W base (fun _=>true) held fuel t cs=some x→(∀ p∈x.2,sp p.block=true)→DataW.trod enc P W' base sp held fuel t cs=some x:=by
 intro fuel;induction fuel with
 | zero=>intro m t cs x _ h _;cases h
 | succ fuel ih =>
  intro m t cs x hp h hsp;cases m with
  | zero=>cases hp
  | succ m =>
  unfold QQ at hp;cases hu:P.underlying t with
  | none=>rw [hu] at hp;cases hp
  | some u =>
   rw [hu] at hp;cases u with
   | bool=>obtain ⟨b,rfl,rfl⟩:=DataW.trod_bool hu h;unfold DataW.trod;rw [hu]
   | int k =>
    obtain ⟨b,rfl,rfl,hwf⟩:=DataW.trod_int hu h;unfold DataW.trod;rw [hu];simp [hwf]
   | string =>
    obtain ⟨b,rfl,rfl,hs⟩:=DataW.trod_string hu h;unfold DataW.trod;rw [hu];simp [hs]
   | struct fs =>
    simp only [zA8,zC8] at hp;unfold DataW.trod at h ⊢;rw [hu] at h ⊢;simp only at h ⊢;split at h
    ·rename_i hc
     rw [if_pos hc];simp only [Option.map_eq_some_iff] at h ⊢;obtain ⟨xs,h1,rfl⟩:=h;refine ⟨xs,Js h1 fun f y hf hy hq=>ih m _ _ _ (hp.1 f hf) hq fun p hp=>hsp p ?_,rfl⟩;simp only [zH0];exact ⟨y,hy,hp⟩
    ·cases h
   | array n e =>
    simp only [zA8] at hp;unfold DataW.trod at h ⊢;rw [hu] at h ⊢;simp only at h ⊢;split at h
    ·rename_i hc
     rw [if_pos hc];simp only [Option.map_eq_some_iff] at h ⊢;obtain ⟨xs,h1,rfl⟩:=h;refine ⟨xs,Js h1 fun f y hf hy hq=>ih m _ _ _ hp.1 hq fun p hp=>hsp p ?_,rfl⟩;simp only [zH0];exact ⟨y,hy,hp⟩
    ·cases h
   | slice e =>
    simp only [zA8,zG3] at hp;have hz:P.cellsOf e≠0:=fun q=>by have:=hp.2.2;rw [q] at this;simp at this
    rcases DataW.trod_slice hu h with ⟨rfl,rfl⟩|⟨a,len,cap,-,-,-,-,rfl,-⟩
    ·unfold DataW.trod;rw [hu];rfl
    ·unfold DataW.trod at h ⊢;rw [hu] at h ⊢;simp only at h ⊢;split at h
     ·rename_i hc
      rw [if_pos hc];simp only [if_true,Option.map_eq_some_iff,Option.bind_eq_some_iff] at h ⊢;obtain ⟨elems,h1,rest,h2,rfl⟩:=h;have key:∀ i y,y∈elems ++ rest→(W.cells? base (a.add (i*P.cellsOf e)) (P.cellsOf e)).bind (DataW.trod enc P W base (fun _=>true) held fuel e)=some y →
       (W'.cells? base (a.add (i*P.cellsOf e)) (P.cellsOf e)).bind (DataW.trod enc P W' base sp held fuel e)=some y:=by
       intro i y hy hq;rw [Option.bind_eq_some_iff] at hq ⊢;obtain ⟨cs',q1,q2⟩:=hq;refine ⟨cs',pY hb q1,ih m _ _ _ hp.2.1 q2 fun p hp=>hsp p ?_⟩;simp only [zB8,zH0];exact .inr ⟨y,by simpa using hy,hp⟩
      refine ⟨elems,Js h1 fun i y _ hy hq=>key i y (by simp [hy]) hq,rest,?_,rfl⟩;cases hs:sp a.block with
      | true =>
       simp only [if_true];exact Js h2 fun i y _ hy hq=>key (len+i) y (by simp [hy]) hq
      | false =>
       simp only [zD9,if_false];cases rest with
       | nil=>rfl
       | cons y rest =>
        have hp':sp a.block=true:=by
         refine hsp (.cell a.block (a.off+0)) ?_;simp only [zB8];refine .inl ?_;unfold MemPlace.row;rw [zF1];exact ⟨0,zE3.2 (Nat.mul_pos (by simp only [zC4];omega) (by omega)),rfl⟩
        rw [hs] at hp';cases hp'
     ·cases h
   | _=>cases hp
theorem Yt (hb:∀ k,k<W.heap.size→W'.heap[k]? = W.heap[k]?) {base:Nat} {sp:Nat→Bool} {held:Bool}:∀ (ts:List TypeId) (vs:List Value) (ds:List (DataW H)) (ps:List MemPlace),ts.all (QQ P 20)=true →
 DataW.TrodAll enc P W base (fun _=>true) held ts vs ds ps→(∀ p∈ps,sp p.block=true)→DataW.TrodAll enc P W' base sp held ts vs ds ps
 | [],[],[],ps,_,h,_=>h
 | t :: ts,v :: vs,d :: ds,ps,hp,h,hsp=>by
  simp only [List.all_cons,zA8] at hp;obtain ⟨p,q,⟨fuel,h1⟩,h2,rfl⟩:=h;exact ⟨p,q,⟨fuel,qak hb fuel 20 t _ _ hp.1 h1 fun x hx=>hsp x (by simp [hx])⟩,Yt hb ts vs ds q hp.2 h2 fun x hx=>hsp x (by simp [hx]),rfl⟩
 | [],[],_ :: _,_,_,h,_=>h.elim
 | [],_ :: _,_,_,_,h,_=>h.elim
 | _ :: _,[],_,_,_,h,_=>h.elim
 | _ :: _,_ :: _,[],_,_,h,_=>h.elim
end
end Go.Proofs.Xx
