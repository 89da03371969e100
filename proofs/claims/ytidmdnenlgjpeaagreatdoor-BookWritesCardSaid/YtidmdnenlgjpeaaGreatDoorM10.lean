/-
  Right rolls,as a list of facts;names of numbers.
-/
import Derived.Test.YtidmdnenlgjpeaaGreatDoorM9
import Derived.Test.YtidmdnenlgjpeaaGreatDoorM7
set_option linter.unusedSimpArgs false
set_option linter.unusedVariables false
set_option linter.unusedSectionVars false
set_option maxRecDepth 100000
set_option maxHeartbeats 4000000
namespace Go.Proofs.Xx
open Go Go.Proofs
theorem Qh {us:List Gu} {n:List UInt8}:gat us n=none↔∀ g∈us,g.name≠n:=by
 induction us with
 | nil=>simp [gat]
 | cons x r ih =>
  simp only [gat];by_cases h:x.name=n
  ·simp [h]
  ·simp only [if_neg h,Option.map_eq_none_iff,ih,zE7];constructor
   ·rintro q g (rfl|hg)
    ·exact h
    ·exact q g hg
   ·exact fun q g hg=>q g (.inr hg)
theorem YL {us:List Gu} {n:List UInt8} {i:Nat} (h:gat us n=some i):i<us.length∧(us.getD i default).name=n∧∀ j,j<i→(us.getD j default).name≠n:=by
 induction us generalizing i with
 | nil=>cases h
 | cons x r ih =>
  simp only [gat] at h;by_cases hx:x.name=n
  ·rw [if_pos hx] at h;cases h
   exact ⟨by simp,hx,fun j hj=>absurd hj (zB7 _)⟩
  ·rw [if_neg hx] at h;cases hr:gat r n with
   | none=>rw [hr] at h;cases h
   | some k =>
    rw [hr] at h;cases h
    obtain ⟨h1,h2,h3⟩:=ih hr;refine ⟨by simp;omega,h2,fun j hj=>?_⟩;cases j with
    | zero=>exact hx
    | succ j=>exact h3 j (by simp only at hj;omega)
theorem XG {us:List Gu} {n:List UInt8}:gat us n≠none↔∃ g∈us,g.name=n:=by
 rw [Ne,Qh];constructor
 ·intro h;apply zG7
  intro q;exact h fun g hg e=>q ⟨g,hg,e⟩
 ·rintro ⟨g,hg,e⟩ q;exact q g hg e
theorem qK {α:Type} [Inhabited α] {l:List α} {i:Nat} (h:i<l.length):l.getD i default∈l:=by
 rw [zA2,zA4 h];exact List.getElem_mem h
theorem qN {α:Type} [Inhabited α] {l:List α} {x:α}:x∈l↔∃ i,i<l.length∧l.getD i default=x:=by
 constructor
 ·intro h;obtain ⟨i,hi,rfl⟩:=List.mem_iff_getElem.1 h;exact ⟨i,hi,by rw [zA2,zA4 hi];rfl⟩
 ·rintro ⟨i,hi,rfl⟩;exact qK hi
structure RO (r:Rl):Prop where
 chk:∀ g∈r.us,Qb g=0
 nd:∀ i j,i<j→j<r.us.length→(r.us.getD i default).name≠(r.us.getD j default).name
 l64:r.us.length≤64
 ts:TS r.ts
 tt:∀ t∈r.ts,ji t.a t.b∧(t.k=1∨t.k=2)∧gat r.us t.a≠none∧gat r.us t.b≠none
 l256:r.ts.length≤256
theorem RO.gat {r:Rl} (h:RO r) {i:Nat} (hi:i<r.us.length):gat r.us (r.us.getD i default).name=some i:=by
 cases hq:Xx.gat r.us (r.us.getD i default).name with
 | none=>exact absurd rfl (Qh.1 hq _ (qK hi))
 | some j =>
  obtain ⟨h1,h2,h3⟩:=YL hq;rcases zE6 i j with q|q|q
  ·exact absurd rfl (h3 i q)
  ·rw [q]
  ·exact absurd h2 (h.nd j i q hi)
theorem wS {us:List Gu} {i:Nat} (hi:i<us.length):gE0 us i=0↔Qb (us.getD i default)=0∧(∀ j,j<i→(us.getD j default).name≠(us.getD i default).name)∧i<64:=by
 unfold gE0;have hl:(us.take i).length=i:=by simp;omega
 have hg:Xx.gat (us.take i) (us.getD i default).name=none↔∀ j,j<i→(us.getD j default).name≠(us.getD i default).name:=by
  rw [Qh];constructor
  ·intro h j hj;have:=h _ (qK (show j<(us.take i).length by omega));rwa [getD_take hj] at this
  ·intro h g hg;obtain ⟨j,hj,rfl⟩:=qN.1 hg;rw [getD_take (by omega)];exact h j (by omega)
 constructor
 ·intro h;obtain ⟨h1,h2,h3,-⟩:=XK h;exact ⟨h1,hg.1 h2,by simpa [hl] using h3⟩
 ·rintro ⟨h1,h2,h3⟩;rw [xI h1 (hg.2 h2) (by show ¬ 64≤(us.take i).length;omega)]
theorem gp {ts:List Ti} {a b:List UInt8} (h:ji a b):tied ts a b↔∃ t∈ts,t.a=a∧t.b=b:=by unfold tied;rw [Zi h,Zj h]
theorem Ws {r:Rl}:VRl r↔RO r:=by
 constructor
 ·rintro ⟨h1,h2⟩;refine ⟨fun g hg=>?_,fun i j hij hj=>((wS hj).1 (h1 j hj)).2.1 i hij,P6 (zA3 _) h1,?_,fun t ht=>?_,PL (zA3 _) h2⟩
  ·obtain ⟨i,hi,rfl⟩:=qN.1 hg;exact ((wS hi).1 (h1 i hi)).1
  ·have:=(vT (zA3 _) h2).1;rwa [zD4] at this
  ·obtain ⟨i,hi,rfl⟩:=qN.1 ht;obtain ⟨z1,z2,z3⟩:=YA (h2 i hi);obtain ⟨y1,y2,y3,y4,y5,y6,y7⟩:=Jb z3;exact ⟨z1,y1,y3,y4⟩
 ·intro h;refine ⟨fun i hi=>(wS hi).2 ⟨h.chk _ (qK hi),fun j hj=>h.nd j i hj hi,by have:=h.l64;omega⟩,fun i hi=>?_⟩;obtain ⟨z1,z2,z3,z4⟩:=h.tt _ (qK hi);have hb:∀ j,j<i→Ze (r.ts.getD j default) (r.ts.getD i default):=fun j hj=>h.ts.lt hj hi;have hz:i=0∨¬ Ze (r.ts.getD i default) (r.ts.getD (i - 1) default):=by
   rcases zF3 i with q|q
   ·exact .inl q
   ·exact .inr fun q2=>kz _ (Qw (hb (i - 1) (by omega)) q2)
  unfold XP;rw [if_pos ⟨z1,hz⟩,Wv]
  ·rintro (q|q)
   ·omega
   ·rw [q] at z1;exact zH _ z1
  ·rintro (q|q)
   ·exact z3 q
   ·exact z4 q
  ·rw [gp z1];rintro ⟨t,ht,e1,e2⟩;obtain ⟨j,hj,rfl⟩:=qN.1 ht;have hl:(r.ts.take i).length=i:=by simp;omega
   replace hj:j<i:=by rw [← hl];exact hj
   rw [getD_take (by omega)] at e1 e2;rcases hb j (by omega) with q|q
   ·rw [e1] at q;exact zH _ q
   ·rw [e2] at q;exact zH _ q.2
  ·have:=h.l256;simp;omega
def num (j:Nat):List UInt8:=[UInt8.ofNat (97+j / 26 % 26),UInt8.ofNat (97+j % 26)]
theorem qeC {a b:Nat} (ha:a<256) (hb:b<256):UInt8.ofNat a<UInt8.ofNat b↔a<b:=by
 rw [UInt8.lt_iff_toNat_lt];simp [UInt8.toNat_ofNat,Nat.mod_eq_of_lt ha,Nat.mod_eq_of_lt hb]
theorem qfB {a b:Nat} (ha:a<256) (hb:b<256):UInt8.ofNat a=UInt8.ofNat b↔a=b:=by
 constructor
 ·intro h;have:=congrArg UInt8.toNat h;simpa [UInt8.toNat_ofNat,Nat.mod_eq_of_lt ha,Nat.mod_eq_of_lt hb] using this
 ·rintro rfl;rfl
theorem WV {i j:Nat} (hi:i<676) (hj:j<676):ji (num i) (num j)↔i<j:=by
 unfold num;rw [Zw,Zw,qeC (by omega) (by omega),qfB (by omega) (by omega),qeC (by omega) (by omega)];constructor
 ·rintro (h|⟨h1,h2|⟨h2,h3⟩⟩)
  ·omega
  ·omega
  ·exact absurd h3 (zH _)
 ·intro h;rcases zA7 (i / 26) (j / 26) with q|q
  ·exact .inl (by omega)
  ·exact .inr ⟨by omega,.inl (by omega)⟩
variable [Flag]
end Go.Proofs.Xx
namespace Go.Proofs.Xx
section
variable {α:Type} [Inhabited α]
theorem QG (l:List α) {i:Nat} (x:α) (h:i<l.length) (j:Nat):(l.set i x).getD j default=if j=i then x else l.getD j default:=by
 rw [zA2,zA2,List.getElem?_set];by_cases e:i=j
 ·subst e;rw [if_pos rfl,if_pos rfl,if_pos h];rfl
 ·rw [if_neg e,if_neg (fun q=>e q.symm)]
def swp (l:List α) (i j:Nat):List α:=(l.set i (l.getD j default)).set j (l.getD i default)
theorem qcy (l:List α) (i j:Nat):(swp l i j).length=l.length:=by simp [swp]
theorem swp_get {l:List α} {i j:Nat} (hi:i<l.length) (hj:j<l.length) (k:Nat):(swp l i j).getD k default=if k=j then l.getD i default else if k=i then l.getD j default else l.getD k default:=by
 unfold swp;rw [QG _ _ (by simpa using hj),QG _ _ hi]
theorem qa9 {l:List α} {i j:Nat} (hi:i<l.length) (hj:j<l.length):(swp l i j).Perm l:=by
 unfold swp;have e1:l.getD i default=l[i]:=by simp [zA2,zA4 hi]
 have e2:l.getD j default=l[j]:=by simp [zA2,zA4 hj]
 rw [e1,e2];exact List.set_set_perm hi hj
inductive Sw (a b:Nat):List α→List α→Prop
 | refl (l:List α):Sw a b l l
 | step {l l':List α} (i j:Nat) (h:Sw a b l l') (hi:a≤i∧i<b) (hj:a≤j∧j<b) (hb:b≤l'.length):Sw a b l (swp l' i j)
theorem Sw.len {a b:Nat} {l l':List α} (h:Sw a b l l'):l'.length=l.length:=by
 induction h with
 | refl=>rfl
 | step i j h hi hj hb ih=>rw [qcy,ih]
theorem Sw.perm {a b:Nat} {l l':List α} (h:Sw a b l l'):l'.Perm l:=by
 induction h with
 | refl=>exact .refl _
 | step i j h hi hj hb ih=>exact (qa9 (by omega) (by omega)).trans ih
theorem Sw.out {a b:Nat} {l l':List α} (h:Sw a b l l') {k:Nat} (hk:k<a∨b≤k):l'.getD k default=l.getD k default:=by
 induction h with
 | refl=>rfl
 | step i j h hi hj hb ih=>rw [swp_get (by omega) (by omega),if_neg (by omega),if_neg (by omega),ih]
theorem Sw.in_ {a b:Nat} {l l':List α} (h:Sw a b l l'):∀ {k:Nat},a≤k→k<b→∃ m,a≤m∧m<b∧l'.getD k default=l.getD m default:=by
 induction h with
 | refl=>intro k h1 h2;exact ⟨k,h1,h2,rfl⟩
 | step i j h hi hj hb ih =>
  intro k h1 h2;rw [swp_get (by omega) (by omega)];split
  ·exact ih hi.1 hi.2
  ·split
   ·exact ih hj.1 hj.2
   ·exact ih h1 h2
theorem Sw.trans {a b:Nat} {l m n:List α} (h:Sw a b l m) (g:Sw a b m n):Sw a b l n:=by
 induction g with
 | refl=>exact h
 | step i j g hi hj hb ih=>exact .step i j ih hi hj hb
theorem Sw.mono {a b a' b':Nat} {l m:List α} (h:Sw a b l m) (ha:a'≤a) (hb:b≤b') (hl:b'≤l.length):Sw a' b' l m:=by
 induction h with
 | refl=>exact .refl _
 | step i j g hi hj hbl ih =>
  exact .step i j ih ⟨by omega,by omega⟩ ⟨by omega,by omega⟩ (by rw [g.len];exact hl)
theorem Sw.one {a b:Nat} {l:List α} (i j:Nat) (hi:a≤i∧i<b) (hj:a≤j∧j<b) (hb:b≤l.length):Sw a b l (swp l i j):=.step i j (.refl l) hi hj hb
structure WOrd (lt:α→α→Prop):Prop where
 irr:∀ x,¬ lt x x
 tr:∀ {x y z},lt x y→lt y z→lt x z
 ntr:∀ {x y z},¬ lt y x→¬ lt z y→¬ lt z x
theorem WOrd.asym {lt:α→α→Prop} (W:WOrd lt) {x y:α} (h:lt x y):¬ lt y x:=fun g=>W.irr x (W.tr h g)
def Srt (lt:α→α→Prop) (a b:Nat) (l:List α):Prop:=∀ i j,a≤i→i<j→j<b→¬ lt (l.getD j default) (l.getD i default)
theorem Srt.adj {lt:α→α→Prop} (W:WOrd lt) {a b:Nat} {l:List α} (h:∀ i,a≤i→i+1<b→¬ lt (l.getD (i+1) default) (l.getD i default)):Srt lt a b l:=by
 intro i j h1 h2 h3;induction j with
 | zero=>omega
 | succ j ih =>
  rcases zA7 i j with q|q
  ·exact W.ntr (ih q (by omega)) (h j (by omega) h3)
  ·have:i=j:=by omega
   subst this;exact h i h1 h3
def InsI (lt:α→α→Prop) (a i j:Nat) (l:List α):Prop:=∀ p q,a≤p→p<q→q≤i→q≠j→¬ lt (l.getD q default) (l.getD p default)
theorem InsI.start {lt:α→α→Prop} {a i:Nat} {l:List α} (h:Srt lt a i l):InsI lt a i i l:=fun p q h1 h2 h3 h4=>h p q h1 h2 (by omega)
theorem InsI.next {lt:α→α→Prop} (W:WOrd lt) {a i j:Nat} {l:List α} (h:InsI lt a i j l) (hj:a<j) (hji:j≤i) (hl:i<l.length) (hc:lt (l.getD j default) (l.getD (j - 1) default)):InsI lt a i (j - 1) (swp l j (j - 1)):=by
 intro p q h1 h2 h3 h4;have g:=swp_get (l:=l) (i:=j) (j:=j - 1) (by omega) (by omega);rw [g q,g p,if_neg h4];by_cases e1:q=j
 ·subst e1;rw [if_pos rfl];by_cases e2:p=q - 1
  ·rw [if_pos e2];exact W.asym hc
  ·rw [if_neg e2,if_neg (by omega)];exact h p (q - 1) h1 (by omega) (by omega) (by omega)
 ·rw [if_neg e1];by_cases e2:p=j - 1
  ·rw [if_pos e2];exact h j q (by omega) (by omega) h3 e1
  ·rw [if_neg e2];by_cases e3:p=j
   ·rw [if_pos e3];exact h (j - 1) q (by omega) (by omega) h3 e1
   ·rw [if_neg e3];exact h p q h1 h2 h3 e1
theorem InsI.done {lt:α→α→Prop} (W:WOrd lt) {a i j:Nat} {l:List α} (h:InsI lt a i j l) (hc:j≤a∨¬ lt (l.getD j default) (l.getD (j - 1) default)):Srt lt a (i+1) l:=by
 intro p q h1 h2 h3;by_cases e:q=j
 ·subst e;rcases hc with hc|hc
  ·omega
  ·by_cases e2:p=q - 1
   ·rw [e2];exact hc
   ·exact W.ntr (h p (q - 1) h1 (by omega) (by omega) (by omega)) hc
 ·exact h p q h1 h2 (by omega) e
def kS (lt:α→α→Prop) (f hi k:Nat) (l:List α):Prop :=
 (2*k+1<hi→¬ lt (l.getD (f+k) default) (l.getD (f+(2*k+1)) default))∧(2*k+2<hi→¬ lt (l.getD (f+k) default) (l.getD (f+(2*k+2)) default))
def Heap (lt:α→α→Prop) (f lo hi:Nat) (l:List α):Prop:=∀ k,lo≤k→kS lt f hi k l
def SiftI (lt:α→α→Prop) (f lo hi root:Nat) (l:List α):Prop :=
 (∀ k,lo≤k→k≠root→kS lt f hi k l)∧∀ k,lo≤k→(root=2*k+1∨root=2*k+2)→∀ c,(c=2*root+1∨c=2*root+2)→c<hi→¬ lt (l.getD (f+k) default) (l.getD (f+c) default)
theorem SiftI.start {lt:α→α→Prop} {f lo hi:Nat} {l:List α} (h:Heap lt f (lo+1) hi l):SiftI lt f lo hi lo l:=⟨fun k h1 h2=>h k (by omega),fun k h1 h2=>by omega⟩
theorem SiftI.done {lt:α→α→Prop} {f lo hi root:Nat} {l:List α} (h:SiftI lt f lo hi root l) (hc:kS lt f hi root l):Heap lt f lo hi l:=fun k h1=>by
 by_cases e:k=root
 ·subst e;exact hc
 ·exact h.1 k h1 e
theorem SiftI.next {lt:α→α→Prop} (W:WOrd lt) {f lo hi root c:Nat} {l:List α} (h:SiftI lt f lo hi root l) (hr:lo≤root) (hcc:c=2*root+1∨c=2*root+2) (hch:c<hi) (hl:f+hi≤l.length)
 (hm:∀ d,(d=2*root+1∨d=2*root+2)→d<hi→¬ lt (l.getD (f+c) default) (l.getD (f+d) default)) (hc:lt (l.getD (f+root) default) (l.getD (f+c) default)) :
 SiftI lt f lo hi c (swp l (f+root) (f+c)):=by
 have g:=swp_get (l:=l) (i:=f+root) (j:=f+c) (by omega) (by omega);have at_c:(swp l (f+root) (f+c)).getD (f+c) default=l.getD (f+root) default:=by rw [g,if_pos rfl]
 have at_r:(swp l (f+root) (f+c)).getD (f+root) default=l.getD (f+c) default:=by rw [g,if_neg (by omega),if_pos rfl]
 have at_o:∀ k,k≠c→k≠root→(swp l (f+root) (f+c)).getD (f+k) default=l.getD (f+k) default:=fun k h1 h2=>by rw [g,if_neg (by omega),if_neg (by omega)]
 refine ⟨fun k h1 h2=>?_,fun k h1 h2 d hd hdh=>?_⟩
 ·by_cases e:k=root
  ·subst e;refine ⟨fun q=>?_,fun q=>?_⟩
   ·rw [at_r];by_cases e1:2*k+1=c
    ·rw [e1,at_c];exact W.asym hc
    ·rw [at_o _ e1 (by omega)];exact hm _ (.inl rfl) q
   ·rw [at_r];by_cases e1:2*k+2=c
    ·rw [e1,at_c];exact W.asym hc
    ·rw [at_o _ e1 (by omega)];exact hm _ (.inr rfl) q
  ·have hk:=h.1 k h1 e;rw [kS,at_o k h2 e];refine ⟨fun q=>?_,fun q=>?_⟩
   ·by_cases e1:2*k+1=root
    ·rw [e1,at_r];exact h.2 k h1 (.inl e1.symm) c hcc hch
    ·by_cases e2:2*k+1=c
     ·omega
     ·rw [at_o _ e2 e1];exact hk.1 q
   ·by_cases e1:2*k+2=root
    ·rw [e1,at_r];exact h.2 k h1 (.inr e1.symm) c hcc hch
    ·by_cases e2:2*k+2=c
     ·omega
     ·rw [at_o _ e2 e1];exact hk.2 q
 ·have e:k=root:=by omega
  subst e;rw [at_r,at_o d (by omega) (by omega)];have hk:=h.1 c (by omega) (by omega);rcases hd with hd|hd
  ·subst hd;exact hk.1 hdh
  ·subst hd;exact hk.2 hdh
theorem Heap.max {lt:α→α→Prop} (W:WOrd lt) {f hi:Nat} {l:List α} (h:Heap lt f 0 hi l) (k:Nat) (hk:k<hi):¬ lt (l.getD (f+0) default) (l.getD (f+k) default):=by
 induction k using Nat.strongRecOn with
 | _ k ih =>
  rcases zF3 k with e|e
  ·subst e;exact W.irr _
  ·have hp:=h ((k - 1) / 2) (zB0 _);have hi':=ih ((k - 1) / 2) (by omega) (by omega);rcases (by omega:k=2*((k - 1) / 2)+1∨k=2*((k - 1) / 2)+2) with q|q
   ·have:=hp.1 (by omega);rw [← q] at this;exact W.ntr this hi'
   ·have:=hp.2 (by omega);rw [← q] at this;exact W.ntr this hi'
def HeapI (lt:α→α→Prop) (f i n:Nat) (l:List α):Prop:=Heap lt f 0 i l∧∀ p q,p<q→i≤q→q<n→¬ lt (l.getD (f+q) default) (l.getD (f+p) default)
def DoneI (lt:α→α→Prop) (a b a' b':Nat) (l:List α):Prop:=∀ i j,a≤i→i<j→j<b→(i<a'∨b'≤j)→¬ lt (l.getD j default) (l.getD i default)
theorem DoneI.start {lt:α→α→Prop} {a b:Nat} {l:List α}:DoneI lt a b a b l:=fun i j h1 h2 h3 h4=>by omega
theorem DoneI.sw {lt:α→α→Prop} {a b a' b':Nat} {l l':List α} (h:DoneI lt a b a' b' l) (s:Sw a' b' l l') (h1:a≤a') (h2:b'≤b):DoneI lt a b a' b' l':=by
 intro i j q1 q2 q3 q4;rcases q4 with q4|q4
 ·rw [s.out (k:=i) (.inl q4)];rcases zA7 j a' with q5|q5
  ·rw [s.out (.inl q5)];exact h i j q1 q2 q3 (.inl q4)
  ·rcases zA7 j b' with q6|q6
   ·obtain ⟨m,m1,m2,m3⟩:=s.in_ q5 q6;rw [m3];exact h i m q1 (by omega) (by omega) (.inl q4)
   ·rw [s.out (.inr q6)];exact h i j q1 q2 q3 (.inl q4)
 ·rw [s.out (k:=j) (.inr q4)];rcases zA7 i a' with q5|q5
  ·rw [s.out (.inl q5)];exact h i j q1 q2 q3 (.inl q5)
  ·rcases zA7 i b' with q6|q6
   ·obtain ⟨m,m1,m2,m3⟩:=s.in_ q5 q6;rw [m3];exact h m j (by omega) (by omega) q3 (.inr q4)
   ·rw [s.out (.inr q6)];exact h i j q1 q2 q3 (.inr q4)
theorem DoneI.finish {lt:α→α→Prop} {a b a' b':Nat} {l:List α} (h:DoneI lt a b a' b' l) (s:Srt lt a' b' l):Srt lt a b l:=by
 intro i j q1 q2 q3;by_cases e:i<a'∨b'≤j
 ·exact h i j q1 q2 q3 e
 ·exact s i j (by omega) q2 (by omega)
def Parted (lt:α→α→Prop) (a b m:Nat) (l:List α):Prop:=(∀ k,a≤k→k<m→lt (l.getD k default) (l.getD m default))∧∀ k,m<k→k<b→¬ lt (l.getD k default) (l.getD m default)
theorem Parted.across {lt:α→α→Prop} (W:WOrd lt) {a b m:Nat} {l:List α} (h:Parted lt a b m l) {i j:Nat} (h1:a≤i) (h2:i≤m) (h3:m≤j) (h4:j<b) (h5:i<j):¬ lt (l.getD j default) (l.getD i default):=by
 have e1:¬ lt (l.getD m default) (l.getD i default):=by
  rcases zA7 i m with q|q
  ·exact W.asym (h.1 i h1 q)
  ·have:i=m:=by omega
   subst this;exact W.irr _
 have e2:¬ lt (l.getD j default) (l.getD m default):=by
  rcases zA7 m j with q|q
  ·exact h.2 j q h4
  ·have:j=m:=by omega
   subst this;exact W.irr _
 exact W.ntr e1 e2
theorem DoneI.left {lt:α→α→Prop} (W:WOrd lt) {a b a' b' m:Nat} {l l':List α} (h:DoneI lt a b a' b' l) (p:Parted lt a' b' m l) (hm:a'≤m∧m<b') (hab:a≤a'∧b'≤b) (s:Sw a' m l l') (hs:Srt lt a' m l') (hl:b'≤l.length):DoneI lt a b (m+1) b' l':=by
 have h':=h.sw (s.mono (zA3 _) (by omega) hl) hab.1 hab.2;intro i j q1 q2 q3 q4;by_cases e:i<a'∨b'≤j
 ·exact h' i j q1 q2 q3 e
 ·rcases q4 with q4|q4
  ·rcases zA7 j m with q5|q5
   ·exact hs i j (by omega) q2 q5
   ·rw [s.out (k:=j) (.inr q5)];rcases zA7 i m with q6|q6
    ·obtain ⟨k,k1,k2,k3⟩:=s.in_ (k:=i) (by omega) q6;rw [k3];exact p.across W k1 (by omega) q5 (by omega) (by omega)
    ·rw [s.out (.inr q6)];exact p.across W (by omega) (by omega) q5 (by omega) q2
  ·omega
theorem DoneI.right {lt:α→α→Prop} (W:WOrd lt) {a b a' b' m:Nat} {l l':List α} (h:DoneI lt a b a' b' l) (p:Parted lt a' b' m l) (hm:a'≤m∧m<b') (hab:a≤a'∧b'≤b) (s:Sw (m+1) b' l l') (hs:Srt lt (m+1) b' l') (hl:b'≤l.length):DoneI lt a b a' m l':=by
 have h':=h.sw (s.mono (by omega) (zA3 _) hl) hab.1 hab.2;intro i j q1 q2 q3 q4;by_cases e:i<a'∨b'≤j
 ·exact h' i j q1 q2 q3 e
 ·rcases q4 with q4|q4
  ·omega
  ·rcases zA7 m i with q5|q5
   ·exact hs i j (by omega) q2 (by omega)
   ·rw [s.out (k:=i) (.inl (by omega))];rcases zA7 m j with q6|q6
    ·obtain ⟨k,k1,k2,k3⟩:=s.in_ (k:=j) (by omega) (by omega);rw [k3];exact p.across W (by omega) q5 (by omega) k2 (by omega)
    ·rw [s.out (.inl (by omega))];exact p.across W (by omega) q5 (by omega) (by omega) q2
theorem Sw.all {a b:Nat} {l l':List α} (s:Sw a b l l') {p:α→Prop} (h:∀ k,a≤k→k<b→p (l.getD k default)):∀ k,a≤k→k<b→p (l'.getD k default):=fun k h1 h2=>by
 obtain ⟨m,m1,m2,m3⟩:=s.in_ h1 h2;rw [m3];exact h m m1 m2
end
end Go.Proofs.Xx
namespace Go.Proofs.Xx
section
variable {α:Type} [Inhabited α]
def xch (a b n k:Nat):Nat:=if a≤k∧k<a+n then k+(b - a) else if b≤k∧k<b+n then k - (b - a) else k
def IsXch (a b n:Nat) (l l':List α):Prop:=∀ k,l'.getD k default=l.getD (xch a b n k) default
theorem IsXch.zero {a b:Nat} {l:List α}:IsXch a b 0 l l:=fun k=>by
 unfold xch;rw [if_neg (by omega),if_neg (by omega)]
theorem IsXch.next {a b i:Nat} {l l':List α} (h:IsXch a b i l l') (hab:a+i<b) (hl:b+i<l'.length):IsXch a b (i+1) l (swp l' (a+i) (b+i)):=fun k=>by
 rw [swp_get (by omega) hl];rw [h,h,h];unfold xch;repeat' split
 all_goals first|omega|rfl|(congr 1<;>omega)
def rot (a m b k:Nat):Nat:=if k<a then k else if k<a+(b - m) then k+(m - a) else if k<b then k - (b - m) else k
def qdF (a m b:Nat) (l l':List α):Prop:=∀ k,l'.getD k default=l.getD (rot a m b k) default
def RotI (a m b i j:Nat) (l c:List α):Prop:=∀ k,l.getD (rot a m b k) default=c.getD (rot (m - i) m (m+j) k) default
theorem RotI.start {a m b:Nat} {l:List α} (h1:a≤m) (h2:m≤b):RotI a m b (m - a) (b - m) l l:=fun k=>by
 rw [show m - (m - a)=a by omega,show m+(b - m)=b by omega]
theorem RotI.left {a m b i j:Nat} {l c c':List α} (h:RotI a m b i j l c) (hi:i≤m) (hij:j<i) (x:IsXch (m - i) m j c c'):RotI a m b (i - j) j l c':=fun k=>by
 rw [h k,x];congr 1
 unfold xch rot;repeat' split
 all_goals omega
theorem RotI.right {a m b i j:Nat} {l c c':List α} (h:RotI a m b i j l c) (hi:i≤m) (hij:i<j) (x:IsXch (m - i) (m+j - i) i c c'):RotI a m b i (j - i) l c':=fun k=>by
 rw [h k,x];congr 1
 unfold xch rot;repeat' split
 all_goals omega
theorem RotI.done {a m b i:Nat} {l c c':List α} (h:RotI a m b i i l c) (hi:i≤m) (x:IsXch (m - i) m i c c'):qdF a m b l c':=fun k=>by
 rw [h k,x];congr 1
 unfold xch rot;repeat' split
 all_goals omega
def IsUp (a k:Nat) (l l':List α):Prop:=∀ x,l'.getD x default=l.getD (if x<a then x else if x<k then x+1 else if x=k then a else x) default
theorem IsUp.start {a:Nat} {l:List α}:IsUp a a l l:=fun x=>by
 congr 1
 repeat' split
 all_goals omega
theorem IsUp.next {a k:Nat} {l l':List α} (h:IsUp a k l l') (hak:a≤k) (hl:k+1<l'.length):IsUp a (k+1) l (swp l' k (k+1)):=fun x=>by
 rw [swp_get (by omega) hl];rw [h,h,h];repeat' split
 all_goals first|omega|rfl|(congr 1<;>omega)
def IsDown (m k:Nat) (l l':List α):Prop:=∀ x,l'.getD x default=l.getD (if x<k then x else if x=k then m else if x≤m then x - 1 else x) default
theorem IsDown.start {m:Nat} {l:List α}:IsDown m m l l:=fun x=>by
 congr 1
 repeat' split
 all_goals omega
theorem IsDown.next {m k:Nat} {l l':List α} (h:IsDown m k l l') (hk:0<k∧k≤m) (hl:m<l'.length):IsDown m (k - 1) l (swp l' k (k - 1)):=fun x=>by
 rw [swp_get (by omega) (by omega)];rw [h,h,h];repeat' split
 all_goals first|omega|rfl|(congr 1<;>omega)
end
def ZC (key:Int→Int) (x y:Int):Prop:=key x<key y∨(key x=key y∧x<y)
theorem WZ (key:Int→Int):WOrd (ZC key) where
 irr x h:=by unfold ZC at h;omega
 tr h1 h2:=by unfold ZC at *;omega
 ntr h1 h2:=by unfold ZC at *;omega
structure Mrg (key:Int→Int) (a m b:Nat) (l:List Int):Prop where
 sl:Srt (ZC key) a m l
 sr:Srt (ZC key) m b l
 cr:∀ p q,a≤p→p<m→m≤q→q<b→l.getD p default<l.getD q default
theorem Mrg.up {key:Int→Int} {a b i:Nat} {l l':List Int} (h:Mrg key a (a+1) b l) (hi:a+1≤i∧i≤b) (h1:∀ k,a+1≤k→k<i→ZC key (l.getD k default) (l.getD a default)) (h2:∀ k,i≤k→k<b→¬ ZC key (l.getD k default) (l.getD a default)) (u:IsUp a (i - 1) l l'):Srt (ZC key) a b l':=by
 have W:=WZ key;have u1:∀ x,a≤x→x<i - 1→l'.getD x default=l.getD (x+1) default:=fun x q1 q2=>by rw [u x,if_neg (by omega),if_pos q2]
 have u2:l'.getD (i - 1) default=l.getD a default:=by
  rw [u,if_neg (by omega),if_neg (by omega),if_pos rfl]
 have u3:∀ x,i - 1<x→l'.getD x default=l.getD x default:=fun x q1=>by rw [u x,if_neg (by omega),if_neg (by omega),if_neg (by omega)]
 intro p q q1 q2 q3;rcases zE6 p (i - 1) with e1|e1|e1
 ·rw [u1 p q1 e1];rcases zE6 q (i - 1) with e2|e2|e2
  ·rw [u1 q (by omega) e2];exact h.sr _ _ (by omega) (by omega) (by omega)
  ·rw [e2,u2];exact W.asym (h1 _ (by omega) (by omega))
  ·rw [u3 q e2];exact h.sr _ _ (by omega) (by omega) (by omega)
 ·rw [e1,u2,u3 q (by omega)];exact h2 _ (by omega) q3
 ·rw [u3 p e1,u3 q (by omega)];exact h.sr _ _ (by omega) (by omega) (by omega)
theorem Mrg.down {key:Int→Int} {a m i:Nat} {l l':List Int} (h:Mrg key a m (m+1) l) (hi:a≤i∧i≤m) (h1:∀ k,a≤k→k<i→¬ ZC key (l.getD m default) (l.getD k default)) (h2:∀ k,i≤k→k<m→ZC key (l.getD m default) (l.getD k default)) (u:IsDown m i l l'):Srt (ZC key) a (m+1) l':=by
 have W:=WZ key;have u1:∀ x,x<i→l'.getD x default=l.getD x default:=fun x q1=>by rw [u x,if_pos q1]
 have u2:l'.getD i default=l.getD m default:=by
  rw [u,if_neg (by omega),if_pos rfl]
 have u3:∀ x,i<x→x≤m→l'.getD x default=l.getD (x - 1) default:=fun x q1 q2=>by rw [u x,if_neg (by omega),if_neg (by omega),if_pos q2]
 intro p q q1 q2 q3;rcases zE6 p i with e1|e1|e1
 ·rw [u1 p e1];rcases zE6 q i with e2|e2|e2
  ·rw [u1 q e2];exact h.sl _ _ (by omega) (by omega) (by omega)
  ·rw [e2,u2];exact h1 _ (by omega) (by omega)
  ·rw [u3 q e2 (by omega)];exact h.sl _ _ (by omega) (by omega) (by omega)
 ·rw [e1,u2,u3 q (by omega) (by omega)];exact W.asym (h2 _ (by omega) (by omega))
 ·rw [u3 p e1 (by omega),u3 q (by omega) (by omega)];exact h.sl _ _ (by omega) (by omega) (by omega)
structure SrI (key:Int→Int) (a m b mid s r:Nat) (l:List Int):Prop where
 lo:(if m > mid then mid+m - b else a)≤s
 sr:s≤r
 hi:r≤(if m > mid then mid else m)
 low:(if m > mid then mid+m - b else a)<s→¬ ZC key (l.getD (mid+m - s) default) (l.getD (s - 1) default)
 high:r<(if m > mid then mid else m)→ZC key (l.getD (mid+m - 1 - r) default) (l.getD r default)
theorem Mrg.search {key:Int→Int} {a m b mid s:Nat} {l l2:List Int} (h:Mrg key a m b l) (hm:mid=(a+b) / 2) (hab:a<m∧m<b) (I:SrI key a m b mid s s l)
 (hr:qdF s m (mid+m - s) l l2):(a≤s∧s≤mid∧s≤m∧m≤mid+m - s∧mid+m - s≤b)∧Mrg key a s mid l2∧Mrg key mid (mid+m - s) b l2∧∀ x y,a≤x→x<mid→mid≤y→y<b→¬ ZC key (l2.getD y default) (l2.getD x default):=by
 have W:=WZ key;have lo:=I.lo;have hi:=I.hi;have low:=I.low;have high:=I.high;have hs:a≤s∧s≤mid∧s≤m∧m≤mid+m - s∧mid+m - s≤b:=by
  split at lo<;>split at hi<;>omega
 have r1:∀ k,k<s→l2.getD k default=l.getD k default:=fun k hk=>by rw [hr k];unfold rot;rw [if_pos hk]
 have r2:∀ k,s≤k→k<mid→l2.getD k default=l.getD (k+(m - s)) default:=fun k h1 h2=>by rw [hr k];unfold rot;rw [if_neg (by omega),if_pos (by omega)]
 have r3:∀ k,mid≤k→k<mid+m - s→l2.getD k default=l.getD (k - (mid - s)) default:=fun k h1 h2=>by
  rw [hr k];unfold rot;rw [if_neg (by omega),if_neg (by omega),if_pos (by omega)];congr 1;omega
 have r4:∀ k,mid+m - s≤k→l2.getD k default=l.getD k default:=fun k h1=>by rw [hr k];unfold rot;rw [if_neg (by omega),if_neg (by omega),if_neg (by omega)]
 refine ⟨hs,⟨fun i j q1 q2 q3=>?_,fun i j q1 q2 q3=>?_,fun p q q1 q2 q3 q4=>?_⟩,⟨fun i j q1 q2 q3=>?_,fun i j q1 q2 q3=>?_,fun p q q1 q2 q3 q4=>?_⟩,fun x y q1 q2 q3 q4=>?_⟩
 ·rw [r1 i (by omega),r1 j q3];exact h.sl i j q1 q2 (by omega)
 ·rw [r2 i q1 (by omega),r2 j (by omega) q3];exact h.sr _ _ (by omega) (by omega) (by omega)
 ·rw [r1 p q2,r2 q q3 q4];exact h.cr _ _ q1 (by omega) (by omega) (by omega)
 ·rw [r3 i q1 (by omega),r3 j (by omega) q3];exact h.sl _ _ (by omega) (by omega) (by omega)
 ·rw [r4 i q1,r4 j (by omega)];exact h.sr _ _ (by omega) q2 q3
 ·rw [r3 p q1 q2,r4 q q3];exact h.cr _ _ (by omega) (by omega) (by omega) q4
 ·
  have le_of:∀ {i j:Nat},a≤i→i≤j→j<m→¬ ZC key (l.getD j default) (l.getD i default):=fun {i j} g1 g2 g3=>by
   rcases zA7 i j with q|q
   ·exact h.sl i j g1 q g3
   ·have:i=j:=by omega
    subst this;exact W.irr _
  have le_of2:∀ {i j:Nat},m≤i→i≤j→j<b→¬ ZC key (l.getD j default) (l.getD i default):=fun {i j} g1 g2 g3=>by
   rcases zA7 i j with q|q
   ·exact h.sr i j g1 q g3
   ·have:i=j:=by omega
    subst this;exact W.irr _
  rcases zA7 x s with e1|e1
  ·rw [r1 x e1];rcases zA7 y (mid+m - s) with e2|e2
   ·rw [r3 y q3 e2];exact le_of q1 (by omega) (by omega)
   ·rw [r4 y e2];have g:¬ ZC key (l.getD (mid+m - s) default) (l.getD (s - 1) default):=low (by split<;>omega);have g1:¬ ZC key (l.getD (s - 1) default) (l.getD x default):=le_of q1 (by omega) (by omega);have g2:¬ ZC key (l.getD y default) (l.getD (mid+m - s) default):=le_of2 (by omega) e2 q4;exact W.ntr (W.ntr g1 g) g2
  ·rw [r2 x e1 q2];rcases zA7 y (mid+m - s) with e2|e2
   ·rw [r3 y q3 e2];have g:ZC key (l.getD (mid+m - 1 - s) default) (l.getD s default):=high (by split<;>omega);have g1:¬ ZC key (l.getD (y - (mid - s)) default) (l.getD s default):=le_of (by omega) (by omega) (by omega);have g2:¬ ZC key (l.getD (mid+m - 1 - s) default) (l.getD (x+(m - s)) default):=le_of2 (by omega) (by omega) (by omega);exact W.ntr (W.ntr g2 (W.asym g)) g1
   ·rw [r4 y e2];exact le_of2 (by omega) (by omega) q4
end Go.Proofs.Xx
namespace Go.Proofs.Xx
section
variable {α:Type} [Inhabited α] {lt:α→α→Prop}
theorem HeapI.done {f n b:Nat} {l:List α} (h:HeapI lt f 0 n l) (hb:b=f+n):Srt lt f b l:=fun i j h1 h2 h3=>by
 have:=h.2 (i - f) (j - f) (by omega) (zB0 _) (by omega);rwa [show f+(j - f)=j by omega,show f+(i - f)=i by omega] at this
structure PartI (lt:α→α→Prop) (a b:Nat) (x:α) (i j:Nat) (m:List α):Prop where
 bi:a<i∧i≤j+1∧j<b
 lo:∀ k,a<k→k<i→lt (m.getD k default) x
 hi:∀ k,j<k→k<b→¬ lt (m.getD k default) x
 x:m.getD a default=x
theorem PartI.swap {a b:Nat} {x:α} {i j:Nat} {m:List α} (h:PartI lt a b x i j m) (hb:b≤m.length) (hij:i≤j) (h1:¬ lt (m.getD i default) x) (h2:lt (m.getD j default) x):i<j∧PartI lt a b x (i+1) (j - 1) (swp m i j):=by
 have hbi:=h.bi;have hne:i≠j:=fun q=>by subst q;exact h1 h2
 have g:=swp_get (l:=m) (i:=i) (j:=j) (by omega) (by omega);refine ⟨by omega,⟨by omega,fun k q1 q2=>?_,fun k q1 q2=>?_,?_⟩⟩
 ·rw [g,if_neg (by omega)];split
  ·exact h2
  ·exact h.lo k q1 (by omega)
 ·rw [g];split
  ·exact h1
  ·rw [if_neg (by omega)];exact h.hi k (by omega) q2
 ·rw [g,if_neg (by omega),if_neg (by omega)];exact h.x
theorem PartI.done (W:WOrd lt) {a b:Nat} {x:α} {i j:Nat} {m:List α} (h:PartI lt a b x i j m) (hb:b≤m.length) (hij:j<i):Parted lt a b j (swp m j a):=by
 have hbi:=h.bi;have g:=swp_get (l:=m) (i:=j) (j:=a) (by omega) (by omega);have gj:(swp m j a).getD j default=x:=by
  rw [g];split
  ·rename_i e;rw [e];exact h.x
  ·rw [if_pos rfl];exact h.x
 refine ⟨fun k q1 q2=>?_,fun k q1 q2=>?_⟩
 ·rw [gj,g];split
  ·exact h.lo j (by omega) (by omega)
  ·rw [if_neg (by omega)];exact h.lo k (by omega) (by omega)
 ·rw [gj,g,if_neg (by omega),if_neg (by omega)];exact h.hi k q1 q2
structure EqI (lt:α→α→Prop) (a b:Nat) (x:α) (i j:Nat) (m:List α):Prop where
 bi:a<i∧i≤j+1∧j<b
 lo:∀ k,a<k→k<i→¬ lt x (m.getD k default)
 hi:∀ k,j<k→k<b→lt x (m.getD k default)
 x:m.getD a default=x
theorem EqI.swap {a b:Nat} {x:α} {i j:Nat} {m:List α} (h:EqI lt a b x i j m) (hb:b≤m.length) (hij:i≤j) (h1:lt x (m.getD i default)) (h2:¬ lt x (m.getD j default)):i<j∧EqI lt a b x (i+1) (j - 1) (swp m i j):=by
 have hbi:=h.bi;have hne:i≠j:=fun q=>by subst q;exact h2 h1
 have g:=swp_get (l:=m) (i:=i) (j:=j) (by omega) (by omega);refine ⟨by omega,⟨by omega,fun k q1 q2=>?_,fun k q1 q2=>?_,?_⟩⟩
 ·rw [g,if_neg (by omega)];split
  ·exact h2
  ·exact h.lo k q1 (by omega)
 ·rw [g];split
  ·exact h1
  ·rw [if_neg (by omega)];exact h.hi k (by omega) q2
 ·rw [g,if_neg (by omega),if_neg (by omega)];exact h.x
theorem DoneI.low {a b a' b':Nat} {l:List α} (h:DoneI lt a b a' b' l) (h1:a<a') (h2:b'≤b):∀ k,a'≤k→k<b'→¬ lt (l.getD k default) (l.getD (a' - 1) default):=fun k q1 q2=>h (a' - 1) k (by omega) (by omega) (by omega) (.inl (by omega))
end
def lenTab:List UInt8:=[0,1] ++ List.replicate 2 2 ++ List.replicate 4 3 ++ List.replicate 8 4 ++ List.replicate 16 5 ++ List.replicate 32 6 ++ List.replicate 64 7 ++ List.replicate 128 8
variable [Flag]
end Go.Proofs.Xx
namespace Go.Proofs.Xx
open Go Go.Proofs
variable [Flag]
theorem Srt.out {a i:Nat} {m n:List (List UInt8)} (h:Srt ji a i m) (e:∀ k,a≤k→k<i→n.getD k default=m.getD k default):Srt ji a i n:=fun p q h1 h2 h3=>by
 rw [e p h1 (by omega),e q (by omega) h3];exact h p q h1 h2 h3
end Go.Proofs.Xx
namespace Go.Proofs.Xx
open Go Go.Proofs
variable [Flag]
end Go.Proofs.Xx
namespace Go.Proofs.Xx
open Go Go.Proofs
def MpRd {α:Type} (h:AH) (b:Nat) (enc:α→Value) (l:List (List UInt8×α)):Prop:=∃ es clock,h.get b=some (.map es clock)∧es.map (fun e=>(e.1,e.2.1))=l.map (fun p=>(Value.string ⟨p.1.toArray⟩,enc p.2))
theorem MpRd.ext {α:Type} {h h':AH} {b:Nat} {enc:α→Value} {l:List (List UInt8×α)} (r:MpRd h b enc l) (w:WfH h) (x:Ext h h'):MpRd h' b enc l:=by
 obtain ⟨es,clock,h1,h2⟩:=r;exact ⟨es,clock,x.get w h1,h2⟩
section
variable {P:Program} {X:Extern} {sz:Nat} {L:Ks} {h h0:AH} {rs:List Rs} {ops:Array Oper} {os:List Oper} {o:Oper} {R:Ks→AH→Prop}
end
structure BkAt (h:AH) (p:Nat) (r:Rl) (s:BkS):Prop where
 bk:h.get p=some (.cells [s.vg.val,s.vt.val,.map (some s.m)] 86 none false)
 rg:Qy h s.vg.val 9 eG s.gs
 rt:Qy h s.vt.val 3 Qn r.ts
 mp:MpRd h s.m (.int .i64) s.mp
 tg:∀ i,i<s.gs.length→Qy h (s.gs.getD i default).tv.val 1 eS (s.gs.getD i default).tg
 us:s.gs.map (·.toGu)=r.us
 at_:AtOk s.mp r.us
def BkRd (h:AH) (p:Nat) (r:Rl):Prop:=∃ s,BkAt h p r s
theorem BkRd.ext {h h':AH} {p:Nat} {r:Rl} (b:BkRd h p r) (w:WfH h) (x:Ext h h'):BkRd h' p r:=by
 obtain ⟨s,b⟩:=b;exact ⟨s,x.get w b.bk,b.rg.ext w x,b.rt.ext w x,b.mp.ext w x,fun i hi=>(b.tg i hi).ext w x,b.us,b.at_⟩
theorem BkAt.len {h:AH} {p:Nat} {r:Rl} {s:BkS} (b:BkAt h p r s):s.gs.length=r.us.length:=by rw [← b.us];simp
theorem BkAt.g {h:AH} {p:Nat} {r:Rl} {s:BkS} (b:BkAt h p r s) {i:Nat} (hi:i<s.gs.length):(s.gs.getD i default).toGu=r.us.getD i default:=by rw [← b.us,zF hi]
theorem Hs.qfS {h0 h:AH} {rs:List Rs} {p:Nat} {r:Rl} (S:Hs h0 h (jT p r :: rs)):BkRd h p r:=by
 obtain ⟨s,⟨q1,q2⟩,S⟩:=S.unpack;obtain ⟨fp,k⟩:=Hs.qfe (p:=TgsOk s.gs) S (.there (.there (.there (.there .here))));obtain ⟨es,clock,m1,m2,-⟩:=G9 S (.there (.there (.there .here)));exact ⟨s,JH S .here,Rd.JW S (.there .here),Rd.JW S (.there (.there .here)),⟨es,clock,m1,m2⟩,fun i hi=>TgsOk.rd k hi,q1,q2⟩
def SS (l:List (List UInt8)):Prop:=∀ i j,i<j→j<l.length→ji (l.getD i default) (l.getD j default)
theorem ZA {l:List (List UInt8)} (h:l.Nodup) {i j:Nat} (hij:i<j) (hj:j<l.length):l.getD i default≠l.getD j default:=by
 rw [zA2,zA2,zA4 hj,zA4 (show i<l.length by omega)];exact zD2.1 h i j (by omega) hj hij
theorem SS.of {l l':List (List UInt8)} (s:Sw 0 l.length l l') (h:Srt ji 0 l.length l') (hn:l.Nodup):SS l':=fun i j hij hj=>by
 have hl:=s.len;have hn':l'.Nodup:=s.perm.nodup_iff.2 hn;have h1:=h i j (zB0 _) hij (by omega);rcases Xe h1 with q|q
 ·exact absurd q (ZA hn' hij hj)
 ·exact q
theorem SS.nodup {l:List (List UInt8)} (h:SS l):l.Nodup:=by
 rw [List.nodup_iff_pairwise_ne,zD2];intro i j hi hj hij;have:=h i j hij hj;rw [zA2,zA2,zA4 hj,zA4 hi] at this;exact WH this
def adj (r:Rl) (k:Int) (n x:List UInt8):Prop:=∃ t∈r.ts,t.k=k∧((t.a=n∧t.b=x)∨(t.b=n∧t.a=x))
theorem adj.symm {r:Rl} {k:Int} {n x:List UInt8} (h:adj r k n x):adj r k x n:=by
 obtain ⟨t,h1,h2,h3⟩:=h;exact ⟨t,h1,h2,h3.elim (fun q=>.inr ⟨q.2,q.1⟩) (fun q=>.inl ⟨q.2,q.1⟩)⟩
def qf4 (k:Int) (n:List UInt8) (t:Ti):List (List UInt8):=if t.k≠k then [] else if t.a=n then [t.b] else if t.b=n then [t.a] else []
theorem Qs {α:Type} [DecidableEq α]:∀ {l m:List α},l.Nodup→(∀ x∈l,x∈m)→l.length≤m.length
 | [],m,_,_=>zB0 _
 | x :: l,m,h,hs=>by
  have hx:=hs x (by simp);have h2:=List.nodup_cons.1 h;have:=Qs (l:=l) (m:=m.erase x) h2.2 fun y hy=>by
   rw [List.mem_erase_of_ne (show y≠x from fun e=>h2.1 (by rw [← e];exact hy))];exact hs y (by simp [hy])
  rw [List.length_erase_of_mem hx] at this;have:0<m.length:=List.length_pos_of_mem hx;rw [zC4];omega
theorem XJ {r:Rl} (H:RO r) {k:Int} {n x:List UInt8} (h:adj r k n x):gat r.us n≠none∧gat r.us x≠none∧n≠x:=by
 obtain ⟨t,h1,h2,h3⟩:=h;obtain ⟨t1,t2,t3,t4⟩:=H.tt t h1;rcases h3 with ⟨rfl,rfl⟩|⟨rfl,rfl⟩
 ·exact ⟨t3,t4,WH t1⟩
 ·exact ⟨t4,t3,(WH t1).symm⟩
theorem YM {us:List Gu} {n:List UInt8} (h:gat us n≠none):n∈us.map (·.name):=by
 obtain ⟨g,h1,h2⟩:=XG.1 h;exact zF0.2 ⟨g,h1,h2⟩
variable [Flag]
end Go.Proofs.Xx
namespace Go.Proofs.Xx
open Go Go.Proofs
def MetP (mp:List (List UInt8×Bool)) (M:List (List UInt8)):Prop:=∀ x,zW mp x=if x∈M then some true else none
theorem MetP.put {mp:List (List UInt8×Bool)} {M:List (List UInt8)} (h:MetP mp M) (n:List UInt8):MetP (JB mp n true) (M ++ [n]):=fun x=>by
 rw [Xl,h x];by_cases e:x=n
 ·subst e;simp
 ·simp [e]
inductive Rch (r:Rl) (k:Int) (n:List UInt8):List UInt8→Prop
 | refl:Rch r k n n
 | step {x y:List UInt8} (h:Rch r k n x) (a:adj r k x y):Rch r k n y
theorem Rch.trans {r:Rl} {k:Int} {n x y:List UInt8} (h:Rch r k n x) (g:Rch r k x y):Rch r k n y:=by
 induction g with
 | refl=>exact h
 | step g a ih=>exact .step ih a
theorem Rch.symm {r:Rl} {k:Int} {n x:List UInt8} (h:Rch r k n x):Rch r k x n:=by
 induction h with
 | refl=>exact .refl
 | step h a ih=>exact Rch.trans (.step .refl a.symm) ih
structure Dfs (r:Rl) (M:List (List UInt8)) (n:List UInt8) (N:List (List UInt8)):Prop where
 nd:N.Nodup
 dj:∀ x∈N,x ∉ M
 self:n∈M∨n∈N
 kn:∀ x∈N,gat r.us x≠none
 rc:∀ x∈N,Rch r 1 n x
 cl:∀ x∈N,∀ y,adj r 1 x y→y∈M∨y∈N
def unm (r:Rl) (M:List (List UInt8)):Nat:=((r.us.map (·.name)).filter fun x=>decide (x ∉ M)).length
def cvJ (b4 b5 b1 b6:Nat):Value:=.func (.func 72) #[] #[.pointer (some ⟨b4,0,none⟩),.pointer (some ⟨b5,0,none⟩),.pointer (some ⟨b1,0,none⟩),.pointer (some ⟨b6,0,none⟩)]
abbrev qf9 (p b4 b5 b1 b6 m:Nat) (mp:List (List UInt8×Bool)) (v:SlV) (C:List (List UInt8)):List Rs :=
 [.blk b4 [.map (some m)] 112,.mp m .bool mp,.blk b5 [v.val] 22,.sl v.val 9 1 eS C,.blk b1 [.pointer (some ⟨p,0,none⟩)] 40,.blk b6 [cvJ b4 b5 b1 b6] 113]
variable [Flag]
end Go.Proofs.Xx
namespace Go.Proofs.Xx
open Go Go.Proofs
structure Wd where
 sv:SlV
 ws:List (List UInt8)
instance:Inhabited Wd:=⟨⟨⟨none,0,0⟩,[]⟩⟩
def eWd (w:Wd):List Value:=[w.sv.val]
def WdsOk (cs:List Wd) (h:AH) (fp:Fp):Prop:=∀ w∈cs,(Rs.rd w.sv.val 1 eS w.ws).ok h fp
abbrev wdR (cs:List Wd):Rs:=.any (WdsOk cs)
theorem WdsOk.rd {h:AH} {fp:Fp} {cs:List Wd} (k:WdsOk cs h fp) {i:Nat} (hi:i<cs.length):Qy h (cs.getD i default).sv.val 1 eS (cs.getD i default).ws:=by
 have q:=k _ (qK hi);rcases q with ⟨q1,q2⟩|⟨b,o,cap,cc,e,s,r,q1,q2,q3,q4⟩
 ·exact .inl ⟨q1,by rw [q2];rfl,by rw [q2];rfl⟩
 ·exact .inr ⟨b,o,cap,cc,e,s,r,q1,q2,q4⟩
structure CirOk (r:Rl) (L:List Wd):Prop where
 ss:∀ w∈L,SS w.ws∧w.ws≠[]∧∀ x,x∈w.ws↔(gat r.us (w.ws.getD 0 default)≠none∧Rch r 1 (w.ws.getD 0 default) x)
 hd:∀ i j,i<j→j<L.length→ji ((L.getD i default).ws.getD 0 default) ((L.getD j default).ws.getD 0 default)
theorem Rch.known {r:Rl} (H:RO r) {k:Int} {n x:List UInt8} (h:Rch r k n x) (hn:gat r.us n≠none):gat r.us x≠none:=by
 induction h with
 | refl=>exact hn
 | step h a ih=>exact (XJ H a).2.1
theorem Rch.closed {r:Rl} {k:Int} {n x:List UInt8} {M:List UInt8→Prop} (h:Rch r k n x) (hn:M n) (hc:∀ x,M x→∀ y,adj r k x y→M y):M x:=by
 induction h with
 | refl=>exact hn
 | step h a ih=>exact hc _ ih _ a
theorem SS.le {l:List (List UInt8)} (h:SS l) {i j:Nat} (hij:i≤j) (hj:j<l.length):¬ ji (l.getD j default) (l.getD i default):=by
 rcases zA7 i j with q|q
 ·exact jF (h i j q hj)
 ·obtain rfl:i=j:=by omega
  exact zH _
abbrev qf8 (p b4 b5 b1 b6 m:Nat) (mp:List (List UInt8×Bool)) (vc:SlV) (u:Value) (ns:List (List UInt8)) (v3:Value) (cs:List Wd):List Rs :=
 [.sl u 9 1 eS ns,.blk b4 [.map (some m)] 112,.mp m .bool mp,.blk b5 [vc.val] 22,.blk b1 [.pointer (some ⟨p,0,none⟩)] 40,.blk b6 [cvJ b4 b5 b1 b6] 113,.sl v3 22 1 eWd cs,wdR cs]
structure CirI (r:Rl) (ns:List (List UInt8)) (i:Nat) (M:List (List UInt8)) (cs:List Wd):Prop where
 mem:∀ x,x∈M↔∃ w∈cs,x∈w.ws
 cl:∀ x∈M,∀ y,adj r 1 x y→y∈M
 nm:∀ j,j<i→ns.getD j default∈M
 ok:CirOk r cs
 hd:∀ j,j<cs.length→∃ k,k<i∧(cs.getD j default).ws.getD 0 default=ns.getD k default
 ln:cs.length≤i
theorem CirI.next {r:Rl} (H:RO r) {ns:List (List UInt8)} (hs:SS ns) (hns:∀ x,x∈ns↔gat r.us x≠none) {i:Nat} (hi:i<ns.length) {M N N':List (List UInt8)} {cs:List Wd} {v:SlV} (I:CirI r ns i M cs) (D:Dfs r M (ns.getD i default) N) (hn:ns.getD i default ∉ M) (hS:SS N') (hN:∀ x,x∈N'↔x∈N):CirI r ns (i+1) (M ++ N) (cs ++ [⟨v,N'⟩]):=by
 have hk:gat r.us (ns.getD i default)≠none:=(hns _).1 (qK hi);have hself:ns.getD i default∈N:=D.self.elim (fun q=>absurd q hn) id;have hcomp:∀ x,Rch r 1 (ns.getD i default) x→x∈N:=fun x hx=>by
  have:x∈M∨x∈N:=hx.closed (M:=fun x=>x∈M∨x∈N) (.inr hself) fun x h y a=>by
   rcases h with h|h
   ·exact .inl (I.cl x h y a)
   ·exact D.cl x h y a
  rcases this with q|q
  ·exact absurd (hx.symm.closed (M:=fun x=>x∈M) q I.cl) hn
  ·exact q
 have hlen:0<N'.length:=List.length_pos_of_mem ((hN _).2 hself);have h0:N'.getD 0 default=ns.getD i default:=by
  obtain ⟨j,j1,j2⟩:=qN.1 ((hN _).2 hself);have le1:=hS.le (zB0 j) j1;rw [j2] at le1;have hm0:=(hN _).1 (qK hlen);obtain ⟨k,k1,k2⟩:=qN.1 ((hns _).2 (D.kn _ hm0));have hki:i≤k:=by
   apply zG7
   intro q;exact D.dj _ hm0 (k2 ▸ I.nm k (by omega))
  have le2:=hs.le hki k1;rw [k2] at le2;rcases Xe le1 with q|q
  ·exact q
  ·exact absurd q le2
 refine ⟨fun x=>?_,fun x hx y a=>?_,J5 (fun j hj=>zB8.2 (.inl (I.nm j hj))) (zB8.2 (.inr hself)),⟨fun w hw=>?_,fun j k hjk hk2=>?_⟩,fun j hj=>?_,by simp;exact I.ln⟩
 ·rw [zB8,I.mem];constructor
  ·rintro (⟨w,h1,h2⟩|h)
   ·exact ⟨w,by simp [h1],h2⟩
   ·exact ⟨⟨v,N'⟩,by simp,(hN x).2 h⟩
  ·rintro ⟨w,h1,h2⟩;rcases zB8.1 h1 with q|q
   ·exact .inl ⟨w,q,h2⟩
   ·rw [zB5.1 q] at h2;exact .inr ((hN x).1 h2)
 ·rw [zB8] at hx ⊢;rcases hx with q|q
  ·exact .inl (I.cl x q y a)
  ·exact D.cl x q y a
 ·rcases zB8.1 hw with q|q
  ·exact I.ok.ss w q
  ·rw [zB5.1 q];refine ⟨hS,fun e=>?_,fun x=>?_⟩
   ·simp only at e;rw [e] at hlen;exact absurd hlen (by simp)
   ·simp only [h0,hN];exact ⟨fun h=>⟨hk,D.rc x h⟩,fun h=>hcomp x h.2⟩
 ·simp only [zB2,zD5] at hk2;rw [YZ (show j<cs.length by omega)];rcases zA7 k cs.length with q|q
  ·rw [YZ q];exact I.ok.hd j k hjk q
  ·rw [pM q,show k - cs.length=0 by omega];show ji _ (N'.getD 0 default)
   rw [h0];obtain ⟨z,z1,z2⟩:=I.hd j (by omega);rw [z2];exact hs z i z1 hi
 ·simp only [zB2,zD5] at hj;rcases zA7 j cs.length with q|q
  ·obtain ⟨z,z1,z2⟩:=I.hd j q;exact ⟨z,by omega,by rw [YZ q];exact z2⟩
  ·rw [pM q,show j - cs.length=0 by omega];exact ⟨i,by omega,h0⟩
variable [Flag]
end Go.Proofs.Xx
namespace Go.Proofs.Xx
open Go Go.Proofs
section
variable {P:Program} {X:Extern} {sz:Nat} {L:Ks} {h h0:AH} {rs:List Rs} {ops:Array Oper} {os:List Oper} {o:Oper} {R:Ks→AH→Prop}
theorem bE {L1 L2:Ks} {x y:Operand} {ty ty2:TypeId} {a b:Bool} (w1:a=b→KO P X sz ops os L1 h R) (w2:¬ a=b→KO P X sz ops os L2 h R) (ho:o.op = .binOp .eql ty x y ty2:=by exact rfl) (hg:qC ops L.tree o.guard=some true:=by exact rfl) (hx:kA L x=some (.bool a):=by exact rfl) (hy:kA L y=some (.bool b):=by exact rfl) (hu:P.underlying ty=some .bool:=by exact rfl)
 (hp1:qM sz L o.dst (.bool true)=some L1:=by exact rfl) (hp2:qM sz L o.dst (.bool false)=some L2:=by exact rfl):KO P X sz ops (o :: os) L h R:=by
 by_cases p:a=b
 ·subst p;exact je ho hg hx hy (v:=.bool true) (by cases a<;>simp [Qj,hu]) hp1 (w1 rfl)
 ·exact je ho hg hx hy (v:=.bool false) (by cases a<;>cases b<;>first|exact absurd rfl p|simp [Qj,hu]) hp2 (w2 p)
end
theorem JG {α:Type} [Inhabited α] {l m:List α} (hl:l.length=m.length) (h:∀ i,i<l.length→l.getD i default=m.getD i default):l=m:=by
 apply List.ext_getElem hl
 intro i h1 h2;have:=h i h1;rwa [zA2,zA2,zA4 h1,zA4 h2] at this
theorem qeF (a b:Ti):(zV ⟨a.a.toArray⟩ ⟨b.a.toArray⟩ && (zV ⟨a.b.toArray⟩ ⟨b.b.toArray⟩ && (a.k == b.k && true)))=true↔a=b:=by
 rw [Q4,Q4];cases a;cases b
 simp
theorem Star.snoc {h:AH} {r:Rs} {fp:Fp} (hr:r.ok h fp):∀ {l:List Rs} {U:Fp},Star h l U→(∀ b,fp b→¬ U b)→Star h (l ++ [r]) (fun b=>U b∨fp b)
 | [],U,_,_=>⟨fp,hr,fun b hb=>.inr hb,trivial⟩
 | x :: l,U,⟨fx,h1,h2,h3⟩,hd=>⟨fx,h1,fun b hb=>.inl (h2 b hb),(Star.snoc hr h3 fun b hb q=>hd b hb q.1).mono fun b hb=>by
  rcases hb with hb|hb
  ·exact ⟨.inl hb.1,hb.2⟩
  ·exact ⟨.inr hb,fun q=>hd b hb (h2 b q)⟩⟩
abbrev qdN (g:JO):Rs:=.sl g.tv.val 9 1 eS g.tg
abbrev tgO (gs:List JO):Rs:=.any (fun h fp=>Star h (gs.map qdN) fp)
theorem Hs.qdK {h0 h:AH} {rs:List Rs} {gs:List JO} {g:JO} (S:Hs h0 h (.sl g.tv.val 9 1 eS g.tg :: tgO gs :: rs)):Hs h0 h (tgO (gs ++ [g]) :: rs):=by
 obtain ⟨f1,k1,k2,f2,k3,k4,k5⟩:=S.sep;refine ⟨S.ext,fun b=>f2 b∨f1 b,fun h' q=>?_,fun b hb=>?_,k5.mono fun b hb=>⟨trivial,fun q=>?_⟩⟩
 ·rw [zC9];exact Star.snoc (k1.local fun b hb=>q b (.inr hb)) (k3 h' fun b hb=>q b (.inl hb)) fun b hb q=>(k4 b q).2.2.2 hb
 ·rcases hb with hb|hb
  ·exact ⟨(k4 b hb).1,(k4 b hb).2.1,trivial⟩
  ·exact k2 b hb
 ·rcases q with q|q
  ·exact hb.2 q
  ·exact hb.1.2 q
theorem Star.get {h:AH} {r:Rs}:∀ {l:List Rs} {U:Fp},Star h l U→r∈l→∃ fp,r.ok h fp
 | x :: l,U,⟨fx,h1,h2,h3⟩,hr=>by
  rcases zE7.1 hr with rfl|hr
  ·exact ⟨fx,h1⟩
  ·exact Star.get h3 hr
theorem qdM {α:Type} {v:Value} {e:TypeId} {z:Nat} {enc:α→List Value} {l:List α} {h:AH} {fp:Fp} (k:(Rs.sl v e z enc l).ok h fp):Qy h v z enc l:=by
 rcases k with ⟨rfl,rfl⟩|⟨b,o,cc,slk,cap,h1,h2,h3,h4,-⟩
 ·exact .inl ⟨rfl,rfl,rfl⟩
 ·exact .inr ⟨b,o,_,cc,e,slk,false,h1,h2,h4⟩
abbrev wB (v:RlV) (ts:List Ti):List Rs:=[.sl v.vg.val 24 9 eG v.gs,.sl v.vt.val 111 3 Qn ts,tgO v.gs]
theorem Hs.qfF {h0 h:AH} {rs:List Rs} {v:RlV} {r:Rl} (S:Hs h0 h (wB v r.ts ++ rs)) (hu:v.gs.map (·.toGu)=r.us) (h1:r.us.length≤9223372036854775807) (h2:r.ts.length≤9223372036854775807) (h3:∀ g∈r.us,g.tg.length≤9223372036854775807):RlOk h v r:=by
 obtain ⟨fp,k⟩:=Hs.qfe (p:=fun h fp=>Star h (v.gs.map qdN) fp) S (.there (.there .here));refine ⟨Rd.JW S .here,Rd.JW S (.there .here),fun i hi=>⟨?_,?_⟩,hu,h1,h2⟩
 ·obtain ⟨fq,q⟩:=k.get (zF0.2 ⟨_,qK hi,rfl⟩);exact qdM q
 ·exact h3 _ (by rw [← hu];exact zF0.2 ⟨_,qK hi,rfl⟩)
variable [Flag]
theorem wu {h0:AH} (w:WfH h0) (v u:Value) (l m:List (List UInt8)) (rv:Qy h0 v 1 eS l) (ru:Qy h0 u 1 eS m) (hl:l.length≤9223372036854775807) (hm:m.length≤9223372036854775807):Fn Tryz.prog Xh 60 [v,u] h0 (fun x h'=>ZF x (l=m)∧Hs h0 h' []):=by
 have S:=Hs.start w;refine zB rfl Tryz.func60 rfl rfl ?_;all_goals (repeat' (first|refine qA ?_|refine qw rfl ?_|refine qx ?_|refine qi ?_|(refine qf 0 ?_;refine mv ?_;refine qg ?_)|(refine qf 1 ?_;refine mv ?_;refine ZH S ?_;refine mv ?_;refine ZH S ?_;(first|(refine cS ?_ ?_<;>intro hc))<;>(refine qg ?_))|(refine qf 2 ?_;refine mv ?_;refine qg ?_)|(refine qf 3 ?_;refine mv ?_;refine qg ?_)))
 ·refine qE ⟨_,rfl,?_⟩;exact ⟨.inr ⟨rfl,fun q=>by subst q;exact hc rfl⟩,S⟩
 ·refine zL (σ:=Nat) (fun i h'=>Hs h0 h' []∧i≤l.length∧∀ j,j<i→l.getD j default=m.getD j default) (fun i=>l.length - i) (fun i=>[(0,v),(1,u),(5,.int .i64 i)]) 0 zh ?_ ?_
  ·exact ⟨S,zB0 _,fun j hj=>absurd hj (zB7 _)⟩
  clear S;rintro i h ⟨S,g1,g2⟩;all_goals (repeat' (first|refine qA ?_|refine qw rfl ?_|refine qx ?_|refine qy ?_|refine qi ?_|(refine qf 4 ?_;refine mv ?_;refine mv ?_;refine ZH S ?_;(first|(refine cS ?_ ?_<;>intro hc))<;>(refine qg ?_))|(refine qf 5 ?_;refine mv ?_;refine ad ?_;refine mv ?_;refine qg ?_)|(refine zG 6 ?_;refine mv ?_;refine mv ?_;refine Qd S ?_;refine qZ S ?_;refine mv ?_;refine mv ?_;refine Qd S ?_;refine qZ S ?_;(refine tS ?_ ?_<;>intro hc)<;>(refine qg ?_))|(refine qf 7 ?_;refine mv ?_;refine qg ?_)|(refine qf 8 ?_;refine mv ?_;refine qg ?_)))
  all_goals (try simp only [zA0] at *)
  ·refine ⟨i+1,?_,?_,zh⟩
   ·show l.length - (i+1)<l.length - i;omega
   ·exact ⟨S,by omega,J5 g2 hc⟩
  ·refine qE ⟨_,rfl,?_⟩;exact ⟨.inr ⟨rfl,fun q=>by subst q;exact hc rfl⟩,S⟩
  ·refine qE ⟨_,rfl,?_⟩;exact ⟨.inl ⟨rfl,JG (by omega) fun j hj=>g2 j (by omega)⟩,S⟩
theorem gQ {h0:AH} (w:WfH h0) (v u:Value) (l m:List Ti) (rv:Qy h0 v 3 Qn l) (ru:Qy h0 u 3 Qn m) (hl:l.length≤9223372036854775807) (hm:m.length≤9223372036854775807):Fn Tryz.prog Xh 68 [v,u] h0 (fun x h'=>ZF x (l=m)∧Hs h0 h' []):=by
 have S:=Hs.start w;refine zB rfl Tryz.func68 rfl rfl ?_;all_goals (repeat' (first|refine qA ?_|refine qw rfl ?_|refine qx ?_|refine qi ?_|(refine qf 0 ?_;refine mv ?_;refine qg ?_)|(refine qf 1 ?_;refine mv ?_;refine ZH S ?_;refine mv ?_;refine ZH S ?_;(first|(refine cS ?_ ?_<;>intro hc))<;>(refine qg ?_))|(refine qf 2 ?_;refine mv ?_;refine qg ?_)|(refine qf 3 ?_;refine mv ?_;refine qg ?_)))
 ·refine qE ⟨_,rfl,?_⟩;exact ⟨.inr ⟨rfl,fun q=>by subst q;exact hc rfl⟩,S⟩
 ·refine zL (σ:=Nat) (fun i h'=>Hs h0 h' []∧i≤l.length∧∀ j,j<i→l.getD j default=m.getD j default) (fun i=>l.length - i) (fun i=>[(0,v),(1,u),(5,.int .i64 i)]) 0 zh ?_ ?_
  ·exact ⟨S,zB0 _,fun j hj=>absurd hj (zB7 _)⟩
  clear S;rintro i h ⟨S,g1,g2⟩;all_goals (repeat' (first|refine qA ?_|refine qw rfl ?_|refine qx ?_|refine qy ?_|refine qi ?_|(refine qf 4 ?_;refine mv ?_;refine mv ?_;refine ZH S ?_;(first|(refine cS ?_ ?_<;>intro hc))<;>(refine qg ?_))|(refine qf 5 ?_;refine mv ?_;refine ad ?_;refine mv ?_;refine qg ?_)|(refine zG 6 ?_;refine mv ?_;refine mv ?_;refine Qd S ?_;refine qZ S ?_;refine mv ?_;refine mv ?_;refine Qd S ?_;refine qZ S ?_;(refine gE ?_ ?_<;>intro hc)<;>(refine qg ?_))|(refine qf 7 ?_;refine mv ?_;refine qg ?_)|(refine qf 8 ?_;refine mv ?_;refine qg ?_)))
  all_goals (try simp only [zA0] at *)
  ·refine ⟨i+1,?_,?_,zh⟩
   ·show l.length - (i+1)<l.length - i;omega
   ·exact ⟨S,by omega,J5 g2 ((qeF _ _).1 hc)⟩
  ·refine qE ⟨_,rfl,?_⟩;exact ⟨.inr ⟨rfl,fun q=>by subst q;rw [(qeF _ _).2 rfl] at hc;cases hc⟩,S⟩
  ·refine qE ⟨_,rfl,?_⟩;exact ⟨.inl ⟨rfl,JG (by omega) fun j hj=>g2 j (by omega)⟩,S⟩
theorem ww {h0:AH} (w:WfH h0) (g k:JO) (rg:Qy h0 g.tv.val 1 eS g.tg) (rk:Qy h0 k.tv.val 1 eS k.tg) (hg:g.tg.length≤9223372036854775807) (hk:k.tg.length≤9223372036854775807):Fn Tryz.prog Xh 62 [gV g,gV k] h0 (fun x h'=>ZF x (g.toGu=k.toGu)∧Hs h0 h' []):=by
 have S:=Hs.start w;obtain ⟨⟨n1,n2,n3,n4,n5,n6,n7,n8,n9⟩,n10⟩:=g;obtain ⟨⟨m1,m2,m3,m4,m5,m6,m7,m8,m9⟩,m10⟩:=k;unfold gV;dsimp only at *;refine zB rfl Tryz.func62 rfl rfl ?_;all_goals (repeat' (first|refine qA ?_|(refine qf 0 ?_;(refine bx S ?_;clear S;intro b h S);(refine bx S ?_;clear S;intro b h S);refine mv ?_;refine qg ?_)|(refine qf 1 ?_;refine vl ?_;refine lB S rfl rfl ?_;refine vl ?_;refine lB S rfl rfl ?_;(refine tS ?_ ?_<;>intro hc)<;>(refine mv ?_;(first|refine off ?_|(refine vl ?_));(first|refine off ?_|(refine lB S rfl rfl ?_));(first|refine off ?_|(refine vl ?_));(first|refine off ?_|(refine lB S rfl rfl ?_));(first|refine off ?_|(refine tS ?_ ?_<;>intro hc))<;>(refine vl ?_;refine mv ?_;(first|refine off ?_|(refine vl ?_));(first|refine off ?_|(refine lB S rfl rfl ?_));(first|refine off ?_|(refine vl ?_));(first|refine off ?_|(refine lB S rfl rfl ?_));(first|refine off ?_|(refine tS ?_ ?_<;>intro hc))<;>(refine vl ?_;refine mv ?_;(first|refine off ?_|(refine vl ?_));(first|refine off ?_|(refine lB S rfl rfl ?_));(first|refine off ?_|(refine vl ?_));(first|refine off ?_|(refine lB S rfl rfl ?_));(first|refine off ?_|(first|(refine cS ?_ ?_<;>intro hc)))<;>(refine vl ?_;refine mv ?_;(first|refine off ?_|(refine vl ?_));(first|refine off ?_|(refine lB S rfl rfl ?_));(first|refine off ?_|(refine vl ?_));(first|refine off ?_|(refine lB S rfl rfl ?_));(first|refine off ?_|(first|(refine cS ?_ ?_<;>intro hc)))<;>(refine vl ?_;refine mv ?_;(first|refine off ?_|(refine vl ?_));(first|refine off ?_|(refine lB S rfl rfl ?_));(first|refine off ?_|(refine vl ?_));(first|refine off ?_|(refine lB S rfl rfl ?_));(first|refine off ?_|(refine tS ?_ ?_<;>intro hc))<;>(refine vl ?_;refine mv ?_;(first|refine off ?_|(refine vl ?_));(first|refine off ?_|(refine lB S rfl rfl ?_));(first|refine off ?_|(refine vl ?_));(first|refine off ?_|(refine lB S rfl rfl ?_));(first|refine off ?_|(refine bE ?_ ?_<;>intro hc))<;>(refine vl ?_;refine mv ?_;(first|refine off ?_|(refine vl ?_));(first|refine off ?_|(refine lB S rfl rfl ?_));(first|refine off ?_|(refine vl ?_));(first|refine off ?_|(refine lB S rfl rfl ?_));(first|refine off ?_|(refine bE ?_ ?_<;>intro hc))<;>(refine vl ?_;refine mv ?_;(first|refine off ?_|(refine vl ?_));(first|refine off ?_|(refine lB S rfl rfl ?_));(first|refine off ?_|(refine vl ?_));(first|refine off ?_|(refine lB S rfl rfl ?_));(first|(refine off ?_;refine vl ?_;refine mv ?_;refine qg ?_)|skip))))))))))))
 ·(refine qI rfl rfl rfl rfl rfl ((wu S.wf n10.val m10.val n9 m9 (rg.ext w S.ext) (rk.ext w S.ext) hg hk).mono ?_);rintro _ h ⟨⟨rfl,z⟩|⟨rfl,z⟩,x⟩)<;>(replace S:=S.zk x;clear x;refine vl ?_;refine mv ?_;refine qg ?_)
  ·all_goals (repeat' (fail))
   refine qE ⟨_,rfl,?_⟩;refine ⟨.inl ⟨rfl,?_⟩,S.drop⟩;simp only [Gu.mk.injEq];exact ⟨by assumption,by assumption,by assumption,by assumption,by assumption,by assumption,by assumption,by assumption,z⟩
  ·all_goals (repeat' (fail))
   refine qE ⟨_,rfl,?_⟩;refine ⟨.inr ⟨rfl,fun q=>?_⟩,S.drop⟩;simp only [Gu.mk.injEq] at q;exact z q.2.2.2.2.2.2.2.2
 all_goals
  refine qE ⟨_,rfl,?_⟩;refine ⟨.inr ⟨rfl,fun q=>?_⟩,S.drop⟩;simp only [Gu.mk.injEq] at q;exact absurd (by first|exact q.1|exact q.2.1|exact q.2.2.1|exact q.2.2.2.1|exact q.2.2.2.2.1|exact q.2.2.2.2.2.1|exact q.2.2.2.2.2.2.1|exact q.2.2.2.2.2.2.2.1) hc
theorem x9 {h0:AH} (w:WfH h0) (v u:Value) (gs ks:List JO) (rv:Qy h0 v 9 eG gs) (ru:Qy h0 u 9 eG ks) (tv:∀ i,i<gs.length→Qy h0 (gs.getD i default).tv.val 1 eS (gs.getD i default).tg∧(gs.getD i default).tg.length≤9223372036854775807) (tu:∀ i,i<ks.length→Qy h0 (ks.getD i default).tv.val 1 eS (ks.getD i default).tg∧(ks.getD i default).tg.length≤9223372036854775807) (hl:gs.length≤9223372036854775807) (hm:ks.length≤9223372036854775807) :
 Fn Tryz.prog Xh 67 [v,u] h0 (fun x h'=>ZF x (gs.map (·.toGu)=ks.map (·.toGu))∧Hs h0 h' []):=by
 have S:=Hs.start w;refine zB rfl Tryz.func67 rfl rfl ?_;all_goals (repeat' (first|refine qA ?_|refine qw rfl ?_|refine qx ?_|refine qi ?_|(refine qf 0 ?_;refine mv ?_;refine qg ?_)|(refine qf 1 ?_;refine mv ?_;refine ZH S ?_;refine mv ?_;refine ZH S ?_;(first|(refine cS ?_ ?_<;>intro hc))<;>(refine qg ?_))|(refine qf 2 ?_;refine mv ?_;refine qg ?_)|(refine qf 3 ?_;refine mv ?_;refine qg ?_)))
 ·refine qE ⟨_,rfl,?_⟩;exact ⟨.inr ⟨rfl,fun q=>by have:=congrArg List.length q;simp at this;omega⟩,S⟩
 ·refine zL (σ:=Nat) (fun i h'=>Hs h0 h' []∧i≤gs.length∧∀ j,j<i→(gs.getD j default).toGu=(ks.getD j default).toGu) (fun i=>gs.length - i) (fun i=>[(0,v),(1,u),(5,.int .i64 i)]) 0 zh ?_ ?_
  ·exact ⟨S,zB0 _,fun j hj=>absurd hj (zB7 _)⟩
  clear S;rintro i h ⟨S,g1,g2⟩;all_goals (repeat' (first|refine qA ?_|refine qw rfl ?_|refine qx ?_|refine qy ?_|refine qi ?_|(refine qf 4 ?_;refine mv ?_;refine mv ?_;refine ZH S ?_;(first|(refine cS ?_ ?_<;>intro hc))<;>(refine qg ?_))|(refine qf 8 ?_;refine mv ?_;refine qg ?_)))
  ·have e1:=tv i (by omega);have e2:=tu i (by omega);all_goals (repeat' (first|(refine zG 6 ?_;refine mv ?_;refine mv ?_;refine Qd S ?_;refine qZ S ?_;refine mv ?_;refine mv ?_;refine Qd S ?_;refine qZ S ?_)))
   simp only [zA0];(refine qI rfl rfl rfl rfl rfl ((ww S.wf (gs.getD i default) (ks.getD i default) (e1.1.ext w S.ext) (e2.1.ext w S.ext) e1.2 e2.2).mono ?_);rintro _ h ⟨⟨rfl,z⟩|⟨rfl,z⟩,x⟩)<;>(replace S:=S.zk x;clear x;refine vl ?_;refine qg ?_)
   ·all_goals (repeat' (first|refine qw rfl ?_|refine qx ?_|(refine qf 5 ?_;refine mv ?_;refine ad ?_;refine mv ?_;refine qg ?_)))
    refine ⟨i+1,?_,?_,zh⟩
    ·show gs.length - (i+1)<gs.length - i;omega
    ·exact ⟨S,by omega,J5 g2 z⟩
   ·all_goals (repeat' (first|refine qA ?_|refine qw rfl ?_|(refine qf 7 ?_;refine mv ?_;refine qg ?_)))
    refine qE ⟨_,rfl,?_⟩;refine ⟨.inr ⟨rfl,fun q=>z ?_⟩,S⟩;rw [← zF (f:=fun g:JO=>g.toGu) (show i<gs.length by omega),← zF (f:=fun g:JO=>g.toGu) (show i<ks.length by omega),q]
  ·refine qE ⟨_,rfl,?_⟩;refine ⟨.inl ⟨rfl,JG (by simp;omega) fun j hj=>?_⟩,S⟩;simp at hj;rw [zF (by omega),zF (by omega)];exact g2 j (by omega)
theorem gU {h0:AH} (w:WfH h0) (v u:RlV) (r q:Rl) (hv:RlOk h0 v r) (hu:RlOk h0 u q):Fn Tryz.prog Xh 22 [v.val,u.val] h0 (fun x h'=>ZF x (r=q)∧Hs h0 h' []):=by
 have S:=Hs.start w;have e1:=hv.len;have e2:=hu.len;have l1:=hv.lg;have l2:=hu.lg;unfold RlV.val;refine zB rfl Tryz.func22 rfl rfl ?_;all_goals (repeat' (first|refine qA ?_|(refine qf 0 ?_;(refine bx S ?_;clear S;intro b h S);(refine bx S ?_;clear S;intro b h S);refine mv ?_;refine qg ?_)|(refine qf 1 ?_;refine vl ?_;refine lB S rfl rfl ?_;refine vl ?_;refine lB S rfl rfl ?_)))
 (refine qI rfl rfl rfl rfl rfl ((x9 S.wf v.vg.val u.vg.val v.gs u.gs (hv.rg.ext w S.ext) (hu.rg.ext w S.ext) (fun i hi=>⟨(hv.tg i hi).1.ext w S.ext,(hv.tg i hi).2⟩) (fun i hi=>⟨(hu.tg i hi).1.ext w S.ext,(hu.tg i hi).2⟩) (by omega) (by omega)).mono ?_);rintro _ h ⟨⟨rfl,z⟩|⟨rfl,z⟩,x⟩)<;>(replace S:=S.zk x;clear x;refine mv ?_;(first|refine off ?_|(refine vl ?_));(first|refine off ?_|(refine lB S rfl rfl ?_));(first|refine off ?_|(refine vl ?_));(first|refine off ?_|(refine lB S rfl rfl ?_));(first|(refine off ?_;refine vl ?_;refine mv ?_;refine qg ?_)|skip))
 ·(refine qI rfl rfl rfl rfl rfl ((gQ S.wf v.vt.val u.vt.val r.ts q.ts (hv.rt.ext w S.ext) (hu.rt.ext w S.ext) hv.lt hu.lt).mono ?_);rintro _ h ⟨⟨rfl,z2⟩|⟨rfl,z2⟩,x⟩)<;>(replace S:=S.zk x;clear x;refine vl ?_;refine mv ?_;refine qg ?_)
  ·all_goals (repeat' (fail))
   refine qE ⟨_,rfl,?_⟩;refine ⟨.inl ⟨rfl,?_⟩,S.drop⟩;rw [hv.us,hu.us] at z;cases r;cases q;simp only [Rl.mk.injEq];exact ⟨z,z2⟩
  ·all_goals (repeat' (fail))
   refine qE ⟨_,rfl,?_⟩;exact ⟨.inr ⟨rfl,fun e=>z2 (by rw [e])⟩,S.drop⟩
 ·all_goals (repeat' (fail))
  refine qE ⟨_,rfl,?_⟩;exact ⟨.inr ⟨rfl,fun e=>z (by rw [hv.us,hu.us,e])⟩,S.drop⟩
theorem qcG {h0:AH} (w:WfH h0) {p:Nat} {r:Rl} (B:BkRd h0 p r) (H:RO r):Fn Tryz.prog Xh 39 [.pointer (some ⟨p,0,none⟩)] h0 (fun u h'=>∃ v:RlV,u=v.val∧v.gs.map (·.toGu)=r.us∧Hs h0 h' (wB v r.ts)):=by
 have S:=Hs.start w;obtain ⟨s,B⟩:=B;have hb:=B.bk;have hrg:=B.rg;have hgl:=B.len;have h64:=H.l64;have h256:=H.l256;refine zB rfl Tryz.func39 rfl rfl ?_;all_goals (repeat' (first|refine qA ?_|(refine qf 0 ?_;(refine al S ?_;clear S;intro b h S);refine qg ?_)|(refine qf 1 ?_;refine mv ?_)))
 (refine qI rfl rfl rfl rfl rfl ((xH S.wf (S.ext.get w hb)).mono ?_);rintro _ h ⟨rfl,x⟩)<;>(replace S:=S.zk x;clear x;refine qg ?_)
 obtain ⟨b2,hnm⟩:∃ x,x=b:=⟨_,rfl⟩;subst hnm;all_goals (repeat' (first|refine qA ?_|refine qw rfl ?_|refine qx ?_|(refine qf 3 ?_;(refine al S ?_;clear S;intro b h S);refine qg ?_)))
 obtain ⟨b3,hnm⟩:∃ x,x=b:=⟨_,rfl⟩;subst hnm;have S:=((S.qaD (e:=24) (z:=9) (enc:=eG))).anyS (p:=fun h fp=>Star h (([]:List JO).map qdN) fp) fun h'=>trivial;replace S:Hs h0 h [tgO [],.sl (SlV.val ⟨none,0,0⟩) 24 9 eG [],.blk b3 [SlV.val ⟨none,0,0⟩,.slice none 0 0] 32,.blk b2 [.slice none 0 0,.slice none 0 0] 32]:=S;all_goals (repeat' (first|refine qi ?_|(refine qf 4 ?_;refine mv ?_;refine vl ?_;refine vl ?_;refine vl ?_;refine lH S ?_;refine ZH S ?_;refine mv ?_;refine qg ?_)))
 refine zL (σ:=Nat×SlV×List JO) (fun (i,vg,gs) h'=>Hs h0 h' [tgO gs,.sl vg.val 24 9 eG gs,.blk b3 [vg.val,.slice none 0 0] 32,.blk b2 [.slice none 0 0,.slice none 0 0] 32]∧i≤r.us.length∧gs.map (·.toGu)=r.us.take i) (fun (i,vg,gs)=>r.us.length - i) (fun (i,vg,gs)=>[(0,.pointer (some ⟨p,0,none⟩)),(2,.pointer (some ⟨b2,0,none⟩)),(3,.pointer (some ⟨b3,0,none⟩)),(13,s.vg.val),(14,.int .i64 s.gs.length),(15,.int .i64 i)]) (0,⟨none,0,0⟩,[]) zh ?_ ?_
 ·exact ⟨S,zB0 _,rfl⟩
 clear S;rintro ⟨i,vg,gs⟩ h ⟨S,g1,g2⟩;all_goals (repeat' (first|refine qA ?_|refine qw rfl ?_|refine qx ?_|refine qy ?_|refine qi ?_|(refine qf 5 ?_;(first|(refine cS ?_ ?_<;>intro hc))<;>(refine qg ?_))))
 ·have hil:i<s.gs.length:=by omega
  have hg:=B.g hil;have h4:=(Zp (H.chk _ (qK (show i<r.us.length by omega)))).2.2.2.1;have hl4:(s.gs.getD i default).tg.length≤1000000:=by rw [hg];omega
  have hgs:gs.length≤64:=by have:=congrArg List.length g2;simp at this;omega
  all_goals (repeat' (first|(refine qf 6 ?_;refine Qd S ?_;refine qZ S ?_;(refine al S ?_;clear S;intro b h S);(first|(refine sB S rfl rfl ?_;clear S;intro h S));refine qg ?_)))
  simp only [zA0] at S;simp only [zA0];replace S:Hs h0 h [.blk b (eG (s.gs.getD i default)) 24,tgO gs,.sl vg.val 24 9 eG gs,.blk b3 [vg.val,.slice none 0 0] 32,.blk b2 [.slice none 0 0,.slice none 0 0] 32]:=S;(repeat (refine qA ?_));refine JM (id:=7) [(1,(0,2))] [some (b3)] ?_;refine qB ?_;(first|(refine vl ?_<;>refine qg ⟨⟨by (first|exact True.intro),rfl⟩,?_⟩));refine qB ?_;(first|(refine lB S rfl rfl ?_<;>refine qg ⟨⟨by (first|exact Or.inr rfl),rfl⟩,?_⟩));refine qB ?_;(first|(refine lB S rfl rfl ?_<;>refine qg ⟨⟨by (first|exact True.intro),rfl⟩,?_⟩));((refine qB ?_;first|refine qI rfl rfl rfl rfl rfl ((vG S.wf (s.gs.getD i default) ((B.tg i hil).ext w S.ext) hl4).mono ?_));rintro _ h ⟨tv,rfl,x⟩)<;>((refine qg ⟨⟨True.intro,?_⟩,?_⟩;(focus ((show keepsX _ _ _ _ _;simp only [keepsX];(repeat' (first|exact True.intro|refine And.intro ?_ ?_));all_goals (intro hw;first|exact x.ext.old _ S.bB)))));replace S:=S.XY x;clear x;refine qB ?_;(first|((refine one 9 S ?_;have S0:=S;clear S;intro u h S);refine qg ⟨⟨True.intro,?_⟩,?_⟩;(focus ((show keepsX _ _ _ _ _;simp only [keepsX];(repeat' (first|exact True.intro|refine And.intro ?_ ?_));all_goals (intro hw;first|exact (S.gB).trans (S0.gB).symm))));clear S0)))
  refine qB ?_;refine app (y0:={ s.gs.getD i default with tv:=tv }) S rfl rfl ?_;have S0:=S;clear S;intro v h S;obtain ⟨vg',rfl⟩:=S.sV v;refine qg ⟨⟨True.intro,?_⟩,?_⟩;(focus ((show keepsX _ _ _ _ _;simp only [keepsX];(repeat' (first|exact True.intro|refine And.intro ?_ ?_));all_goals (intro hw;first|exact (S.gB).trans (S0.gB).symm))));clear S0;(refine qB ?_;(first|(refine vl ?_<;>refine qg ⟨⟨by (first|exact True.intro),rfl⟩,?_⟩));refine qB ?_;(first|((refine sB S rfl rfl ?_;have S0:=S;clear S;intro h S);refine qg ⟨⟨True.intro,?_⟩,?_⟩;(focus ((show keepsX _ _ _ _ _;simp only [keepsX];(repeat' (first|exact True.intro|refine And.intro ?_ ?_));all_goals (intro hw;first|exact absurd hw (by decide +kernel)))));clear S0));refine Xw ?_);all_goals (repeat' (first|(refine qf 8 ?_;refine ad ?_;refine mv ?_;refine qg ?_)))
  refine ⟨(i+1,vg',gs ++ [{ s.gs.getD i default with tv:=tv }]),?_,?_,zh⟩
  ·show r.us.length - (i+1)<r.us.length - i;omega
  ·replace S:Hs h0 h (.sl vg'.val 24 9 eG (gs ++ [{ s.gs.getD i default with tv:=tv }]) :: .sl tv.val 9 1 eS (s.gs.getD i default).tg :: .blk b (eG (s.gs.getD i default)) 24 :: tgO gs :: .blk b3 [vg'.val,.slice none 0 0] 32 :: .blk b2 [.slice none 0 0,.slice none 0 0] 32 :: []):=S;have S:=(show Hs h0 h (.sl tv.val 9 1 eS (s.gs.getD i default).tg :: tgO gs :: .sl vg'.val 24 9 eG (gs ++ [{ s.gs.getD i default with tv:=tv }]) :: .blk b3 [vg'.val,.slice none 0 0] 32 :: .blk b2 [.slice none 0 0,.slice none 0 0] 32 :: []) from S.pick)
   refine ⟨Hs.qdK (g:={ s.gs.getD i default with tv:=tv }) S,by (try dsimp only);omega,?_⟩;dsimp only;rw [zl (by omega),zC9,g2,← hg];rfl
 ·obtain rfl:i=r.us.length:=by omega
  rw [zD4] at g2;all_goals (repeat' (first|(refine qf 9 ?_;refine mv ?_;refine vl ?_;refine vl ?_;refine vl ?_;refine lH S ?_)))
  (refine qI rfl rfl rfl rfl rfl ((qaW S.wf s.vt.val r.ts (B.rt.ext w S.ext) (by omega)).mono ?_);rintro v h x)<;>(replace S:=S.XY x;clear x;obtain ⟨vt',rfl⟩:=S.sV v;refine vl ?_;(first|(refine sB S rfl rfl ?_;clear S;intro h S));refine qg ?_)
  all_goals (repeat' (first|refine qA ?_|(refine qf 10 ?_;refine lB S rfl rfl ?_;(first|(refine sB S rfl rfl ?_;clear S;intro h S));refine qg ?_)))
  refine qE ⟨_,zQ S rfl (by first|exact .there (.there (.there (.there .here)))) (by exact rfl) (by exact rfl),?_⟩;refine ⟨⟨vg,vt',gs⟩,rfl,g2,?_⟩;exact (show Hs h0 h [.sl vg.val 24 9 eG gs,.sl vt'.val 111 3 Qn r.ts,tgO gs] from S.pick)
end Go.Proofs.Xx
namespace Go.Proofs.Xx
open Go Go.Proofs
structure Chg (h h':AH) (b:Nat) (o:jB):Prop where
 at_:h'.get b=some o
 old:∀ j,j≠b→j<h.next→h'.get j=h.get j
 next:h.next≤h'.next
 wf:WfH h'
theorem Chg.trans {h h' h'':AH} {b:Nat} {o o':jB} (c:Chg h h' b o) (d:Chg h' h'' b o'):Chg h h'' b o' :=
 ⟨d.at_,fun j hj hn=>(d.old j hj (zE4 hn c.next)).trans (c.old j hj hn),zD0 c.next d.next,d.wf⟩
theorem GU {c:List Value} {o:Nat} (h:o≤c.length):splice c o []=c:=by simp [splice]
section
variable {P:Program} {X:Extern} {sz:Nat} {L L':Ks} {h:AH} {ops:Array Oper} {os:List Oper} {o:Oper} {R:Ks→AH→Prop}
theorem rwa {x y:Operand} {ts tx e e2:TypeId} {zc new cc:List Value} {by_ b o' n cap m z:Nat} {slk:Option Nat} {u:Value} {d:Tmp} (hb:h.get b=some (.cells cc e2 slk false)) (wf:WfH h) (hr:Rd h u z m new)
 (w:∀ h',Chg h h' b (.cells (splice cc (o'+n*z) new) e2 slk false)→KO P X sz ops os (L.put d (.slice (some ⟨b,o',none⟩) (n+m) cap)) h' R)
 (ho:o.op = .call { callee:=.builtin .append,args:=#[x,y],argTypes:=#[ts,tx] }:=by exact rfl) (hg:qC ops L.tree o.guard=some true:=by exact rfl) (hx:kA L x=some (.slice (some ⟨b,o',none⟩) n cap):=by exact rfl) (hy:kA L y=some u:=by exact rfl)
 (hs:qQ P ts=some e:=by exact rfl) (hz:qY P e=some zc:=by exact rfl) (hzl:zc.length=z:=by exact rfl) (hby:jS P e=some (by_+1):=by exact rfl) (hxs:P.underlying tx=some (.slice e):=by exact rfl)
 (hc:n+m≤cap:=by omega) (hcc:o'+cap*z≤cc.length:=by assumption) (h1:new.all one? = true:=by assumption) (hsz:(m+1)*(by_+1)≤140737488355328:=by omega) (hdst:o.dst=some d:=by exact rfl) (hds:Nat.blt d sz=true:=by exact rfl):KO P X sz ops (o :: os) L h R:=by
 subst hzl;have hlen:=hr.length;have hfit:o'+n*zc.length+new.length≤cc.length:=by
  rw [hlen,zF6,← zE1];exact zD0 (Nat.add_le_add_left (zD3 _ hc) _) hcc
 have k2:Nat.beq new.length (m*zc.length)=true:=by rw [hlen];simp
 have hsrc:ZV zc.length u h=some (m,new):=hr.source;have go:∀ h',zO P [ts,tx] (.slice (some ⟨b,o',none⟩) n cap) u h=some (.slice (some ⟨b,o',none⟩) (n+m) cap,h')→Chg h h' b (.cells (splice cc (o'+n*zc.length) new) e2 slk false)→KO P X sz ops (o :: os) L h R:=fun h' q1 q2=>by
  refine zn (v:=.slice (some ⟨b,o',none⟩) (n+m) cap) (h':=h') hg ?_ (by simp only [qM,hdst,hds]) (w h' q2);rw [ho];simp [ja,qF hx,qF hy,jl,jd,q1,jY]
 cases m with
 | zero =>
  have hn:new=[]:=zE8.1 (by omega);subst hn;refine go h ?_ ⟨by rw [GU (by simp at hfit;omega)];exact hb,fun _ _ _=>rfl,zA3 _,wf⟩;simp only [zO,hs,hxs,hz,hby,hsrc,zB3 hsz,h1,k2,zF8,hb,zB3 (show n≤cap from hc),Nat.add_zero]
 | succ m =>
  refine go (h.put b (.cells (splice cc (o'+n*zc.length) new) e2 slk false)) ?_ ⟨by rw [AH.get_put,if_pos rfl],fun j hj _=>by rw [AH.get_put,if_neg hj],zA3 _,wf.put (wf.lt hb) _⟩;simp only [zO,hs,hxs,hz,hby,hsrc,zB3 hsz,h1,k2,zF8,hb,zB3 hc,putCells,zB3 hfit]
end
variable [Flag]
end Go.Proofs.Xx
namespace Go.Proofs.Xx
open Go Go.Proofs
def qfA (ts:List Ti) (a b:List UInt8):List Ti:=ts.filter fun t=>!decide (t.a=QY a b∧t.b=QZ a b)
open Classical in
noncomputable def qfz (r:Rl) (a b:List UInt8):Rl×Int:=if tied r.ts a b then (⟨r.us,qfA r.ts a b⟩,0) else (r,6)
variable [Flag]
end Go.Proofs.Xx
namespace Go.Proofs.Xx
open Go Go.Proofs
theorem yN (a b:List UInt8):QY a b=QY b a:=by
 unfold QY;rcases ZJ a b with h|h|h
 ·rw [if_neg (jF h),if_pos h]
 ·subst h;rfl
 ·rw [if_pos h,if_neg (jF h)]
theorem yO (a b:List UInt8):QZ a b=QZ b a:=by
 unfold QZ;rcases ZJ a b with h|h|h
 ·rw [if_pos h,if_neg (jF h)]
 ·subst h;rfl
 ·rw [if_neg (jF h),if_pos h]
theorem qcF {a b:List UInt8} (h:a≠b):ji (QY a b) (QZ a b)∧((QY a b=a∧QZ a b=b)∨(QY a b=b∧QZ a b=a)):=by
 rcases ZJ a b with q|q|q
 ·rw [Zi q,Zj q];exact ⟨q,.inl ⟨rfl,rfl⟩⟩
 ·exact absurd q h
 ·rw [yN,yO,Zi q,Zj q];exact ⟨q,.inr ⟨rfl,rfl⟩⟩
theorem qdU {ts:List Ti} (hs:TS ts) (y:Ti):∃ i,Plc ts y i:=by
 induction ts with
 | nil=>exact ⟨0,zA3 _,fun j hj=>absurd hj (zB7 _),fun j _ hj=>absurd hj (zB7 _)⟩
 | cons x r ih =>
  by_cases h:Ze x y
  ·obtain ⟨i,i1,i2,i3⟩:=ih (zH5.1 hs).2;refine ⟨i+1,by simp;exact i1,fun j hj=>?_,fun j h1 h2=>?_⟩
   ·cases j with
    | zero=>exact h
    | succ j=>exact i2 j (by omega)
   ·cases j with
    | zero=>omega
    | succ j=>exact i3 j (by omega) (by simp at h2;omega)
  ·refine ⟨0,zB0 _,fun j hj=>absurd hj (zB7 _),fun j _ hj q=>h ?_⟩;rcases zF3 j with z|z
   ·subst z;exact q
   ·exact Qw (hs.lt z hj) q
theorem Plc.kind {ts:List Ti} {a b:List UInt8} {k k':Int} {i:Nat} (h:Plc ts ⟨a,b,k⟩ i):Plc ts ⟨a,b,k'⟩ i:=⟨h.1,h.2.1,h.2.2⟩
theorem qdI {ts:List Ti} {a b:List UInt8} {k:Int} (hs:TS ts) (hn:¬ tied ts a b):∃ i,i≤ts.length∧yg ts (Qe a b k)=ts.take i ++ Qe a b k :: ts.drop i∧TS (yg ts (Qe a b k)):=by
 obtain ⟨i,hi⟩:=qdU hs ⟨QY a b,QZ a b,0⟩;have e:=Xg (t:=Qe a b k) (hi.kind (k':=k));refine ⟨i,hi.1,e,?_⟩;rw [e,TS,List.pairwise_append];refine ⟨List.Pairwise.sublist (List.take_sublist i ts) hs,zH5.2 ⟨fun y hy=>?_,List.Pairwise.sublist (List.drop_sublist i ts) hs⟩,fun x hx y hy=>?_⟩
 ·obtain ⟨j,hj,rfl⟩:=qN.1 hy;simp only [zB4] at hj;have ej:(ts.drop i).getD j default=ts.getD (i+j) default:=by
   rw [zA2,zA2,zC3]
  rw [ej];rcases Wq (ts.getD (i+j) default) (Qe a b k) with q|q|q
  ·exact absurd q (hi.2.2 (i+j) (by omega) (by omega))
  ·exact absurd ⟨_,qK (show i+j<ts.length by omega),q⟩ hn
  ·exact q
 ·obtain ⟨j,hj,rfl⟩:=qN.1 hx;simp only [zA9] at hj;rw [getD_take (by omega)];have h1:=hi.2.1 j (by omega);rcases zE7.1 hy with rfl|hy
  ·exact h1
  ·obtain ⟨m,hm,rfl⟩:=qN.1 hy;simp only [zB4] at hm;have ej:(ts.drop i).getD m default=ts.getD (i+m) default:=by
    rw [zA2,zA2,zC3]
   rw [ej];exact hs.lt (by omega) (by omega)
theorem RO.tie {r:Rl} (H:RO r) {a b:List UInt8} {k:Int} (h:(QL r a b k).2=0):RO (QL r a b k).1:=by
 obtain ⟨h1,h2,h3,h4,h5,h6,h7⟩:=Jb h;rw [h7];obtain ⟨i,hi,e,hs⟩:=qdI (k:=k) H.ts h5;obtain ⟨m1,m2⟩:=qcF h2;refine ⟨H.chk,H.nd,H.l64,hs,fun t ht=>?_,?_⟩
 ·simp only at ht;rw [e] at ht;have:t∈r.ts∨t=Qe a b k:=by
   rcases zB8.1 ht with q|q
   ·exact .inl (List.mem_of_mem_take q)
   ·rcases zE7.1 q with q|q
    ·exact .inr q
    ·exact .inl (List.mem_of_mem_drop q)
  rcases this with q|rfl
  ·exact H.tt t q
  ·refine ⟨m1,h1,?_⟩;rcases m2 with ⟨e1,e2⟩|⟨e1,e2⟩
   ·show Xx.gat r.us (QY a b)≠none∧Xx.gat r.us (QZ a b)≠none
    rw [e1,e2];exact ⟨h3,h4⟩
   ·show Xx.gat r.us (QY a b)≠none∧Xx.gat r.us (QZ a b)≠none
    rw [e1,e2];exact ⟨h4,h3⟩
 ·simp only;rw [e];simp;omega
def qeE (ts:List Ti) (a b:List UInt8):Option Ti:=ts.find? fun t=>decide (t.a=QY a b∧t.b=QZ a b)
def tkd (o:Option Ti):Value:=match o with|some t=>.tuple #[.int .u8 t.k,.bool true]|none=>.tuple #[.int .u8 0,.bool false]
variable [Flag]
end Go.Proofs.Xx
namespace Go.Proofs.Xx
open Go Go.Proofs
variable [Flag]
end Go.Proofs.Xx
namespace Go.Proofs.Xx
open Go Go.Proofs
variable [Flag]
end Go.Proofs.Xx
namespace Go.Proofs.Xx
open Go Go.Proofs
section
variable {P:Program} {X:Extern} {sz:Nat} {L L':Ks} {h h0:AH} {rs:List Rs} {ops:Array Oper} {os:List Oper} {o:Oper} {R:Ks→AH→Prop}
end
variable [Flag]
end Go.Proofs.Xx
namespace Go.Proofs.Xx
open Go Go.Proofs
def qe5 (n:List UInt8) (t:Ti):Prop:=t.a=n∨t.b=n
instance (n:List UInt8) (t:Ti):Decidable (qe5 n t):=inferInstanceAs (Decidable (_∨_))
def cvN (b:Nat):Value:=.func (.func 92) #[] #[.pointer (some ⟨b,0,none⟩)]
def qfY (n:List UInt8) (t:Ti):Bool:=!decide (qe5 n t)
variable [Flag]
end Go.Proofs.Xx
namespace Go.Proofs.Xx
open Go Go.Proofs
variable [Flag]
end Go.Proofs.Xx
namespace Go.Proofs.Xx
open Go Go.Proofs
def cvC (b:Nat):Value:=.func (.func 78) #[] #[.pointer (some ⟨b,0,none⟩)]
def qfZ (g:JO) (t:List UInt8):Bool:=decide (t∈g.tg)
def qf7 (r:Rl) (a b:List UInt8):List (List UInt8):=match gat r.us a,gat r.us b with
 | some i,some j=>(r.us.getD i default).tg.filter fun t=>decide (t∈(r.us.getD j default).tg)
 | _,_=>[]
def spk (r:Rl) (a b:List UInt8):Prop:=∃ i j,gat r.us a=some i∧gat r.us b=some j∧∃ t,t∈(r.us.getD i default).tg∧t∈(r.us.getD j default).tg
theorem spk.symm {r:Rl} {a b:List UInt8} (h:spk r a b):spk r b a:=by
 obtain ⟨i,j,h1,h2,t,h3,h4⟩:=h;exact ⟨j,i,h2,h1,t,h4,h3⟩
theorem spk.kn {r:Rl} {a b:List UInt8} (h:spk r a b):gat r.us a≠none∧gat r.us b≠none:=by
 obtain ⟨i,j,h1,h2,t,h3,h4⟩:=h;rw [h1,h2];simp
variable [Flag]
end Go.Proofs.Xx
namespace Go.Proofs.Xx
open Go Go.Proofs
theorem SS.eq:∀ {l m:List (List UInt8)},SS l→SS m→(∀ x,x∈l↔x∈m)→l=m:=by
 intro l m hl hm h;have le:l.length=m.length:=Nat.le_antisymm (Qs hl.nodup fun x hx=>(h x).1 hx) (Qs hm.nodup fun x hx=>(h x).2 hx);apply JG le
 intro i;induction i using Nat.strongRecOn with
 | _ i ih =>
  intro hi;have key:∀ {a b:List (List UInt8)},SS a→SS b→(∀ x,x∈a→x∈b)→i<a.length→(∀ j,j<i→j<a.length→a.getD j default=b.getD j default)→¬ ji (a.getD i default) (b.getD i default):=fun {a b} ha hb hab hi hj q=>by
   obtain ⟨j,j1,j2⟩:=qN.1 (hab _ (qK hi));rcases zA7 j i with z|z
   ·have:=hj j z (by omega);have n:=ha j i z hi;rw [this,j2] at n;exact zH _ n
   ·have:=hb.le z j1;rw [j2] at this;exact this q
  have k1:=key hl hm (fun x=>(h x).1) hi fun j hj hj2=>ih j hj hj2;have k2:=key hm hl (fun x=>(h x).2) (by omega) fun j hj hj2=>(ih j hj (by omega)).symm;rcases Xe k1 with q|q
  ·exact q.symm
  ·exact absurd q k2
def btw (t:Ti) (a b:List UInt8):Prop:=(t.a=a∧t.b=b)∨(t.a=b∧t.b=a)
variable [Flag]
theorem WM {h0:AH} (w:WfH h0) (v:Value) (gs:List JO) (hr:Qy h0 v 9 eG gs) (hl:gs.length≤9223372036854775807) (n:List UInt8):Fn Tryz.prog Xh 80 [v,str n] h0 (fun u h'=>((∃ i:Nat,gat (gs.map (·.toGu)) n=some i∧i<gs.length∧u = .int .i64 i)∨(gat (gs.map (·.toGu)) n=none∧u = .int .i64 (-1)))∧Hs h0 h' []):=by
 have S:=Hs.start w;refine zB rfl Tryz.func80 rfl rfl ?_;all_goals (repeat' (first|refine qA ?_|refine qi ?_|(refine qf 0 ?_;refine mv ?_;refine qg ?_)|(refine qf 1 ?_;refine mv ?_;refine qg ?_)))
 refine zL (σ:=Nat) (fun i h'=>Hs h0 h' []∧i≤gs.length∧∀ j,j<i→(gs.getD j default).name≠n) (fun i=>gs.length - i) (fun i=>[(0,v),(1,str n),(5,.int .i64 i)]) 0 zh ?_ ?_
 ·exact ⟨S,zB0 _,fun j hj=>absurd hj (zB7 _)⟩
 clear S;rintro i h ⟨S,g1,g2⟩;have e:∀ j,j<gs.length→((gs.map (fun g:JO=>g.toGu)).getD j default).name=(gs.getD j default).name:=fun j hj=>by rw [zF (f:=fun g:JO=>g.toGu) hj]
 all_goals (repeat' (first|refine qA ?_|refine qw rfl ?_|refine qx ?_|refine qy ?_|refine qi ?_|(refine qf 2 ?_;refine mv ?_;refine mv ?_;refine ZH S ?_;(first|(refine cS ?_ ?_<;>intro hc))<;>(refine qg ?_))))
 ·have hil:i<gs.length:=by omega
  all_goals (repeat' (first|refine qA ?_|refine qw rfl ?_|refine qx ?_|(refine qf 4 ?_;refine mv ?_;refine mv ?_;refine Qd S ?_;refine fB S ?_;refine qZ S ?_;refine mv ?_;(refine tS ?_ ?_<;>intro hc)<;>(refine qg ?_))|(refine qf 5 ?_;refine mv ?_;refine mv ?_;refine qg ?_)))
  all_goals (try simp only [zA0] at *)
  ·refine qE ⟨_,rfl,?_⟩;refine ⟨.inl ⟨i,?_,hil,rfl⟩,S⟩;cases hq:gat (gs.map (·.toGu)) n with
   | none=>exact absurd (by rw [e i hil];exact hc) (Qh.1 hq _ (qK (show i<(gs.map (·.toGu)).length by simp;exact hil)))
   | some k =>
    obtain ⟨h1,h2,h3⟩:=YL hq;simp only [zC5] at h1;rw [e k h1] at h2;rcases zE6 i k with q|q|q
    ·exact absurd (by rw [e i hil];exact hc) (h3 i q)
    ·rw [q]
    ·exact absurd h2 (g2 k q)
  ·all_goals (repeat' (first|(refine qf 3 ?_;refine mv ?_;refine ad ?_;refine mv ?_;refine qg ?_)))
   refine ⟨i+1,?_,?_,zh⟩
   ·show gs.length - (i+1)<gs.length - i;omega
   ·exact ⟨S,by omega,J5 g2 hc⟩
 ·skip
  all_goals (repeat' (first|(refine qf 6 ?_;refine mv ?_;refine qg ?_)))
  refine qE ⟨_,rfl,?_⟩;refine ⟨.inr ⟨Qh.2 fun g hg=>?_,rfl⟩,S⟩;obtain ⟨j,hj,rfl⟩:=qN.1 hg;simp only [zC5] at hj;rw [e j hj];exact g2 j (by omega)
end Go.Proofs.Xx
namespace Go.Proofs.Xx
open Go Go.Proofs
theorem qdL {r:Rl} {i:Nat} (h:¬ ((r.ts.getD i default).k=1∨(r.ts.getD i default).k=2)∨¬ ji (r.ts.getD i default).a (r.ts.getD i default).b∨(0<i∧Ze (r.ts.getD i default) (r.ts.getD (i - 1) default))):XP r i=23:=by
 unfold XP;split
 ·rename_i q
  rcases h with h|h|h
  ·unfold QL;rw [if_pos (.inl (by omega))]
  ·exact absurd q.1 h
  ·rcases q.2 with z|z
   ·omega
   ·exact absurd h.2 z
 ·rfl
structure TGd (r:Rl) (i:Nat):Prop where
 k:(r.ts.getD i default).k=1∨(r.ts.getD i default).k=2
 lt:ji (r.ts.getD i default).a (r.ts.getD i default).b
 pl:i=0∨¬ Ze (r.ts.getD i default) (r.ts.getD (i - 1) default)
theorem TGd.eq {r:Rl} {i:Nat} (g:TGd r i):XP r i=(QL ⟨r.us,r.ts.take i⟩ (r.ts.getD i default).a (r.ts.getD i default).b (r.ts.getD i default).k).2:=by
 unfold XP;rw [if_pos ⟨g.lt,g.pl⟩]
theorem TGd.nk {r:Rl} {i:Nat} (g:TGd r i):¬ (((r.ts.getD i default).k≠1∧(r.ts.getD i default).k≠2)∨(r.ts.getD i default).a=(r.ts.getD i default).b):=by
 rintro (q|q)
 ·have:=g.k;omega
 ·exact WH g.lt q
theorem TGd.e6 {r:Rl} {i:Nat} (g:TGd r i) (h:gat r.us (r.ts.getD i default).a=none∨gat r.us (r.ts.getD i default).b=none):XP r i=6:=by
 rw [g.eq,vS (r:=⟨r.us,r.ts.take i⟩) g.nk h]
theorem TGd.tied {r:Rl} {i:Nat} (g:TGd r i) (hi:i<r.ts.length) (hp:TS (r.ts.take i)):tied (r.ts.take i) (r.ts.getD i default).a (r.ts.getD i default).b↔(0<i∧¬ Ze (r.ts.getD (i - 1) default) (r.ts.getD i default)):=by
 unfold Xx.tied;rw [Zi g.lt,Zj g.lt];have hl:(r.ts.take i).length=i:=by simp;omega
 constructor
 ·rintro ⟨t,h1,h2,h3⟩;obtain ⟨j,j1,j2⟩:=qN.1 h1;rw [hl] at j1;rw [getD_take j1] at j2;refine ⟨by omega,fun q=>?_⟩;have hb:Ze t (r.ts.getD i default):=by
   rcases Nat.eq_or_lt_of_le (show j≤i - 1 by omega) with e|e
   ·rw [← j2,e];exact q
   ·have:=hp.lt e (by rw [hl];omega);rw [getD_take j1,getD_take (by omega),j2] at this;exact Qw this q
  rcases hb with q|q
  ·rw [h2] at q;exact zH _ q
  ·rw [h3] at q;exact zH _ q.2
 ·rintro ⟨h0,h1⟩;rcases Wq (r.ts.getD (i - 1) default) (r.ts.getD i default) with q|q|q
  ·exact absurd q h1
  ·refine ⟨r.ts.getD (i - 1) default,?_,q⟩;have:=qK (l:=r.ts.take i) (i:=i - 1) (by rw [hl];omega);rwa [getD_take (by omega)] at this
  ·exact absurd q (g.pl.resolve_left (by omega))
theorem TGd.e5 {r:Rl} {i:Nat} (g:TGd r i) (hi:i<r.ts.length) (hp:TS (r.ts.take i)) (h:¬ (gat r.us (r.ts.getD i default).a=none∨gat r.us (r.ts.getD i default).b=none)) (hb:0<i∧¬ Ze (r.ts.getD (i - 1) default) (r.ts.getD i default)):XP r i=5:=by
 rw [g.eq,Gz (r:=⟨r.us,r.ts.take i⟩) g.nk h ((g.tied hi hp).2 hb)]
theorem TGd.e7 {r:Rl} {i:Nat} (g:TGd r i) (hi:i<r.ts.length) (hp:TS (r.ts.take i)) (h:¬ (gat r.us (r.ts.getD i default).a=none∨gat r.us (r.ts.getD i default).b=none)) (hb:¬ (0<i∧¬ Ze (r.ts.getD (i - 1) default) (r.ts.getD i default))) (h7:256≤i):XP r i=7:=by
 rw [g.eq,Gy (r:=⟨r.us,r.ts.take i⟩) g.nk h (fun q=>hb ((g.tied hi hp).1 q)) (by simp;omega)]
theorem TGd.e0 {r:Rl} {i:Nat} (g:TGd r i) (hi:i<r.ts.length) (hp:TS (r.ts.take i)) (h:¬ (gat r.us (r.ts.getD i default).a=none∨gat r.us (r.ts.getD i default).b=none)) (hb:¬ (0<i∧¬ Ze (r.ts.getD (i - 1) default) (r.ts.getD i default))) (h7:¬ 256≤i):XP r i=0:=by
 rw [g.eq,Wv (r:=⟨r.us,r.ts.take i⟩) g.nk h (fun q=>hb ((g.tied hi hp).1 q)) (by simp;omega)]
variable [Flag]
theorem vI {h0:AH} (w:WfH h0) (x y:Ti):Fn Tryz.prog Xh 81 [tiV x,tiV y] h0 (fun u h'=>ZF u (Ze x y)∧Hs h0 h' []):=by
 have S:=Hs.start w;unfold tiV;refine zB rfl Tryz.func81 rfl rfl ?_;all_goals (repeat' (first|refine qA ?_|refine qw rfl ?_|refine qx ?_|refine qy ?_|refine qi ?_|refine qj ?_|refine qo ?_|(refine qf 0 ?_;(refine bx S ?_;clear S;intro b h S);(refine bx S ?_;clear S;intro b h S);refine mv ?_;refine qg ?_)|(refine qf 1 ?_;(first|refine vl ?_|refine fB S ?_|refine fS S rfl rfl ?_|refine fA ?_);(first|refine lB S rfl rfl ?_|refine qH S rfl rfl ?_|refine qZ S ?_|refine lH S ?_);(first|refine vl ?_|refine fB S ?_|refine fS S rfl rfl ?_|refine fA ?_);(first|refine lB S rfl rfl ?_|refine qH S rfl rfl ?_|refine qZ S ?_|refine lH S ?_);(refine tO ?_ ?_<;>intro hc)<;>(refine mv ?_;(first|refine off ?_|(first|refine vl ?_|refine fB S ?_|refine fS S rfl rfl ?_|refine fA ?_));(first|refine off ?_|(first|refine lB S rfl rfl ?_|refine qH S rfl rfl ?_|refine qZ S ?_|refine lH S ?_));(first|refine off ?_|(first|refine vl ?_|refine fB S ?_|refine fS S rfl rfl ?_|refine fA ?_));(first|refine off ?_|(first|refine lB S rfl rfl ?_|refine qH S rfl rfl ?_|refine qZ S ?_|refine lH S ?_));(first|refine off ?_|(refine tS ?_ ?_<;>intro hc))<;>((first|refine off ?_|refine mv ?_);(first|refine off ?_|(first|refine vl ?_|refine fB S ?_|refine fS S rfl rfl ?_|refine fA ?_));(first|refine off ?_|(first|refine lB S rfl rfl ?_|refine qH S rfl rfl ?_|refine qZ S ?_|refine lH S ?_));(first|refine off ?_|(first|refine vl ?_|refine fB S ?_|refine fS S rfl rfl ?_|refine fA ?_));(first|refine off ?_|(first|refine lB S rfl rfl ?_|refine qH S rfl rfl ?_|refine qZ S ?_|refine lH S ?_));(first|refine off ?_|(refine tO ?_ ?_<;>intro hc))<;>((first|refine off ?_|refine vl ?_);refine vl ?_;refine mv ?_;refine qg ?_))))))
 all_goals (refine qE ⟨_,rfl,?_⟩)
 all_goals first
  | exact ⟨.inl ⟨rfl,by unfold Ze;grind⟩,S.drop⟩
  | exact ⟨.inr ⟨rfl,by unfold Ze;grind⟩,S.drop⟩
theorem qca {h0:AH} (w:WfH h0) (v:RlV) (r:Rl) (HR:RlOk h0 v r):Fn Tryz.prog Xh 31 [v.val] h0 (fun u h'=>ZF u (r.us.length≤200∧r.ts.length≤600)∧Hs h0 h' []):=by
 have S:=Hs.start w;have hrg:=HR.rg;have hrt:=HR.rt;have hgl:=HR.len;have hlg:=HR.lg;have hlt:=HR.lt;unfold RlV.val;refine zB rfl Tryz.func31 rfl rfl ?_;all_goals (repeat' (first|refine qA ?_|refine qw rfl ?_|refine qx ?_|refine qy ?_|refine qi ?_|refine qj ?_|refine qo ?_|(refine qf 0 ?_;(refine bx S ?_;clear S;intro b h S);refine mv ?_;refine qg ?_)|(refine qf 1 ?_;(first|refine vl ?_|refine fB S ?_|refine fS S rfl rfl ?_|refine fA ?_);(first|refine lB S rfl rfl ?_|refine qH S rfl rfl ?_|refine qZ S ?_|refine lH S ?_);(first|refine ZH S ?_|refine XD S rfl rfl ?_);(first|refine cT ?_|refine cF ?_|(refine cS ?_ ?_<;>intro hc))<;>(refine mv ?_;(first|refine off ?_|(first|refine vl ?_|refine fB S ?_|refine fS S rfl rfl ?_|refine fA ?_));(first|refine off ?_|(first|refine lB S rfl rfl ?_|refine qH S rfl rfl ?_|refine qZ S ?_|refine lH S ?_));(first|refine off ?_|(first|refine ZH S ?_|refine XD S rfl rfl ?_));(first|refine off ?_|(first|refine cT ?_|refine cF ?_|(refine cS ?_ ?_<;>intro hc)))<;>(refine vl ?_;refine mv ?_;refine qg ?_)))))
 all_goals (refine qE ⟨_,rfl,?_⟩)
 all_goals first
  | exact ⟨.inl ⟨rfl,by omega⟩,S.drop⟩
  | exact ⟨.inr ⟨rfl,by omega⟩,S.drop⟩
end Go.Proofs.Xx
namespace Go.Proofs.Xx
open Go Go.Proofs
variable [Flag]
structure RlFit (h:AH) (v:RlV) (r:Rl):Prop where
 ok:RlOk h v r
 tg:∀ i,i<v.gs.length→(v.gs.getD i default).tg.length≤8796093021952
 lg:r.us.length*112≤140737488351232
 lt:r.ts.length*40≤140737488351232
theorem RlFit.ext {h h':AH} {v:RlV} {r:Rl} (a:RlFit h v r) (w:WfH h) (x:Ext h h'):RlFit h' v r:=⟨a.ok.ext w x,a.tg,a.lg,a.lt⟩
end Go.Proofs.Xx
