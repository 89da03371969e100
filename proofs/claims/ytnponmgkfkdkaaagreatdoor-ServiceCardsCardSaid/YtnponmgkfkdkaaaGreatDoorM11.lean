/-
  Swapping within a range of a list;ranges in order.
-/
import Derived.Test.YtnponmgkfkdkaaaGreatDoorM8
import Derived.Test.YtnponmgkfkdkaaaGreatDoorM10
import Derived.Test.YtnponmgkfkdkaaaGreatDoorM9
set_option linter.unusedSimpArgs false
set_option linter.unusedVariables false
set_option linter.unusedSectionVars false
set_option maxRecDepth 100000
set_option maxHeartbeats 4000000
namespace Go.Proofs.Xx
section
variable {α:Type} [Inhabited α]
theorem PM (l:List α) {i:Nat} (x:α) (h:i<l.length) (j:Nat):(l.set i x).getD j default=if j=i then x else l.getD j default:=by
 rw [zA2,zA2,List.getElem?_set];by_cases e:i=j
 ·subst e;rw [if_pos rfl,if_pos rfl,if_pos h];rfl
 ·rw [if_neg e,if_neg (fun q=>e q.symm)]
def swp (l:List α) (i j:Nat):List α:=(l.set i (l.getD j default)).set j (l.getD i default)
theorem qeU (l:List α) (i j:Nat):(swp l i j).length=l.length:=by simp [swp]
theorem swp_get {l:List α} {i j:Nat} (hi:i<l.length) (hj:j<l.length) (k:Nat):(swp l i j).getD k default=if k=j then l.getD i default else if k=i then l.getD j default else l.getD k default:=by
 unfold swp;rw [PM _ _ (by simpa using hj),PM _ _ hi]
theorem qdk {l:List α} {i j:Nat} (hi:i<l.length) (hj:j<l.length):(swp l i j).Perm l:=by
 unfold swp;have e1:l.getD i default=l[i]:=by simp [zA2,zA4 hi]
 have e2:l.getD j default=l[j]:=by simp [zA2,zA4 hj]
 rw [e1,e2];exact List.set_set_perm hi hj
inductive Sw (a b:Nat):List α→List α→Prop
 | refl (l:List α):Sw a b l l
 | step {l l':List α} (i j:Nat) (h:Sw a b l l') (hi:a≤i∧i<b) (hj:a≤j∧j<b) (hb:b≤l'.length):Sw a b l (swp l' i j)
theorem Sw.len {a b:Nat} {l l':List α} (h:Sw a b l l'):l'.length=l.length:=by
 induction h with
 | refl=>rfl
 | step i j h hi hj hb ih=>rw [qeU,ih]
theorem Sw.perm {a b:Nat} {l l':List α} (h:Sw a b l l'):l'.Perm l:=by
 induction h with
 | refl=>exact .refl _
 | step i j h hi hj hb ih=>exact (qdk (by omega) (by omega)).trans ih
theorem Sw.out {a b:Nat} {l l':List α} (h:Sw a b l l') {k:Nat} (hk:k<a∨b≤k):l'.getD k default=l.getD k default:=by
 induction h with
 | refl=>rfl
 | step i j h hi hj hb ih=>rw [swp_get (by omega) (by omega),if_neg (by omega),if_neg (by omega),ih]
theorem Sw.in_ {a b:Nat} {l l':List α} (h:Sw a b l l'):∀ {k:Nat},a≤k→k<b→∃ m,a≤m∧m<b∧l'.getD k default=l.getD m default:=by
 induction h with
 | refl=>intro k h1 h2;exact ⟨k,h1,h2,rfl⟩
 | step i j h hi hj hb ih =>
  intro k h1 h2;rw [swp_get (by omega) (by omega)];split
  ·exact ih hi.1 hi.2
  ·split
   ·exact ih hj.1 hj.2
   ·exact ih h1 h2
theorem Sw.trans {a b:Nat} {l m n:List α} (h:Sw a b l m) (g:Sw a b m n):Sw a b l n:=by
 induction g with
 | refl=>exact h
 | step i j g hi hj hb ih=>exact .step i j ih hi hj hb
theorem Sw.mono {a b a' b':Nat} {l m:List α} (h:Sw a b l m) (ha:a'≤a) (hb:b≤b') (hl:b'≤l.length):Sw a' b' l m:=by
 induction h with
 | refl=>exact .refl _
 | step i j g hi hj hbl ih =>
  exact .step i j ih ⟨by omega,by omega⟩ ⟨by omega,by omega⟩ (by rw [g.len];exact hl)
theorem Sw.one {a b:Nat} {l:List α} (i j:Nat) (hi:a≤i∧i<b) (hj:a≤j∧j<b) (hb:b≤l.length):Sw a b l (swp l i j):=.step i j (.refl l) hi hj hb
structure WOrd (lt:α→α→Prop):Prop where
 irr:∀ x,¬ lt x x
 tr:∀ {x y z},lt x y→lt y z→lt x z
 ntr:∀ {x y z},¬ lt y x→¬ lt z y→¬ lt z x
theorem WOrd.asym {lt:α→α→Prop} (W:WOrd lt) {x y:α} (h:lt x y):¬ lt y x:=fun g=>W.irr x (W.tr h g)
def Srt (lt:α→α→Prop) (a b:Nat) (l:List α):Prop:=∀ i j,a≤i→i<j→j<b→¬ lt (l.getD j default) (l.getD i default)
theorem Srt.adj {lt:α→α→Prop} (W:WOrd lt) {a b:Nat} {l:List α} (h:∀ i,a≤i→i+1<b→¬ lt (l.getD (i+1) default) (l.getD i default)):Srt lt a b l:=by
 intro i j h1 h2 h3;induction j with
 | zero=>omega
 | succ j ih =>
  rcases zA7 i j with q|q
  ·exact W.ntr (ih q (by omega)) (h j (by omega) h3)
  ·have:i=j:=by omega
   subst this;exact h i h1 h3
def InsI (lt:α→α→Prop) (a i j:Nat) (l:List α):Prop:=∀ p q,a≤p→p<q→q≤i→q≠j→¬ lt (l.getD q default) (l.getD p default)
theorem InsI.start {lt:α→α→Prop} {a i:Nat} {l:List α} (h:Srt lt a i l):InsI lt a i i l:=fun p q h1 h2 h3 h4=>h p q h1 h2 (by omega)
theorem InsI.next {lt:α→α→Prop} (W:WOrd lt) {a i j:Nat} {l:List α} (h:InsI lt a i j l) (hj:a<j) (hji:j≤i) (hl:i<l.length) (hc:lt (l.getD j default) (l.getD (j - 1) default)):InsI lt a i (j - 1) (swp l j (j - 1)):=by
 intro p q h1 h2 h3 h4;have g:=swp_get (l:=l) (i:=j) (j:=j - 1) (by omega) (by omega);rw [g q,g p,if_neg h4];by_cases e1:q=j
 ·subst e1;rw [if_pos rfl];by_cases e2:p=q - 1
  ·rw [if_pos e2];exact W.asym hc
  ·rw [if_neg e2,if_neg (by omega)];exact h p (q - 1) h1 (by omega) (by omega) (by omega)
 ·rw [if_neg e1];by_cases e2:p=j - 1
  ·rw [if_pos e2];exact h j q (by omega) (by omega) h3 e1
  ·rw [if_neg e2];by_cases e3:p=j
   ·rw [if_pos e3];exact h (j - 1) q (by omega) (by omega) h3 e1
   ·rw [if_neg e3];exact h p q h1 h2 h3 e1
theorem InsI.done {lt:α→α→Prop} (W:WOrd lt) {a i j:Nat} {l:List α} (h:InsI lt a i j l) (hc:j≤a∨¬ lt (l.getD j default) (l.getD (j - 1) default)):Srt lt a (i+1) l:=by
 intro p q h1 h2 h3;by_cases e:q=j
 ·subst e;rcases hc with hc|hc
  ·omega
  ·by_cases e2:p=q - 1
   ·rw [e2];exact hc
   ·exact W.ntr (h p (q - 1) h1 (by omega) (by omega) (by omega)) hc
 ·exact h p q h1 h2 (by omega) e
def GI (lt:α→α→Prop) (f hi k:Nat) (l:List α):Prop :=
 (2*k+1<hi→¬ lt (l.getD (f+k) default) (l.getD (f+(2*k+1)) default))∧(2*k+2<hi→¬ lt (l.getD (f+k) default) (l.getD (f+(2*k+2)) default))
def Heap (lt:α→α→Prop) (f lo hi:Nat) (l:List α):Prop:=∀ k,lo≤k→GI lt f hi k l
def SiftI (lt:α→α→Prop) (f lo hi root:Nat) (l:List α):Prop :=
 (∀ k,lo≤k→k≠root→GI lt f hi k l)∧∀ k,lo≤k→(root=2*k+1∨root=2*k+2)→∀ c,(c=2*root+1∨c=2*root+2)→c<hi→¬ lt (l.getD (f+k) default) (l.getD (f+c) default)
theorem SiftI.start {lt:α→α→Prop} {f lo hi:Nat} {l:List α} (h:Heap lt f (lo+1) hi l):SiftI lt f lo hi lo l:=⟨fun k h1 h2=>h k (by omega),fun k h1 h2=>by omega⟩
theorem SiftI.done {lt:α→α→Prop} {f lo hi root:Nat} {l:List α} (h:SiftI lt f lo hi root l) (hc:GI lt f hi root l):Heap lt f lo hi l:=fun k h1=>by
 by_cases e:k=root
 ·subst e;exact hc
 ·exact h.1 k h1 e
theorem SiftI.next {lt:α→α→Prop} (W:WOrd lt) {f lo hi root c:Nat} {l:List α} (h:SiftI lt f lo hi root l) (hr:lo≤root) (hcc:c=2*root+1∨c=2*root+2) (hch:c<hi) (hl:f+hi≤l.length)
 (hm:∀ d,(d=2*root+1∨d=2*root+2)→d<hi→¬ lt (l.getD (f+c) default) (l.getD (f+d) default)) (hc:lt (l.getD (f+root) default) (l.getD (f+c) default)) :
 SiftI lt f lo hi c (swp l (f+root) (f+c)):=by
 have g:=swp_get (l:=l) (i:=f+root) (j:=f+c) (by omega) (by omega);have at_c:(swp l (f+root) (f+c)).getD (f+c) default=l.getD (f+root) default:=by rw [g,if_pos rfl]
 have at_r:(swp l (f+root) (f+c)).getD (f+root) default=l.getD (f+c) default:=by rw [g,if_neg (by omega),if_pos rfl]
 have at_o:∀ k,k≠c→k≠root→(swp l (f+root) (f+c)).getD (f+k) default=l.getD (f+k) default:=fun k h1 h2=>by rw [g,if_neg (by omega),if_neg (by omega)]
 refine ⟨fun k h1 h2=>?_,fun k h1 h2 d hd hdh=>?_⟩
 ·by_cases e:k=root
  ·subst e;refine ⟨fun q=>?_,fun q=>?_⟩
   ·rw [at_r];by_cases e1:2*k+1=c
    ·rw [e1,at_c];exact W.asym hc
    ·rw [at_o _ e1 (by omega)];exact hm _ (.inl rfl) q
   ·rw [at_r];by_cases e1:2*k+2=c
    ·rw [e1,at_c];exact W.asym hc
    ·rw [at_o _ e1 (by omega)];exact hm _ (.inr rfl) q
  ·have hk:=h.1 k h1 e;rw [GI,at_o k h2 e];refine ⟨fun q=>?_,fun q=>?_⟩
   ·by_cases e1:2*k+1=root
    ·rw [e1,at_r];exact h.2 k h1 (.inl e1.symm) c hcc hch
    ·by_cases e2:2*k+1=c
     ·omega
     ·rw [at_o _ e2 e1];exact hk.1 q
   ·by_cases e1:2*k+2=root
    ·rw [e1,at_r];exact h.2 k h1 (.inr e1.symm) c hcc hch
    ·by_cases e2:2*k+2=c
     ·omega
     ·rw [at_o _ e2 e1];exact hk.2 q
 ·have e:k=root:=by omega
  subst e;rw [at_r,at_o d (by omega) (by omega)];have hk:=h.1 c (by omega) (by omega);rcases hd with hd|hd
  ·subst hd;exact hk.1 hdh
  ·subst hd;exact hk.2 hdh
theorem Heap.max {lt:α→α→Prop} (W:WOrd lt) {f hi:Nat} {l:List α} (h:Heap lt f 0 hi l) (k:Nat) (hk:k<hi):¬ lt (l.getD (f+0) default) (l.getD (f+k) default):=by
 induction k using Nat.strongRecOn with
 | _ k ih =>
  rcases zF4 k with e|e
  ·subst e;exact W.irr _
  ·have hp:=h ((k - 1) / 2) (zB0 _);have hi':=ih ((k - 1) / 2) (by omega) (by omega);rcases (by omega:k=2*((k - 1) / 2)+1∨k=2*((k - 1) / 2)+2) with q|q
   ·have:=hp.1 (by omega);rw [← q] at this;exact W.ntr this hi'
   ·have:=hp.2 (by omega);rw [← q] at this;exact W.ntr this hi'
def HeapI (lt:α→α→Prop) (f i n:Nat) (l:List α):Prop:=Heap lt f 0 i l∧∀ p q,p<q→i≤q→q<n→¬ lt (l.getD (f+q) default) (l.getD (f+p) default)
theorem HeapI.pop {lt:α→α→Prop} (W:WOrd lt) {f i n:Nat} {l l':List α} (h:HeapI lt f (i+1) n l) (hin:i<n) (hl:f+n≤l.length) (s:Sw f (f+i) (swp l f (f+i)) l') (hh:Heap lt f 0 i l'):HeapI lt f i n l':=by
 refine ⟨hh,fun p q h1 h2 h3=>?_⟩;have g:=swp_get (l:=l) (i:=f) (j:=f+i) (by omega) (by omega);have hq:l'.getD (f+q) default=if q=i then l.getD f default else l.getD (f+q) default:=by
  rw [s.out (by omega),g];by_cases e:q=i
  ·rw [if_pos (by omega),if_pos e]
  ·rw [if_neg (by omega),if_neg (by omega),if_neg e]
 rw [hq];have hp:∃ m,m<n∧(m≤i∨m=p)∧m≤q∧(m<q∨q=i)∧l'.getD (f+p) default=l.getD (f+m) default:=by
  rcases zA7 p i with q1|q1
  ·obtain ⟨m,m1,m2,m3⟩:=s.in_ (k:=f+p) (by omega) (by omega);rw [g] at m3;rw [if_neg (by omega)] at m3;by_cases e:m=f
   ·rw [if_pos e] at m3;exact ⟨i,by omega,.inl (zA3 _),by omega,by omega,m3⟩
   ·rw [if_neg e] at m3;exact ⟨m - f,by omega,.inl (by omega),by omega,by omega,by rw [m3];congr 1;omega⟩
  ·rw [s.out (by omega),g];by_cases e:p=i
   ·refine ⟨0,by omega,.inl (by omega),by omega,by omega,?_⟩;rw [if_pos (by omega)];rfl
   ·exact ⟨p,by omega,.inr rfl,by omega,by omega,by rw [if_neg (by omega),if_neg (by omega)]⟩
 obtain ⟨m,m1,m2,m3,m4,m5⟩:=hp;rw [m5];by_cases e:q=i
 ·rw [if_pos e];exact Heap.max W h.1 m (by omega)
 ·rw [if_neg e];exact h.2 m q (by omega) (by omega) h3
def DoneI (lt:α→α→Prop) (a b a' b':Nat) (l:List α):Prop:=∀ i j,a≤i→i<j→j<b→(i<a'∨b'≤j)→¬ lt (l.getD j default) (l.getD i default)
theorem DoneI.start {lt:α→α→Prop} {a b:Nat} {l:List α}:DoneI lt a b a b l:=fun i j h1 h2 h3 h4=>by omega
theorem DoneI.sw {lt:α→α→Prop} {a b a' b':Nat} {l l':List α} (h:DoneI lt a b a' b' l) (s:Sw a' b' l l') (h1:a≤a') (h2:b'≤b):DoneI lt a b a' b' l':=by
 intro i j q1 q2 q3 q4;rcases q4 with q4|q4
 ·rw [s.out (k:=i) (.inl q4)];rcases zA7 j a' with q5|q5
  ·rw [s.out (.inl q5)];exact h i j q1 q2 q3 (.inl q4)
  ·rcases zA7 j b' with q6|q6
   ·obtain ⟨m,m1,m2,m3⟩:=s.in_ q5 q6;rw [m3];exact h i m q1 (by omega) (by omega) (.inl q4)
   ·rw [s.out (.inr q6)];exact h i j q1 q2 q3 (.inl q4)
 ·rw [s.out (k:=j) (.inr q4)];rcases zA7 i a' with q5|q5
  ·rw [s.out (.inl q5)];exact h i j q1 q2 q3 (.inl q5)
  ·rcases zA7 i b' with q6|q6
   ·obtain ⟨m,m1,m2,m3⟩:=s.in_ q5 q6;rw [m3];exact h m j (by omega) (by omega) q3 (.inr q4)
   ·rw [s.out (.inr q6)];exact h i j q1 q2 q3 (.inr q4)
theorem DoneI.finish {lt:α→α→Prop} {a b a' b':Nat} {l:List α} (h:DoneI lt a b a' b' l) (s:Srt lt a' b' l):Srt lt a b l:=by
 intro i j q1 q2 q3;by_cases e:i<a'∨b'≤j
 ·exact h i j q1 q2 q3 e
 ·exact s i j (by omega) q2 (by omega)
def Parted (lt:α→α→Prop) (a b m:Nat) (l:List α):Prop:=(∀ k,a≤k→k<m→lt (l.getD k default) (l.getD m default))∧∀ k,m<k→k<b→¬ lt (l.getD k default) (l.getD m default)
theorem Parted.across {lt:α→α→Prop} (W:WOrd lt) {a b m:Nat} {l:List α} (h:Parted lt a b m l) {i j:Nat} (h1:a≤i) (h2:i≤m) (h3:m≤j) (h4:j<b) (h5:i<j):¬ lt (l.getD j default) (l.getD i default):=by
 have e1:¬ lt (l.getD m default) (l.getD i default):=by
  rcases zA7 i m with q|q
  ·exact W.asym (h.1 i h1 q)
  ·have:i=m:=by omega
   subst this;exact W.irr _
 have e2:¬ lt (l.getD j default) (l.getD m default):=by
  rcases zA7 m j with q|q
  ·exact h.2 j q h4
  ·have:j=m:=by omega
   subst this;exact W.irr _
 exact W.ntr e1 e2
theorem DoneI.left {lt:α→α→Prop} (W:WOrd lt) {a b a' b' m:Nat} {l l':List α} (h:DoneI lt a b a' b' l) (p:Parted lt a' b' m l) (hm:a'≤m∧m<b') (hab:a≤a'∧b'≤b) (s:Sw a' m l l') (hs:Srt lt a' m l') (hl:b'≤l.length):DoneI lt a b (m+1) b' l':=by
 have h':=h.sw (s.mono (zA3 _) (by omega) hl) hab.1 hab.2;intro i j q1 q2 q3 q4;by_cases e:i<a'∨b'≤j
 ·exact h' i j q1 q2 q3 e
 ·rcases q4 with q4|q4
  ·rcases zA7 j m with q5|q5
   ·exact hs i j (by omega) q2 q5
   ·rw [s.out (k:=j) (.inr q5)];rcases zA7 i m with q6|q6
    ·obtain ⟨k,k1,k2,k3⟩:=s.in_ (k:=i) (by omega) q6;rw [k3];exact p.across W k1 (by omega) q5 (by omega) (by omega)
    ·rw [s.out (.inr q6)];exact p.across W (by omega) (by omega) q5 (by omega) q2
  ·omega
theorem DoneI.right {lt:α→α→Prop} (W:WOrd lt) {a b a' b' m:Nat} {l l':List α} (h:DoneI lt a b a' b' l) (p:Parted lt a' b' m l) (hm:a'≤m∧m<b') (hab:a≤a'∧b'≤b) (s:Sw (m+1) b' l l') (hs:Srt lt (m+1) b' l') (hl:b'≤l.length):DoneI lt a b a' m l':=by
 have h':=h.sw (s.mono (by omega) (zA3 _) hl) hab.1 hab.2;intro i j q1 q2 q3 q4;by_cases e:i<a'∨b'≤j
 ·exact h' i j q1 q2 q3 e
 ·rcases q4 with q4|q4
  ·omega
  ·rcases zA7 m i with q5|q5
   ·exact hs i j (by omega) q2 (by omega)
   ·rw [s.out (k:=i) (.inl (by omega))];rcases zA7 m j with q6|q6
    ·obtain ⟨k,k1,k2,k3⟩:=s.in_ (k:=j) (by omega) (by omega);rw [k3];exact p.across W (by omega) q5 (by omega) k2 (by omega)
    ·rw [s.out (.inl (by omega))];exact p.across W (by omega) q5 (by omega) (by omega) q2
theorem DoneI.eq_ {lt:α→α→Prop} (W:WOrd lt) {a b a' b' m:Nat} {l:List α} {x:α} (h:DoneI lt a b a' b' l) (hm:a'≤m∧m≤b') (h1:∀ k,a'≤k→k<m→¬ lt x (l.getD k default)) (h2:∀ k,m≤k→k<b'→lt x (l.getD k default)) (h3:∀ k,a'≤k→k<b'→¬ lt (l.getD k default) x):DoneI lt a b m b' l:=by
 intro i j q1 q2 q3 q4;by_cases e:i<a'∨b'≤j
 ·exact h i j q1 q2 q3 e
 ·rcases q4 with q4|q4
  ·exact W.ntr (h1 i (by omega) q4) (h3 j (by omega) (by omega))
  ·omega
theorem Sw.all {a b:Nat} {l l':List α} (s:Sw a b l l') {p:α→Prop} (h:∀ k,a≤k→k<b→p (l.getD k default)):∀ k,a≤k→k<b→p (l'.getD k default):=fun k h1 h2=>by
 obtain ⟨m,m1,m2,m3⟩:=s.in_ h1 h2;rw [m3];exact h m m1 m2
end
end Go.Proofs.Xx
namespace Go.Proofs.Xx
section
variable {α:Type} [Inhabited α]
def xch (a b n k:Nat):Nat:=if a≤k∧k<a+n then k+(b - a) else if b≤k∧k<b+n then k - (b - a) else k
def IsXch (a b n:Nat) (l l':List α):Prop:=∀ k,l'.getD k default=l.getD (xch a b n k) default
theorem IsXch.zero {a b:Nat} {l:List α}:IsXch a b 0 l l:=fun k=>by
 unfold xch;rw [if_neg (by omega),if_neg (by omega)]
theorem IsXch.next {a b i:Nat} {l l':List α} (h:IsXch a b i l l') (hab:a+i<b) (hl:b+i<l'.length):IsXch a b (i+1) l (swp l' (a+i) (b+i)):=fun k=>by
 rw [swp_get (by omega) hl];rw [h,h,h];unfold xch;repeat' split
 all_goals first|omega|rfl|(congr 1<;>omega)
def rot (a m b k:Nat):Nat:=if k<a then k else if k<a+(b - m) then k+(m - a) else if k<b then k - (b - m) else k
def qgj (a m b:Nat) (l l':List α):Prop:=∀ k,l'.getD k default=l.getD (rot a m b k) default
def RotI (a m b i j:Nat) (l c:List α):Prop:=∀ k,l.getD (rot a m b k) default=c.getD (rot (m - i) m (m+j) k) default
theorem RotI.start {a m b:Nat} {l:List α} (h1:a≤m) (h2:m≤b):RotI a m b (m - a) (b - m) l l:=fun k=>by
 rw [show m - (m - a)=a by omega,show m+(b - m)=b by omega]
theorem RotI.left {a m b i j:Nat} {l c c':List α} (h:RotI a m b i j l c) (hi:i≤m) (hij:j<i) (x:IsXch (m - i) m j c c'):RotI a m b (i - j) j l c':=fun k=>by
 rw [h k,x];congr 1
 unfold xch rot;repeat' split
 all_goals omega
theorem RotI.right {a m b i j:Nat} {l c c':List α} (h:RotI a m b i j l c) (hi:i≤m) (hij:i<j) (x:IsXch (m - i) (m+j - i) i c c'):RotI a m b i (j - i) l c':=fun k=>by
 rw [h k,x];congr 1
 unfold xch rot;repeat' split
 all_goals omega
theorem RotI.done {a m b i:Nat} {l c c':List α} (h:RotI a m b i i l c) (hi:i≤m) (x:IsXch (m - i) m i c c'):qgj a m b l c':=fun k=>by
 rw [h k,x];congr 1
 unfold xch rot;repeat' split
 all_goals omega
def IsUp (a k:Nat) (l l':List α):Prop:=∀ x,l'.getD x default=l.getD (if x<a then x else if x<k then x+1 else if x=k then a else x) default
theorem IsUp.start {a:Nat} {l:List α}:IsUp a a l l:=fun x=>by
 congr 1
 repeat' split
 all_goals omega
theorem IsUp.next {a k:Nat} {l l':List α} (h:IsUp a k l l') (hak:a≤k) (hl:k+1<l'.length):IsUp a (k+1) l (swp l' k (k+1)):=fun x=>by
 rw [swp_get (by omega) hl];rw [h,h,h];repeat' split
 all_goals first|omega|rfl|(congr 1<;>omega)
def IsDown (m k:Nat) (l l':List α):Prop:=∀ x,l'.getD x default=l.getD (if x<k then x else if x=k then m else if x≤m then x - 1 else x) default
theorem IsDown.start {m:Nat} {l:List α}:IsDown m m l l:=fun x=>by
 congr 1
 repeat' split
 all_goals omega
theorem IsDown.next {m k:Nat} {l l':List α} (h:IsDown m k l l') (hk:0<k∧k≤m) (hl:m<l'.length):IsDown m (k - 1) l (swp l' k (k - 1)):=fun x=>by
 rw [swp_get (by omega) (by omega)];rw [h,h,h];repeat' split
 all_goals first|omega|rfl|(congr 1<;>omega)
end
def ZI (key:Int→Int) (x y:Int):Prop:=key x<key y∨(key x=key y∧x<y)
theorem yf (key:Int→Int):WOrd (ZI key) where
 irr x h:=by unfold ZI at h;omega
 tr h1 h2:=by unfold ZI at *;omega
 ntr h1 h2:=by unfold ZI at *;omega
structure Mrg (key:Int→Int) (a m b:Nat) (l:List Int):Prop where
 sl:Srt (ZI key) a m l
 sr:Srt (ZI key) m b l
 cr:∀ p q,a≤p→p<m→m≤q→q<b→l.getD p default<l.getD q default
theorem Mrg.up {key:Int→Int} {a b i:Nat} {l l':List Int} (h:Mrg key a (a+1) b l) (hi:a+1≤i∧i≤b) (h1:∀ k,a+1≤k→k<i→ZI key (l.getD k default) (l.getD a default)) (h2:∀ k,i≤k→k<b→¬ ZI key (l.getD k default) (l.getD a default)) (u:IsUp a (i - 1) l l'):Srt (ZI key) a b l':=by
 have W:=yf key;have u1:∀ x,a≤x→x<i - 1→l'.getD x default=l.getD (x+1) default:=fun x q1 q2=>by rw [u x,if_neg (by omega),if_pos q2]
 have u2:l'.getD (i - 1) default=l.getD a default:=by
  rw [u,if_neg (by omega),if_neg (by omega),if_pos rfl]
 have u3:∀ x,i - 1<x→l'.getD x default=l.getD x default:=fun x q1=>by rw [u x,if_neg (by omega),if_neg (by omega),if_neg (by omega)]
 intro p q q1 q2 q3;rcases zE7 p (i - 1) with e1|e1|e1
 ·rw [u1 p q1 e1];rcases zE7 q (i - 1) with e2|e2|e2
  ·rw [u1 q (by omega) e2];exact h.sr _ _ (by omega) (by omega) (by omega)
  ·rw [e2,u2];exact W.asym (h1 _ (by omega) (by omega))
  ·rw [u3 q e2];exact h.sr _ _ (by omega) (by omega) (by omega)
 ·rw [e1,u2,u3 q (by omega)];exact h2 _ (by omega) q3
 ·rw [u3 p e1,u3 q (by omega)];exact h.sr _ _ (by omega) (by omega) (by omega)
theorem Mrg.down {key:Int→Int} {a m i:Nat} {l l':List Int} (h:Mrg key a m (m+1) l) (hi:a≤i∧i≤m) (h1:∀ k,a≤k→k<i→¬ ZI key (l.getD m default) (l.getD k default)) (h2:∀ k,i≤k→k<m→ZI key (l.getD m default) (l.getD k default)) (u:IsDown m i l l'):Srt (ZI key) a (m+1) l':=by
 have W:=yf key;have u1:∀ x,x<i→l'.getD x default=l.getD x default:=fun x q1=>by rw [u x,if_pos q1]
 have u2:l'.getD i default=l.getD m default:=by
  rw [u,if_neg (by omega),if_pos rfl]
 have u3:∀ x,i<x→x≤m→l'.getD x default=l.getD (x - 1) default:=fun x q1 q2=>by rw [u x,if_neg (by omega),if_neg (by omega),if_pos q2]
 intro p q q1 q2 q3;rcases zE7 p i with e1|e1|e1
 ·rw [u1 p e1];rcases zE7 q i with e2|e2|e2
  ·rw [u1 q e2];exact h.sl _ _ (by omega) (by omega) (by omega)
  ·rw [e2,u2];exact h1 _ (by omega) (by omega)
  ·rw [u3 q e2 (by omega)];exact h.sl _ _ (by omega) (by omega) (by omega)
 ·rw [e1,u2,u3 q (by omega) (by omega)];exact W.asym (h2 _ (by omega) (by omega))
 ·rw [u3 p e1 (by omega),u3 q (by omega) (by omega)];exact h.sl _ _ (by omega) (by omega) (by omega)
structure SrI (key:Int→Int) (a m b mid s r:Nat) (l:List Int):Prop where
 lo:(if m > mid then mid+m - b else a)≤s
 sr:s≤r
 hi:r≤(if m > mid then mid else m)
 low:(if m > mid then mid+m - b else a)<s→¬ ZI key (l.getD (mid+m - s) default) (l.getD (s - 1) default)
 high:r<(if m > mid then mid else m)→ZI key (l.getD (mid+m - 1 - r) default) (l.getD r default)
theorem Mrg.search {key:Int→Int} {a m b mid s:Nat} {l l2:List Int} (h:Mrg key a m b l) (hm:mid=(a+b) / 2) (hab:a<m∧m<b) (I:SrI key a m b mid s s l)
 (hr:qgj s m (mid+m - s) l l2):(a≤s∧s≤mid∧s≤m∧m≤mid+m - s∧mid+m - s≤b)∧Mrg key a s mid l2∧Mrg key mid (mid+m - s) b l2∧∀ x y,a≤x→x<mid→mid≤y→y<b→¬ ZI key (l2.getD y default) (l2.getD x default):=by
 have W:=yf key;have lo:=I.lo;have hi:=I.hi;have low:=I.low;have high:=I.high;have hs:a≤s∧s≤mid∧s≤m∧m≤mid+m - s∧mid+m - s≤b:=by
  split at lo<;>split at hi<;>omega
 have r1:∀ k,k<s→l2.getD k default=l.getD k default:=fun k hk=>by rw [hr k];unfold rot;rw [if_pos hk]
 have r2:∀ k,s≤k→k<mid→l2.getD k default=l.getD (k+(m - s)) default:=fun k h1 h2=>by rw [hr k];unfold rot;rw [if_neg (by omega),if_pos (by omega)]
 have r3:∀ k,mid≤k→k<mid+m - s→l2.getD k default=l.getD (k - (mid - s)) default:=fun k h1 h2=>by
  rw [hr k];unfold rot;rw [if_neg (by omega),if_neg (by omega),if_pos (by omega)];congr 1;omega
 have r4:∀ k,mid+m - s≤k→l2.getD k default=l.getD k default:=fun k h1=>by rw [hr k];unfold rot;rw [if_neg (by omega),if_neg (by omega),if_neg (by omega)]
 refine ⟨hs,⟨fun i j q1 q2 q3=>?_,fun i j q1 q2 q3=>?_,fun p q q1 q2 q3 q4=>?_⟩,⟨fun i j q1 q2 q3=>?_,fun i j q1 q2 q3=>?_,fun p q q1 q2 q3 q4=>?_⟩,fun x y q1 q2 q3 q4=>?_⟩
 ·rw [r1 i (by omega),r1 j q3];exact h.sl i j q1 q2 (by omega)
 ·rw [r2 i q1 (by omega),r2 j (by omega) q3];exact h.sr _ _ (by omega) (by omega) (by omega)
 ·rw [r1 p q2,r2 q q3 q4];exact h.cr _ _ q1 (by omega) (by omega) (by omega)
 ·rw [r3 i q1 (by omega),r3 j (by omega) q3];exact h.sl _ _ (by omega) (by omega) (by omega)
 ·rw [r4 i q1,r4 j (by omega)];exact h.sr _ _ (by omega) q2 q3
 ·rw [r3 p q1 q2,r4 q q3];exact h.cr _ _ (by omega) (by omega) (by omega) q4
 ·
  have le_of:∀ {i j:Nat},a≤i→i≤j→j<m→¬ ZI key (l.getD j default) (l.getD i default):=fun {i j} g1 g2 g3=>by
   rcases zA7 i j with q|q
   ·exact h.sl i j g1 q g3
   ·have:i=j:=by omega
    subst this;exact W.irr _
  have le_of2:∀ {i j:Nat},m≤i→i≤j→j<b→¬ ZI key (l.getD j default) (l.getD i default):=fun {i j} g1 g2 g3=>by
   rcases zA7 i j with q|q
   ·exact h.sr i j g1 q g3
   ·have:i=j:=by omega
    subst this;exact W.irr _
  rcases zA7 x s with e1|e1
  ·rw [r1 x e1];rcases zA7 y (mid+m - s) with e2|e2
   ·rw [r3 y q3 e2];exact le_of q1 (by omega) (by omega)
   ·rw [r4 y e2];have g:¬ ZI key (l.getD (mid+m - s) default) (l.getD (s - 1) default):=low (by split<;>omega);have g1:¬ ZI key (l.getD (s - 1) default) (l.getD x default):=le_of q1 (by omega) (by omega);have g2:¬ ZI key (l.getD y default) (l.getD (mid+m - s) default):=le_of2 (by omega) e2 q4;exact W.ntr (W.ntr g1 g) g2
  ·rw [r2 x e1 q2];rcases zA7 y (mid+m - s) with e2|e2
   ·rw [r3 y q3 e2];have g:ZI key (l.getD (mid+m - 1 - s) default) (l.getD s default):=high (by split<;>omega);have g1:¬ ZI key (l.getD (y - (mid - s)) default) (l.getD s default):=le_of (by omega) (by omega) (by omega);have g2:¬ ZI key (l.getD (mid+m - 1 - s) default) (l.getD (x+(m - s)) default):=le_of2 (by omega) (by omega) (by omega);exact W.ntr (W.ntr g2 (W.asym g)) g1
   ·rw [r4 y e2];exact le_of2 (by omega) (by omega) q4
end Go.Proofs.Xx
namespace Go.Proofs.Xx
section
variable {α:Type} [Inhabited α] {lt:α→α→Prop}
theorem Heap.pop {f i:Nat} {l:List α} (h:Heap lt f 0 (i+1) l) (hl:f+i<l.length):Heap lt f 1 i (swp l f (f+i)):=by
 intro k hk;have g:=swp_get (l:=l) (i:=f) (j:=f+i) (by omega) (by omega);have hh:=h k (zB0 _);refine ⟨fun q=>?_,fun q=>?_⟩
 ·rw [g,g,if_neg (by omega),if_neg (by omega),if_neg (by omega),if_neg (by omega)];exact hh.1 (by omega)
 ·rw [g,g,if_neg (by omega),if_neg (by omega),if_neg (by omega),if_neg (by omega)];exact hh.2 (by omega)
theorem HeapI.done {f n b:Nat} {l:List α} (h:HeapI lt f 0 n l) (hb:b=f+n):Srt lt f b l:=fun i j h1 h2 h3=>by
 have:=h.2 (i - f) (j - f) (by omega) (zB0 _) (by omega);rwa [show f+(j - f)=j by omega,show f+(i - f)=i by omega] at this
structure PartI (lt:α→α→Prop) (a b:Nat) (x:α) (i j:Nat) (m:List α):Prop where
 bi:a<i∧i≤j+1∧j<b
 lo:∀ k,a<k→k<i→lt (m.getD k default) x
 hi:∀ k,j<k→k<b→¬ lt (m.getD k default) x
 x:m.getD a default=x
theorem PartI.swap {a b:Nat} {x:α} {i j:Nat} {m:List α} (h:PartI lt a b x i j m) (hb:b≤m.length) (hij:i≤j) (h1:¬ lt (m.getD i default) x) (h2:lt (m.getD j default) x):i<j∧PartI lt a b x (i+1) (j - 1) (swp m i j):=by
 have hbi:=h.bi;have hne:i≠j:=fun q=>by subst q;exact h1 h2
 have g:=swp_get (l:=m) (i:=i) (j:=j) (by omega) (by omega);refine ⟨by omega,⟨by omega,fun k q1 q2=>?_,fun k q1 q2=>?_,?_⟩⟩
 ·rw [g,if_neg (by omega)];split
  ·exact h2
  ·exact h.lo k q1 (by omega)
 ·rw [g];split
  ·exact h1
  ·rw [if_neg (by omega)];exact h.hi k (by omega) q2
 ·rw [g,if_neg (by omega),if_neg (by omega)];exact h.x
theorem PartI.done (W:WOrd lt) {a b:Nat} {x:α} {i j:Nat} {m:List α} (h:PartI lt a b x i j m) (hb:b≤m.length) (hij:j<i):Parted lt a b j (swp m j a):=by
 have hbi:=h.bi;have g:=swp_get (l:=m) (i:=j) (j:=a) (by omega) (by omega);have gj:(swp m j a).getD j default=x:=by
  rw [g];split
  ·rename_i e;rw [e];exact h.x
  ·rw [if_pos rfl];exact h.x
 refine ⟨fun k q1 q2=>?_,fun k q1 q2=>?_⟩
 ·rw [gj,g];split
  ·exact h.lo j (by omega) (by omega)
  ·rw [if_neg (by omega)];exact h.lo k (by omega) (by omega)
 ·rw [gj,g,if_neg (by omega),if_neg (by omega)];exact h.hi k q1 q2
structure EqI (lt:α→α→Prop) (a b:Nat) (x:α) (i j:Nat) (m:List α):Prop where
 bi:a<i∧i≤j+1∧j<b
 lo:∀ k,a<k→k<i→¬ lt x (m.getD k default)
 hi:∀ k,j<k→k<b→lt x (m.getD k default)
 x:m.getD a default=x
theorem EqI.swap {a b:Nat} {x:α} {i j:Nat} {m:List α} (h:EqI lt a b x i j m) (hb:b≤m.length) (hij:i≤j) (h1:lt x (m.getD i default)) (h2:¬ lt x (m.getD j default)):i<j∧EqI lt a b x (i+1) (j - 1) (swp m i j):=by
 have hbi:=h.bi;have hne:i≠j:=fun q=>by subst q;exact h2 h1
 have g:=swp_get (l:=m) (i:=i) (j:=j) (by omega) (by omega);refine ⟨by omega,⟨by omega,fun k q1 q2=>?_,fun k q1 q2=>?_,?_⟩⟩
 ·rw [g,if_neg (by omega)];split
  ·exact h2
  ·exact h.lo k q1 (by omega)
 ·rw [g];split
  ·exact h1
  ·rw [if_neg (by omega)];exact h.hi k (by omega) q2
 ·rw [g,if_neg (by omega),if_neg (by omega)];exact h.x
theorem DoneI.low {a b a' b':Nat} {l:List α} (h:DoneI lt a b a' b' l) (h1:a<a') (h2:b'≤b):∀ k,a'≤k→k<b'→¬ lt (l.getD k default) (l.getD (a' - 1) default):=fun k q1 q2=>h (a' - 1) k (by omega) (by omega) (by omega) (.inl (by omega))
end
def lenTab:List UInt8:=[0,1] ++ List.replicate 2 2 ++ List.replicate 4 3 ++ List.replicate 8 4 ++ List.replicate 16 5 ++ List.replicate 32 6 ++ List.replicate 64 7 ++ List.replicate 128 8
theorem yh:lenTab.length=256:=by decide +kernel
theorem qO (j:Nat):((j:Int) - 1).toNat=j - 1:=by omega
theorem qN (j:Nat):((j:Int)+1).toNat=j+1:=by omega
theorem qU (i j:Nat):((i:Int)+(j:Int)).toNat=i+j:=by omega
variable [Flag]
theorem qd4 {h0:AH} (w:WfH h0) (n:Nat) (hn:n<256):Fn Tryz.prog Xh 146 [.int .u64 n] h0 (fun v h'=>v = .int .i64 ((lenTab.getD n 0).toNat:Int)∧Hs h0 h' []):=by
 have S:=Hs.start w;have hl:=yh;have hb:(lenTab.getD n 0).toNat<256:=UInt8.toNat_lt _;refine qA (by first|rfl) Tryz.func146 rfl rfl ?_;all_goals (repeat' (first|refine qg ?_|refine qh rfl ?_|refine qi ?_|(refine qc 0 ?_;refine mv ?_;refine qf ?_)|(refine qc 1 ?_;refine mv ?_;(refine cF ?_)<;>(refine qf ?_))|(refine qc 4 ?_;refine mv ?_;(refine cF ?_)<;>(refine qf ?_))|(refine qc 7 ?_;refine mv ?_;(refine cF ?_)<;>(refine qf ?_))))
 refine qc 10 ?_;refine mv ?_;refine mv ?_;refine cU ?_;refine ti (l:=lenTab) ?_;rw [zA0];(refine cI ?_);refine ad ?_;refine mv ?_;refine qf ?_;all_goals (repeat' (fail))
 refine qj ⟨_,rfl,?_⟩;exact ⟨by show Value.int .i64 (0+_)=_;rw [Int.zero_add],S⟩
theorem qc0 {h0 h:AH} {rs:List Rs} {bs:Nat} {z:Int} (S:Hs h0 h (.blk bs [.int .u64 z] 228 :: rs)) (hz:0≤z∧z≤18446744073709551615):Fn Tryz.prog Xh 195 [.pointer (some ⟨bs,0,none⟩)] h (fun r h'=>∃ y,r = .int .u64 y∧(0≤y∧y≤18446744073709551615)∧Hs h0 h' (.blk bs [.int .u64 y] 228 :: rs)):=by
 refine qA (by first|rfl) Tryz.func195 rfl rfl ?_;all_goals (repeat' (first|refine qg ?_|(refine qc 0 ?_;refine mv ?_;refine qf ?_)|(refine qF 1 ?_;refine mv ?_;refine vl ?_;refine lB S rfl rfl ?_;refine mv ?_;refine vl ?_;refine lB S rfl rfl ?_;(first|(refine aW ?_;intro r1 hr1 hr2));(first|(refine aW ?_;intro r1 hr1 hr2));refine vl ?_;(first|(refine sB S rfl rfl ?_;clear S;intro h S));refine qf ?_)|(refine qF 2 ?_;refine mv ?_;refine vl ?_;refine lB S rfl rfl ?_;refine mv ?_;refine vl ?_;refine lB S rfl rfl ?_;refine sR ?_;(first|(refine aW ?_;intro r1 hr1 hr2));refine vl ?_;(first|(refine sB S rfl rfl ?_;clear S;intro h S));refine qf ?_)|(refine qF 3 ?_;refine mv ?_;refine vl ?_;refine lB S rfl rfl ?_;refine mv ?_;refine vl ?_;refine lB S rfl rfl ?_;(first|(refine aW ?_;intro r1 hr1 hr2));(first|(refine aW ?_;intro r1 hr1 hr2));refine vl ?_;(first|(refine sB S rfl rfl ?_;clear S;intro h S));refine qf ?_)|(refine qc 4 ?_;refine mv ?_;refine vl ?_;refine lB S rfl rfl ?_;refine mv ?_;refine qf ?_)))
 refine qj ⟨_,rfl,?_⟩;exact ⟨_,rfl,by omega,S⟩
end Go.Proofs.Xx
namespace Go.Proofs.Xx
open Go Go.Proofs
abbrev FV:=Nat×Array Value
theorem qcQ {h0:AH} (w:WfH h0) (v:Value) (a:List Int) (r:zl h0 v 1 eI a) (hl:a.length≤1000000):Fn Tryz.prog Xh 15 [v] h0 (fun u h'=>Hs h0 h' [.sl u 3 1 eI a]):=by
 have S:=Hs.start w;have r0:=r;rcases r with ⟨rfl,h1,-⟩|⟨b,o,cap,cc,e,s,q,rfl,h1,h2⟩
 ·obtain rfl:a=[]:=zE9.1 h1;refine qA (by first|rfl) Tryz.func15 rfl rfl ?_;all_goals (repeat' (first|refine qg ?_|refine qh rfl ?_|(refine qc 0 ?_;refine mv ?_;refine qf ?_)|(refine qc 1 ?_;refine mv ?_;refine vl ?_;refine qf ?_)|(refine qc 2 ?_;refine mv ?_;refine qf ?_)))
  refine qj ⟨_,rfl,?_⟩;exact S.ZF
 ·refine qA (by first|rfl) Tryz.func15 rfl rfl ?_;all_goals (repeat' (first|refine qg ?_|refine qh rfl ?_|refine qi ?_|(refine qc 0 ?_;refine mv ?_;refine qf ?_)|(refine qc 1 ?_;refine mv ?_;refine vl ?_;refine qf ?_)|(refine qc 3 ?_;skip)))
  refine nw 1 eI S ?_;clear S;intro u h S;(refine mv ?_);refine apd S rfl rfl (r0.ext w S.ext) ?_;clear S;intro v' h S;(refine mv ?_;refine qf ?_);all_goals (repeat' (fail))
  refine qj ⟨_,rfl,?_⟩;exact S
theorem kz {h0:AH} (w:WfH h0) (v:Value) (l:List Int) (hr:zl h0 v 1 eI l) (hl:l.length≤1000000) (k:Int):Fn Tryz.prog Xh 121 [v,.int .i64 k] h0 (fun r h'=>y9 r (fun i=>l.getD i default=k) l.length∧Hs h0 h' []):=by
 have S:=Hs.start w;refine qA (by first|rfl) Tryz.func121 rfl rfl ?_;all_goals (repeat' (first|refine qg ?_|refine ql ?_|(refine qc 0 ?_;refine mv ?_;refine qf ?_)|(refine qc 1 ?_;refine mv ?_;refine jc S ?_;refine mv ?_;refine qf ?_)))
 refine qB (σ:=Nat) (fun i h'=>Hs h0 h' []∧i≤l.length∧∀ j,j<i→¬ l.getD j default=k) (fun i=>l.length - i) (fun i=>[(0,v),(1,.int .i64 k),(7,.int .i64 l.length),(8,.int .i64 i)]) 0 qw ?_ ?_
 ·exact ⟨S,zB0 _,fun j hj=>absurd hj (zB7 _)⟩
 clear S;rintro i h ⟨S,h1,h2⟩;all_goals (repeat' (first|refine qg ?_|refine qh rfl ?_|refine qi ?_|refine qy ?_|refine ql ?_|(refine qc 2 ?_;(first|(refine cS ?_ ?_<;>intro hc))<;>(refine qf ?_))|(refine qc 3 ?_;refine mv ?_;refine mv ?_;refine qf ?_)|(refine qc 4 ?_;(iterate 3 refine mv ?_);refine zT S ?_;refine zQ S ?_;(first|(refine cS ?_ ?_<;>intro hc))<;>(refine qf ?_))|(refine qc 5 ?_;refine mv ?_;refine mv ?_;refine qf ?_)|(refine qc 6 ?_;refine ad ?_;refine mv ?_;refine qf ?_)|(refine qc 7 ?_;refine mv ?_;refine qf ?_)))
 all_goals (try simp only [zA0] at *)
 ·refine qj ⟨_,rfl,?_⟩;exact ⟨.inl ⟨i,by omega,rfl,hc.symm,h2⟩,S⟩
 ·refine ⟨i+1,?_,?_,qw⟩
  ·show l.length - (i+1)<l.length - i;omega
  ·refine ⟨S,by omega,fun j hj=>?_⟩;rcases zA7 j i with q|q
   ·exact h2 j q
   ·obtain rfl:j=i:=by omega
    exact fun q=>hc q.symm
 ·refine qj ⟨_,rfl,?_⟩;exact ⟨.inr ⟨rfl,fun j hj=>h2 j (by omega)⟩,S⟩
def qj5 (x y:Int):Int:=if x<y then -1 else if y<x then 1 else 0
abbrev ltI (x y:Int):Prop:=x<y
def ltL:List Int→List Int→Prop
 | [],[]=>False
 | [],_ :: _=>True
 | _ :: _,[]=>False
 | a :: l,b :: m=>a<b∨(a=b∧ltL l m)
def CmpR (d:Int) (a b:List Int):Prop:=(d<0∧ltL a b)∨(d=0∧a=b)∨(0<d∧ltL b a)
theorem drop_cons {l:List Int} {i:Nat} (h:i<l.length):l.drop i=l.getD i default :: l.drop (i+1):=by
 rw [zG7 h];simp [List.getD,h]
theorem CmpR.step {a b:List Int} {i:Nat} (hi:∀ d,CmpR d (a.drop i) (b.drop i)→CmpR d a b) (ha:i<a.length) (hb:i<b.length) (e:a.getD i default=b.getD i default):∀ d,CmpR d (a.drop (i+1)) (b.drop (i+1))→CmpR d a b:=fun d k=>hi d (by
 rw [drop_cons ha,drop_cons hb,e];rcases k with ⟨k1,k2⟩|⟨k1,k2⟩|⟨k1,k2⟩
 ·exact .inl ⟨k1,.inr ⟨rfl,k2⟩⟩
 ·exact .inr (.inl ⟨k1,by rw [k2]⟩)
 ·exact .inr (.inr ⟨k1,.inr ⟨rfl,k2⟩⟩))
theorem qcL {h0:AH} (w:WfH h0) (v u:Value) (a b:List Int) (ra:zl h0 v 1 eI a) (rb:zl h0 u 1 eI b) (ha:a.length≤1000000):Fn Tryz.prog Xh 26 [v,u] h0 (fun r h'=>qI r (a=b)∧Hs h0 h' []):=by
 have S:=Hs.start w;refine qA (by first|rfl) Tryz.func26 rfl rfl ?_;all_goals (repeat' (first|refine qg ?_|refine qh rfl ?_|refine qi ?_|(refine qc 0 ?_;refine mv ?_;refine qf ?_)|(refine qc 1 ?_;refine mv ?_;refine jc S ?_;refine mv ?_;refine jc S ?_;(first|(refine cS ?_ ?_<;>intro hc))<;>(refine qf ?_))|(refine qc 2 ?_;refine mv ?_;refine qf ?_)))
 ·refine qj ⟨_,rfl,?_⟩;exact ⟨.inr ⟨rfl,fun q=>by subst q;exact hc rfl⟩,S⟩
 have hl:a.length=b.length:=by omega
 all_goals (repeat' (first|refine ql ?_|(refine qc 3 ?_;refine mv ?_;refine jc S ?_;refine mv ?_;refine qf ?_)))
 refine qB (σ:=Nat) (fun i h'=>Hs h0 h' []∧i≤a.length∧∀ j,j<i→a.getD j default=b.getD j default) (fun i=>a.length - i) (fun i=>[(0,v),(1,u),(12,.int .i64 a.length),(13,.int .i64 i)]) 0 qw ?_ ?_
 ·exact ⟨S,zB0 _,fun j hj=>absurd hj (zB7 _)⟩
 clear S;rintro i h ⟨S,h1,h2⟩;all_goals (repeat' (first|refine qg ?_|refine qh rfl ?_|refine qi ?_|refine qy ?_|refine ql ?_|(refine qc 4 ?_;(first|(refine cS ?_ ?_<;>intro hc))<;>(refine qf ?_))|(refine qc 5 ?_;refine mv ?_;refine mv ?_;refine qf ?_)|(refine qF 6 ?_;refine mv ?_;refine mv ?_;refine zT S ?_;refine zQ S ?_;refine mv ?_;refine mv ?_;refine zT S ?_;refine zQ S ?_;(first|(refine cS ?_ ?_<;>intro hc))<;>(refine qf ?_))|(refine qc 7 ?_;refine mv ?_;refine qf ?_)))
 all_goals (try simp only [zA0] at *)
 ·refine qj ⟨_,rfl,?_⟩;exact ⟨.inr ⟨rfl,fun q=>by subst q;exact hc rfl⟩,S⟩
 ·all_goals (repeat' (first|(refine qc 8 ?_;refine ad ?_;refine mv ?_;refine qf ?_)))
  refine ⟨i+1,?_,?_,qw⟩
  ·show a.length - (i+1)<a.length - i;omega
  ·exact ⟨S,by omega,Qb h2 (by omega)⟩
 ·all_goals (repeat' (first|(refine qc 9 ?_;refine mv ?_;refine qf ?_)))
  refine qj ⟨_,rfl,?_⟩;refine ⟨.inl ⟨rfl,List.ext_getElem hl fun j k1 k2=>?_⟩,S⟩;have:=h2 j (by omega);rw [zA2,zA2,zA4 k1,zA4 k2] at this;exact this
end Go.Proofs.Xx
namespace Go.Proofs.Xx
structure Met (d:Int→Int→Int):Prop where
 nn:∀ a b,0≤d a b
 z:∀ a,d a a=0
 sym:∀ a b,d a b=d b a
 tri:∀ a b c,d a c≤d a b+d b c
def Zf (d:Int→Int→Int):Int→List Int→Int→Int
 | a,[],b=>d a b
 | a,t :: l,b=>d a t+Zf d t l b
theorem pX {d:Int→Int→Int}:∀ (l:List Int) (a t:Int) (r:List Int) (b:Int),Zf d a (l ++ t :: r) b=Zf d a l t+Zf d t r b
 | [],a,t,r,b=>rfl
 | x :: l,a,t,r,b=>by
  rw [zC6,Zf,Zf,pX l x t r b];omega
theorem qby {d:Int→Int→Int} (m:Met d):∀ (l:List Int) (a b:Int),d a b≤Zf d a l b
 | [],a,b=>Int.le_refl _
 | x :: l,a,b=>by
  have h1:=qby m l x b;have h2:=m.tri a x b;rw [Zf];omega
theorem qe6 {d:Int→Int→Int} (m:Met d) (l:List Int) (a b:Int):0≤Zf d a l b:=by
 have h1:=qby m l a b;have h2:=m.nn a b;omega
def vF (d:Int→Int→Int) (l:List Int):Int:=Zf d (-1) l (-1)
def qhz (stops:List Int):Nat→List Int→List (List Int)
 | 0,done=>[done]
 | n+1,done=>stops.flatMap fun t=>if t∈done then [] else qhz stops n (done ++ [t])
abbrev qah:=List Int×Int
def qgn (L:List Int→Int) (s:qah) (c:List Int):qah:=if s.2<0∨L c<s.2 then (c,L c) else s
inductive Cov (d:Int→Int→Int):List Int→List Int→Int→Prop where
 | nil {J:List Int}:Cov d J [] 0
 | snoc {J R:List Int} {c x p:Int} (h:Cov d J R c) (hp:p∈J∨p∈R):Cov d J (R ++ [x]) (c+d x p)
theorem Cov.mono {d:Int→Int→Int} {J J' R:List Int} {c:Int} (h:Cov d J R c) (hs:∀ x∈J,x∈J'):Cov d J' R c:=by
 induction h with
 | nil=>exact .nil
 | snoc _ hp ih=>exact .snoc ih (hp.imp (hs _) id)
theorem Cov.shift {d:Int→Int→Int} {J J' R:List Int} {c p v:Int} (h:Cov d (p :: J) R c) (hv:v∈J') (hs:∀ x∈J,x∈J'):Cov d J' (p :: R) (c+d p v):=by
 generalize hJ:p :: J=K at h
 induction h with
 | nil =>
  have:=Cov.snoc (d:=d) (J:=J') (R:=[]) (c:=0) (x:=p) (p:=v) .nil (.inl hv);simpa using this
 | @snoc R c x q h hq ih =>
  subst hJ;have:=Cov.snoc (x:=x) (p:=q) ih (by
   rcases hq with hq|hq
   ·rcases zE8.1 hq with rfl|hq
    ·exact .inr (by simp)
    ·exact .inl (hs _ hq)
   ·exact .inr (List.mem_cons_of_mem _ hq))
  have e:c+d p v+d x q=c+d x q+d p v:=by omega
  rw [e] at this;exact this
theorem Cov.qip {d:Int→Int→Int} (m:Met d) {J:List Int} {w:Int} {R:List Int} {c:Int} (h:Cov d J R c):∀ {v:Int},v∈R→(∀ x∈R,∀ y∈J,w≤d x y)→R.Nodup →
 ∃ R' c',R'.Perm (R.erase v)∧Cov d (v :: J) R' c'∧c'+w≤c:=by
 induction h with
 | nil=>intro v hv;cases hv
 | @snoc R c x p h hp ih =>
  intro v hv hw hnd;rw [zG4] at hnd;obtain ⟨nd,-,ndx⟩:=hnd;have hxR:x ∉ R:=fun q=>ndx x q x (by simp) rfl;have hw0:∀ y∈R,∀ z∈J,w≤d y z:=fun y hy=>hw y (List.mem_append_left _ hy);by_cases e:v=x
  ·subst e;have eR:(R ++ [v]).erase v=R:=by rw [List.erase_append_right _ hxR];simp
   rw [eR];by_cases hpR:p∈R
   ·obtain ⟨R',c',k1,k2,k3⟩:=ih hpR hw0 nd;refine ⟨p :: R',c'+d p v,?_,k2.shift (by simp) fun y hy=>List.mem_cons_of_mem _ hy,?_⟩
    ·exact (k1.cons p).trans (List.perm_cons_erase hpR).symm
    ·have:=m.sym v p;omega
   ·have hpJ:p∈J:=hp.resolve_right hpR;have:=hw v (by simp) p hpJ;exact ⟨R,c,.refl _,h.mono fun y hy=>List.mem_cons_of_mem _ hy,by omega⟩
  ·have hvR:v∈R:=by
    rcases zB8.1 hv with q|q
    ·exact q
    ·exact absurd (zB5.1 q) e
   obtain ⟨R',c',k1,k2,k3⟩:=ih hvR hw0 nd;refine ⟨R' ++ [x],c'+d x p,?_,k2.snoc ?_,by omega⟩
   ·rw [List.erase_append_left _ hvR];exact k1.append_right [x]
   ·by_cases q:p=v
    ·exact .inl (by simp [q])
    ·rcases hp with hp|hp
     ·exact .inl (List.mem_cons_of_mem _ hp)
     ·exact .inr (k1.mem_iff.2 ((List.mem_erase_of_ne q).2 hp))
inductive Prim (d:Int→Int→Int):List Int→List Int→Int→Prop where
 | nil {J:List Int}:Prim d J [] 0
 | step {J L:List Int} {c v u:Int} (hv:v∈L) (hu:u∈J) (hm:∀ x∈L,∀ y∈J,d v u≤d x y) (h:Prim d (v :: J) (L.erase v) c):Prim d J L (d v u+c)
theorem Cov.qh2 {d:Int→Int→Int} {J R:List Int} {c:Int} (h:Cov d J R c) (hR:R=[]):c=0:=by
 cases h with
 | nil=>rfl
 | snoc _ _=>simp at hR
theorem Prim.le {d:Int→Int→Int} (m:Met d) {J L:List Int} {c:Int} (h:Prim d J L c):∀ {R:List Int} {e:Int},R.Perm L→L.Nodup→Cov d J R e→c≤e:=by
 induction h with
 | nil=>intro R e hp _ k;rw [k.qh2 (List.perm_nil.1 hp)];exact Int.le_refl _
 | @step J L c v u hv hu hm h ih =>
  intro R e hp nd k;obtain ⟨R',e',k1,k2,k3⟩:=Cov.qip m k (hp.mem_iff.2 hv) (fun x hx y hy=>hm x (hp.mem_iff.1 hx) y hy) (hp.symm.nodup nd);have:=ih (k1.trans (hp.erase v)) (nd.erase v) k2;omega
theorem Cov.way {d:Int→Int→Int} (m:Met d) (a b:Int):∀ (R:List Int),∃ e,Cov d [a] R e∧e≤Zf d a R b:=fun R=>by
 have key:∀ (n:Nat) (R:List Int),R.length=n→∀ b,∃ e,Cov d [a] R e∧e+d (R.getLast?.getD a) b≤Zf d a R b:=by
  intro n;induction n with
  | zero=>intro R h b;rw [zE9.1 h];exact ⟨0,.nil,by simp [Zf]⟩
  | succ n ih =>
   intro R h b;rcases List.eq_nil_or_concat R with rfl|⟨R',x,rfl⟩
   ·cases h
   ·rw [List.concat_eq_append] at h ⊢;obtain ⟨e,k1,k2⟩:=ih R' (by simpa using h) x;refine ⟨e+d x (R'.getLast?.getD a),k1.snoc ?_,?_⟩
    ·cases hq:R'.getLast? with
     | none=>exact .inl (by simp)
     | some y=>exact .inr (List.mem_of_getLast? hq)
    ·rw [pX,m.sym x];simp [Zf]
     omega
 obtain ⟨e,k1,k2⟩:=key _ R rfl b;have:=m.nn (R.getLast?.getD a) b;exact ⟨e,k1,by omega⟩
theorem GX {d:Int→Int→Int} (m:Met d) (a:Int):∀ (l:List Int) (v u b:Int),u=a∨u∈l→∃ l',l'.Perm (v :: l)∧Zf d a l' b≤Zf d a l b+2*d v u
 | l,v,u,b,h=>by
  by_cases e:u=a
  ·subst e;refine ⟨v :: l,.refl _,?_⟩;rw [Zf];have h1:=m.sym v u;cases l with
   | nil=>rw [Zf,Zf];have:=m.tri v u b;omega
   | cons t l=>rw [Zf,Zf];have:=m.tri v u t;omega
  ·have hu:u∈l:=h.resolve_left e;cases l with
   | nil=>cases hu
   | cons t l =>
    obtain ⟨l',k1,k2⟩:=GX m t l v u b (by rcases zE8.1 hu with q|q;exact .inl q;exact .inr q);refine ⟨t :: l',(k1.cons t).trans (List.Perm.swap v t l),?_⟩;rw [Zf,Zf];omega
theorem Prim.vF {d:Int→Int→Int} (m:Met d) (a b:Int) {J L:List Int} {c:Int} (h:Prim d J L c):∀ {K:List Int},(∀ x∈J,x=a∨x∈K)→∃ l,l.Perm (L ++ K)∧Zf d a l b≤Zf d a K b+2*c:=by
 induction h with
 | nil=>intro K _;exact ⟨K,.refl _,by omega⟩
 | @step J L c v u hv hu hm h ih =>
  intro K hK;obtain ⟨K',k1,k2⟩:=GX m a K v u b (hK u hu);obtain ⟨l,k3,k4⟩:=ih (K:=K') fun x hx=>by
   rcases zE8.1 hx with rfl|hx
   ·exact .inr (k1.mem_iff.2 (by simp))
   ·exact (hK x hx).imp id fun q=>k1.mem_iff.2 (List.mem_cons_of_mem _ q)
  refine ⟨l,k3.trans ?_,by omega⟩;have p1:(L.erase v ++ K').Perm (L.erase v ++ (v :: K)):=k1.append_left _;have p2:(L.erase v ++ (v :: K)).Perm (v :: (L.erase v ++ K)):=List.perm_middle;have p3:(v :: (L.erase v ++ K)).Perm (L ++ K):=by
   rw [← zC6];exact (List.perm_cons_erase hv).symm.append_right K
  exact p1.trans (p2.trans p3)
end Go.Proofs.Xx
namespace Go.Proofs.Xx
def qjY (a b:List Int):Prop:=∃ pre x y s t,a=pre ++ x :: s∧b=pre ++ y :: t∧x<y
end Go.Proofs.Xx
namespace Go.Proofs.Xx
def qik (l:List Int):Int:=l.getLast?.getD (-1)
def qjI (d:Int→Int→Int) (l:List Int):Int:=vF d l - d (qik l) (-1)
def qjS (stops:List Int) (n:Nat) (done:List Int) (i:Nat):List (List Int):=(stops.take i).flatMap fun t=>if t∈done then [] else qhz stops n (done ++ [t])
section
variable {P:Program} {X:Extern} {ops:Array Oper} {os:List Oper} {o:Oper} {sz:Nat} {h h0:AH} {rs:List Rs} {R:Ks→AH→Prop}
inductive HSteps (P:Program) (ops:Array Oper) (sz:Nat) (h:AH):Ks→List Nat→Ks→Prop where
 | nil {L:Ks}:HSteps P ops sz h L [] L
 | cons {L L1 L':Ks} {k:Nat} {ks:List Nat} {ok:Oper} {v:Value} {h':AH} (hok:ops[k]? = some ok) (hg:qo ops L.tree ok.guard=some true) (ha:zX P L.tree h ok.op=some (.val v h')) (hd:qG sz L ok.dst v=some L1) (r:HSteps P ops sz h L1 ks L'):HSteps P ops sz h L (k :: ks) L'
theorem HSteps.mv {L L1 L':Ks} {k:Nat} {ks:List Nat} {ok:Oper} {v:Value} {x:Operand} (hok:ops[k]? = some ok) (hm:ok.op = .move x) (hx:kA L x=some v) (hg:qo ops L.tree ok.guard=some true) (hd:qG sz L ok.dst v=some L1) (r:HSteps P ops sz h L1 ks L'):HSteps P ops sz h L (k :: ks) L' :=
 .cons (h':=h) hok hg (by rw [hm];simp only [zX,qE hx,qM]) hd r
theorem HSteps.bin {L L1 L':Ks} {k:Nat} {ks:List Nat} {ok:Oper} {op:BinOp} {x y:Operand} {ty ty2:TypeId} {a b v:Value} (hv:jP P op ty a b=some v) (hok:ops[k]? = some ok) (hm:ok.op = .binOp op ty x y ty2) (hx:kA L x=some a) (hy:kA L y=some b) (hg:qo ops L.tree ok.guard=some true) (hd:qG sz L ok.dst v=some L1) (r:HSteps P ops sz h L1 ks L'):HSteps P ops sz h L (k :: ks) L' :=
 .cons (h':=h) hok hg (by rw [hm];simp only [zX,qE hx,qE hy,hv,qM]) hd r
theorem HSteps.cU {L L1 L':Ks} {k:Nat} {ks:List Nat} {ok:Oper} {x:Operand} {s d:TypeId} {k1 k2:IntKind} {a:Int} (hb:0≤a∧a≤255) (hok:ops[k]? = some ok) (hm:ok.op = .convert s d x) (hx:kA L x=some (.int k1 a)) (hs:P.underlying s=some (.int k2)) (hd':P.underlying d=some (.int .u8)) (hg:qo ops L.tree ok.guard=some true) (hd:qG sz L ok.dst (.int .u8 a)=some L1) (r:HSteps P ops sz h L1 ks L'):HSteps P ops sz h L (k :: ks) L' :=
 .cons (h':=h) hok hg (by rw [hm];simp only [zX,qE hx,zY,hs,hd',wrap_u8 hb]) hd r
theorem HSteps.run {L L':Ks} {ks:List Nat} (s:HSteps P ops sz h L ks L'):∀ {t:Tr Value},Kn t L→Kn (ks.foldl (wF P ops sz h) t) L':=by
 induction s with
 | nil=>intro t hk;exact hk
 | @cons _ _ _ k _ _ _ _ hok hg ha hd r ih =>
  intro t hk;obtain ⟨t1,e1,k1⟩:=XO hk hd;rw [List.foldl_cons];have:wF P ops sz h t k=t1:=by
   unfold wF;simp only [hok,Qm hk.tle hg,yQ hk.tle ha,e1]
  rw [this];exact ih k1
theorem HintOk.many {L L':Ks} {j:Nat} {ks:List Nat} {o:Oper} {x:Option Nat} {c:List Value} {e:TypeId} (hp:WV ops (masks ops.toList []) j=ks) (ho:ops[j]? = some o) (s:HSteps P ops sz h L ks L') (hf:jW P L'.tree o.op=some (x,c,e)):HintOk P ops sz L h j c e:=fun t hk=>by
 unfold JI;rw [ho,hp];simp only [Js (s.run hk).tle hf]
theorem qe4 {ty:TypeId} {a b:Int} (h1:0≤a) (h2:0<b):jP P .rem ty (.int .i64 a) (.int .i64 b)=some (.int .i64 (a % b)):=by
 have h3:¬ b=0:=by omega
 have h4:a.tmod b=a % b:=Int.tmod_eq_emod_of_nonneg h1;simp only [jP,decide_true,decide_eq_false h3,h4]
end
def qhs (L:List (Value×List Int)) (h:AH) (fp:Fp):Prop:=∀ x∈L,(Rs.rd x.1 1 eI x.2).ok h fp
abbrev qf2 (L:List (Value×List Int)):Rs:=.any (qhs L)
class InP (L:List (Value×List Int)) (v:Value) (l:outParam (List Int)):Prop where
 mem:(v,l)∈L
theorem qhY {h:AH} {fp:Fp} {v:Value} {l:List Int} (q:(Rs.rd v 1 eI l).ok h fp):zl h v 1 eI l:=by
 rcases q with ⟨q1,q2⟩|⟨b,o,cap,cc,e,s,r,q1,q2,q3,q4⟩
 ·exact .inl ⟨q1,by rw [q2];rfl,by rw [q2];rfl⟩
 ·exact .inr ⟨b,o,cap,cc,e,s,r,q1,q2,q4⟩
instance HasR.pool {L:List (Value×List Int)} {v:Value} {l:List Int} {rs:List Rs} [i:InP L v l]:HasR (qf2 L :: rs) v Int 1 eI l:=⟨fun S=>by
 obtain ⟨fp,k⟩:=S.qfH .here;exact qhY (k _ i.mem)⟩
def cvW (b9 b2 b5 b4 b10:Nat):Value:=.func (.func 87) #[] #[.pointer (some ⟨b9,0,none⟩),.pointer (some ⟨b2,0,none⟩),.pointer (some ⟨b5,0,none⟩),.pointer (some ⟨b4,0,none⟩),.pointer (some ⟨b10,0,none⟩)]
abbrev rtR (v:PbV) (b9 b2 b5 b4 b10:Nat) (vs:Value) (stops:List Int) (L:List (Value×List Int)) (vw:Value) (al:Int):List Rs :=
 [qf2 L,.blk b4 [vw] 25,.blk b5 [.int .i64 al] 3,.sl vs 3 1 eI stops,.blk b9 [vs] 25,.blk b2 v.cs 28,.blk b10 [cvW b9 b2 b5 b4 b10] 126]
noncomputable def qjN (p:Pb) (q:List Int):qah:=(qhz (srv (qdJ p q)) (srv (qdJ p q)).length []).foldl (qgn (vF (stp p.tabs))) ([],-1)
structure Chg (h h':AH) (b:Nat) (o:Qp):Prop where
 at_:h'.get b=some o
 old:∀ j,j≠b→j<h.next→h'.get j=h.get j
 next:h.next≤h'.next
 wf:WfH h'
theorem Chg.trans {h h' h'':AH} {b:Nat} {o o':Qp} (c:Chg h h' b o) (d:Chg h' h'' b o'):Chg h h'' b o' :=
 ⟨d.at_,fun j hj hn=>(d.old j hj (zE4 hn c.next)).trans (c.old j hj hn),zD0 c.next d.next,d.wf⟩
theorem qaA {c:List Value} {o:Nat} (h:o≤c.length):splice c o []=c:=by simp [splice]
section
variable {P:Program} {X:Extern} {sz:Nat} {L L':Ks} {h:AH} {ops:Array Oper} {os:List Oper} {o:Oper} {R:Ks→AH→Prop}
theorem rwa {x y:Operand} {ts tx e e2:TypeId} {zc new cc:List Value} {by_ b o' n cap m z:Nat} {slk:Option Nat} {u:Value} {d:Tmp} (hb:h.get b=some (.cells cc e2 slk false)) (wf:WfH h) (hr:Rd h u z m new)
 (w:∀ h',Chg h h' b (.cells (splice cc (o'+n*z) new) e2 slk false)→KO P X sz ops os (L.put d (.slice (some ⟨b,o',none⟩) (n+m) cap)) h' R)
 (ho:o.op = .call { callee:=.builtin .append,args:=#[x,y],argTypes:=#[ts,tx] }:=by exact rfl) (hg:qo ops L.tree o.guard=some true:=by exact rfl) (hx:kA L x=some (.slice (some ⟨b,o',none⟩) n cap):=by exact rfl) (hy:kA L y=some u:=by exact rfl)
 (hs:qQ P ts=some e:=by exact rfl) (hz:qV P e=some zc:=by exact rfl) (hzl:zc.length=z:=by exact rfl) (hby:Qh P e=some (by_+1):=by exact rfl) (hxs:P.underlying tx=some (.slice e):=by exact rfl)
 (hc:n+m≤cap:=by omega) (hcc:o'+cap*z≤cc.length:=by assumption) (h1:new.all one? = true:=by assumption) (hsz:(m+1)*(by_+1)≤140737488355328:=by omega) (hdst:o.dst=some d:=by exact rfl) (hds:Nat.blt d sz=true:=by exact rfl):KO P X sz ops (o :: os) L h R:=by
 subst hzl;have hlen:=hr.length;have hfit:o'+n*zc.length+new.length≤cc.length:=by
  rw [hlen,zF7,← zE1];exact zD0 (Nat.add_le_add_left (zD3 _ hc) _) hcc
 have k2:Nat.beq new.length (m*zc.length)=true:=by rw [hlen];simp
 have hsrc:Q9 zc.length u h=some (m,new):=hr.source;have go:∀ h',zV P [ts,tx] (.slice (some ⟨b,o',none⟩) n cap) u h=some (.slice (some ⟨b,o',none⟩) (n+m) cap,h')→Chg h h' b (.cells (splice cc (o'+n*zc.length) new) e2 slk false)→KO P X sz ops (o :: os) L h R:=fun h' q1 q2=>by
  refine zo (v:=.slice (some ⟨b,o',none⟩) (n+m) cap) (h':=h') hg ?_ (by simp only [qG,hdst,hds]) (w h' q2);rw [ho];simp [zX,qE hx,qE hy,jA,jk,q1,Qa]
 cases m with
 | zero =>
  have hn:new=[]:=zE9.1 (by omega);subst hn;refine go h ?_ ⟨by rw [qaA (by simp at hfit;omega)];exact hb,fun _ _ _=>rfl,zA3 _,wf⟩;simp only [zV,hs,hxs,hz,hby,hsrc,zB3 hsz,h1,k2,zF9,hb,zB3 (show n≤cap from hc),Nat.add_zero]
 | succ m =>
  refine go (h.put b (.cells (splice cc (o'+n*zc.length) new) e2 slk false)) ?_ ⟨by rw [AH.get_put,if_pos rfl],fun j hj _=>by rw [AH.get_put,if_neg hj],zA3 _,wf.put (wf.lt hb) _⟩;simp only [zV,hs,hxs,hz,hby,hsrc,zB3 hsz,h1,k2,zF9,hb,zB3 hc,putCells,zB3 hfit]
end
def Bst (d:Int→Int→Int) (L J:List Int) (i k best:Nat) (least:Int):Prop :=
 (i=0∧k=0∧best=0∧least = -1)∨(best<L.length∧0≤least∧(∃ u∈J,least=d (L.getD best default) u)∧(∀ j,j<i→∀ y∈J,least≤d (L.getD j default) y)∧∀ m,m<k→least≤d (L.getD i default) (J.getD m default))
theorem Bst.new {d:Int→Int→Int} (m:Met d) {L J:List Int} {i k best:Nat} {least:Int} (h:Bst d L J i k best least) (hi:i<L.length) (hk:k<J.length) (hx:least<0∨d (L.getD i default) (J.getD k default)<least) :
 Bst d L J i (k+1) i (d (L.getD i default) (J.getD k default)):=by
 refine .inr ⟨hi,m.nn _ _,⟨_,qK hk,rfl⟩,?_,?_⟩
 ·rcases h with ⟨rfl,-,-,-⟩|⟨-,h2,-,h4,-⟩
  ·exact fun j hj=>absurd hj (zB7 _)
  ·exact fun j hj y hy=>by have:=h4 j hj y hy;omega
 ·rcases h with ⟨-,rfl,-,-⟩|⟨-,h2,-,-,h5⟩
  ·intro j hj;rw [show j=0 by omega];exact Int.le_refl _
  ·exact Qb (fun j hj=>by have:=h5 j hj;omega) (Int.le_refl _)
theorem Bst.old {d:Int→Int→Int} {L J:List Int} {i k best:Nat} {least:Int} (h:Bst d L J i k best least) (hx:¬ least<0) (hy:¬ d (L.getD i default) (J.getD k default)<least):Bst d L J i (k+1) best least:=by
 rcases h with ⟨-,-,-,rfl⟩|⟨h1,h2,h3,h4,h5⟩
 ·exact absurd (show (-1:Int)<0 by omega) hx
 ·exact .inr ⟨h1,h2,h3,h4,Qb h5 (by omega)⟩
theorem Bst.row {d:Int→Int→Int} {L J:List Int} {i best:Nat} {least:Int} (h:Bst d L J i J.length best least) (hJ:J≠[]):Bst d L J (i+1) 0 best least:=by
 rcases h with ⟨-,h,-,-⟩|⟨h1,h2,h3,h4,h5⟩
 ·exact absurd (zE9.1 h) hJ
 ·refine .inr ⟨h1,h2,h3,Qb h4 fun y hy=>?_,fun m hm=>absurd hm (zB7 _)⟩;obtain ⟨j,hj,rfl⟩:=zy.1 hy;exact h5 j hj
theorem Bst.fin {d:Int→Int→Int} {L J:List Int} {best:Nat} {least:Int} (h:Bst d L J L.length 0 best least) (hL:0<L.length):best<L.length∧0≤least∧∃ u∈J,least=d (L.getD best default) u∧∀ x∈L,∀ y∈J,d (L.getD best default) u≤d x y:=by
 rcases h with ⟨h,-,-,-⟩|⟨h1,h2,⟨u,h3,h4⟩,h5,-⟩
 ·omega
 ·refine ⟨h1,h2,u,h3,h4,fun x hx y hy=>?_⟩;obtain ⟨j,hj,rfl⟩:=zy.1 hx;rw [← h4];exact h5 j hj y hy
end Go.Proofs.Xx
namespace Go.Proofs.Xx
def qip (l:List Int) (a b:Nat):List Int:=(l.set a (l.getD b default)).set b (l.getD a default)
def e82 (x:Nat×Nat):List Value:=[.int .u8 x.1,.int .u8 x.2]
end Go.Proofs.Xx
namespace Go.Proofs.Xx
def qdm (ld:Int→Int):List Int→Int
 | []=>0
 | t :: l=>ld t+qdm ld l
def seg (w:List Int) (i j:Nat):List Int:=(w.drop i).take (j - i)
theorem qdx {w:List Int} {i j:Nat} (h:i≤j):seg w i j ++ w.drop j=w.drop i:=by
 have:=zH0 (j - i) (w.drop i);rw [List.drop_drop,show i+(j - i)=j by omega] at this;exact this
def qi3 (ld:Int→Int) (k:Int) (c:List (List Int)):Prop:=∀ p∈c,p≠[]∧qdm ld p≤k
def cost (d:Int→Int→Int):List (List Int)→Int
 | []=>0
 | p :: c=>vF d p+cost d c
def BestC (d:Int→Int→Int) (ld:Int→Int) (k:Int) (w:List Int) (i:Nat) (f:Int):Prop:=∀ c,qi3 ld k c→c.flatten=w.drop i→f≤cost d c
theorem BestC.last {d:Int→Int→Int} (m:Met d) {ld:Int→Int} {k:Int} {w:List Int}:BestC d ld k w w.length 0:=fun c _ h=>by
 rw [List.drop_length] at h;induction c with
 | nil=>exact Int.le_refl _
 | cons p c ih =>
  simp only [List.flatten_cons,List.append_eq_nil_iff] at h;have h1:=qe6 m p (-1) (-1);have h2:=ih (fun q hq=>by rename_i hc;exact hc q (List.mem_cons_of_mem _ hq)) h.2;show 0≤vF d p+cost d c
  unfold vF;omega
theorem BestC.step {d:Int→Int→Int} {ld:Int→Int} {k:Int} {w:List Int} {i:Nat} {f:Int} {F:Nat→Int} (hi:i<w.length) (hF:∀ j,i<j→j≤w.length→BestC d ld k w j (F j))
 (h:∀ j,i<j→j≤w.length→qdm ld (seg w i j)≤k→f≤vF d (seg w i j)+F j):BestC d ld k w i f:=fun c hc e=>by
 cases c with
 | nil =>
  have:=congrArg List.length e;simp at this;omega
 | cons p c =>
  obtain ⟨h1,h2⟩:=hc p (by simp);have hp:0<p.length:=List.length_pos_iff.2 h1;rw [List.flatten_cons] at e;have el:=congrArg List.length e;simp only [zB2,zB4] at el;have es:seg w i (i+p.length)=p:=by
   unfold seg;rw [← e,show i+p.length - i=p.length by omega];simp
  have ed:c.flatten=w.drop (i+p.length):=by
   have:=qdx (w:=w) (i:=i) (j:=i+p.length) (by omega);rw [es,← e] at this;exact (List.append_cancel_left this).symm
  have h3:=h (i+p.length) (by omega) (by omega) (by rw [es];exact h2);have h4:=hF (i+p.length) (by omega) (by omega) c (fun q hq=>hc q (List.mem_cons_of_mem _ hq)) ed;rw [es] at h3;show f≤vF d p+cost d c
  omega
section
variable {P:Program} {X:Extern} {sz:Nat} {L L':Ks} {h h0:AH} {rs:List Rs} {ops:Array Oper} {os:List Oper} {o:Oper} {R:Ks→AH→Prop}
end
abbrev xW {α:Type} (f:α→Rs) (l:List α):Rs:=.any (fun h fp=>Star h (l.map f) fp)
theorem Star.qfY {h:AH} {r:Rs} {fp:Fp} (hr:r.ok h fp):∀ {l:List Rs} {U:Fp},Star h l U→(∀ b,fp b→¬ U b)→Star h (l ++ [r]) (fun b=>U b∨fp b)
 | [],U,_,_=>⟨fp,hr,fun b hb=>.inr hb,trivial⟩
 | x :: l,U,⟨fx,h1,h2,h3⟩,hd=>⟨fx,h1,fun b hb=>.inl (h2 b hb),(Star.qfY hr h3 fun b hb q=>hd b hb q.1).mono fun b hb=>by
  rcases hb with hb|hb
  ·exact ⟨.inl hb.1,hb.2⟩
  ·exact ⟨.inr hb,fun q=>hd b hb (h2 b q)⟩⟩
section
variable {α:Type} {f:α→Rs} {h0 h:AH} {rs:List Rs} {gs:List α} {g:α}
theorem Hs.qh5 (S:Hs h0 h rs):Hs h0 h (xW f [] :: rs):=S.anyS fun h'=>trivial
theorem Hs.qh6 (S:Hs h0 h (f g :: xW f gs :: rs)):Hs h0 h (xW f (gs ++ [g]) :: rs):=by
 obtain ⟨f1,k1,k2,f2,k3,k4,k5⟩:=S.sep;refine ⟨S.ext,fun b=>f2 b∨f1 b,fun h' q=>?_,fun b hb=>?_,k5.mono fun b hb=>⟨trivial,fun q=>?_⟩⟩
 ·rw [zC9];exact Star.qfY (k1.local fun b hb=>q b (.inr hb)) (k3 h' fun b hb=>q b (.inl hb)) fun b hb q=>(k4 b q).2.2.2 hb
 ·rcases hb with hb|hb
  ·exact ⟨(k4 b hb).1,(k4 b hb).2.1,trivial⟩
  ·exact k2 b hb
 ·rcases q with q|q
  ·exact hb.2 q
  ·exact hb.1.2 q
theorem Star.qgQ {r:Rs}:∀ {l:List Rs} {U:Fp},Star h l U→r∈l→∃ fp,r.ok h fp
 | x :: l,U,⟨fx,h1,h2,h3⟩,hr=>by
  rcases zE8.1 hr with rfl|hr
  ·exact ⟨fx,h1⟩
  ·exact Star.qgQ h3 hr
theorem qbt {α:Type} {v:Value} {e:TypeId} {z:Nat} {enc:α→List Value} {l:List α} {h:AH} {fp:Fp} (k:(Rs.sl v e z enc l).ok h fp):zl h v z enc l:=by
 rcases k with ⟨rfl,rfl⟩|⟨b,o,cc,slk,cap,h1,h2,h3,h4,-⟩
 ·exact .inl ⟨rfl,rfl,rfl⟩
 ·exact .inr ⟨b,o,_,cc,e,slk,false,h1,h2,h4⟩
end
def ldP (pl:List Int) (t:Int):Int:=pl.getD t.toNat default
structure B3 where
 s:Int
 t:Int
 e:Int
instance:Inhabited B3:=⟨⟨0,0,0⟩⟩
def e3 (x:B3):List Value:=[.int .i64 x.s,.int .i64 x.t,.int .i64 x.e]
structure Tr_ where
 tv:SlV
 ta:List Int
 pl:Int
 st:Int
instance:Inhabited Tr_:=⟨⟨⟨none,0,0⟩,[],0,0⟩⟩
def eTr (x:Tr_):List Value:=[x.tv.val,.int .i64 x.pl,.int .i64 x.st]
abbrev qjU (x:Tr_):Rs:=.sl x.tv.val 3 1 eI x.ta
structure FrI (p:Pb) (ld:Int→Int) (k:Int) (way:List Int) (m:Nat) (F:List B3):Prop where
 len:F.length=way.length+1
 best:∀ j,m≤j→j≤way.length→BestC (stp p.tabs) ld k way j (F.getD j default).s
 last:(F.getD way.length default).s=0
 bnd:∀ j,j≤way.length→(0≤(F.getD j default).s∧(F.getD j default).s≤4000*(way.length - j:Int))∧0≤(F.getD j default).t∧(F.getD j default).t≤(way.length - j:Int)
 stp_:∀ j,m≤j→j<way.length→∃ e:Nat,(F.getD j default).e=e∧j<e∧e≤way.length∧qdm ld (seg way j e)≤k∧(F.getD j default).s=vF (stp p.tabs) (seg way j e)+(F.getD e default).s
def qjA (p:Pb) (ld:Int→Int) (k:Int) (x:Tr_):Prop:=x.ta≠[]∧x.pl=qdm ld x.ta∧x.st=vF (stp p.tabs) x.ta∧x.pl≤k
def qjR (p:Pb) (ld:Int→Int) (k:Int) (stops:List Int) (ts:List Tr_):Prop:=((ts.map (·.ta)).flatten).Perm stops∧∀ x∈ts,qjA p ld k x
end Go.Proofs.Xx
namespace Go.Proofs.Xx
def qio:(Nat→Int)→List Int→List Nat→Nat→Int
 | c,x :: q,w :: g=>qio (fun v=>if v=w then c v+x else c v) q g
 | c,_,_=>c
def qjE (n:Nat):Nat→List Nat→Prop
 | _,[]=>True
 | u,w :: g=>w<min (u+1) n∧qjE n (max u (w+1)) g
def swW (a b v:Nat):Nat:=if v=a then b else if v=b then a else v
def qjy (c:Nat→Int):Nat→Int
 | 0=>0
 | n+1=>qjy c n+c n
end Go.Proofs.Xx
namespace Go.Proofs.Xx
def mxF (f:Nat→Int):Nat→Int
 | 0=>0
 | n+1=>max (mxF f n) (f n)
def lds (qs c:List Int):Nat→Int:=qio (fun _=>0) qs (c.map Int.toNat)
def Lw (n:Nat) (qs c:List Int):Int:=mxF (lds qs c) n
def qhA (n:Nat):Nat→Nat→List Int→List (List Int)
 | 0,_,done=>[done]
 | k+1,u,done=>(List.range (min (u+1) n)).flatMap fun w=>qhA n k (max u (w+1)) (done ++ [(w:Int)])
def qj9 (n k u:Nat) (done:List Int) (i:Nat):List (List Int):=(List.range i).flatMap fun w=>qhA n k (max u (w+1)) (done ++ [(w:Int)])
def cvF (b13 b16 b11 b14 b15 b5 b12 b17:Nat):Value:=.func (.func 103) #[] #[.pointer (some ⟨b13,0,none⟩),.pointer (some ⟨b16,0,none⟩),.pointer (some ⟨b11,0,none⟩),.pointer (some ⟨b14,0,none⟩),.pointer (some ⟨b15,0,none⟩),.pointer (some ⟨b5,0,none⟩),.pointer (some ⟨b12,0,none⟩),.pointer (some ⟨b17,0,none⟩)]
abbrev wtR (b13 b16 b11 b14 b15 b5 b12 b17:Nat) (vs vp vc:Value) (stops pl:List Int) (n:Nat) (vw vb:Value) (who best:List Int) (least:Int) (ca:List Int):List Rs :=
 [.sl vw 3 1 eI who,.sl vc 3 1 eI ca,.sl vb 3 1 eI best,.blk b16 [.int .i64 least] 3,.blk b14 [vw] 25,.blk b15 [vb] 25,.blk b13 [vc] 25,.sl vs 3 1 eI stops,.blk b11 [vs] 25,.sl vp 3 1 eI pl,.blk b12 [vp] 25,.blk b5 [.int .i64 n] 3,.blk b17 [cvF b13 b16 b11 b14 b15 b5 b12 b17] 142]
structure Gy where
 sv:SlV
 r:List Int
instance:Inhabited Gy:=⟨⟨⟨none,0,0⟩,[]⟩⟩
def qfu (x:Gy):List Value:=[x.sv.val]
abbrev qjG (x:Gy):Rs:=.sl x.sv.val 3 1 eI x.r
def qjs (st best:List Int) (i w:Nat):List Int:=(((st.zip best).take i).filter fun x=>decide (x.2=(w:Int))).map (·.1)
noncomputable def qjO (p:Pb) (q:List Int) (n:Nat):qah:=(qhA n (srv (qdJ p q)).length 0 []).foldl (qgn (Lw n ((srv (qdJ p q)).map (ldP (qdJ p q))))) ([],-1)
def qjw (st B:List Int) (i:Nat):Nat→List Int
 | 0=>[]
 | n+1=>qjw st B i n ++ qjs st B i n
def ldN (pl:List Int) (n:Int):Int:=max (mxF (fun i=>pl.getD i default) pl.length) (pl.sum / n+min 1 (pl.sum % n))
variable [Flag]
end Go.Proofs.Xx
namespace Go.Proofs.Xx
open Go Go.Proofs
end Go.Proofs.Xx
namespace Go.Proofs.Xx
def qjF (n:Nat):Nat→List Int→List (List Int)
 | 0,done=>[done]
 | k+1,done=>(List.range n).flatMap fun w:Nat=>qjF n k (done ++ [(w:Int)])
abbrev nI (g:List Nat):List Int:=g.map fun w:Nat=>(w:Int)
def exW (u w x:Nat):Nat:=if x=u then w else if x=w then u else x
def qit (n:Nat):Nat→Nat→List Nat
 | 0,_=>[]
 | j+1,k=>qit n j (k / n) ++ [k % n]
end Go.Proofs.Xx
namespace Go.Proofs.Xx
variable [Flag]
theorem Srt.out {a i:Nat} {m n:List (List UInt8)} (h:Srt jv a i m) (e:∀ k,a≤k→k<i→n.getD k default=m.getD k default):Srt jv a i n:=fun p q h1 h2 h3=>by
 rw [e p h1 (by omega),e q (by omega) h3];exact h p q h1 h2 h3
end Go.Proofs.Xx
namespace Go.Proofs.Xx
open Go Go.Proofs
variable [Flag]
end Go.Proofs.Xx
namespace Go.Proofs.Xx
open Go Go.Proofs
def MpRd {α:Type} (h:AH) (b:Nat) (enc:α→Value) (l:List (List UInt8×α)):Prop:=∃ es clock,h.get b=some (.map es clock)∧es.map (fun e=>(e.1,e.2.1))=l.map (fun p=>(Value.string ⟨p.1.toArray⟩,enc p.2))
theorem MpRd.ext {α:Type} {h h':AH} {b:Nat} {enc:α→Value} {l:List (List UInt8×α)} (r:MpRd h b enc l) (w:WfH h) (x:Ext h h'):MpRd h' b enc l:=by
 obtain ⟨es,clock,h1,h2⟩:=r;exact ⟨es,clock,x.get w h1,h2⟩
section
variable {P:Program} {X:Extern} {sz:Nat} {L:Ks} {h h0:AH} {rs:List Rs} {ops:Array Oper} {os:List Oper} {o:Oper} {R:Ks→AH→Prop}
end
structure BkAt (h:AH) (p:Nat) (r:Rl) (s:BkS):Prop where
 bk:h.get p=some (.cells [s.vg.val,s.vt.val,.map (some s.m)] 329 none false)
 rg:zl h s.vg.val 9 eG s.gs
 rt:zl h s.vt.val 3 Qy r.ts
 mp:MpRd h s.m (.int .i64) s.mp
 tg:∀ i,i<s.gs.length→zl h (s.gs.getD i default).tv.val 1 eS (s.gs.getD i default).tg
 us:s.gs.map (·.toGu)=r.us
 at_:AtOk s.mp r.us
def BkRd (h:AH) (p:Nat) (r:Rl):Prop:=∃ s,BkAt h p r s
theorem BkRd.ext {h h':AH} {p:Nat} {r:Rl} (b:BkRd h p r) (w:WfH h) (x:Ext h h'):BkRd h' p r:=by
 obtain ⟨s,b⟩:=b;exact ⟨s,x.get w b.bk,b.rg.ext w x,b.rt.ext w x,b.mp.ext w x,fun i hi=>(b.tg i hi).ext w x,b.us,b.at_⟩
theorem BkAt.len {h:AH} {p:Nat} {r:Rl} {s:BkS} (b:BkAt h p r s):s.gs.length=r.us.length:=by rw [← b.us];simp
theorem BkAt.g {h:AH} {p:Nat} {r:Rl} {s:BkS} (b:BkAt h p r s) {i:Nat} (hi:i<s.gs.length):(s.gs.getD i default).toGu=r.us.getD i default:=by rw [← b.us,ji hi]
def SS (l:List (List UInt8)):Prop:=∀ i j,i<j→j<l.length→jv (l.getD i default) (l.getD j default)
theorem qdU {l:List (List UInt8)} (h:l.Nodup) {i j:Nat} (hij:i<j) (hj:j<l.length):l.getD i default≠l.getD j default:=by
 rw [zA2,zA2,zA4 hj,zA4 (show i<l.length by omega)];exact zD2.1 h i j (by omega) hj hij
theorem SS.of {l l':List (List UInt8)} (s:Sw 0 l.length l l') (h:Srt jv 0 l.length l') (hn:l.Nodup):SS l':=fun i j hij hj=>by
 have hl:=s.len;have hn':l'.Nodup:=s.perm.nodup_iff.2 hn;have h1:=h i j (zB0 _) hij (by omega);rcases qgs h1 with q|q
 ·exact absurd q (qdU hn' hij hj)
 ·exact q
theorem SS.nodup {l:List (List UInt8)} (h:SS l):l.Nodup:=by
 rw [List.nodup_iff_pairwise_ne,zD2];intro i j hi hj hij;have:=h i j hij hj;rw [zA2,zA2,zA4 hj,zA4 hi] at this;exact qdA this
def adj (r:Rl) (k:Int) (n x:List UInt8):Prop:=∃ t∈r.ts,t.k=k∧((t.a=n∧t.b=x)∨(t.b=n∧t.a=x))
theorem adj.symm {r:Rl} {k:Int} {n x:List UInt8} (h:adj r k n x):adj r k x n:=by
 obtain ⟨t,h1,h2,h3⟩:=h;exact ⟨t,h1,h2,h3.elim (fun q=>.inr ⟨q.2,q.1⟩) (fun q=>.inl ⟨q.2,q.1⟩)⟩
def qjT (k:Int) (n:List UInt8) (t:Ti):List (List UInt8):=if t.k≠k then [] else if t.a=n then [t.b] else if t.b=n then [t.a] else []
variable [Flag]
end Go.Proofs.Xx
namespace Go.Proofs.Xx
open Go Go.Proofs
section
variable {P:Program} {X:Extern} {sz:Nat} {L:Ks} {h h0:AH} {rs:List Rs} {ops:Array Oper} {os:List Oper} {o:Oper} {R:Ks→AH→Prop}
theorem bE {L1 L2:Ks} {x y:Operand} {ty ty2:TypeId} {a b:Bool} (w1:a=b→KO P X sz ops os L1 h R) (w2:¬ a=b→KO P X sz ops os L2 h R) (ho:o.op = .binOp .eql ty x y ty2:=by exact rfl) (hg:qo ops L.tree o.guard=some true:=by exact rfl) (hx:kA L x=some (.bool a):=by exact rfl) (hy:kA L y=some (.bool b):=by exact rfl) (hu:P.underlying ty=some .bool:=by exact rfl)
 (hp1:qG sz L o.dst (.bool true)=some L1:=by exact rfl) (hp2:qG sz L o.dst (.bool false)=some L2:=by exact rfl):KO P X sz ops (o :: os) L h R:=by
 by_cases p:a=b
 ·subst p;exact zN ho hg hx hy (v:=.bool true) (by cases a<;>simp [jP,hu]) hp1 (w1 rfl)
 ·exact zN ho hg hx hy (v:=.bool false) (by cases a<;>cases b<;>first|exact absurd rfl p|simp [jP,hu]) hp2 (w2 p)
end
theorem XT {α:Type} [Inhabited α] {l m:List α} (hl:l.length=m.length) (h:∀ i,i<l.length→l.getD i default=m.getD i default):l=m:=by
 apply List.ext_getElem hl
 intro i h1 h2;have:=h i h1;rwa [zA2,zA2,zA4 h1,zA4 h2] at this
theorem qhJ (a b:Ti):(zK ⟨a.a.toArray⟩ ⟨b.a.toArray⟩ && (zK ⟨a.b.toArray⟩ ⟨b.b.toArray⟩ && (a.k == b.k && true)))=true↔a=b:=by
 rw [jJ,jJ];cases a;cases b
 simp
theorem Star.snoc {h:AH} {r:Rs} {fp:Fp} (hr:r.ok h fp):∀ {l:List Rs} {U:Fp},Star h l U→(∀ b,fp b→¬ U b)→Star h (l ++ [r]) (fun b=>U b∨fp b)
 | [],U,_,_=>⟨fp,hr,fun b hb=>.inr hb,trivial⟩
 | x :: l,U,⟨fx,h1,h2,h3⟩,hd=>⟨fx,h1,fun b hb=>.inl (h2 b hb),(Star.snoc hr h3 fun b hb q=>hd b hb q.1).mono fun b hb=>by
  rcases hb with hb|hb
  ·exact ⟨.inl hb.1,hb.2⟩
  ·exact ⟨.inr hb,fun q=>hd b hb (h2 b q)⟩⟩
abbrev qe0 (g:ZL):Rs:=.sl g.tv.val 9 1 eS g.tg
abbrev tgO (gs:List ZL):Rs:=.any (fun h fp=>Star h (gs.map qe0) fp)
theorem Hs.qgo {h0 h:AH} {rs:List Rs} {gs:List ZL} {g:ZL} (S:Hs h0 h (.sl g.tv.val 9 1 eS g.tg :: tgO gs :: rs)):Hs h0 h (tgO (gs ++ [g]) :: rs):=by
 obtain ⟨f1,k1,k2,f2,k3,k4,k5⟩:=S.sep;refine ⟨S.ext,fun b=>f2 b∨f1 b,fun h' q=>?_,fun b hb=>?_,k5.mono fun b hb=>⟨trivial,fun q=>?_⟩⟩
 ·rw [zC9];exact Star.snoc (k1.local fun b hb=>q b (.inr hb)) (k3 h' fun b hb=>q b (.inl hb)) fun b hb q=>(k4 b q).2.2.2 hb
 ·rcases hb with hb|hb
  ·exact ⟨(k4 b hb).1,(k4 b hb).2.1,trivial⟩
  ·exact k2 b hb
 ·rcases q with q|q
  ·exact hb.2 q
  ·exact hb.1.2 q
theorem Star.get {h:AH} {r:Rs}:∀ {l:List Rs} {U:Fp},Star h l U→r∈l→∃ fp,r.ok h fp
 | x :: l,U,⟨fx,h1,h2,h3⟩,hr=>by
  rcases zE8.1 hr with rfl|hr
  ·exact ⟨fx,h1⟩
  ·exact Star.get h3 hr
abbrev qjV (v:RlV) (ts:List Ti):List Rs:=[.sl v.vg.val 45 9 eG v.gs,.sl v.vt.val 198 3 Qy ts,tgO v.gs]
variable [Flag]
theorem Ko {h0:AH} (w:WfH h0) (v u:Value) (l m:List (List UInt8)) (rv:zl h0 v 1 eS l) (ru:zl h0 u 1 eS m) (hl:l.length≤9223372036854775807) (hm:m.length≤9223372036854775807):Fn Tryz.prog Xh 319 [v,u] h0 (fun x h'=>qI x (l=m)∧Hs h0 h' []):=by
 have S:=Hs.start w;refine qA (by first|rfl) Tryz.func319 rfl rfl ?_;all_goals (repeat' (first|refine qg ?_|refine qh rfl ?_|refine qi ?_|refine ql ?_|(refine qc 0 ?_;refine mv ?_;refine qf ?_)|(refine qc 1 ?_;refine mv ?_;refine jc S ?_;refine mv ?_;refine jc S ?_;(first|(refine cS ?_ ?_<;>intro hc))<;>(refine qf ?_))|(refine qc 2 ?_;refine mv ?_;refine qf ?_)|(refine qc 3 ?_;refine mv ?_;refine qf ?_)))
 ·refine qj ⟨_,rfl,?_⟩;exact ⟨.inr ⟨rfl,fun q=>by subst q;exact hc rfl⟩,S⟩
 ·refine qB (σ:=Nat) (fun i h'=>Hs h0 h' []∧i≤l.length∧∀ j,j<i→l.getD j default=m.getD j default) (fun i=>l.length - i) (fun i=>[(0,v),(1,u),(5,.int .i64 i)]) 0 qw ?_ ?_
  ·exact ⟨S,zB0 _,fun j hj=>absurd hj (zB7 _)⟩
  clear S;rintro i h ⟨S,g1,g2⟩;all_goals (repeat' (first|refine qg ?_|refine qh rfl ?_|refine qi ?_|refine qy ?_|refine ql ?_|(refine qc 4 ?_;refine mv ?_;refine mv ?_;refine jc S ?_;(first|(refine cS ?_ ?_<;>intro hc))<;>(refine qf ?_))|(refine qc 5 ?_;refine mv ?_;refine ad ?_;refine mv ?_;refine qf ?_)|(refine qF 6 ?_;refine mv ?_;refine mv ?_;refine zT S ?_;refine zQ S ?_;refine mv ?_;refine mv ?_;refine zT S ?_;refine zQ S ?_;(refine tS ?_ ?_<;>intro hc)<;>(refine qf ?_))|(refine qc 7 ?_;refine mv ?_;refine qf ?_)|(refine qc 8 ?_;refine mv ?_;refine qf ?_)))
  all_goals (try simp only [zA0] at *)
  ·refine ⟨i+1,?_,?_,qw⟩
   ·show l.length - (i+1)<l.length - i;omega
   ·exact ⟨S,by omega,Qb g2 hc⟩
  ·refine qj ⟨_,rfl,?_⟩;exact ⟨.inr ⟨rfl,fun q=>by subst q;exact hc rfl⟩,S⟩
  ·refine qj ⟨_,rfl,?_⟩;exact ⟨.inl ⟨rfl,XT (by omega) fun j hj=>g2 j (by omega)⟩,S⟩
theorem pz {h0:AH} (w:WfH h0) (v u:Value) (l m:List Ti) (rv:zl h0 v 3 Qy l) (ru:zl h0 u 3 Qy m) (hl:l.length≤9223372036854775807) (hm:m.length≤9223372036854775807):Fn Tryz.prog Xh 159 [v,u] h0 (fun x h'=>qI x (l=m)∧Hs h0 h' []):=by
 have S:=Hs.start w;refine qA (by first|rfl) Tryz.func159 rfl rfl ?_;all_goals (repeat' (first|refine qg ?_|refine qh rfl ?_|refine qi ?_|refine ql ?_|(refine qc 0 ?_;refine mv ?_;refine qf ?_)|(refine qc 1 ?_;refine mv ?_;refine jc S ?_;refine mv ?_;refine jc S ?_;(first|(refine cS ?_ ?_<;>intro hc))<;>(refine qf ?_))|(refine qc 2 ?_;refine mv ?_;refine qf ?_)|(refine qc 3 ?_;refine mv ?_;refine qf ?_)))
 ·refine qj ⟨_,rfl,?_⟩;exact ⟨.inr ⟨rfl,fun q=>by subst q;exact hc rfl⟩,S⟩
 ·refine qB (σ:=Nat) (fun i h'=>Hs h0 h' []∧i≤l.length∧∀ j,j<i→l.getD j default=m.getD j default) (fun i=>l.length - i) (fun i=>[(0,v),(1,u),(5,.int .i64 i)]) 0 qw ?_ ?_
  ·exact ⟨S,zB0 _,fun j hj=>absurd hj (zB7 _)⟩
  clear S;rintro i h ⟨S,g1,g2⟩;all_goals (repeat' (first|refine qg ?_|refine qh rfl ?_|refine qi ?_|refine qy ?_|refine ql ?_|(refine qc 4 ?_;refine mv ?_;refine mv ?_;refine jc S ?_;(first|(refine cS ?_ ?_<;>intro hc))<;>(refine qf ?_))|(refine qc 5 ?_;refine mv ?_;refine ad ?_;refine mv ?_;refine qf ?_)|(refine qF 6 ?_;refine mv ?_;refine mv ?_;refine zT S ?_;refine zQ S ?_;refine mv ?_;refine mv ?_;refine zT S ?_;refine zQ S ?_;(refine gE ?_ ?_<;>intro hc)<;>(refine qf ?_))|(refine qc 7 ?_;refine mv ?_;refine qf ?_)|(refine qc 8 ?_;refine mv ?_;refine qf ?_)))
  all_goals (try simp only [zA0] at *)
  ·refine ⟨i+1,?_,?_,qw⟩
   ·show l.length - (i+1)<l.length - i;omega
   ·exact ⟨S,by omega,Qb g2 ((qhJ _ _).1 hc)⟩
  ·refine qj ⟨_,rfl,?_⟩;exact ⟨.inr ⟨rfl,fun q=>by subst q;rw [(qhJ _ _).2 rfl] at hc;cases hc⟩,S⟩
  ·refine qj ⟨_,rfl,?_⟩;exact ⟨.inl ⟨rfl,XT (by omega) fun j hj=>g2 j (by omega)⟩,S⟩
theorem Kr {h0:AH} (w:WfH h0) (g k:ZL) (rg:zl h0 g.tv.val 1 eS g.tg) (rk:zl h0 k.tv.val 1 eS k.tg) (hg:g.tg.length≤9223372036854775807) (hk:k.tg.length≤9223372036854775807):Fn Tryz.prog Xh 237 [gV g,gV k] h0 (fun x h'=>qI x (g.toGu=k.toGu)∧Hs h0 h' []):=by
 have S:=Hs.start w;obtain ⟨⟨n1,n2,n3,n4,n5,n6,n7,n8,n9⟩,n10⟩:=g;obtain ⟨⟨m1,m2,m3,m4,m5,m6,m7,m8,m9⟩,m10⟩:=k;unfold gV;dsimp only at *;refine qA (by first|rfl) Tryz.func237 rfl rfl ?_;all_goals (repeat' (first|refine qg ?_|(refine qc 0 ?_;(refine bx S ?_;clear S;intro b h S);(refine bx S ?_;clear S;intro b h S);refine mv ?_;refine qf ?_)|(refine qc 1 ?_;refine vl ?_;refine lB S rfl rfl ?_;refine vl ?_;refine lB S rfl rfl ?_;(refine tS ?_ ?_<;>intro hc)<;>(refine mv ?_;(first|refine off ?_|(refine vl ?_));(first|refine off ?_|(refine lB S rfl rfl ?_));(first|refine off ?_|(refine vl ?_));(first|refine off ?_|(refine lB S rfl rfl ?_));(first|refine off ?_|(refine tS ?_ ?_<;>intro hc))<;>(refine vl ?_;refine mv ?_;(first|refine off ?_|(refine vl ?_));(first|refine off ?_|(refine lB S rfl rfl ?_));(first|refine off ?_|(refine vl ?_));(first|refine off ?_|(refine lB S rfl rfl ?_));(first|refine off ?_|(refine tS ?_ ?_<;>intro hc))<;>(refine vl ?_;refine mv ?_;(first|refine off ?_|(refine vl ?_));(first|refine off ?_|(refine lB S rfl rfl ?_));(first|refine off ?_|(refine vl ?_));(first|refine off ?_|(refine lB S rfl rfl ?_));(first|refine off ?_|(first|(refine cS ?_ ?_<;>intro hc)))<;>(refine vl ?_;refine mv ?_;(first|refine off ?_|(refine vl ?_));(first|refine off ?_|(refine lB S rfl rfl ?_));(first|refine off ?_|(refine vl ?_));(first|refine off ?_|(refine lB S rfl rfl ?_));(first|refine off ?_|(first|(refine cS ?_ ?_<;>intro hc)))<;>(refine vl ?_;refine mv ?_;(first|refine off ?_|(refine vl ?_));(first|refine off ?_|(refine lB S rfl rfl ?_));(first|refine off ?_|(refine vl ?_));(first|refine off ?_|(refine lB S rfl rfl ?_));(first|refine off ?_|(refine tS ?_ ?_<;>intro hc))<;>(refine vl ?_;refine mv ?_;(first|refine off ?_|(refine vl ?_));(first|refine off ?_|(refine lB S rfl rfl ?_));(first|refine off ?_|(refine vl ?_));(first|refine off ?_|(refine lB S rfl rfl ?_));(first|refine off ?_|(refine bE ?_ ?_<;>intro hc))<;>(refine vl ?_;refine mv ?_;(first|refine off ?_|(refine vl ?_));(first|refine off ?_|(refine lB S rfl rfl ?_));(first|refine off ?_|(refine vl ?_));(first|refine off ?_|(refine lB S rfl rfl ?_));(first|refine off ?_|(refine bE ?_ ?_<;>intro hc))<;>(refine vl ?_;refine mv ?_;(first|refine off ?_|(refine vl ?_));(first|refine off ?_|(refine lB S rfl rfl ?_));(first|refine off ?_|(refine vl ?_));(first|refine off ?_|(refine lB S rfl rfl ?_));(first|(refine off ?_;refine vl ?_;refine mv ?_;refine qf ?_)|skip))))))))))))
 ·(refine qm rfl rfl rfl rfl rfl ((Ko S.wf n10.val m10.val n9 m9 (rg.ext w S.ext) (rk.ext w S.ext) hg hk).mono ?_);rintro _ h ⟨⟨rfl,z⟩|⟨rfl,z⟩,x⟩)<;>(replace S:=S.qx x;clear x;refine vl ?_;refine mv ?_;refine qf ?_)
  ·all_goals (repeat' (fail))
   refine qj ⟨_,rfl,?_⟩;refine ⟨.inl ⟨rfl,?_⟩,S.drop⟩;simp only [Gu.mk.injEq];exact ⟨by assumption,by assumption,by assumption,by assumption,by assumption,by assumption,by assumption,by assumption,z⟩
  ·all_goals (repeat' (fail))
   refine qj ⟨_,rfl,?_⟩;refine ⟨.inr ⟨rfl,fun q=>?_⟩,S.drop⟩;simp only [Gu.mk.injEq] at q;exact z q.2.2.2.2.2.2.2.2
 all_goals
  refine qj ⟨_,rfl,?_⟩;refine ⟨.inr ⟨rfl,fun q=>?_⟩,S.drop⟩;simp only [Gu.mk.injEq] at q;exact absurd (by first|exact q.1|exact q.2.1|exact q.2.2.1|exact q.2.2.2.1|exact q.2.2.2.2.1|exact q.2.2.2.2.2.1|exact q.2.2.2.2.2.2.1|exact q.2.2.2.2.2.2.2.1) hc
theorem vK {h0:AH} (w:WfH h0) (v u:Value) (gs ks:List ZL) (rv:zl h0 v 9 eG gs) (ru:zl h0 u 9 eG ks) (tv:∀ i,i<gs.length→zl h0 (gs.getD i default).tv.val 1 eS (gs.getD i default).tg∧(gs.getD i default).tg.length≤9223372036854775807) (tu:∀ i,i<ks.length→zl h0 (ks.getD i default).tv.val 1 eS (ks.getD i default).tg∧(ks.getD i default).tg.length≤9223372036854775807) (hl:gs.length≤9223372036854775807) (hm:ks.length≤9223372036854775807) :
 Fn Tryz.prog Xh 158 [v,u] h0 (fun x h'=>qI x (gs.map (·.toGu)=ks.map (·.toGu))∧Hs h0 h' []):=by
 have S:=Hs.start w;refine qA (by first|rfl) Tryz.func158 rfl rfl ?_;all_goals (repeat' (first|refine qg ?_|refine qh rfl ?_|refine qi ?_|refine ql ?_|(refine qc 0 ?_;refine mv ?_;refine qf ?_)|(refine qc 1 ?_;refine mv ?_;refine jc S ?_;refine mv ?_;refine jc S ?_;(first|(refine cS ?_ ?_<;>intro hc))<;>(refine qf ?_))|(refine qc 2 ?_;refine mv ?_;refine qf ?_)|(refine qc 3 ?_;refine mv ?_;refine qf ?_)))
 ·refine qj ⟨_,rfl,?_⟩;exact ⟨.inr ⟨rfl,fun q=>by have:=congrArg List.length q;simp at this;omega⟩,S⟩
 ·refine qB (σ:=Nat) (fun i h'=>Hs h0 h' []∧i≤gs.length∧∀ j,j<i→(gs.getD j default).toGu=(ks.getD j default).toGu) (fun i=>gs.length - i) (fun i=>[(0,v),(1,u),(5,.int .i64 i)]) 0 qw ?_ ?_
  ·exact ⟨S,zB0 _,fun j hj=>absurd hj (zB7 _)⟩
  clear S;rintro i h ⟨S,g1,g2⟩;all_goals (repeat' (first|refine qg ?_|refine qh rfl ?_|refine qi ?_|refine qy ?_|refine ql ?_|(refine qc 4 ?_;refine mv ?_;refine mv ?_;refine jc S ?_;(first|(refine cS ?_ ?_<;>intro hc))<;>(refine qf ?_))|(refine qc 8 ?_;refine mv ?_;refine qf ?_)))
  ·have e1:=tv i (by omega);have e2:=tu i (by omega);all_goals (repeat' (first|(refine qF 6 ?_;refine mv ?_;refine mv ?_;refine zT S ?_;refine zQ S ?_;refine mv ?_;refine mv ?_;refine zT S ?_;refine zQ S ?_)))
   simp only [zA0];(refine qm rfl rfl rfl rfl rfl ((Kr S.wf (gs.getD i default) (ks.getD i default) (e1.1.ext w S.ext) (e2.1.ext w S.ext) e1.2 e2.2).mono ?_);rintro _ h ⟨⟨rfl,z⟩|⟨rfl,z⟩,x⟩)<;>(replace S:=S.qx x;clear x;refine vl ?_;refine qf ?_)
   ·all_goals (repeat' (first|refine qh rfl ?_|refine qi ?_|(refine qc 5 ?_;refine mv ?_;refine ad ?_;refine mv ?_;refine qf ?_)))
    refine ⟨i+1,?_,?_,qw⟩
    ·show gs.length - (i+1)<gs.length - i;omega
    ·exact ⟨S,by omega,Qb g2 z⟩
   ·all_goals (repeat' (first|refine qg ?_|refine qh rfl ?_|(refine qc 7 ?_;refine mv ?_;refine qf ?_)))
    refine qj ⟨_,rfl,?_⟩;refine ⟨.inr ⟨rfl,fun q=>z ?_⟩,S⟩;rw [← ji (f:=fun g:ZL=>g.toGu) (show i<gs.length by omega),← ji (f:=fun g:ZL=>g.toGu) (show i<ks.length by omega),q]
  ·refine qj ⟨_,rfl,?_⟩;refine ⟨.inl ⟨rfl,XT (by simp;omega) fun j hj=>?_⟩,S⟩;simp at hj;rw [ji (by omega),ji (by omega)];exact g2 j (by omega)
end Go.Proofs.Xx
namespace Go.Proofs.Xx
open Go Go.Proofs
structure TabC where
 name:List UInt8
 shape:Int
 A:Int
 B:Int
 opn:List Int
 X:Int
 Y:Int
instance:Inhabited TabC:=⟨⟨[],0,0,0,[],0,0⟩⟩
abbrev Tab.toC (t:Tab):TabC:=⟨t.name,t.shape,t.A,t.B,t.opn,t.X,t.Y⟩
theorem xm {l m:List Tab} (h:l.map (·.toC)=m.map (·.toC)) (i:Nat):(tb l i).toC=(tb m i).toC:=by
 have hl:l.length=m.length:=by have:=congrArg List.length h;simpa using this
 unfold tb;rcases zA7 i l.length with r|r
 ·have e:=congrArg (fun x=>x[i]?) h;simp only [zH8] at e;rw [zA4 r,zA4 (by omega)] at e;rw [zA2,zA2,zA4 r,zA4 (by omega)];exact Option.some.inj e
 ·rw [zA2,zA2,zG5 r,zG5 (by omega)]
section
variable {l m:List Tab} (h:l.map (·.toC)=m.map (·.toC))
include h
theorem Xm:l.length=m.length:=by have:=congrArg List.length h;simpa using this
theorem Vz (i:Nat):(tb l i).name=(tb m i).name:=congrArg TabC.name (xm h i)
theorem X_c (i:Nat):(tb l i).X=(tb m i).X:=congrArg TabC.X (xm h i)
theorem Y_c (i:Nat):(tb l i).Y=(tb m i).Y:=congrArg TabC.Y (xm h i)
theorem YH (i:Nat):qP (tb l i)=qP (tb m i):=by
 unfold qP;rw [show (tb l i).shape=(tb m i).shape from congrArg TabC.shape (xm h i),show (tb l i).A=(tb m i).A from congrArg TabC.A (xm h i),show (tb l i).B=(tb m i).B from congrArg TabC.B (xm h i)]
theorem qiC (i:Nat):chk (tb l i)=chk (tb m i):=by
 unfold chk qcY;rw [Vz h,YH h,X_c h,Y_c h,show (tb l i).opn=(tb m i).opn from congrArg TabC.opn (xm h i)]
theorem JB:sumT l=sumT m:=by
 funext k
 induction k with
 | zero=>rfl
 | succ k ih=>rw [sumT,sumT,ih,YH h]
theorem qis:kM l=kM m:=by funext k;unfold kM;simp only [Vz h]
theorem qgO:Zh l=Zh m:=by funext k;unfold Zh;rw [qiC h,qis h]
theorem xk:ValidL l↔ValidL m:=by unfold ValidL;rw [qgO h,Xm h]
theorem qgM:Jb l=Jb m:=by funext n;unfold Jb;simp only [Vz h,Xm h]
theorem qhI:tix l=tix m:=by
 funext n
 have e:∀ l:List Tab,tix l n=(l.map (·.toC)).findIdx fun t=>decide (t.name=n):=fun l=>by unfold tix;rw [List.findIdx_map];rfl
 rw [e,e,h]
theorem GV:WhereI l=WhereI m:=by
 funext s i k
 unfold WhereI;simp only [JB h,YH h,Xm h,xk h]
theorem qhM:tOf l=tOf m:=by
 funext s
 unfold tOf;rw [GV h]
theorem qf0 {us:List Gu} {ts:List Ti} {cl:List Int} {ru:List Ru} {r:Ru}:wR ⟨l,us,ts,cl,ru⟩ r=wR ⟨m,us,ts,cl,ru⟩ r:=by
 have e:∀ k:Kd,k.err ⟨l,us,ts,cl,ru⟩ r=k.err ⟨m,us,ts,cl,ru⟩ r:=fun k=>by
  have e1:k.ut l r=k.ut m r:=by unfold Kd.ut;rw [qgM h]
  have e2:k.most l r=k.most m r:=by unfold Kd.most;rw [qhI h,YH h]
  classical
  unfold Kd.err;show (if _ then _ else if _ then _ else if _ then _ else if _ then _ else if _ then _ else if k.ut l r then _ else if _∧(_∨k.most l r<_) then _ else _)=_
  rw [e1,e2]
 unfold wR;rw [e]
theorem qjC {us:List Gu} {ts:List Ti} {cl:List Int} {ru:List Ru}:PO ⟨l,us,ts,cl,ru⟩↔PO ⟨m,us,ts,cl,ru⟩:=by
 constructor
 ·rintro ⟨h1,h2,h3,h4,h5,h6⟩;exact ⟨(xk h).1 h1,h2,h3,by have:=h4;simp only [JB h,Xm h] at this;exact this,fun r hr=>by rw [← qf0 h];exact h5 r hr,h6⟩
 ·rintro ⟨h1,h2,h3,h4,h5,h6⟩;exact ⟨(xk h).2 h1,h2,h3,by simp only [JB h,Xm h];exact h4,fun r hr=>by rw [qf0 h];exact h5 r hr,h6⟩
theorem qgA {us:List Gu} {ts:List Ti} {cl:List Int} {ru:List Ru} {q:List Int}:PartOk ⟨l,us,ts,cl,ru⟩ q↔PartOk ⟨m,us,ts,cl,ru⟩ q:=by
 constructor
 ·rintro ⟨h1,h2,h3⟩;exact ⟨h1,by have:=h2;simp only [JB h,Xm h] at this;exact this,h3⟩
 ·rintro ⟨h1,h2,h3⟩;exact ⟨h1,by simp only [JB h,Xm h];exact h2,h3⟩
end
end Go.Proofs.Xx
