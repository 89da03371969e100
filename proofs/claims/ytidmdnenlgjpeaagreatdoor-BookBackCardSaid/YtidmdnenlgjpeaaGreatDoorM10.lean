/-
  Swapping within a range of a list;ranges in order.
-/
import Derived.Test.YtidmdnenlgjpeaaGreatDoorM9
import Derived.Test.YtidmdnenlgjpeaaGreatDoorM7
set_option linter.unusedVariables false
set_option linter.unusedSectionVars false
set_option linter.unusedSimpArgs false
set_option maxRecDepth 100000
set_option maxHeartbeats 4000000
namespace Go.Proofs.Xx
section
variable {α:Type} [Inhabited α]
theorem QG (l:List α) {i:Nat} (x:α) (h:i<l.length) (j:Nat):(l.set i x).getD j default=if j=i then x else l.getD j default:=by
 rw [zA2,zA2,List.getElem?_set];by_cases e:i=j
 ·subst e;rw [if_pos rfl,if_pos rfl,if_pos h];rfl
 ·rw [if_neg e,if_neg (fun q=>e q.symm)]
def swp (l:List α) (i j:Nat):List α:=(l.set i (l.getD j default)).set j (l.getD i default)
theorem qcw (l:List α) (i j:Nat):(swp l i j).length=l.length:=by simp [swp]
theorem swp_get {l:List α} {i j:Nat} (hi:i<l.length) (hj:j<l.length) (k:Nat):(swp l i j).getD k default=if k=j then l.getD i default else if k=i then l.getD j default else l.getD k default:=by
 unfold swp;rw [QG _ _ (by simpa using hj),QG _ _ hi]
theorem qa8 {l:List α} {i j:Nat} (hi:i<l.length) (hj:j<l.length):(swp l i j).Perm l:=by
 unfold swp;have e1:l.getD i default=l[i]:=by simp [zA2,zA4 hi]
 have e2:l.getD j default=l[j]:=by simp [zA2,zA4 hj]
 rw [e1,e2];exact List.set_set_perm hi hj
inductive Sw (a b:Nat):List α→List α→Prop
 | refl (l:List α):Sw a b l l
 | step {l l':List α} (i j:Nat) (h:Sw a b l l') (hi:a≤i∧i<b) (hj:a≤j∧j<b) (hb:b≤l'.length):Sw a b l (swp l' i j)
theorem Sw.len {a b:Nat} {l l':List α} (h:Sw a b l l'):l'.length=l.length:=by
 induction h with
 | refl=>rfl
 | step i j h hi hj hb ih=>rw [qcw,ih]
theorem Sw.perm {a b:Nat} {l l':List α} (h:Sw a b l l'):l'.Perm l:=by
 induction h with
 | refl=>exact .refl _
 | step i j h hi hj hb ih=>exact (qa8 (by omega) (by omega)).trans ih
theorem Sw.out {a b:Nat} {l l':List α} (h:Sw a b l l') {k:Nat} (hk:k<a∨b≤k):l'.getD k default=l.getD k default:=by
 induction h with
 | refl=>rfl
 | step i j h hi hj hb ih=>rw [swp_get (by omega) (by omega),if_neg (by omega),if_neg (by omega),ih]
theorem Sw.in_ {a b:Nat} {l l':List α} (h:Sw a b l l'):∀ {k:Nat},a≤k→k<b→∃ m,a≤m∧m<b∧l'.getD k default=l.getD m default:=by
 induction h with
 | refl=>intro k h1 h2;exact ⟨k,h1,h2,rfl⟩
 | step i j h hi hj hb ih =>
  intro k h1 h2;rw [swp_get (by omega) (by omega)];split
  ·exact ih hi.1 hi.2
  ·split
   ·exact ih hj.1 hj.2
   ·exact ih h1 h2
theorem Sw.trans {a b:Nat} {l m n:List α} (h:Sw a b l m) (g:Sw a b m n):Sw a b l n:=by
 induction g with
 | refl=>exact h
 | step i j g hi hj hb ih=>exact .step i j ih hi hj hb
theorem Sw.mono {a b a' b':Nat} {l m:List α} (h:Sw a b l m) (ha:a'≤a) (hb:b≤b') (hl:b'≤l.length):Sw a' b' l m:=by
 induction h with
 | refl=>exact .refl _
 | step i j g hi hj hbl ih =>
  exact .step i j ih ⟨by omega,by omega⟩ ⟨by omega,by omega⟩ (by rw [g.len];exact hl)
theorem Sw.one {a b:Nat} {l:List α} (i j:Nat) (hi:a≤i∧i<b) (hj:a≤j∧j<b) (hb:b≤l.length):Sw a b l (swp l i j):=.step i j (.refl l) hi hj hb
structure WOrd (lt:α→α→Prop):Prop where
 irr:∀ x,¬ lt x x
 tr:∀ {x y z},lt x y→lt y z→lt x z
 ntr:∀ {x y z},¬ lt y x→¬ lt z y→¬ lt z x
theorem WOrd.asym {lt:α→α→Prop} (W:WOrd lt) {x y:α} (h:lt x y):¬ lt y x:=fun g=>W.irr x (W.tr h g)
def Srt (lt:α→α→Prop) (a b:Nat) (l:List α):Prop:=∀ i j,a≤i→i<j→j<b→¬ lt (l.getD j default) (l.getD i default)
theorem Srt.adj {lt:α→α→Prop} (W:WOrd lt) {a b:Nat} {l:List α} (h:∀ i,a≤i→i+1<b→¬ lt (l.getD (i+1) default) (l.getD i default)):Srt lt a b l:=by
 intro i j h1 h2 h3;induction j with
 | zero=>omega
 | succ j ih =>
  rcases zA7 i j with q|q
  ·exact W.ntr (ih q (by omega)) (h j (by omega) h3)
  ·have:i=j:=by omega
   subst this;exact h i h1 h3
def InsI (lt:α→α→Prop) (a i j:Nat) (l:List α):Prop:=∀ p q,a≤p→p<q→q≤i→q≠j→¬ lt (l.getD q default) (l.getD p default)
theorem InsI.start {lt:α→α→Prop} {a i:Nat} {l:List α} (h:Srt lt a i l):InsI lt a i i l:=fun p q h1 h2 h3 h4=>h p q h1 h2 (by omega)
theorem InsI.next {lt:α→α→Prop} (W:WOrd lt) {a i j:Nat} {l:List α} (h:InsI lt a i j l) (hj:a<j) (hji:j≤i) (hl:i<l.length) (hc:lt (l.getD j default) (l.getD (j - 1) default)):InsI lt a i (j - 1) (swp l j (j - 1)):=by
 intro p q h1 h2 h3 h4;have g:=swp_get (l:=l) (i:=j) (j:=j - 1) (by omega) (by omega);rw [g q,g p,if_neg h4];by_cases e1:q=j
 ·subst e1;rw [if_pos rfl];by_cases e2:p=q - 1
  ·rw [if_pos e2];exact W.asym hc
  ·rw [if_neg e2,if_neg (by omega)];exact h p (q - 1) h1 (by omega) (by omega) (by omega)
 ·rw [if_neg e1];by_cases e2:p=j - 1
  ·rw [if_pos e2];exact h j q (by omega) (by omega) h3 e1
  ·rw [if_neg e2];by_cases e3:p=j
   ·rw [if_pos e3];exact h (j - 1) q (by omega) (by omega) h3 e1
   ·rw [if_neg e3];exact h p q h1 h2 h3 e1
theorem InsI.done {lt:α→α→Prop} (W:WOrd lt) {a i j:Nat} {l:List α} (h:InsI lt a i j l) (hc:j≤a∨¬ lt (l.getD j default) (l.getD (j - 1) default)):Srt lt a (i+1) l:=by
 intro p q h1 h2 h3;by_cases e:q=j
 ·subst e;rcases hc with hc|hc
  ·omega
  ·by_cases e2:p=q - 1
   ·rw [e2];exact hc
   ·exact W.ntr (h p (q - 1) h1 (by omega) (by omega) (by omega)) hc
 ·exact h p q h1 h2 (by omega) e
def kL (lt:α→α→Prop) (f hi k:Nat) (l:List α):Prop :=
 (2*k+1<hi→¬ lt (l.getD (f+k) default) (l.getD (f+(2*k+1)) default))∧(2*k+2<hi→¬ lt (l.getD (f+k) default) (l.getD (f+(2*k+2)) default))
def Heap (lt:α→α→Prop) (f lo hi:Nat) (l:List α):Prop:=∀ k,lo≤k→kL lt f hi k l
def SiftI (lt:α→α→Prop) (f lo hi root:Nat) (l:List α):Prop :=
 (∀ k,lo≤k→k≠root→kL lt f hi k l)∧∀ k,lo≤k→(root=2*k+1∨root=2*k+2)→∀ c,(c=2*root+1∨c=2*root+2)→c<hi→¬ lt (l.getD (f+k) default) (l.getD (f+c) default)
theorem SiftI.start {lt:α→α→Prop} {f lo hi:Nat} {l:List α} (h:Heap lt f (lo+1) hi l):SiftI lt f lo hi lo l:=⟨fun k h1 h2=>h k (by omega),fun k h1 h2=>by omega⟩
theorem SiftI.done {lt:α→α→Prop} {f lo hi root:Nat} {l:List α} (h:SiftI lt f lo hi root l) (hc:kL lt f hi root l):Heap lt f lo hi l:=fun k h1=>by
 by_cases e:k=root
 ·subst e;exact hc
 ·exact h.1 k h1 e
theorem SiftI.next {lt:α→α→Prop} (W:WOrd lt) {f lo hi root c:Nat} {l:List α} (h:SiftI lt f lo hi root l) (hr:lo≤root) (hcc:c=2*root+1∨c=2*root+2) (hch:c<hi) (hl:f+hi≤l.length)
 (hm:∀ d,(d=2*root+1∨d=2*root+2)→d<hi→¬ lt (l.getD (f+c) default) (l.getD (f+d) default)) (hc:lt (l.getD (f+root) default) (l.getD (f+c) default)) :
 SiftI lt f lo hi c (swp l (f+root) (f+c)):=by
 have g:=swp_get (l:=l) (i:=f+root) (j:=f+c) (by omega) (by omega);have at_c:(swp l (f+root) (f+c)).getD (f+c) default=l.getD (f+root) default:=by rw [g,if_pos rfl]
 have at_r:(swp l (f+root) (f+c)).getD (f+root) default=l.getD (f+c) default:=by rw [g,if_neg (by omega),if_pos rfl]
 have at_o:∀ k,k≠c→k≠root→(swp l (f+root) (f+c)).getD (f+k) default=l.getD (f+k) default:=fun k h1 h2=>by rw [g,if_neg (by omega),if_neg (by omega)]
 refine ⟨fun k h1 h2=>?_,fun k h1 h2 d hd hdh=>?_⟩
 ·by_cases e:k=root
  ·subst e;refine ⟨fun q=>?_,fun q=>?_⟩
   ·rw [at_r];by_cases e1:2*k+1=c
    ·rw [e1,at_c];exact W.asym hc
    ·rw [at_o _ e1 (by omega)];exact hm _ (.inl rfl) q
   ·rw [at_r];by_cases e1:2*k+2=c
    ·rw [e1,at_c];exact W.asym hc
    ·rw [at_o _ e1 (by omega)];exact hm _ (.inr rfl) q
  ·have hk:=h.1 k h1 e;rw [kL,at_o k h2 e];refine ⟨fun q=>?_,fun q=>?_⟩
   ·by_cases e1:2*k+1=root
    ·rw [e1,at_r];exact h.2 k h1 (.inl e1.symm) c hcc hch
    ·by_cases e2:2*k+1=c
     ·omega
     ·rw [at_o _ e2 e1];exact hk.1 q
   ·by_cases e1:2*k+2=root
    ·rw [e1,at_r];exact h.2 k h1 (.inr e1.symm) c hcc hch
    ·by_cases e2:2*k+2=c
     ·omega
     ·rw [at_o _ e2 e1];exact hk.2 q
 ·have e:k=root:=by omega
  subst e;rw [at_r,at_o d (by omega) (by omega)];have hk:=h.1 c (by omega) (by omega);rcases hd with hd|hd
  ·subst hd;exact hk.1 hdh
  ·subst hd;exact hk.2 hdh
theorem Heap.max {lt:α→α→Prop} (W:WOrd lt) {f hi:Nat} {l:List α} (h:Heap lt f 0 hi l) (k:Nat) (hk:k<hi):¬ lt (l.getD (f+0) default) (l.getD (f+k) default):=by
 induction k using Nat.strongRecOn with
 | _ k ih =>
  rcases zF4 k with e|e
  ·subst e;exact W.irr _
  ·have hp:=h ((k - 1) / 2) (zB0 _);have hi':=ih ((k - 1) / 2) (by omega) (by omega);rcases (by omega:k=2*((k - 1) / 2)+1∨k=2*((k - 1) / 2)+2) with q|q
   ·have:=hp.1 (by omega);rw [← q] at this;exact W.ntr this hi'
   ·have:=hp.2 (by omega);rw [← q] at this;exact W.ntr this hi'
def HeapI (lt:α→α→Prop) (f i n:Nat) (l:List α):Prop:=Heap lt f 0 i l∧∀ p q,p<q→i≤q→q<n→¬ lt (l.getD (f+q) default) (l.getD (f+p) default)
def DoneI (lt:α→α→Prop) (a b a' b':Nat) (l:List α):Prop:=∀ i j,a≤i→i<j→j<b→(i<a'∨b'≤j)→¬ lt (l.getD j default) (l.getD i default)
theorem DoneI.start {lt:α→α→Prop} {a b:Nat} {l:List α}:DoneI lt a b a b l:=fun i j h1 h2 h3 h4=>by omega
theorem DoneI.sw {lt:α→α→Prop} {a b a' b':Nat} {l l':List α} (h:DoneI lt a b a' b' l) (s:Sw a' b' l l') (h1:a≤a') (h2:b'≤b):DoneI lt a b a' b' l':=by
 intro i j q1 q2 q3 q4;rcases q4 with q4|q4
 ·rw [s.out (k:=i) (.inl q4)];rcases zA7 j a' with q5|q5
  ·rw [s.out (.inl q5)];exact h i j q1 q2 q3 (.inl q4)
  ·rcases zA7 j b' with q6|q6
   ·obtain ⟨m,m1,m2,m3⟩:=s.in_ q5 q6;rw [m3];exact h i m q1 (by omega) (by omega) (.inl q4)
   ·rw [s.out (.inr q6)];exact h i j q1 q2 q3 (.inl q4)
 ·rw [s.out (k:=j) (.inr q4)];rcases zA7 i a' with q5|q5
  ·rw [s.out (.inl q5)];exact h i j q1 q2 q3 (.inl q5)
  ·rcases zA7 i b' with q6|q6
   ·obtain ⟨m,m1,m2,m3⟩:=s.in_ q5 q6;rw [m3];exact h m j (by omega) (by omega) q3 (.inr q4)
   ·rw [s.out (.inr q6)];exact h i j q1 q2 q3 (.inr q4)
theorem DoneI.finish {lt:α→α→Prop} {a b a' b':Nat} {l:List α} (h:DoneI lt a b a' b' l) (s:Srt lt a' b' l):Srt lt a b l:=by
 intro i j q1 q2 q3;by_cases e:i<a'∨b'≤j
 ·exact h i j q1 q2 q3 e
 ·exact s i j (by omega) q2 (by omega)
def Parted (lt:α→α→Prop) (a b m:Nat) (l:List α):Prop:=(∀ k,a≤k→k<m→lt (l.getD k default) (l.getD m default))∧∀ k,m<k→k<b→¬ lt (l.getD k default) (l.getD m default)
theorem Parted.across {lt:α→α→Prop} (W:WOrd lt) {a b m:Nat} {l:List α} (h:Parted lt a b m l) {i j:Nat} (h1:a≤i) (h2:i≤m) (h3:m≤j) (h4:j<b) (h5:i<j):¬ lt (l.getD j default) (l.getD i default):=by
 have e1:¬ lt (l.getD m default) (l.getD i default):=by
  rcases zA7 i m with q|q
  ·exact W.asym (h.1 i h1 q)
  ·have:i=m:=by omega
   subst this;exact W.irr _
 have e2:¬ lt (l.getD j default) (l.getD m default):=by
  rcases zA7 m j with q|q
  ·exact h.2 j q h4
  ·have:j=m:=by omega
   subst this;exact W.irr _
 exact W.ntr e1 e2
theorem DoneI.left {lt:α→α→Prop} (W:WOrd lt) {a b a' b' m:Nat} {l l':List α} (h:DoneI lt a b a' b' l) (p:Parted lt a' b' m l) (hm:a'≤m∧m<b') (hab:a≤a'∧b'≤b) (s:Sw a' m l l') (hs:Srt lt a' m l') (hl:b'≤l.length):DoneI lt a b (m+1) b' l':=by
 have h':=h.sw (s.mono (zA3 _) (by omega) hl) hab.1 hab.2;intro i j q1 q2 q3 q4;by_cases e:i<a'∨b'≤j
 ·exact h' i j q1 q2 q3 e
 ·rcases q4 with q4|q4
  ·rcases zA7 j m with q5|q5
   ·exact hs i j (by omega) q2 q5
   ·rw [s.out (k:=j) (.inr q5)];rcases zA7 i m with q6|q6
    ·obtain ⟨k,k1,k2,k3⟩:=s.in_ (k:=i) (by omega) q6;rw [k3];exact p.across W k1 (by omega) q5 (by omega) (by omega)
    ·rw [s.out (.inr q6)];exact p.across W (by omega) (by omega) q5 (by omega) q2
  ·omega
theorem DoneI.right {lt:α→α→Prop} (W:WOrd lt) {a b a' b' m:Nat} {l l':List α} (h:DoneI lt a b a' b' l) (p:Parted lt a' b' m l) (hm:a'≤m∧m<b') (hab:a≤a'∧b'≤b) (s:Sw (m+1) b' l l') (hs:Srt lt (m+1) b' l') (hl:b'≤l.length):DoneI lt a b a' m l':=by
 have h':=h.sw (s.mono (by omega) (zA3 _) hl) hab.1 hab.2;intro i j q1 q2 q3 q4;by_cases e:i<a'∨b'≤j
 ·exact h' i j q1 q2 q3 e
 ·rcases q4 with q4|q4
  ·omega
  ·rcases zA7 m i with q5|q5
   ·exact hs i j (by omega) q2 (by omega)
   ·rw [s.out (k:=i) (.inl (by omega))];rcases zA7 m j with q6|q6
    ·obtain ⟨k,k1,k2,k3⟩:=s.in_ (k:=j) (by omega) (by omega);rw [k3];exact p.across W (by omega) q5 (by omega) k2 (by omega)
    ·rw [s.out (.inl (by omega))];exact p.across W (by omega) q5 (by omega) (by omega) q2
theorem Sw.all {a b:Nat} {l l':List α} (s:Sw a b l l') {p:α→Prop} (h:∀ k,a≤k→k<b→p (l.getD k default)):∀ k,a≤k→k<b→p (l'.getD k default):=fun k h1 h2=>by
 obtain ⟨m,m1,m2,m3⟩:=s.in_ h1 h2;rw [m3];exact h m m1 m2
end
end Go.Proofs.Xx
namespace Go.Proofs.Xx
section
variable {α:Type} [Inhabited α]
def xch (a b n k:Nat):Nat:=if a≤k∧k<a+n then k+(b - a) else if b≤k∧k<b+n then k - (b - a) else k
def IsXch (a b n:Nat) (l l':List α):Prop:=∀ k,l'.getD k default=l.getD (xch a b n k) default
theorem IsXch.zero {a b:Nat} {l:List α}:IsXch a b 0 l l:=fun k=>by
 unfold xch;rw [if_neg (by omega),if_neg (by omega)]
theorem IsXch.next {a b i:Nat} {l l':List α} (h:IsXch a b i l l') (hab:a+i<b) (hl:b+i<l'.length):IsXch a b (i+1) l (swp l' (a+i) (b+i)):=fun k=>by
 rw [swp_get (by omega) hl];rw [h,h,h];unfold xch;repeat' split
 all_goals first|omega|rfl|(congr 1<;>omega)
def rot (a m b k:Nat):Nat:=if k<a then k else if k<a+(b - m) then k+(m - a) else if k<b then k - (b - m) else k
def qdF (a m b:Nat) (l l':List α):Prop:=∀ k,l'.getD k default=l.getD (rot a m b k) default
def RotI (a m b i j:Nat) (l c:List α):Prop:=∀ k,l.getD (rot a m b k) default=c.getD (rot (m - i) m (m+j) k) default
theorem RotI.start {a m b:Nat} {l:List α} (h1:a≤m) (h2:m≤b):RotI a m b (m - a) (b - m) l l:=fun k=>by
 rw [show m - (m - a)=a by omega,show m+(b - m)=b by omega]
theorem RotI.left {a m b i j:Nat} {l c c':List α} (h:RotI a m b i j l c) (hi:i≤m) (hij:j<i) (x:IsXch (m - i) m j c c'):RotI a m b (i - j) j l c':=fun k=>by
 rw [h k,x];congr 1
 unfold xch rot;repeat' split
 all_goals omega
theorem RotI.right {a m b i j:Nat} {l c c':List α} (h:RotI a m b i j l c) (hi:i≤m) (hij:i<j) (x:IsXch (m - i) (m+j - i) i c c'):RotI a m b i (j - i) l c':=fun k=>by
 rw [h k,x];congr 1
 unfold xch rot;repeat' split
 all_goals omega
theorem RotI.done {a m b i:Nat} {l c c':List α} (h:RotI a m b i i l c) (hi:i≤m) (x:IsXch (m - i) m i c c'):qdF a m b l c':=fun k=>by
 rw [h k,x];congr 1
 unfold xch rot;repeat' split
 all_goals omega
def IsUp (a k:Nat) (l l':List α):Prop:=∀ x,l'.getD x default=l.getD (if x<a then x else if x<k then x+1 else if x=k then a else x) default
theorem IsUp.start {a:Nat} {l:List α}:IsUp a a l l:=fun x=>by
 congr 1
 repeat' split
 all_goals omega
theorem IsUp.next {a k:Nat} {l l':List α} (h:IsUp a k l l') (hak:a≤k) (hl:k+1<l'.length):IsUp a (k+1) l (swp l' k (k+1)):=fun x=>by
 rw [swp_get (by omega) hl];rw [h,h,h];repeat' split
 all_goals first|omega|rfl|(congr 1<;>omega)
def IsDown (m k:Nat) (l l':List α):Prop:=∀ x,l'.getD x default=l.getD (if x<k then x else if x=k then m else if x≤m then x - 1 else x) default
theorem IsDown.start {m:Nat} {l:List α}:IsDown m m l l:=fun x=>by
 congr 1
 repeat' split
 all_goals omega
theorem IsDown.next {m k:Nat} {l l':List α} (h:IsDown m k l l') (hk:0<k∧k≤m) (hl:m<l'.length):IsDown m (k - 1) l (swp l' k (k - 1)):=fun x=>by
 rw [swp_get (by omega) (by omega)];rw [h,h,h];repeat' split
 all_goals first|omega|rfl|(congr 1<;>omega)
end
def ZG (key:Int→Int) (x y:Int):Prop:=key x<key y∨(key x=key y∧x<y)
theorem WT (key:Int→Int):WOrd (ZG key) where
 irr x h:=by unfold ZG at h;omega
 tr h1 h2:=by unfold ZG at *;omega
 ntr h1 h2:=by unfold ZG at *;omega
structure Mrg (key:Int→Int) (a m b:Nat) (l:List Int):Prop where
 sl:Srt (ZG key) a m l
 sr:Srt (ZG key) m b l
 cr:∀ p q,a≤p→p<m→m≤q→q<b→l.getD p default<l.getD q default
theorem Mrg.up {key:Int→Int} {a b i:Nat} {l l':List Int} (h:Mrg key a (a+1) b l) (hi:a+1≤i∧i≤b) (h1:∀ k,a+1≤k→k<i→ZG key (l.getD k default) (l.getD a default)) (h2:∀ k,i≤k→k<b→¬ ZG key (l.getD k default) (l.getD a default)) (u:IsUp a (i - 1) l l'):Srt (ZG key) a b l':=by
 have W:=WT key;have u1:∀ x,a≤x→x<i - 1→l'.getD x default=l.getD (x+1) default:=fun x q1 q2=>by rw [u x,if_neg (by omega),if_pos q2]
 have u2:l'.getD (i - 1) default=l.getD a default:=by
  rw [u,if_neg (by omega),if_neg (by omega),if_pos rfl]
 have u3:∀ x,i - 1<x→l'.getD x default=l.getD x default:=fun x q1=>by rw [u x,if_neg (by omega),if_neg (by omega),if_neg (by omega)]
 intro p q q1 q2 q3;rcases zE7 p (i - 1) with e1|e1|e1
 ·rw [u1 p q1 e1];rcases zE7 q (i - 1) with e2|e2|e2
  ·rw [u1 q (by omega) e2];exact h.sr _ _ (by omega) (by omega) (by omega)
  ·rw [e2,u2];exact W.asym (h1 _ (by omega) (by omega))
  ·rw [u3 q e2];exact h.sr _ _ (by omega) (by omega) (by omega)
 ·rw [e1,u2,u3 q (by omega)];exact h2 _ (by omega) q3
 ·rw [u3 p e1,u3 q (by omega)];exact h.sr _ _ (by omega) (by omega) (by omega)
theorem Mrg.down {key:Int→Int} {a m i:Nat} {l l':List Int} (h:Mrg key a m (m+1) l) (hi:a≤i∧i≤m) (h1:∀ k,a≤k→k<i→¬ ZG key (l.getD m default) (l.getD k default)) (h2:∀ k,i≤k→k<m→ZG key (l.getD m default) (l.getD k default)) (u:IsDown m i l l'):Srt (ZG key) a (m+1) l':=by
 have W:=WT key;have u1:∀ x,x<i→l'.getD x default=l.getD x default:=fun x q1=>by rw [u x,if_pos q1]
 have u2:l'.getD i default=l.getD m default:=by
  rw [u,if_neg (by omega),if_pos rfl]
 have u3:∀ x,i<x→x≤m→l'.getD x default=l.getD (x - 1) default:=fun x q1 q2=>by rw [u x,if_neg (by omega),if_neg (by omega),if_pos q2]
 intro p q q1 q2 q3;rcases zE7 p i with e1|e1|e1
 ·rw [u1 p e1];rcases zE7 q i with e2|e2|e2
  ·rw [u1 q e2];exact h.sl _ _ (by omega) (by omega) (by omega)
  ·rw [e2,u2];exact h1 _ (by omega) (by omega)
  ·rw [u3 q e2 (by omega)];exact h.sl _ _ (by omega) (by omega) (by omega)
 ·rw [e1,u2,u3 q (by omega) (by omega)];exact W.asym (h2 _ (by omega) (by omega))
 ·rw [u3 p e1 (by omega),u3 q (by omega) (by omega)];exact h.sl _ _ (by omega) (by omega) (by omega)
structure SrI (key:Int→Int) (a m b mid s r:Nat) (l:List Int):Prop where
 lo:(if m > mid then mid+m - b else a)≤s
 sr:s≤r
 hi:r≤(if m > mid then mid else m)
 low:(if m > mid then mid+m - b else a)<s→¬ ZG key (l.getD (mid+m - s) default) (l.getD (s - 1) default)
 high:r<(if m > mid then mid else m)→ZG key (l.getD (mid+m - 1 - r) default) (l.getD r default)
theorem Mrg.search {key:Int→Int} {a m b mid s:Nat} {l l2:List Int} (h:Mrg key a m b l) (hm:mid=(a+b) / 2) (hab:a<m∧m<b) (I:SrI key a m b mid s s l)
 (hr:qdF s m (mid+m - s) l l2):(a≤s∧s≤mid∧s≤m∧m≤mid+m - s∧mid+m - s≤b)∧Mrg key a s mid l2∧Mrg key mid (mid+m - s) b l2∧∀ x y,a≤x→x<mid→mid≤y→y<b→¬ ZG key (l2.getD y default) (l2.getD x default):=by
 have W:=WT key;have lo:=I.lo;have hi:=I.hi;have low:=I.low;have high:=I.high;have hs:a≤s∧s≤mid∧s≤m∧m≤mid+m - s∧mid+m - s≤b:=by
  split at lo<;>split at hi<;>omega
 have r1:∀ k,k<s→l2.getD k default=l.getD k default:=fun k hk=>by rw [hr k];unfold rot;rw [if_pos hk]
 have r2:∀ k,s≤k→k<mid→l2.getD k default=l.getD (k+(m - s)) default:=fun k h1 h2=>by rw [hr k];unfold rot;rw [if_neg (by omega),if_pos (by omega)]
 have r3:∀ k,mid≤k→k<mid+m - s→l2.getD k default=l.getD (k - (mid - s)) default:=fun k h1 h2=>by
  rw [hr k];unfold rot;rw [if_neg (by omega),if_neg (by omega),if_pos (by omega)];congr 1;omega
 have r4:∀ k,mid+m - s≤k→l2.getD k default=l.getD k default:=fun k h1=>by rw [hr k];unfold rot;rw [if_neg (by omega),if_neg (by omega),if_neg (by omega)]
 refine ⟨hs,⟨fun i j q1 q2 q3=>?_,fun i j q1 q2 q3=>?_,fun p q q1 q2 q3 q4=>?_⟩,⟨fun i j q1 q2 q3=>?_,fun i j q1 q2 q3=>?_,fun p q q1 q2 q3 q4=>?_⟩,fun x y q1 q2 q3 q4=>?_⟩
 ·rw [r1 i (by omega),r1 j q3];exact h.sl i j q1 q2 (by omega)
 ·rw [r2 i q1 (by omega),r2 j (by omega) q3];exact h.sr _ _ (by omega) (by omega) (by omega)
 ·rw [r1 p q2,r2 q q3 q4];exact h.cr _ _ q1 (by omega) (by omega) (by omega)
 ·rw [r3 i q1 (by omega),r3 j (by omega) q3];exact h.sl _ _ (by omega) (by omega) (by omega)
 ·rw [r4 i q1,r4 j (by omega)];exact h.sr _ _ (by omega) q2 q3
 ·rw [r3 p q1 q2,r4 q q3];exact h.cr _ _ (by omega) (by omega) (by omega) q4
 ·
  have le_of:∀ {i j:Nat},a≤i→i≤j→j<m→¬ ZG key (l.getD j default) (l.getD i default):=fun {i j} g1 g2 g3=>by
   rcases zA7 i j with q|q
   ·exact h.sl i j g1 q g3
   ·have:i=j:=by omega
    subst this;exact W.irr _
  have le_of2:∀ {i j:Nat},m≤i→i≤j→j<b→¬ ZG key (l.getD j default) (l.getD i default):=fun {i j} g1 g2 g3=>by
   rcases zA7 i j with q|q
   ·exact h.sr i j g1 q g3
   ·have:i=j:=by omega
    subst this;exact W.irr _
  rcases zA7 x s with e1|e1
  ·rw [r1 x e1];rcases zA7 y (mid+m - s) with e2|e2
   ·rw [r3 y q3 e2];exact le_of q1 (by omega) (by omega)
   ·rw [r4 y e2];have g:¬ ZG key (l.getD (mid+m - s) default) (l.getD (s - 1) default):=low (by split<;>omega);have g1:¬ ZG key (l.getD (s - 1) default) (l.getD x default):=le_of q1 (by omega) (by omega);have g2:¬ ZG key (l.getD y default) (l.getD (mid+m - s) default):=le_of2 (by omega) e2 q4;exact W.ntr (W.ntr g1 g) g2
  ·rw [r2 x e1 q2];rcases zA7 y (mid+m - s) with e2|e2
   ·rw [r3 y q3 e2];have g:ZG key (l.getD (mid+m - 1 - s) default) (l.getD s default):=high (by split<;>omega);have g1:¬ ZG key (l.getD (y - (mid - s)) default) (l.getD s default):=le_of (by omega) (by omega) (by omega);have g2:¬ ZG key (l.getD (mid+m - 1 - s) default) (l.getD (x+(m - s)) default):=le_of2 (by omega) (by omega) (by omega);exact W.ntr (W.ntr g2 (W.asym g)) g1
   ·rw [r4 y e2];exact le_of2 (by omega) (by omega) q4
end Go.Proofs.Xx
namespace Go.Proofs.Xx
section
variable {α:Type} [Inhabited α] {lt:α→α→Prop}
theorem HeapI.done {f n b:Nat} {l:List α} (h:HeapI lt f 0 n l) (hb:b=f+n):Srt lt f b l:=fun i j h1 h2 h3=>by
 have:=h.2 (i - f) (j - f) (by omega) (zB0 _) (by omega);rwa [show f+(j - f)=j by omega,show f+(i - f)=i by omega] at this
structure PartI (lt:α→α→Prop) (a b:Nat) (x:α) (i j:Nat) (m:List α):Prop where
 bi:a<i∧i≤j+1∧j<b
 lo:∀ k,a<k→k<i→lt (m.getD k default) x
 hi:∀ k,j<k→k<b→¬ lt (m.getD k default) x
 x:m.getD a default=x
theorem PartI.swap {a b:Nat} {x:α} {i j:Nat} {m:List α} (h:PartI lt a b x i j m) (hb:b≤m.length) (hij:i≤j) (h1:¬ lt (m.getD i default) x) (h2:lt (m.getD j default) x):i<j∧PartI lt a b x (i+1) (j - 1) (swp m i j):=by
 have hbi:=h.bi;have hne:i≠j:=fun q=>by subst q;exact h1 h2
 have g:=swp_get (l:=m) (i:=i) (j:=j) (by omega) (by omega);refine ⟨by omega,⟨by omega,fun k q1 q2=>?_,fun k q1 q2=>?_,?_⟩⟩
 ·rw [g,if_neg (by omega)];split
  ·exact h2
  ·exact h.lo k q1 (by omega)
 ·rw [g];split
  ·exact h1
  ·rw [if_neg (by omega)];exact h.hi k (by omega) q2
 ·rw [g,if_neg (by omega),if_neg (by omega)];exact h.x
theorem PartI.done (W:WOrd lt) {a b:Nat} {x:α} {i j:Nat} {m:List α} (h:PartI lt a b x i j m) (hb:b≤m.length) (hij:j<i):Parted lt a b j (swp m j a):=by
 have hbi:=h.bi;have g:=swp_get (l:=m) (i:=j) (j:=a) (by omega) (by omega);have gj:(swp m j a).getD j default=x:=by
  rw [g];split
  ·rename_i e;rw [e];exact h.x
  ·rw [if_pos rfl];exact h.x
 refine ⟨fun k q1 q2=>?_,fun k q1 q2=>?_⟩
 ·rw [gj,g];split
  ·exact h.lo j (by omega) (by omega)
  ·rw [if_neg (by omega)];exact h.lo k (by omega) (by omega)
 ·rw [gj,g,if_neg (by omega),if_neg (by omega)];exact h.hi k q1 q2
structure EqI (lt:α→α→Prop) (a b:Nat) (x:α) (i j:Nat) (m:List α):Prop where
 bi:a<i∧i≤j+1∧j<b
 lo:∀ k,a<k→k<i→¬ lt x (m.getD k default)
 hi:∀ k,j<k→k<b→lt x (m.getD k default)
 x:m.getD a default=x
theorem EqI.swap {a b:Nat} {x:α} {i j:Nat} {m:List α} (h:EqI lt a b x i j m) (hb:b≤m.length) (hij:i≤j) (h1:lt x (m.getD i default)) (h2:¬ lt x (m.getD j default)):i<j∧EqI lt a b x (i+1) (j - 1) (swp m i j):=by
 have hbi:=h.bi;have hne:i≠j:=fun q=>by subst q;exact h2 h1
 have g:=swp_get (l:=m) (i:=i) (j:=j) (by omega) (by omega);refine ⟨by omega,⟨by omega,fun k q1 q2=>?_,fun k q1 q2=>?_,?_⟩⟩
 ·rw [g,if_neg (by omega)];split
  ·exact h2
  ·exact h.lo k q1 (by omega)
 ·rw [g];split
  ·exact h1
  ·rw [if_neg (by omega)];exact h.hi k (by omega) q2
 ·rw [g,if_neg (by omega),if_neg (by omega)];exact h.x
theorem DoneI.low {a b a' b':Nat} {l:List α} (h:DoneI lt a b a' b' l) (h1:a<a') (h2:b'≤b):∀ k,a'≤k→k<b'→¬ lt (l.getD k default) (l.getD (a' - 1) default):=fun k q1 q2=>h (a' - 1) k (by omega) (by omega) (by omega) (.inl (by omega))
end
def lenTab:List UInt8:=[0,1] ++ List.replicate 2 2 ++ List.replicate 4 3 ++ List.replicate 8 4 ++ List.replicate 16 5 ++ List.replicate 32 6 ++ List.replicate 64 7 ++ List.replicate 128 8
variable [Flag]
end Go.Proofs.Xx
namespace Go.Proofs.Xx
open Go Go.Proofs
variable [Flag]
theorem Srt.out {a i:Nat} {m n:List (List UInt8)} (h:Srt jk a i m) (e:∀ k,a≤k→k<i→n.getD k default=m.getD k default):Srt jk a i n:=fun p q h1 h2 h3=>by
 rw [e p h1 (by omega),e q (by omega) h3];exact h p q h1 h2 h3
end Go.Proofs.Xx
namespace Go.Proofs.Xx
open Go Go.Proofs
variable [Flag]
end Go.Proofs.Xx
namespace Go.Proofs.Xx
open Go Go.Proofs
def MpRd {α:Type} (h:AH) (b:Nat) (enc:α→Value) (l:List (List UInt8×α)):Prop:=∃ es clock,h.get b=some (.map es clock)∧es.map (fun e=>(e.1,e.2.1))=l.map (fun p=>(Value.string ⟨p.1.toArray⟩,enc p.2))
theorem MpRd.ext {α:Type} {h h':AH} {b:Nat} {enc:α→Value} {l:List (List UInt8×α)} (r:MpRd h b enc l) (w:WfH h) (x:Ext h h'):MpRd h' b enc l:=by
 obtain ⟨es,clock,h1,h2⟩:=r;exact ⟨es,clock,x.get w h1,h2⟩
section
variable {P:Program} {X:Extern} {sz:Nat} {L:Ks} {h h0:AH} {rs:List Rs} {ops:Array Oper} {os:List Oper} {o:Oper} {R:Ks→AH→Prop}
end
structure BkAt (h:AH) (p:Nat) (r:Rl) (s:BkS):Prop where
 bk:h.get p=some (.cells [s.vg.val,s.vt.val,.map (some s.m)] 86 none false)
 rg:Qk h s.vg.val 9 eG s.gs
 rt:Qk h s.vt.val 3 Qm r.ts
 mp:MpRd h s.m (.int .i64) s.mp
 tg:∀ i,i<s.gs.length→Qk h (s.gs.getD i default).tv.val 1 eS (s.gs.getD i default).tg
 us:s.gs.map (·.toGu)=r.us
 at_:AtOk s.mp r.us
def BkRd (h:AH) (p:Nat) (r:Rl):Prop:=∃ s,BkAt h p r s
theorem BkRd.ext {h h':AH} {p:Nat} {r:Rl} (b:BkRd h p r) (w:WfH h) (x:Ext h h'):BkRd h' p r:=by
 obtain ⟨s,b⟩:=b;exact ⟨s,x.get w b.bk,b.rg.ext w x,b.rt.ext w x,b.mp.ext w x,fun i hi=>(b.tg i hi).ext w x,b.us,b.at_⟩
theorem BkAt.len {h:AH} {p:Nat} {r:Rl} {s:BkS} (b:BkAt h p r s):s.gs.length=r.us.length:=by rw [← b.us];simp
theorem BkAt.g {h:AH} {p:Nat} {r:Rl} {s:BkS} (b:BkAt h p r s) {i:Nat} (hi:i<s.gs.length):(s.gs.getD i default).toGu=r.us.getD i default:=by rw [← b.us,zB hi]
theorem Hs.qfS {h0 h:AH} {rs:List Rs} {p:Nat} {r:Rl} (S:Hs h0 h (jU p r :: rs)):BkRd h p r:=by
 obtain ⟨s,⟨q1,q2⟩,S⟩:=S.unpack;obtain ⟨fp,k⟩:=Hs.qej (p:=TgsOk s.gs) S (.there (.there (.there (.there .here))));obtain ⟨es,clock,m1,m2,-⟩:=pz S (.there (.there (.there .here)));exact ⟨s,XI S .here,Rd.Zf S (.there .here),Rd.Zf S (.there (.there .here)),⟨es,clock,m1,m2⟩,fun i hi=>TgsOk.rd k hi,q1,q2⟩
def SS (l:List (List UInt8)):Prop:=∀ i j,i<j→j<l.length→jk (l.getD i default) (l.getD j default)
theorem ZE {l:List (List UInt8)} (h:l.Nodup) {i j:Nat} (hij:i<j) (hj:j<l.length):l.getD i default≠l.getD j default:=by
 rw [zA2,zA2,zA4 hj,zA4 (show i<l.length by omega)];exact zD2.1 h i j (by omega) hj hij
theorem SS.of {l l':List (List UInt8)} (s:Sw 0 l.length l l') (h:Srt jk 0 l.length l') (hn:l.Nodup):SS l':=fun i j hij hj=>by
 have hl:=s.len;have hn':l'.Nodup:=s.perm.nodup_iff.2 hn;have h1:=h i j (zB0 _) hij (by omega);rcases Xg h1 with q|q
 ·exact absurd q (ZE hn' hij hj)
 ·exact q
theorem SS.nodup {l:List (List UInt8)} (h:SS l):l.Nodup:=by
 rw [List.nodup_iff_pairwise_ne,zD2];intro i j hi hj hij;have:=h i j hij hj;rw [zA2,zA2,zA4 hj,zA4 hi] at this;exact WE this
def adj (r:Rl) (k:Int) (n x:List UInt8):Prop:=∃ t∈r.ts,t.k=k∧((t.a=n∧t.b=x)∨(t.b=n∧t.a=x))
theorem adj.symm {r:Rl} {k:Int} {n x:List UInt8} (h:adj r k n x):adj r k x n:=by
 obtain ⟨t,h1,h2,h3⟩:=h;exact ⟨t,h1,h2,h3.elim (fun q=>.inr ⟨q.2,q.1⟩) (fun q=>.inl ⟨q.2,q.1⟩)⟩
def qf4 (k:Int) (n:List UInt8) (t:Ti):List (List UInt8):=if t.k≠k then [] else if t.a=n then [t.b] else if t.b=n then [t.a] else []
theorem Qr {α:Type} [DecidableEq α]:∀ {l m:List α},l.Nodup→(∀ x∈l,x∈m)→l.length≤m.length
 | [],m,_,_=>zB0 _
 | x :: l,m,h,hs=>by
  have hx:=hs x (by simp);have h2:=List.nodup_cons.1 h;have:=Qr (l:=l) (m:=m.erase x) h2.2 fun y hy=>by
   rw [List.mem_erase_of_ne (show y≠x from fun e=>h2.1 (by rw [← e];exact hy))];exact hs y (by simp [hy])
  rw [List.length_erase_of_mem hx] at this;have:0<m.length:=List.length_pos_of_mem hx;rw [zC4];omega
theorem XK {r:Rl} (H:RO r) {k:Int} {n x:List UInt8} (h:adj r k n x):gat r.us n≠none∧gat r.us x≠none∧n≠x:=by
 obtain ⟨t,h1,h2,h3⟩:=h;obtain ⟨t1,t2,t3,t4⟩:=H.tt t h1;rcases h3 with ⟨rfl,rfl⟩|⟨rfl,rfl⟩
 ·exact ⟨t3,t4,WE t1⟩
 ·exact ⟨t4,t3,(WE t1).symm⟩
theorem YK {us:List Gu} {n:List UInt8} (h:gat us n≠none):n∈us.map (·.name):=by
 obtain ⟨g,h1,h2⟩:=JM.1 h;exact zF1.2 ⟨g,h1,h2⟩
variable [Flag]
end Go.Proofs.Xx
namespace Go.Proofs.Xx
open Go Go.Proofs
def MetP (mp:List (List UInt8×Bool)) (M:List (List UInt8)):Prop:=∀ x,zW mp x=if x∈M then some true else none
theorem MetP.put {mp:List (List UInt8×Bool)} {M:List (List UInt8)} (h:MetP mp M) (n:List UInt8):MetP (Jd mp n true) (M ++ [n]):=fun x=>by
 rw [Jt,h x];by_cases e:x=n
 ·subst e;simp
 ·simp [e]
inductive Rch (r:Rl) (k:Int) (n:List UInt8):List UInt8→Prop
 | refl:Rch r k n n
 | step {x y:List UInt8} (h:Rch r k n x) (a:adj r k x y):Rch r k n y
theorem Rch.trans {r:Rl} {k:Int} {n x y:List UInt8} (h:Rch r k n x) (g:Rch r k x y):Rch r k n y:=by
 induction g with
 | refl=>exact h
 | step g a ih=>exact .step ih a
theorem Rch.symm {r:Rl} {k:Int} {n x:List UInt8} (h:Rch r k n x):Rch r k x n:=by
 induction h with
 | refl=>exact .refl
 | step h a ih=>exact Rch.trans (.step .refl a.symm) ih
structure Dfs (r:Rl) (M:List (List UInt8)) (n:List UInt8) (N:List (List UInt8)):Prop where
 nd:N.Nodup
 dj:∀ x∈N,x ∉ M
 self:n∈M∨n∈N
 kn:∀ x∈N,gat r.us x≠none
 rc:∀ x∈N,Rch r 1 n x
 cl:∀ x∈N,∀ y,adj r 1 x y→y∈M∨y∈N
def unm (r:Rl) (M:List (List UInt8)):Nat:=((r.us.map (·.name)).filter fun x=>decide (x ∉ M)).length
def cvJ (b4 b5 b1 b6:Nat):Value:=.func (.func 72) #[] #[.pointer (some ⟨b4,0,none⟩),.pointer (some ⟨b5,0,none⟩),.pointer (some ⟨b1,0,none⟩),.pointer (some ⟨b6,0,none⟩)]
abbrev qga (p b4 b5 b1 b6 m:Nat) (mp:List (List UInt8×Bool)) (v:SlV) (C:List (List UInt8)):List Rs :=
 [.blk b4 [.map (some m)] 112,.mp m .bool mp,.blk b5 [v.val] 22,.sl v.val 9 1 eS C,.blk b1 [.pointer (some ⟨p,0,none⟩)] 40,.blk b6 [cvJ b4 b5 b1 b6] 113]
variable [Flag]
end Go.Proofs.Xx
namespace Go.Proofs.Xx
open Go Go.Proofs
structure Wd where
 sv:SlV
 ws:List (List UInt8)
instance:Inhabited Wd:=⟨⟨⟨none,0,0⟩,[]⟩⟩
def eWd (w:Wd):List Value:=[w.sv.val]
def WdsOk (cs:List Wd) (h:AH) (fp:Fp):Prop:=∀ w∈cs,(Rs.rd w.sv.val 1 eS w.ws).ok h fp
abbrev wdR (cs:List Wd):Rs:=.any (WdsOk cs)
theorem WdsOk.rd {h:AH} {fp:Fp} {cs:List Wd} (k:WdsOk cs h fp) {i:Nat} (hi:i<cs.length):Qk h (cs.getD i default).sv.val 1 eS (cs.getD i default).ws:=by
 have q:=k _ (qJ hi);rcases q with ⟨q1,q2⟩|⟨b,o,cap,cc,e,s,r,q1,q2,q3,q4⟩
 ·exact .inl ⟨q1,by rw [q2];rfl,by rw [q2];rfl⟩
 ·exact .inr ⟨b,o,cap,cc,e,s,r,q1,q2,q4⟩
structure CirOk (r:Rl) (L:List Wd):Prop where
 ss:∀ w∈L,SS w.ws∧w.ws≠[]∧∀ x,x∈w.ws↔(gat r.us (w.ws.getD 0 default)≠none∧Rch r 1 (w.ws.getD 0 default) x)
 hd:∀ i j,i<j→j<L.length→jk ((L.getD i default).ws.getD 0 default) ((L.getD j default).ws.getD 0 default)
theorem Rch.known {r:Rl} (H:RO r) {k:Int} {n x:List UInt8} (h:Rch r k n x) (hn:gat r.us n≠none):gat r.us x≠none:=by
 induction h with
 | refl=>exact hn
 | step h a ih=>exact (XK H a).2.1
theorem Rch.closed {r:Rl} {k:Int} {n x:List UInt8} {M:List UInt8→Prop} (h:Rch r k n x) (hn:M n) (hc:∀ x,M x→∀ y,adj r k x y→M y):M x:=by
 induction h with
 | refl=>exact hn
 | step h a ih=>exact hc _ ih _ a
theorem SS.le {l:List (List UInt8)} (h:SS l) {i j:Nat} (hij:i≤j) (hj:j<l.length):¬ jk (l.getD j default) (l.getD i default):=by
 rcases zA7 i j with q|q
 ·exact jF (h i j q hj)
 ·obtain rfl:i=j:=by omega
  exact zA _
abbrev qf9 (p b4 b5 b1 b6 m:Nat) (mp:List (List UInt8×Bool)) (vc:SlV) (u:Value) (ns:List (List UInt8)) (v3:Value) (cs:List Wd):List Rs :=
 [.sl u 9 1 eS ns,.blk b4 [.map (some m)] 112,.mp m .bool mp,.blk b5 [vc.val] 22,.blk b1 [.pointer (some ⟨p,0,none⟩)] 40,.blk b6 [cvJ b4 b5 b1 b6] 113,.sl v3 22 1 eWd cs,wdR cs]
structure CirI (r:Rl) (ns:List (List UInt8)) (i:Nat) (M:List (List UInt8)) (cs:List Wd):Prop where
 mem:∀ x,x∈M↔∃ w∈cs,x∈w.ws
 cl:∀ x∈M,∀ y,adj r 1 x y→y∈M
 nm:∀ j,j<i→ns.getD j default∈M
 ok:CirOk r cs
 hd:∀ j,j<cs.length→∃ k,k<i∧(cs.getD j default).ws.getD 0 default=ns.getD k default
 ln:cs.length≤i
theorem CirI.next {r:Rl} (H:RO r) {ns:List (List UInt8)} (hs:SS ns) (hns:∀ x,x∈ns↔gat r.us x≠none) {i:Nat} (hi:i<ns.length) {M N N':List (List UInt8)} {cs:List Wd} {v:SlV} (I:CirI r ns i M cs) (D:Dfs r M (ns.getD i default) N) (hn:ns.getD i default ∉ M) (hS:SS N') (hN:∀ x,x∈N'↔x∈N):CirI r ns (i+1) (M ++ N) (cs ++ [⟨v,N'⟩]):=by
 have hk:gat r.us (ns.getD i default)≠none:=(hns _).1 (qJ hi);have hself:ns.getD i default∈N:=D.self.elim (fun q=>absurd q hn) id;have hcomp:∀ x,Rch r 1 (ns.getD i default) x→x∈N:=fun x hx=>by
  have:x∈M∨x∈N:=hx.closed (M:=fun x=>x∈M∨x∈N) (.inr hself) fun x h y a=>by
   rcases h with h|h
   ·exact .inl (I.cl x h y a)
   ·exact D.cl x h y a
  rcases this with q|q
  ·exact absurd (hx.symm.closed (M:=fun x=>x∈M) q I.cl) hn
  ·exact q
 have hlen:0<N'.length:=List.length_pos_of_mem ((hN _).2 hself);have h0:N'.getD 0 default=ns.getD i default:=by
  obtain ⟨j,j1,j2⟩:=qM.1 ((hN _).2 hself);have le1:=hS.le (zB0 j) j1;rw [j2] at le1;have hm0:=(hN _).1 (qJ hlen);obtain ⟨k,k1,k2⟩:=qM.1 ((hns _).2 (D.kn _ hm0));have hki:i≤k:=by
   apply zG8
   intro q;exact D.dj _ hm0 (k2 ▸ I.nm k (by omega))
  have le2:=hs.le hki k1;rw [k2] at le2;rcases Xg le1 with q|q
  ·exact q
  ·exact absurd q le2
 refine ⟨fun x=>?_,fun x hx y a=>?_,Vd (fun j hj=>zB8.2 (.inl (I.nm j hj))) (zB8.2 (.inr hself)),⟨fun w hw=>?_,fun j k hjk hk2=>?_⟩,fun j hj=>?_,by simp;exact I.ln⟩
 ·rw [zB8,I.mem];constructor
  ·rintro (⟨w,h1,h2⟩|h)
   ·exact ⟨w,by simp [h1],h2⟩
   ·exact ⟨⟨v,N'⟩,by simp,(hN x).2 h⟩
  ·rintro ⟨w,h1,h2⟩;rcases zB8.1 h1 with q|q
   ·exact .inl ⟨w,q,h2⟩
   ·rw [zB5.1 q] at h2;exact .inr ((hN x).1 h2)
 ·rw [zB8] at hx ⊢;rcases hx with q|q
  ·exact .inl (I.cl x q y a)
  ·exact D.cl x q y a
 ·rcases zB8.1 hw with q|q
  ·exact I.ok.ss w q
  ·rw [zB5.1 q];refine ⟨hS,fun e=>?_,fun x=>?_⟩
   ·simp only at e;rw [e] at hlen;exact absurd hlen (by simp)
   ·simp only [h0,hN];exact ⟨fun h=>⟨hk,D.rc x h⟩,fun h=>hcomp x h.2⟩
 ·simp only [zB2,zD5] at hk2;rw [YL (show j<cs.length by omega)];rcases zA7 k cs.length with q|q
  ·rw [YL q];exact I.ok.hd j k hjk q
  ·rw [Gt q,show k - cs.length=0 by omega];show jk _ (N'.getD 0 default)
   rw [h0];obtain ⟨z,z1,z2⟩:=I.hd j (by omega);rw [z2];exact hs z i z1 hi
 ·simp only [zB2,zD5] at hj;rcases zA7 j cs.length with q|q
  ·obtain ⟨z,z1,z2⟩:=I.hd j q;exact ⟨z,by omega,by rw [YL q];exact z2⟩
  ·rw [Gt q,show j - cs.length=0 by omega];exact ⟨i,by omega,h0⟩
variable [Flag]
end Go.Proofs.Xx
namespace Go.Proofs.Xx
open Go Go.Proofs
section
variable {P:Program} {X:Extern} {sz:Nat} {L:Ks} {h h0:AH} {rs:List Rs} {ops:Array Oper} {os:List Oper} {o:Oper} {R:Ks→AH→Prop}
theorem bE {L1 L2:Ks} {x y:Operand} {ty ty2:TypeId} {a b:Bool} (w1:a=b→KO P X sz ops os L1 h R) (w2:¬ a=b→KO P X sz ops os L2 h R) (ho:o.op = .binOp .eql ty x y ty2:=by exact rfl) (hg:qC ops L.tree o.guard=some true:=by exact rfl) (hx:kA L x=some (.bool a):=by exact rfl) (hy:kA L y=some (.bool b):=by exact rfl) (hu:P.underlying ty=some .bool:=by exact rfl)
 (hp1:qL sz L o.dst (.bool true)=some L1:=by exact rfl) (hp2:qL sz L o.dst (.bool false)=some L2:=by exact rfl):KO P X sz ops (o :: os) L h R:=by
 by_cases p:a=b
 ·subst p;exact zS ho hg hx hy (v:=.bool true) (by cases a<;>simp [Qi,hu]) hp1 (w1 rfl)
 ·exact zS ho hg hx hy (v:=.bool false) (by cases a<;>cases b<;>first|exact absurd rfl p|simp [Qi,hu]) hp2 (w2 p)
end
theorem JQ {α:Type} [Inhabited α] {l m:List α} (hl:l.length=m.length) (h:∀ i,i<l.length→l.getD i default=m.getD i default):l=m:=by
 apply List.ext_getElem hl
 intro i h1 h2;have:=h i h1;rwa [zA2,zA2,zA4 h1,zA4 h2] at this
theorem qeH (a b:Ti):(zV ⟨a.a.toArray⟩ ⟨b.a.toArray⟩ && (zV ⟨a.b.toArray⟩ ⟨b.b.toArray⟩ && (a.k == b.k && true)))=true↔a=b:=by
 rw [Q8,Q8];cases a;cases b
 simp
theorem Star.snoc {h:AH} {r:Rs} {fp:Fp} (hr:r.ok h fp):∀ {l:List Rs} {U:Fp},Star h l U→(∀ b,fp b→¬ U b)→Star h (l ++ [r]) (fun b=>U b∨fp b)
 | [],U,_,_=>⟨fp,hr,fun b hb=>.inr hb,trivial⟩
 | x :: l,U,⟨fx,h1,h2,h3⟩,hd=>⟨fx,h1,fun b hb=>.inl (h2 b hb),(Star.snoc hr h3 fun b hb q=>hd b hb q.1).mono fun b hb=>by
  rcases hb with hb|hb
  ·exact ⟨.inl hb.1,hb.2⟩
  ·exact ⟨.inr hb,fun q=>hd b hb (h2 b q)⟩⟩
abbrev qdM (g:ZL):Rs:=.sl g.tv.val 9 1 eS g.tg
abbrev tgO (gs:List ZL):Rs:=.any (fun h fp=>Star h (gs.map qdM) fp)
theorem Hs.qdK {h0 h:AH} {rs:List Rs} {gs:List ZL} {g:ZL} (S:Hs h0 h (.sl g.tv.val 9 1 eS g.tg :: tgO gs :: rs)):Hs h0 h (tgO (gs ++ [g]) :: rs):=by
 obtain ⟨f1,k1,k2,f2,k3,k4,k5⟩:=S.sep;refine ⟨S.ext,fun b=>f2 b∨f1 b,fun h' q=>?_,fun b hb=>?_,k5.mono fun b hb=>⟨trivial,fun q=>?_⟩⟩
 ·rw [zC9];exact Star.snoc (k1.local fun b hb=>q b (.inr hb)) (k3 h' fun b hb=>q b (.inl hb)) fun b hb q=>(k4 b q).2.2.2 hb
 ·rcases hb with hb|hb
  ·exact ⟨(k4 b hb).1,(k4 b hb).2.1,trivial⟩
  ·exact k2 b hb
 ·rcases q with q|q
  ·exact hb.2 q
  ·exact hb.1.2 q
theorem Star.get {h:AH} {r:Rs}:∀ {l:List Rs} {U:Fp},Star h l U→r∈l→∃ fp,r.ok h fp
 | x :: l,U,⟨fx,h1,h2,h3⟩,hr=>by
  rcases zE8.1 hr with rfl|hr
  ·exact ⟨fx,h1⟩
  ·exact Star.get h3 hr
theorem qdL {α:Type} {v:Value} {e:TypeId} {z:Nat} {enc:α→List Value} {l:List α} {h:AH} {fp:Fp} (k:(Rs.sl v e z enc l).ok h fp):Qk h v z enc l:=by
 rcases k with ⟨rfl,rfl⟩|⟨b,o,cc,slk,cap,h1,h2,h3,h4,-⟩
 ·exact .inl ⟨rfl,rfl,rfl⟩
 ·exact .inr ⟨b,o,_,cc,e,slk,false,h1,h2,h4⟩
abbrev xU (v:RlV) (ts:List Ti):List Rs:=[.sl v.vg.val 24 9 eG v.gs,.sl v.vt.val 111 3 Qm ts,tgO v.gs]
theorem Hs.qfF {h0 h:AH} {rs:List Rs} {v:RlV} {r:Rl} (S:Hs h0 h (xU v r.ts ++ rs)) (hu:v.gs.map (·.toGu)=r.us) (h1:r.us.length≤9223372036854775807) (h2:r.ts.length≤9223372036854775807) (h3:∀ g∈r.us,g.tg.length≤9223372036854775807):RlOk h v r:=by
 obtain ⟨fp,k⟩:=Hs.qej (p:=fun h fp=>Star h (v.gs.map qdM) fp) S (.there (.there .here));refine ⟨Rd.Zf S .here,Rd.Zf S (.there .here),fun i hi=>⟨?_,?_⟩,hu,h1,h2⟩
 ·obtain ⟨fq,q⟩:=k.get (zF1.2 ⟨_,qJ hi,rfl⟩);exact qdL q
 ·exact h3 _ (by rw [← hu];exact zF1.2 ⟨_,qJ hi,rfl⟩)
variable [Flag]
theorem vT {h0:AH} (w:WfH h0) (v u:Value) (l m:List (List UInt8)) (rv:Qk h0 v 1 eS l) (ru:Qk h0 u 1 eS m) (hl:l.length≤9223372036854775807) (hm:m.length≤9223372036854775807):Fn Tryz.prog Xh 60 [v,u] h0 (fun x h'=>JW x (l=m)∧Hs h0 h' []):=by
 have S:=Hs.start w;refine zF rfl Tryz.func60 rfl rfl ?_;all_goals (repeat' (first|refine qx ?_|refine qi rfl ?_|refine qw ?_|refine qh ?_|(refine qf 0 ?_;refine mv ?_;refine qg ?_)|(refine qf 1 ?_;refine mv ?_;refine Zg S ?_;refine mv ?_;refine Zg S ?_;(first|(refine cS ?_ ?_<;>intro hc))<;>(refine qg ?_))|(refine qf 2 ?_;refine mv ?_;refine qg ?_)|(refine qf 3 ?_;refine mv ?_;refine qg ?_)))
 ·refine qF ⟨_,rfl,?_⟩;exact ⟨.inr ⟨rfl,fun q=>by subst q;exact hc rfl⟩,S⟩
 ·refine zK (σ:=Nat) (fun i h'=>Hs h0 h' []∧i≤l.length∧∀ j,j<i→l.getD j default=m.getD j default) (fun i=>l.length - i) (fun i=>[(0,v),(1,u),(5,.int .i64 i)]) 0 zf ?_ ?_
  ·exact ⟨S,zB0 _,fun j hj=>absurd hj (zB7 _)⟩
  clear S;rintro i h ⟨S,g1,g2⟩;all_goals (repeat' (first|refine qx ?_|refine qi rfl ?_|refine qw ?_|refine qA ?_|refine qh ?_|(refine qf 4 ?_;refine mv ?_;refine mv ?_;refine Zg S ?_;(first|(refine cS ?_ ?_<;>intro hc))<;>(refine qg ?_))|(refine qf 5 ?_;refine mv ?_;refine ad ?_;refine mv ?_;refine qg ?_)|(refine ji 6 ?_;refine mv ?_;refine mv ?_;refine Za S ?_;refine zU S ?_;refine mv ?_;refine mv ?_;refine Za S ?_;refine zU S ?_;(refine tS ?_ ?_<;>intro hc)<;>(refine qg ?_))|(refine qf 7 ?_;refine mv ?_;refine qg ?_)|(refine qf 8 ?_;refine mv ?_;refine qg ?_)))
  all_goals (try simp only [zA0] at *)
  ·refine ⟨i+1,?_,?_,zf⟩
   ·show l.length - (i+1)<l.length - i;omega
   ·exact ⟨S,by omega,Vd g2 hc⟩
  ·refine qF ⟨_,rfl,?_⟩;exact ⟨.inr ⟨rfl,fun q=>by subst q;exact hc rfl⟩,S⟩
  ·refine qF ⟨_,rfl,?_⟩;exact ⟨.inl ⟨rfl,JQ (by omega) fun j hj=>g2 j (by omega)⟩,S⟩
theorem gJ {h0:AH} (w:WfH h0) (v u:Value) (l m:List Ti) (rv:Qk h0 v 3 Qm l) (ru:Qk h0 u 3 Qm m) (hl:l.length≤9223372036854775807) (hm:m.length≤9223372036854775807):Fn Tryz.prog Xh 68 [v,u] h0 (fun x h'=>JW x (l=m)∧Hs h0 h' []):=by
 have S:=Hs.start w;refine zF rfl Tryz.func68 rfl rfl ?_;all_goals (repeat' (first|refine qx ?_|refine qi rfl ?_|refine qw ?_|refine qh ?_|(refine qf 0 ?_;refine mv ?_;refine qg ?_)|(refine qf 1 ?_;refine mv ?_;refine Zg S ?_;refine mv ?_;refine Zg S ?_;(first|(refine cS ?_ ?_<;>intro hc))<;>(refine qg ?_))|(refine qf 2 ?_;refine mv ?_;refine qg ?_)|(refine qf 3 ?_;refine mv ?_;refine qg ?_)))
 ·refine qF ⟨_,rfl,?_⟩;exact ⟨.inr ⟨rfl,fun q=>by subst q;exact hc rfl⟩,S⟩
 ·refine zK (σ:=Nat) (fun i h'=>Hs h0 h' []∧i≤l.length∧∀ j,j<i→l.getD j default=m.getD j default) (fun i=>l.length - i) (fun i=>[(0,v),(1,u),(5,.int .i64 i)]) 0 zf ?_ ?_
  ·exact ⟨S,zB0 _,fun j hj=>absurd hj (zB7 _)⟩
  clear S;rintro i h ⟨S,g1,g2⟩;all_goals (repeat' (first|refine qx ?_|refine qi rfl ?_|refine qw ?_|refine qA ?_|refine qh ?_|(refine qf 4 ?_;refine mv ?_;refine mv ?_;refine Zg S ?_;(first|(refine cS ?_ ?_<;>intro hc))<;>(refine qg ?_))|(refine qf 5 ?_;refine mv ?_;refine ad ?_;refine mv ?_;refine qg ?_)|(refine ji 6 ?_;refine mv ?_;refine mv ?_;refine Za S ?_;refine zU S ?_;refine mv ?_;refine mv ?_;refine Za S ?_;refine zU S ?_;(refine gE ?_ ?_<;>intro hc)<;>(refine qg ?_))|(refine qf 7 ?_;refine mv ?_;refine qg ?_)|(refine qf 8 ?_;refine mv ?_;refine qg ?_)))
  all_goals (try simp only [zA0] at *)
  ·refine ⟨i+1,?_,?_,zf⟩
   ·show l.length - (i+1)<l.length - i;omega
   ·exact ⟨S,by omega,Vd g2 ((qeH _ _).1 hc)⟩
  ·refine qF ⟨_,rfl,?_⟩;exact ⟨.inr ⟨rfl,fun q=>by subst q;rw [(qeH _ _).2 rfl] at hc;cases hc⟩,S⟩
  ·refine qF ⟨_,rfl,?_⟩;exact ⟨.inl ⟨rfl,JQ (by omega) fun j hj=>g2 j (by omega)⟩,S⟩
theorem vU {h0:AH} (w:WfH h0) (g k:ZL) (rg:Qk h0 g.tv.val 1 eS g.tg) (rk:Qk h0 k.tv.val 1 eS k.tg) (hg:g.tg.length≤9223372036854775807) (hk:k.tg.length≤9223372036854775807):Fn Tryz.prog Xh 62 [gV g,gV k] h0 (fun x h'=>JW x (g.toGu=k.toGu)∧Hs h0 h' []):=by
 have S:=Hs.start w;obtain ⟨⟨n1,n2,n3,n4,n5,n6,n7,n8,n9⟩,n10⟩:=g;obtain ⟨⟨m1,m2,m3,m4,m5,m6,m7,m8,m9⟩,m10⟩:=k;unfold gV;dsimp only at *;refine zF rfl Tryz.func62 rfl rfl ?_;all_goals (repeat' (first|refine qx ?_|(refine qf 0 ?_;(refine bx S ?_;clear S;intro b h S);(refine bx S ?_;clear S;intro b h S);refine mv ?_;refine qg ?_)|(refine qf 1 ?_;refine vl ?_;refine lB S rfl rfl ?_;refine vl ?_;refine lB S rfl rfl ?_;(refine tS ?_ ?_<;>intro hc)<;>(refine mv ?_;(first|refine off ?_|(refine vl ?_));(first|refine off ?_|(refine lB S rfl rfl ?_));(first|refine off ?_|(refine vl ?_));(first|refine off ?_|(refine lB S rfl rfl ?_));(first|refine off ?_|(refine tS ?_ ?_<;>intro hc))<;>(refine vl ?_;refine mv ?_;(first|refine off ?_|(refine vl ?_));(first|refine off ?_|(refine lB S rfl rfl ?_));(first|refine off ?_|(refine vl ?_));(first|refine off ?_|(refine lB S rfl rfl ?_));(first|refine off ?_|(refine tS ?_ ?_<;>intro hc))<;>(refine vl ?_;refine mv ?_;(first|refine off ?_|(refine vl ?_));(first|refine off ?_|(refine lB S rfl rfl ?_));(first|refine off ?_|(refine vl ?_));(first|refine off ?_|(refine lB S rfl rfl ?_));(first|refine off ?_|(first|(refine cS ?_ ?_<;>intro hc)))<;>(refine vl ?_;refine mv ?_;(first|refine off ?_|(refine vl ?_));(first|refine off ?_|(refine lB S rfl rfl ?_));(first|refine off ?_|(refine vl ?_));(first|refine off ?_|(refine lB S rfl rfl ?_));(first|refine off ?_|(first|(refine cS ?_ ?_<;>intro hc)))<;>(refine vl ?_;refine mv ?_;(first|refine off ?_|(refine vl ?_));(first|refine off ?_|(refine lB S rfl rfl ?_));(first|refine off ?_|(refine vl ?_));(first|refine off ?_|(refine lB S rfl rfl ?_));(first|refine off ?_|(refine tS ?_ ?_<;>intro hc))<;>(refine vl ?_;refine mv ?_;(first|refine off ?_|(refine vl ?_));(first|refine off ?_|(refine lB S rfl rfl ?_));(first|refine off ?_|(refine vl ?_));(first|refine off ?_|(refine lB S rfl rfl ?_));(first|refine off ?_|(refine bE ?_ ?_<;>intro hc))<;>(refine vl ?_;refine mv ?_;(first|refine off ?_|(refine vl ?_));(first|refine off ?_|(refine lB S rfl rfl ?_));(first|refine off ?_|(refine vl ?_));(first|refine off ?_|(refine lB S rfl rfl ?_));(first|refine off ?_|(refine bE ?_ ?_<;>intro hc))<;>(refine vl ?_;refine mv ?_;(first|refine off ?_|(refine vl ?_));(first|refine off ?_|(refine lB S rfl rfl ?_));(first|refine off ?_|(refine vl ?_));(first|refine off ?_|(refine lB S rfl rfl ?_));(first|(refine off ?_;refine vl ?_;refine mv ?_;refine qg ?_)|skip))))))))))))
 ·(refine qH rfl rfl rfl rfl rfl ((vT S.wf n10.val m10.val n9 m9 (rg.ext w S.ext) (rk.ext w S.ext) hg hk).mono ?_);rintro _ h ⟨⟨rfl,z⟩|⟨rfl,z⟩,x⟩)<;>(replace S:=S.zn x;clear x;refine vl ?_;refine mv ?_;refine qg ?_)
  ·all_goals (repeat' (fail))
   refine qF ⟨_,rfl,?_⟩;refine ⟨.inl ⟨rfl,?_⟩,S.drop⟩;simp only [Gu.mk.injEq];exact ⟨by assumption,by assumption,by assumption,by assumption,by assumption,by assumption,by assumption,by assumption,z⟩
  ·all_goals (repeat' (fail))
   refine qF ⟨_,rfl,?_⟩;refine ⟨.inr ⟨rfl,fun q=>?_⟩,S.drop⟩;simp only [Gu.mk.injEq] at q;exact z q.2.2.2.2.2.2.2.2
 all_goals
  refine qF ⟨_,rfl,?_⟩;refine ⟨.inr ⟨rfl,fun q=>?_⟩,S.drop⟩;simp only [Gu.mk.injEq] at q;exact absurd (by first|exact q.1|exact q.2.1|exact q.2.2.1|exact q.2.2.2.1|exact q.2.2.2.2.1|exact q.2.2.2.2.2.1|exact q.2.2.2.2.2.2.1|exact q.2.2.2.2.2.2.2.1) hc
theorem xQ {h0:AH} (w:WfH h0) (v u:Value) (gs ks:List ZL) (rv:Qk h0 v 9 eG gs) (ru:Qk h0 u 9 eG ks) (tv:∀ i,i<gs.length→Qk h0 (gs.getD i default).tv.val 1 eS (gs.getD i default).tg∧(gs.getD i default).tg.length≤9223372036854775807) (tu:∀ i,i<ks.length→Qk h0 (ks.getD i default).tv.val 1 eS (ks.getD i default).tg∧(ks.getD i default).tg.length≤9223372036854775807) (hl:gs.length≤9223372036854775807) (hm:ks.length≤9223372036854775807) :
 Fn Tryz.prog Xh 67 [v,u] h0 (fun x h'=>JW x (gs.map (·.toGu)=ks.map (·.toGu))∧Hs h0 h' []):=by
 have S:=Hs.start w;refine zF rfl Tryz.func67 rfl rfl ?_;all_goals (repeat' (first|refine qx ?_|refine qi rfl ?_|refine qw ?_|refine qh ?_|(refine qf 0 ?_;refine mv ?_;refine qg ?_)|(refine qf 1 ?_;refine mv ?_;refine Zg S ?_;refine mv ?_;refine Zg S ?_;(first|(refine cS ?_ ?_<;>intro hc))<;>(refine qg ?_))|(refine qf 2 ?_;refine mv ?_;refine qg ?_)|(refine qf 3 ?_;refine mv ?_;refine qg ?_)))
 ·refine qF ⟨_,rfl,?_⟩;exact ⟨.inr ⟨rfl,fun q=>by have:=congrArg List.length q;simp at this;omega⟩,S⟩
 ·refine zK (σ:=Nat) (fun i h'=>Hs h0 h' []∧i≤gs.length∧∀ j,j<i→(gs.getD j default).toGu=(ks.getD j default).toGu) (fun i=>gs.length - i) (fun i=>[(0,v),(1,u),(5,.int .i64 i)]) 0 zf ?_ ?_
  ·exact ⟨S,zB0 _,fun j hj=>absurd hj (zB7 _)⟩
  clear S;rintro i h ⟨S,g1,g2⟩;all_goals (repeat' (first|refine qx ?_|refine qi rfl ?_|refine qw ?_|refine qA ?_|refine qh ?_|(refine qf 4 ?_;refine mv ?_;refine mv ?_;refine Zg S ?_;(first|(refine cS ?_ ?_<;>intro hc))<;>(refine qg ?_))|(refine qf 8 ?_;refine mv ?_;refine qg ?_)))
  ·have e1:=tv i (by omega);have e2:=tu i (by omega);all_goals (repeat' (first|(refine ji 6 ?_;refine mv ?_;refine mv ?_;refine Za S ?_;refine zU S ?_;refine mv ?_;refine mv ?_;refine Za S ?_;refine zU S ?_)))
   simp only [zA0];(refine qH rfl rfl rfl rfl rfl ((vU S.wf (gs.getD i default) (ks.getD i default) (e1.1.ext w S.ext) (e2.1.ext w S.ext) e1.2 e2.2).mono ?_);rintro _ h ⟨⟨rfl,z⟩|⟨rfl,z⟩,x⟩)<;>(replace S:=S.zn x;clear x;refine vl ?_;refine qg ?_)
   ·all_goals (repeat' (first|refine qi rfl ?_|refine qw ?_|(refine qf 5 ?_;refine mv ?_;refine ad ?_;refine mv ?_;refine qg ?_)))
    refine ⟨i+1,?_,?_,zf⟩
    ·show gs.length - (i+1)<gs.length - i;omega
    ·exact ⟨S,by omega,Vd g2 z⟩
   ·all_goals (repeat' (first|refine qx ?_|refine qi rfl ?_|(refine qf 7 ?_;refine mv ?_;refine qg ?_)))
    refine qF ⟨_,rfl,?_⟩;refine ⟨.inr ⟨rfl,fun q=>z ?_⟩,S⟩;rw [← zB (f:=fun g:ZL=>g.toGu) (show i<gs.length by omega),← zB (f:=fun g:ZL=>g.toGu) (show i<ks.length by omega),q]
  ·refine qF ⟨_,rfl,?_⟩;refine ⟨.inl ⟨rfl,JQ (by simp;omega) fun j hj=>?_⟩,S⟩;simp at hj;rw [zB (by omega),zB (by omega)];exact g2 j (by omega)
theorem VK {h0:AH} (w:WfH h0) (v u:RlV) (r q:Rl) (hv:RlOk h0 v r) (hu:RlOk h0 u q):Fn Tryz.prog Xh 22 [v.val,u.val] h0 (fun x h'=>JW x (r=q)∧Hs h0 h' []):=by
 have S:=Hs.start w;have e1:=hv.len;have e2:=hu.len;have l1:=hv.lg;have l2:=hu.lg;unfold RlV.val;refine zF rfl Tryz.func22 rfl rfl ?_;all_goals (repeat' (first|refine qx ?_|(refine qf 0 ?_;(refine bx S ?_;clear S;intro b h S);(refine bx S ?_;clear S;intro b h S);refine mv ?_;refine qg ?_)|(refine qf 1 ?_;refine vl ?_;refine lB S rfl rfl ?_;refine vl ?_;refine lB S rfl rfl ?_)))
 (refine qH rfl rfl rfl rfl rfl ((xQ S.wf v.vg.val u.vg.val v.gs u.gs (hv.rg.ext w S.ext) (hu.rg.ext w S.ext) (fun i hi=>⟨(hv.tg i hi).1.ext w S.ext,(hv.tg i hi).2⟩) (fun i hi=>⟨(hu.tg i hi).1.ext w S.ext,(hu.tg i hi).2⟩) (by omega) (by omega)).mono ?_);rintro _ h ⟨⟨rfl,z⟩|⟨rfl,z⟩,x⟩)<;>(replace S:=S.zn x;clear x;refine mv ?_;(first|refine off ?_|(refine vl ?_));(first|refine off ?_|(refine lB S rfl rfl ?_));(first|refine off ?_|(refine vl ?_));(first|refine off ?_|(refine lB S rfl rfl ?_));(first|(refine off ?_;refine vl ?_;refine mv ?_;refine qg ?_)|skip))
 ·(refine qH rfl rfl rfl rfl rfl ((gJ S.wf v.vt.val u.vt.val r.ts q.ts (hv.rt.ext w S.ext) (hu.rt.ext w S.ext) hv.lt hu.lt).mono ?_);rintro _ h ⟨⟨rfl,z2⟩|⟨rfl,z2⟩,x⟩)<;>(replace S:=S.zn x;clear x;refine vl ?_;refine mv ?_;refine qg ?_)
  ·all_goals (repeat' (fail))
   refine qF ⟨_,rfl,?_⟩;refine ⟨.inl ⟨rfl,?_⟩,S.drop⟩;rw [hv.us,hu.us] at z;cases r;cases q;simp only [Rl.mk.injEq];exact ⟨z,z2⟩
  ·all_goals (repeat' (fail))
   refine qF ⟨_,rfl,?_⟩;exact ⟨.inr ⟨rfl,fun e=>z2 (by rw [e])⟩,S.drop⟩
 ·all_goals (repeat' (fail))
  refine qF ⟨_,rfl,?_⟩;exact ⟨.inr ⟨rfl,fun e=>z (by rw [hv.us,hu.us,e])⟩,S.drop⟩
theorem qcF {h0:AH} (w:WfH h0) {p:Nat} {r:Rl} (B:BkRd h0 p r) (H:RO r):Fn Tryz.prog Xh 39 [.pointer (some ⟨p,0,none⟩)] h0 (fun u h'=>∃ v:RlV,u=v.val∧v.gs.map (·.toGu)=r.us∧Hs h0 h' (xU v r.ts)):=by
 have S:=Hs.start w;obtain ⟨s,B⟩:=B;have hb:=B.bk;have hrg:=B.rg;have hgl:=B.len;have h64:=H.l64;have h256:=H.l256;refine zF rfl Tryz.func39 rfl rfl ?_;all_goals (repeat' (first|refine qx ?_|(refine qf 0 ?_;(refine al S ?_;clear S;intro b h S);refine qg ?_)|(refine qf 1 ?_;refine mv ?_)))
 (refine qH rfl rfl rfl rfl rfl ((xA S.wf (S.ext.get w hb)).mono ?_);rintro _ h ⟨rfl,x⟩)<;>(replace S:=S.zn x;clear x;refine qg ?_)
 obtain ⟨b2,hnm⟩:∃ x,x=b:=⟨_,rfl⟩;subst hnm;all_goals (repeat' (first|refine qx ?_|refine qi rfl ?_|refine qw ?_|(refine qf 3 ?_;(refine al S ?_;clear S;intro b h S);refine qg ?_)))
 obtain ⟨b3,hnm⟩:∃ x,x=b:=⟨_,rfl⟩;subst hnm;have S:=((S.x8 (e:=24) (z:=9) (enc:=eG))).anyS (p:=fun h fp=>Star h (([]:List ZL).map qdM) fp) fun h'=>trivial;replace S:Hs h0 h [tgO [],.sl (SlV.val ⟨none,0,0⟩) 24 9 eG [],.blk b3 [SlV.val ⟨none,0,0⟩,.slice none 0 0] 32,.blk b2 [.slice none 0 0,.slice none 0 0] 32]:=S;all_goals (repeat' (first|refine qh ?_|(refine qf 4 ?_;refine mv ?_;refine vl ?_;refine vl ?_;refine vl ?_;refine lH S ?_;refine Zg S ?_;refine mv ?_;refine qg ?_)))
 refine zK (σ:=Nat×SlV×List ZL) (fun (i,vg,gs) h'=>Hs h0 h' [tgO gs,.sl vg.val 24 9 eG gs,.blk b3 [vg.val,.slice none 0 0] 32,.blk b2 [.slice none 0 0,.slice none 0 0] 32]∧i≤r.us.length∧gs.map (·.toGu)=r.us.take i) (fun (i,vg,gs)=>r.us.length - i) (fun (i,vg,gs)=>[(0,.pointer (some ⟨p,0,none⟩)),(2,.pointer (some ⟨b2,0,none⟩)),(3,.pointer (some ⟨b3,0,none⟩)),(13,s.vg.val),(14,.int .i64 s.gs.length),(15,.int .i64 i)]) (0,⟨none,0,0⟩,[]) zf ?_ ?_
 ·exact ⟨S,zB0 _,rfl⟩
 clear S;rintro ⟨i,vg,gs⟩ h ⟨S,g1,g2⟩;all_goals (repeat' (first|refine qx ?_|refine qi rfl ?_|refine qw ?_|refine qA ?_|refine qh ?_|(refine qf 5 ?_;(first|(refine cS ?_ ?_<;>intro hc))<;>(refine qg ?_))))
 ·have hil:i<s.gs.length:=by omega
  have hg:=B.g hil;have h4:=(ZZ (H.chk _ (qJ (show i<r.us.length by omega)))).2.2.2.1;have hl4:(s.gs.getD i default).tg.length≤1000000:=by rw [hg];omega
  have hgs:gs.length≤64:=by have:=congrArg List.length g2;simp at this;omega
  all_goals (repeat' (first|(refine qf 6 ?_;refine Za S ?_;refine zU S ?_;(refine al S ?_;clear S;intro b h S);(first|(refine sB S rfl rfl ?_;clear S;intro h S));refine qg ?_)))
  simp only [zA0] at S;simp only [zA0];replace S:Hs h0 h [.blk b (eG (s.gs.getD i default)) 24,tgO gs,.sl vg.val 24 9 eG gs,.blk b3 [vg.val,.slice none 0 0] 32,.blk b2 [.slice none 0 0,.slice none 0 0] 32]:=S;(repeat (refine qx ?_));refine Z9 (id:=7) [(1,(0,2))] [some (b3)] ?_;refine qB ?_;(first|(refine vl ?_<;>refine qg ⟨⟨by (first|exact True.intro),rfl⟩,?_⟩));refine qB ?_;(first|(refine lB S rfl rfl ?_<;>refine qg ⟨⟨by (first|exact Or.inr rfl),rfl⟩,?_⟩));refine qB ?_;(first|(refine lB S rfl rfl ?_<;>refine qg ⟨⟨by (first|exact True.intro),rfl⟩,?_⟩));((refine qB ?_;first|refine qH rfl rfl rfl rfl rfl ((ve S.wf (s.gs.getD i default) ((B.tg i hil).ext w S.ext) hl4).mono ?_));rintro _ h ⟨tv,rfl,x⟩)<;>((refine qg ⟨⟨True.intro,?_⟩,?_⟩;(focus ((show keepsX _ _ _ _ _;simp only [keepsX];(repeat' (first|exact True.intro|refine And.intro ?_ ?_));all_goals (intro hw;first|exact x.ext.old _ S.bB)))));replace S:=S.Xo x;clear x;refine qB ?_;(first|((refine one 9 S ?_;have S0:=S;clear S;intro u h S);refine qg ⟨⟨True.intro,?_⟩,?_⟩;(focus ((show keepsX _ _ _ _ _;simp only [keepsX];(repeat' (first|exact True.intro|refine And.intro ?_ ?_));all_goals (intro hw;first|exact (S.gB).trans (S0.gB).symm))));clear S0)))
  refine qB ?_;refine app (y0:={ s.gs.getD i default with tv:=tv }) S rfl rfl ?_;have S0:=S;clear S;intro v h S;obtain ⟨vg',rfl⟩:=S.sV v;refine qg ⟨⟨True.intro,?_⟩,?_⟩;(focus ((show keepsX _ _ _ _ _;simp only [keepsX];(repeat' (first|exact True.intro|refine And.intro ?_ ?_));all_goals (intro hw;first|exact (S.gB).trans (S0.gB).symm))));clear S0;(refine qB ?_;(first|(refine vl ?_<;>refine qg ⟨⟨by (first|exact True.intro),rfl⟩,?_⟩));refine qB ?_;(first|((refine sB S rfl rfl ?_;have S0:=S;clear S;intro h S);refine qg ⟨⟨True.intro,?_⟩,?_⟩;(focus ((show keepsX _ _ _ _ _;simp only [keepsX];(repeat' (first|exact True.intro|refine And.intro ?_ ?_));all_goals (intro hw;first|exact absurd hw (by decide +kernel)))));clear S0));refine Xz ?_);all_goals (repeat' (first|(refine qf 8 ?_;refine ad ?_;refine mv ?_;refine qg ?_)))
  refine ⟨(i+1,vg',gs ++ [{ s.gs.getD i default with tv:=tv }]),?_,?_,zf⟩
  ·show r.us.length - (i+1)<r.us.length - i;omega
  ·replace S:Hs h0 h (.sl vg'.val 24 9 eG (gs ++ [{ s.gs.getD i default with tv:=tv }]) :: .sl tv.val 9 1 eS (s.gs.getD i default).tg :: .blk b (eG (s.gs.getD i default)) 24 :: tgO gs :: .blk b3 [vg'.val,.slice none 0 0] 32 :: .blk b2 [.slice none 0 0,.slice none 0 0] 32 :: []):=S;have S:=(show Hs h0 h (.sl tv.val 9 1 eS (s.gs.getD i default).tg :: tgO gs :: .sl vg'.val 24 9 eG (gs ++ [{ s.gs.getD i default with tv:=tv }]) :: .blk b3 [vg'.val,.slice none 0 0] 32 :: .blk b2 [.slice none 0 0,.slice none 0 0] 32 :: []) from S.pick)
   refine ⟨Hs.qdK (g:={ s.gs.getD i default with tv:=tv }) S,by (try dsimp only);omega,?_⟩;dsimp only;rw [zq (by omega),zC9,g2,← hg];rfl
 ·obtain rfl:i=r.us.length:=by omega
  rw [zD4] at g2;all_goals (repeat' (first|(refine qf 9 ?_;refine mv ?_;refine vl ?_;refine vl ?_;refine vl ?_;refine lH S ?_)))
  (refine qH rfl rfl rfl rfl rfl ((qaT S.wf s.vt.val r.ts (B.rt.ext w S.ext) (by omega)).mono ?_);rintro v h x)<;>(replace S:=S.Xo x;clear x;obtain ⟨vt',rfl⟩:=S.sV v;refine vl ?_;(first|(refine sB S rfl rfl ?_;clear S;intro h S));refine qg ?_)
  all_goals (repeat' (first|refine qx ?_|(refine qf 10 ?_;refine lB S rfl rfl ?_;(first|(refine sB S rfl rfl ?_;clear S;intro h S));refine qg ?_)))
  refine qF ⟨_,zJ S rfl (by first|exact .there (.there (.there (.there .here)))) (by exact rfl) (by exact rfl),?_⟩;refine ⟨⟨vg,vt',gs⟩,rfl,g2,?_⟩;exact (show Hs h0 h [.sl vg.val 24 9 eG gs,.sl vt'.val 111 3 Qm r.ts,tgO gs] from S.pick)
end Go.Proofs.Xx
namespace Go.Proofs.Xx
open Go Go.Proofs
structure Chg (h h':AH) (b:Nat) (o:jC):Prop where
 at_:h'.get b=some o
 old:∀ j,j≠b→j<h.next→h'.get j=h.get j
 next:h.next≤h'.next
 wf:WfH h'
theorem Chg.trans {h h' h'':AH} {b:Nat} {o o':jC} (c:Chg h h' b o) (d:Chg h' h'' b o'):Chg h h'' b o' :=
 ⟨d.at_,fun j hj hn=>(d.old j hj (zE4 hn c.next)).trans (c.old j hj hn),zD0 c.next d.next,d.wf⟩
theorem GV {c:List Value} {o:Nat} (h:o≤c.length):splice c o []=c:=by simp [splice]
section
variable {P:Program} {X:Extern} {sz:Nat} {L L':Ks} {h:AH} {ops:Array Oper} {os:List Oper} {o:Oper} {R:Ks→AH→Prop}
theorem rwa {x y:Operand} {ts tx e e2:TypeId} {zc new cc:List Value} {by_ b o' n cap m z:Nat} {slk:Option Nat} {u:Value} {d:Tmp} (hb:h.get b=some (.cells cc e2 slk false)) (wf:WfH h) (hr:Rd h u z m new)
 (w:∀ h',Chg h h' b (.cells (splice cc (o'+n*z) new) e2 slk false)→KO P X sz ops os (L.put d (.slice (some ⟨b,o',none⟩) (n+m) cap)) h' R)
 (ho:o.op = .call { callee:=.builtin .append,args:=#[x,y],argTypes:=#[ts,tx] }:=by exact rfl) (hg:qC ops L.tree o.guard=some true:=by exact rfl) (hx:kA L x=some (.slice (some ⟨b,o',none⟩) n cap):=by exact rfl) (hy:kA L y=some u:=by exact rfl)
 (hs:qP P ts=some e:=by exact rfl) (hz:qX P e=some zc:=by exact rfl) (hzl:zc.length=z:=by exact rfl) (hby:jT P e=some (by_+1):=by exact rfl) (hxs:P.underlying tx=some (.slice e):=by exact rfl)
 (hc:n+m≤cap:=by omega) (hcc:o'+cap*z≤cc.length:=by assumption) (h1:new.all one? = true:=by assumption) (hsz:(m+1)*(by_+1)≤140737488355328:=by omega) (hdst:o.dst=some d:=by exact rfl) (hds:Nat.blt d sz=true:=by exact rfl):KO P X sz ops (o :: os) L h R:=by
 subst hzl;have hlen:=hr.length;have hfit:o'+n*zc.length+new.length≤cc.length:=by
  rw [hlen,zF7,← zE1];exact zD0 (Nat.add_le_add_left (zD3 _ hc) _) hcc
 have k2:Nat.beq new.length (m*zc.length)=true:=by rw [hlen];simp
 have hsrc:Z5 zc.length u h=some (m,new):=hr.source;have go:∀ h',zN P [ts,tx] (.slice (some ⟨b,o',none⟩) n cap) u h=some (.slice (some ⟨b,o',none⟩) (n+m) cap,h')→Chg h h' b (.cells (splice cc (o'+n*zc.length) new) e2 slk false)→KO P X sz ops (o :: os) L h R:=fun h' q1 q2=>by
  refine zi (v:=.slice (some ⟨b,o',none⟩) (n+m) cap) (h':=h') hg ?_ (by simp only [qL,hdst,hds]) (w h' q2);rw [ho];simp [zZ,qG hx,qG hy,jl,jc,q1,jZ]
 cases m with
 | zero =>
  have hn:new=[]:=zE9.1 (by omega);subst hn;refine go h ?_ ⟨by rw [GV (by simp at hfit;omega)];exact hb,fun _ _ _=>rfl,zA3 _,wf⟩;simp only [zN,hs,hxs,hz,hby,hsrc,zB3 hsz,h1,k2,zF9,hb,zB3 (show n≤cap from hc),Nat.add_zero]
 | succ m =>
  refine go (h.put b (.cells (splice cc (o'+n*zc.length) new) e2 slk false)) ?_ ⟨by rw [AH.get_put,if_pos rfl],fun j hj _=>by rw [AH.get_put,if_neg hj],zA3 _,wf.put (wf.lt hb) _⟩;simp only [zN,hs,hxs,hz,hby,hsrc,zB3 hsz,h1,k2,zF9,hb,zB3 hc,putCells,zB3 hfit]
end
variable [Flag]
end Go.Proofs.Xx
namespace Go.Proofs.Xx
open Go Go.Proofs
def qfB (ts:List Ti) (a b:List UInt8):List Ti:=ts.filter fun t=>!decide (t.a=Q3 a b∧t.b=Q4 a b)
open Classical in
noncomputable def qfA (r:Rl) (a b:List UInt8):Rl×Int:=if tied r.ts a b then (⟨r.us,qfB r.ts a b⟩,0) else (r,6)
variable [Flag]
end Go.Proofs.Xx
namespace Go.Proofs.Xx
open Go Go.Proofs
theorem yH (a b:List UInt8):Q3 a b=Q3 b a:=by
 unfold Q3;rcases ZN a b with h|h|h
 ·rw [if_neg (jF h),if_pos h]
 ·subst h;rfl
 ·rw [if_pos h,if_neg (jF h)]
theorem yI (a b:List UInt8):Q4 a b=Q4 b a:=by
 unfold Q4;rcases ZN a b with h|h|h
 ·rw [if_pos h,if_neg (jF h)]
 ·subst h;rfl
 ·rw [if_neg (jF h),if_pos h]
theorem qcE {a b:List UInt8} (h:a≠b):jk (Q3 a b) (Q4 a b)∧((Q3 a b=a∧Q4 a b=b)∨(Q3 a b=b∧Q4 a b=a)):=by
 rcases ZN a b with q|q|q
 ·rw [Zl q,Zm q];exact ⟨q,.inl ⟨rfl,rfl⟩⟩
 ·exact absurd q h
 ·rw [yH,yI,Zl q,Zm q];exact ⟨q,.inr ⟨rfl,rfl⟩⟩
theorem qdT {ts:List Ti} (hs:TS ts) (y:Ti):∃ i,Plc ts y i:=by
 induction ts with
 | nil=>exact ⟨0,zA3 _,fun j hj=>absurd hj (zB7 _),fun j _ hj=>absurd hj (zB7 _)⟩
 | cons x r ih =>
  by_cases h:Z4 x y
  ·obtain ⟨i,i1,i2,i3⟩:=ih (zH6.1 hs).2;refine ⟨i+1,by simp;exact i1,fun j hj=>?_,fun j h1 h2=>?_⟩
   ·cases j with
    | zero=>exact h
    | succ j=>exact i2 j (by omega)
   ·cases j with
    | zero=>omega
    | succ j=>exact i3 j (by omega) (by simp at h2;omega)
  ·refine ⟨0,zB0 _,fun j hj=>absurd hj (zB7 _),fun j _ hj q=>h ?_⟩;rcases zF4 j with z|z
   ·subst z;exact q
   ·exact Qv (hs.lt z hj) q
theorem Plc.kind {ts:List Ti} {a b:List UInt8} {k k':Int} {i:Nat} (h:Plc ts ⟨a,b,k⟩ i):Plc ts ⟨a,b,k'⟩ i:=⟨h.1,h.2.1,h.2.2⟩
theorem qdI {ts:List Ti} {a b:List UInt8} {k:Int} (hs:TS ts) (hn:¬ tied ts a b):∃ i,i≤ts.length∧xX ts (Qc a b k)=ts.take i ++ Qc a b k :: ts.drop i∧TS (xX ts (Qc a b k)):=by
 obtain ⟨i,hi⟩:=qdT hs ⟨Q3 a b,Q4 a b,0⟩;have e:=Xj (t:=Qc a b k) (hi.kind (k':=k));refine ⟨i,hi.1,e,?_⟩;rw [e,TS,List.pairwise_append];refine ⟨List.Pairwise.sublist (List.take_sublist i ts) hs,zH6.2 ⟨fun y hy=>?_,List.Pairwise.sublist (List.drop_sublist i ts) hs⟩,fun x hx y hy=>?_⟩
 ·obtain ⟨j,hj,rfl⟩:=qM.1 hy;simp only [zB4] at hj;have ej:(ts.drop i).getD j default=ts.getD (i+j) default:=by
   rw [zA2,zA2,zC3]
  rw [ej];rcases Wp (ts.getD (i+j) default) (Qc a b k) with q|q|q
  ·exact absurd q (hi.2.2 (i+j) (by omega) (by omega))
  ·exact absurd ⟨_,qJ (show i+j<ts.length by omega),q⟩ hn
  ·exact q
 ·obtain ⟨j,hj,rfl⟩:=qM.1 hx;simp only [zA9] at hj;rw [getD_take (by omega)];have h1:=hi.2.1 j (by omega);rcases zE8.1 hy with rfl|hy
  ·exact h1
  ·obtain ⟨m,hm,rfl⟩:=qM.1 hy;simp only [zB4] at hm;have ej:(ts.drop i).getD m default=ts.getD (i+m) default:=by
    rw [zA2,zA2,zC3]
   rw [ej];exact hs.lt (by omega) (by omega)
theorem RO.tie {r:Rl} (H:RO r) {a b:List UInt8} {k:Int} (h:(QZ r a b k).2=0):RO (QZ r a b k).1:=by
 obtain ⟨h1,h2,h3,h4,h5,h6,h7⟩:=Ji h;rw [h7];obtain ⟨i,hi,e,hs⟩:=qdI (k:=k) H.ts h5;obtain ⟨m1,m2⟩:=qcE h2;refine ⟨H.chk,H.nd,H.l64,hs,fun t ht=>?_,?_⟩
 ·simp only at ht;rw [e] at ht;have:t∈r.ts∨t=Qc a b k:=by
   rcases zB8.1 ht with q|q
   ·exact .inl (List.mem_of_mem_take q)
   ·rcases zE8.1 q with q|q
    ·exact .inr q
    ·exact .inl (List.mem_of_mem_drop q)
  rcases this with q|rfl
  ·exact H.tt t q
  ·refine ⟨m1,h1,?_⟩;rcases m2 with ⟨e1,e2⟩|⟨e1,e2⟩
   ·show Xx.gat r.us (Q3 a b)≠none∧Xx.gat r.us (Q4 a b)≠none
    rw [e1,e2];exact ⟨h3,h4⟩
   ·show Xx.gat r.us (Q3 a b)≠none∧Xx.gat r.us (Q4 a b)≠none
    rw [e1,e2];exact ⟨h4,h3⟩
 ·simp only;rw [e];simp;omega
def qeG (ts:List Ti) (a b:List UInt8):Option Ti:=ts.find? fun t=>decide (t.a=Q3 a b∧t.b=Q4 a b)
def tkd (o:Option Ti):Value:=match o with|some t=>.tuple #[.int .u8 t.k,.bool true]|none=>.tuple #[.int .u8 0,.bool false]
variable [Flag]
end Go.Proofs.Xx
namespace Go.Proofs.Xx
open Go Go.Proofs
variable [Flag]
end Go.Proofs.Xx
namespace Go.Proofs.Xx
open Go Go.Proofs
variable [Flag]
end Go.Proofs.Xx
namespace Go.Proofs.Xx
open Go Go.Proofs
section
variable {P:Program} {X:Extern} {sz:Nat} {L L':Ks} {h h0:AH} {rs:List Rs} {ops:Array Oper} {os:List Oper} {o:Oper} {R:Ks→AH→Prop}
end
variable [Flag]
end Go.Proofs.Xx
namespace Go.Proofs.Xx
open Go Go.Proofs
def qe6 (n:List UInt8) (t:Ti):Prop:=t.a=n∨t.b=n
instance (n:List UInt8) (t:Ti):Decidable (qe6 n t):=inferInstanceAs (Decidable (_∨_))
def cvN (b:Nat):Value:=.func (.func 92) #[] #[.pointer (some ⟨b,0,none⟩)]
def qfY (n:List UInt8) (t:Ti):Bool:=!decide (qe6 n t)
variable [Flag]
end Go.Proofs.Xx
namespace Go.Proofs.Xx
open Go Go.Proofs
variable [Flag]
end Go.Proofs.Xx
namespace Go.Proofs.Xx
open Go Go.Proofs
def cvC (b:Nat):Value:=.func (.func 78) #[] #[.pointer (some ⟨b,0,none⟩)]
def qfZ (g:ZL) (t:List UInt8):Bool:=decide (t∈g.tg)
def qf8 (r:Rl) (a b:List UInt8):List (List UInt8):=match gat r.us a,gat r.us b with
 | some i,some j=>(r.us.getD i default).tg.filter fun t=>decide (t∈(r.us.getD j default).tg)
 | _,_=>[]
def spk (r:Rl) (a b:List UInt8):Prop:=∃ i j,gat r.us a=some i∧gat r.us b=some j∧∃ t,t∈(r.us.getD i default).tg∧t∈(r.us.getD j default).tg
theorem spk.symm {r:Rl} {a b:List UInt8} (h:spk r a b):spk r b a:=by
 obtain ⟨i,j,h1,h2,t,h3,h4⟩:=h;exact ⟨j,i,h2,h1,t,h4,h3⟩
theorem spk.kn {r:Rl} {a b:List UInt8} (h:spk r a b):gat r.us a≠none∧gat r.us b≠none:=by
 obtain ⟨i,j,h1,h2,t,h3,h4⟩:=h;rw [h1,h2];simp
variable [Flag]
end Go.Proofs.Xx
namespace Go.Proofs.Xx
open Go Go.Proofs
theorem SS.eq:∀ {l m:List (List UInt8)},SS l→SS m→(∀ x,x∈l↔x∈m)→l=m:=by
 intro l m hl hm h;have le:l.length=m.length:=Nat.le_antisymm (Qr hl.nodup fun x hx=>(h x).1 hx) (Qr hm.nodup fun x hx=>(h x).2 hx);apply JQ le
 intro i;induction i using Nat.strongRecOn with
 | _ i ih =>
  intro hi;have key:∀ {a b:List (List UInt8)},SS a→SS b→(∀ x,x∈a→x∈b)→i<a.length→(∀ j,j<i→j<a.length→a.getD j default=b.getD j default)→¬ jk (a.getD i default) (b.getD i default):=fun {a b} ha hb hab hi hj q=>by
   obtain ⟨j,j1,j2⟩:=qM.1 (hab _ (qJ hi));rcases zA7 j i with z|z
   ·have:=hj j z (by omega);have n:=ha j i z hi;rw [this,j2] at n;exact zA _ n
   ·have:=hb.le z j1;rw [j2] at this;exact this q
  have k1:=key hl hm (fun x=>(h x).1) hi fun j hj hj2=>ih j hj hj2;have k2:=key hm hl (fun x=>(h x).2) (by omega) fun j hj hj2=>(ih j hj (by omega)).symm;rcases Xg k1 with q|q
  ·exact q.symm
  ·exact absurd q k2
def btw (t:Ti) (a b:List UInt8):Prop:=(t.a=a∧t.b=b)∨(t.a=b∧t.b=a)
variable [Flag]
end Go.Proofs.Xx
namespace Go.Proofs.Xx
open Go Go.Proofs
structure TGd (r:Rl) (i:Nat):Prop where
 k:(r.ts.getD i default).k=1∨(r.ts.getD i default).k=2
 lt:jk (r.ts.getD i default).a (r.ts.getD i default).b
 pl:i=0∨¬ Z4 (r.ts.getD i default) (r.ts.getD (i - 1) default)
theorem TGd.eq {r:Rl} {i:Nat} (g:TGd r i):Yy r i=(QZ ⟨r.us,r.ts.take i⟩ (r.ts.getD i default).a (r.ts.getD i default).b (r.ts.getD i default).k).2:=by
 unfold Yy;rw [if_pos ⟨g.lt,g.pl⟩]
theorem TGd.nk {r:Rl} {i:Nat} (g:TGd r i):¬ (((r.ts.getD i default).k≠1∧(r.ts.getD i default).k≠2)∨(r.ts.getD i default).a=(r.ts.getD i default).b):=by
 rintro (q|q)
 ·have:=g.k;omega
 ·exact WE g.lt q
theorem TGd.e6 {r:Rl} {i:Nat} (g:TGd r i) (h:gat r.us (r.ts.getD i default).a=none∨gat r.us (r.ts.getD i default).b=none):Yy r i=6:=by
 rw [g.eq,vI (r:=⟨r.us,r.ts.take i⟩) g.nk h]
theorem TGd.tied {r:Rl} {i:Nat} (g:TGd r i) (hi:i<r.ts.length) (hp:TS (r.ts.take i)):tied (r.ts.take i) (r.ts.getD i default).a (r.ts.getD i default).b↔(0<i∧¬ Z4 (r.ts.getD (i - 1) default) (r.ts.getD i default)):=by
 unfold Xx.tied;rw [Zl g.lt,Zm g.lt];have hl:(r.ts.take i).length=i:=by simp;omega
 constructor
 ·rintro ⟨t,h1,h2,h3⟩;obtain ⟨j,j1,j2⟩:=qM.1 h1;rw [hl] at j1;rw [getD_take j1] at j2;refine ⟨by omega,fun q=>?_⟩;have hb:Z4 t (r.ts.getD i default):=by
   rcases Nat.eq_or_lt_of_le (show j≤i - 1 by omega) with e|e
   ·rw [← j2,e];exact q
   ·have:=hp.lt e (by rw [hl];omega);rw [getD_take j1,getD_take (by omega),j2] at this;exact Qv this q
  rcases hb with q|q
  ·rw [h2] at q;exact zA _ q
  ·rw [h3] at q;exact zA _ q.2
 ·rintro ⟨h0,h1⟩;rcases Wp (r.ts.getD (i - 1) default) (r.ts.getD i default) with q|q|q
  ·exact absurd q h1
  ·refine ⟨r.ts.getD (i - 1) default,?_,q⟩;have:=qJ (l:=r.ts.take i) (i:=i - 1) (by rw [hl];omega);rwa [getD_take (by omega)] at this
  ·exact absurd q (g.pl.resolve_left (by omega))
theorem TGd.e5 {r:Rl} {i:Nat} (g:TGd r i) (hi:i<r.ts.length) (hp:TS (r.ts.take i)) (h:¬ (gat r.us (r.ts.getD i default).a=none∨gat r.us (r.ts.getD i default).b=none)) (hb:0<i∧¬ Z4 (r.ts.getD (i - 1) default) (r.ts.getD i default)):Yy r i=5:=by
 rw [g.eq,GG (r:=⟨r.us,r.ts.take i⟩) g.nk h ((g.tied hi hp).2 hb)]
theorem TGd.e7 {r:Rl} {i:Nat} (g:TGd r i) (hi:i<r.ts.length) (hp:TS (r.ts.take i)) (h:¬ (gat r.us (r.ts.getD i default).a=none∨gat r.us (r.ts.getD i default).b=none)) (hb:¬ (0<i∧¬ Z4 (r.ts.getD (i - 1) default) (r.ts.getD i default))) (h7:256≤i):Yy r i=7:=by
 rw [g.eq,Gz (r:=⟨r.us,r.ts.take i⟩) g.nk h (fun q=>hb ((g.tied hi hp).1 q)) (by simp;omega)]
theorem TGd.e0 {r:Rl} {i:Nat} (g:TGd r i) (hi:i<r.ts.length) (hp:TS (r.ts.take i)) (h:¬ (gat r.us (r.ts.getD i default).a=none∨gat r.us (r.ts.getD i default).b=none)) (hb:¬ (0<i∧¬ Z4 (r.ts.getD (i - 1) default) (r.ts.getD i default))) (h7:¬ 256≤i):Yy r i=0:=by
 rw [g.eq,Wq (r:=⟨r.us,r.ts.take i⟩) g.nk h (fun q=>hb ((g.tied hi hp).1 q)) (by simp;omega)]
variable [Flag]
end Go.Proofs.Xx
namespace Go.Proofs.Xx
open Go Go.Proofs
variable [Flag]
structure RlFit (h:AH) (v:RlV) (r:Rl):Prop where
 ok:RlOk h v r
 tg:∀ i,i<v.gs.length→(v.gs.getD i default).tg.length≤8796093021952
 lg:r.us.length*112≤140737488351232
 lt:r.ts.length*40≤140737488351232
theorem RlFit.ext {h h':AH} {v:RlV} {r:Rl} (a:RlFit h v r) (w:WfH h) (x:Ext h h'):RlFit h' v r:=⟨a.ok.ext w x,a.tg,a.lg,a.lt⟩
end Go.Proofs.Xx
namespace Go.Proofs.Xx
open Go Go.Proofs
inductive Pth (r:Rl) (x:List UInt8):List (List UInt8)→List UInt8→Prop
 | one:Pth r x [x] x
 | snoc {Q:List (List UInt8)} {w z:List UInt8} (h:Pth r x Q w) (a:spk r w z):Pth r x (Q ++ [z]) z
theorem Pth.pos {r:Rl} {x y:List UInt8} {Q:List (List UInt8)} (h:Pth r x Q y):0<Q.length:=by
 cases h<;>simp
theorem Pth.cons {r:Rl} {z x y:List UInt8} {Q:List (List UInt8)} (a:spk r z x) (h:Pth r x Q y):Pth r z (z :: Q) y:=by
 induction h with
 | one=>exact Pth.snoc (.one) a
 | snoc h b ih=>exact Pth.snoc ih b
theorem Pth.rev {r:Rl} {x y:List UInt8} {Q:List (List UInt8)} (h:Pth r x Q y):Pth r y Q.reverse x:=by
 induction h with
 | one=>exact .one
 | snoc h b ih =>
  rw [List.reverse_append];exact ih.cons b.symm
theorem Pth.head {r:Rl} {x y:List UInt8} {Q:List (List UInt8)} (h:Pth r x Q y):Q.getD 0 default=x:=by
 induction h with
 | one=>rfl
 | snoc h b ih=>rw [YL h.pos];exact ih
theorem Pth.last {r:Rl} {x y:List UInt8} {Q:List (List UInt8)} (h:Pth r x Q y):Q.getD (Q.length - 1) default=y:=by
 cases h with
 | one=>rfl
 | snoc h b=>rw [zB2,zD5,Nat.add_sub_cancel,Gt (zA3 _),zG6];rfl
theorem Pth.adj {r:Rl} {x y:List UInt8} {Q:List (List UInt8)} (h:Pth r x Q y):∀ i,i+1<Q.length→spk r (Q.getD i default) (Q.getD (i+1) default):=by
 induction h with
 | one=>intro i hi;simp at hi
 | snoc h b ih =>
  rename_i Q w z
  intro i hi;rw [zB2,zD5] at hi;rcases zA7 (i+1) Q.length with q|q
  ·rw [YL (by omega),YL q];exact ih i q
  ·have e:i=Q.length - 1:=by omega
   have hp:=h.pos;rw [YL (by omega),Gt q,e,h.last,show Q.length - 1+1 - Q.length=0 by omega];exact b
def lxl (P Q:List (List UInt8)):Prop:=∃ k,k<P.length∧k<Q.length∧(∀ j,j<k→P.getD j default=Q.getD j default)∧jk (P.getD k default) (Q.getD k default)
theorem lxl.snoc {P Q:List (List UInt8)} {a b:List UInt8} (h:lxl P Q):lxl (P ++ [a]) (Q ++ [b]):=by
 obtain ⟨k,h1,h2,h3,h4⟩:=h;refine ⟨k,by simp;omega,by simp;omega,fun j hj=>?_,?_⟩
 ·rw [YL (by omega),YL (by omega)];exact h3 j hj
 ·rw [YL h1,YL h2];exact h4
theorem lxl.last {P:List (List UInt8)} {a b:List UInt8} (h:jk a b):lxl (P ++ [a]) (P ++ [b]):=by
 refine ⟨P.length,by simp,by simp,fun j hj=>?_,?_⟩
 ·rw [YL hj,YL hj]
 ·rw [Gt (zA3 _),Gt (zA3 _),zG6];exact h
theorem lxl.trans {P Q R:List (List UInt8)} (h:lxl P Q) (g:lxl Q R):lxl P R:=by
 obtain ⟨k,h1,h2,h3,h4⟩:=h;obtain ⟨m,g1,g2,g3,g4⟩:=g;rcases zE7 k m with q|q|q
 ·exact ⟨k,h1,by omega,fun j hj=>(h3 j hj).trans (g3 j (by omega)),by rw [← g3 k q];exact h4⟩
 ·subst q;exact ⟨k,h1,g2,fun j hj=>(h3 j hj).trans (g3 j hj),jY h4 g4⟩
 ·exact ⟨m,by omega,g2,fun j hj=>(h3 j (by omega)).trans (g3 j hj),by rw [h3 m q];exact g4⟩
def lxe (P Q:List (List UInt8)):Prop:=P=Q∨lxl P Q
theorem lxe.trans {P Q R:List (List UInt8)} (h:lxe P Q) (g:lxe Q R):lxe P R:=by
 rcases h with rfl|h
 ·exact g
 ·rcases g with rfl|g
  ·exact .inr h
  ·exact .inr (h.trans g)
theorem lxe.snoc {P Q:List (List UInt8)} {a:List UInt8} (h:lxe P Q):lxe (P ++ [a]) (Q ++ [a]):=by
 rcases h with rfl|h
 ·exact .inl rfl
 ·exact .inr h.snoc
structure ChainOk (r:Rl) (x y:List UInt8) (P:List (List UInt8)):Prop where
 pth:Pth r x P y
 sh:∀ Q,Pth r x Q y→P.length≤Q.length
 lx:∀ Q,Pth r x Q y→P.length=Q.length→lxe P Q
abbrev Xy:=List (List UInt8×List UInt8)
def XP (mp:Xy) (j:Nat):List UInt8:=(mp.getD j default).1
def Zx (mp:Xy) (pa:Nat→Nat) (j:Nat):List (List UInt8):=if h:0<j∧pa j<j then Zx mp pa (pa j) ++ [XP mp j] else [XP mp j]
termination_by j
decreasing_by exact h.2
structure BC (r:Rl) (x:List UInt8) (mp:Xy) (pa:Nat→Nat):Prop where
 pos:0<mp.length
 d0:XP mp 0=x
 f0:(mp.getD 0 default).2=[]
 kn:∀ j,j<mp.length→gat r.us (XP mp j)≠none
 nd:(mp.map (·.1)).Nodup
 lt:∀ j,0<j→j<mp.length→pa j<j
 fr:∀ j,0<j→j<mp.length→(mp.getD j default).2=XP mp (pa j)∧spk r (XP mp (pa j)) (XP mp j)
 mo:∀ j k,0<j→j≤k→k<mp.length→pa j≤pa k
 od:∀ j k,0<j→j<k→k<mp.length→pa j=pa k→jk (XP mp j) (XP mp k)
theorem BC.step {r:Rl} {x:List UInt8} {mp:Xy} {pa:Nat→Nat} (B:BC r x mp pa) {j:Nat} (h0:0<j) (hj:j<mp.length):Zx mp pa j=Zx mp pa (pa j) ++ [XP mp j]:=by
 rw [Zx,dif_pos ⟨h0,B.lt j h0 hj⟩]
theorem kT (mp:Xy) (pa:Nat→Nat):Zx mp pa 0=[XP mp 0]:=by
 rw [Zx,dif_neg (by omega)]
theorem qa5 (mp:Xy) (pa:Nat→Nat) (j:Nat):0<(Zx mp pa j).length:=by
 rw [Zx];split<;>simp
theorem BC.pth {r:Rl} {x:List UInt8} {mp:Xy} {pa:Nat→Nat} (B:BC r x mp pa) (j:Nat) (hj:j<mp.length):Pth r x (Zx mp pa j) (XP mp j):=by
 induction j using Nat.strongRecOn with
 | _ j ih =>
  rcases zF4 j with q|q
  ·subst q;rw [kT,B.d0];exact .one
  ·rw [B.step q hj];have:=B.lt j q hj;exact (ih _ this (by omega)).snoc (B.fr j q hj).2
theorem BC.mono {r:Rl} {x:List UInt8} {mp:Xy} {pa:Nat→Nat} (B:BC r x mp pa) (k:Nat) (hk:k<mp.length):∀ j,j≤k→(Zx mp pa j).length≤(Zx mp pa k).length∧((Zx mp pa j).length=(Zx mp pa k).length→lxe (Zx mp pa j) (Zx mp pa k)):=by
 induction k using Nat.strongRecOn with
 | _ k ih =>
  intro j hj;rcases Nat.eq_or_lt_of_le hj with q|q
  ·subst q;exact ⟨zA3 _,fun _=>.inl rfl⟩
  ·rw [B.step (by omega) hk];rcases zF4 j with z|z
   ·subst z;have:=qa5 mp pa (pa k);rw [kT];simp
    intro h;rw [h] at this;exact absurd this (by simp)
   ·rw [B.step z (by omega)];have hl:=B.lt k (by omega) hk;have hm:=B.mo j k z hj hk;obtain ⟨h1,h2⟩:=ih (pa k) hl (by omega) (pa j) hm;refine ⟨by simp;exact h1,fun e=>?_⟩;simp only [zB2,zD5] at e;rcases Nat.eq_or_lt_of_le hm with w|w
    ·rw [w];exact .inr (.last (B.od j k z q hk w))
    ·rcases h2 (by omega) with g|g
     ·exfalso
      have g1:=(B.pth (pa j) (by omega)).last;have g2:=(B.pth (pa k) (by omega)).last;rw [g,g2] at g1;refine ZE B.nd w (by simp;omega) ?_;rw [zB (by omega),zB (by omega)];exact g1.symm
     ·exact .inr g.snoc
structure BI (r:Rl) (x:List UInt8) (mp:Xy) (pa:Nat→Nat) (h:Nat):Prop where
 c:BC r x mp pa
 le:h≤mp.length
 ub:∀ j,0<j→j<mp.length→pa j<h
 cl:∀ i,i<h→∀ y,spk r (XP mp i) y→∃ j,j<mp.length∧XP mp j=y∧(j=0∨pa j≤i)
structure BJ (r:Rl) (ns:List (List UInt8)) (x:List UInt8) (mp:Xy) (pa:Nat→Nat) (h k:Nat):Prop where
 c:BC r x mp pa
 lt:h<mp.length
 ub:∀ j,0<j→j<mp.length→pa j≤h
 cl:∀ i,i<h→∀ y,spk r (XP mp i) y→∃ j,j<mp.length∧XP mp j=y∧(j=0∨pa j≤i)
 pm:∀ j,0<j→j<mp.length→pa j=h→∃ m,m<k∧XP mp j=ns.getD m default
 dn:∀ m,m<k→spk r (XP mp h) (ns.getD m default)→∃ j,j<mp.length∧XP mp j=ns.getD m default
theorem BI.one {r:Rl} {x:List UInt8} (hx:gat r.us x≠none):BI r x [(x,[])] (fun _=>0) 0:=by
 refine ⟨⟨by simp,rfl,rfl,fun j hj=>?_,by simp,fun j h1 h2=>?_,fun j h1 h2=>?_,fun j k h1 h2 h3=>zA3 _,fun j k h1 h2 h3=>?_⟩,zB0 _,fun j h1 h2=>?_,fun i hi=>absurd hi (zB7 _)⟩
 ·simp at hj;subst hj;exact hx
 all_goals (simp only [zD5] at *;omega)
theorem BI.start {r:Rl} {ns:List (List UInt8)} {x:List UInt8} {mp:Xy} {pa:Nat→Nat} {h:Nat} (I:BI r x mp pa h) (hh:h<mp.length):BJ r ns x mp pa h 0 :=
 ⟨I.c,hh,fun j h1 h2=>Nat.le_of_lt (I.ub j h1 h2),I.cl,fun j h1 h2 e=>absurd (I.ub j h1 h2) (by omega),fun m hm=>absurd hm (zB7 _)⟩
theorem BJ.fin {r:Rl} {ns:List (List UInt8)} {x:List UInt8} {mp:Xy} {pa:Nat→Nat} {h:Nat} (J:BJ r ns x mp pa h ns.length) (hns:∀ y,gat r.us y≠none→y∈ns):BI r x mp pa (h+1):=by
 refine ⟨J.c,J.lt,fun j h1 h2=>Nat.lt_succ_of_le (J.ub j h1 h2),fun i hi y a=>?_⟩;rcases zA7 i h with q|q
 ·exact J.cl i q y a
 ·obtain rfl:i=h:=by omega
  obtain ⟨m,m1,m2⟩:=qM.1 (hns y a.kn.2);rw [← m2] at a ⊢;obtain ⟨j,j1,j2⟩:=J.dn m m1 a;refine ⟨j,j1,j2,?_⟩;rcases zF4 j with z|z
  ·exact .inl z
  ·exact .inr (J.ub j z j1)
theorem BJ.skip {r:Rl} {ns:List (List UInt8)} {x:List UInt8} {mp:Xy} {pa:Nat→Nat} {h k:Nat} (J:BJ r ns x mp pa h k) (hk:zW mp (ns.getD k default)≠none∨¬ spk r (XP mp h) (ns.getD k default)) (hm:zW mp (ns.getD k default)≠none→ns.getD k default∈mp.map (·.1)):BJ r ns x mp pa h (k+1):=by
 refine ⟨J.c,J.lt,J.ub,J.cl,fun j h1 h2 e=>?_,fun m hm2 a=>?_⟩
 ·obtain ⟨m,m1,m2⟩:=J.pm j h1 h2 e;exact ⟨m,by omega,m2⟩
 ·rcases zA7 m k with q|q
  ·exact J.dn m q a
  ·obtain rfl:m=k:=by omega
   rcases hk with hk|hk
   ·obtain ⟨j,j1,j2⟩:=qM.1 (hm hk);simp only [zC5] at j1;rw [zB j1] at j2;exact ⟨j,j1,j2⟩
   ·exact absurd a hk
def paU (pa:Nat→Nat) (n h:Nat):Nat→Nat:=fun j=>if j=n then h else pa j
theorem BJ.add {r:Rl} {ns:List (List UInt8)} (hs:SS ns) {x:List UInt8} {mp:Xy} {pa:Nat→Nat} {h k:Nat} (J:BJ r ns x mp pa h k) (hk:k<ns.length) (hn:ns.getD k default ∉ mp.map (·.1)) (ha:spk r (XP mp h) (ns.getD k default)):BJ r ns x (mp ++ [(ns.getD k default,XP mp h)]) (paU pa mp.length h) h (k+1):=by
 have hl:(mp ++ [(ns.getD k default,XP mp h)]).length=mp.length+1:=by simp
 have n1:∀ {j},j<mp.length→XP (mp ++ [(ns.getD k default,XP mp h)]) j=XP mp j:=fun hj=>by unfold XP;rw [YL hj]
 have n2:XP (mp ++ [(ns.getD k default,XP mp h)]) mp.length=ns.getD k default:=by unfold XP;rw [Gt (zA3 _),zG6];rfl
 have p1:∀ {j},j<mp.length→paU pa mp.length h j=pa j:=fun hj=>if_neg (by omega);have p2:paU pa mp.length h mp.length=h:=if_pos rfl;have hp:=J.c.pos;have hh:=J.lt;refine ⟨⟨by omega,by rw [n1 hp];exact J.c.d0,by rw [YL hp];exact J.c.f0,fun j hj=>?_,?_,fun j h1 h2=>?_,fun j h1 h2=>?_,fun j i h1 h2 h3=>?_,fun j i h1 h2 h3 e=>?_⟩,by omega,fun j h1 h2=>?_,fun i hi y a=>?_,fun j h1 h2 e=>?_,fun m hm a=>?_⟩
 ·rw [hl] at hj;rcases zA7 j mp.length with q|q
  ·rw [n1 q];exact J.c.kn j q
  ·obtain rfl:j=mp.length:=by omega
   rw [n2];exact ha.kn.2
 ·rw [zC9,zG4];refine ⟨J.c.nd,by simp,fun a h1 b h2 e=>?_⟩;simp only [List.map_cons,List.map_nil,zB5] at h2;subst e;subst h2;exact hn h1
 ·rw [hl] at h2;rcases zA7 j mp.length with q|q
  ·rw [p1 q];exact J.c.lt j h1 q
  ·obtain rfl:j=mp.length:=by omega
   rw [p2];exact hh
 ·rw [hl] at h2;rcases zA7 j mp.length with q|q
  ·have:=J.c.lt j h1 q;rw [p1 q,n1 q,n1 (by omega),YL q];exact J.c.fr j h1 q
  ·obtain rfl:j=mp.length:=by omega
   rw [p2,n2,n1 hh,Gt (zA3 _),zG6];exact ⟨rfl,ha⟩
 ·rw [hl] at h3;rcases zA7 i mp.length with q|q
  ·rw [p1 q,p1 (by omega)];exact J.c.mo j i h1 h2 q
  ·obtain rfl:i=mp.length:=by omega
   rw [p2];rcases zA7 j mp.length with q2|q2
   ·rw [p1 q2];exact J.ub j h1 q2
   ·obtain rfl:j=mp.length:=by omega
    rw [p2];exact zA3 _
 ·rw [hl] at h3;rcases zA7 i mp.length with q|q
  ·rw [p1 q,p1 (by omega)] at e;rw [n1 q,n1 (by omega)];exact J.c.od j i h1 h2 q e
  ·obtain rfl:i=mp.length:=by omega
   rw [p2,p1 h2] at e;rw [n2,n1 h2];obtain ⟨m,m1,m2⟩:=J.pm j h1 h2 e;rw [m2];exact hs m k m1 hk
 ·rw [hl] at h2;rcases zA7 j mp.length with q|q
  ·rw [p1 q];exact J.ub j h1 q
  ·obtain rfl:j=mp.length:=by omega
   rw [p2];exact zA3 _
 ·rw [n1 (by omega)] at a;obtain ⟨j,j1,j2,j3⟩:=J.cl i hi y a;exact ⟨j,by omega,by rw [n1 j1];exact j2,by rw [p1 j1];exact j3⟩
 ·rw [hl] at h2;rcases zA7 j mp.length with q|q
  ·rw [p1 q] at e;rw [n1 q];obtain ⟨m,m1,m2⟩:=J.pm j h1 q e;exact ⟨m,by omega,m2⟩
  ·obtain rfl:j=mp.length:=by omega
   exact ⟨k,by omega,n2⟩
 ·rw [n1 hh] at a;rcases zA7 m k with q|q
  ·obtain ⟨j,j1,j2⟩:=J.dn m q a;exact ⟨j,by omega,by rw [n1 j1];exact j2⟩
  ·obtain rfl:m=k:=by omega
   exact ⟨mp.length,by omega,n2⟩
theorem BI.all {r:Rl} {x:List UInt8} {mp:Xy} {pa:Nat→Nat} {h:Nat} (I:BI r x mp pa h) {Q:List (List UInt8)} {z:List UInt8} (hq:Pth r x Q z):(∃ i,i<mp.length∧XP mp i=z∧(Zx mp pa i).length≤Q.length∧((Zx mp pa i).length=Q.length→lxe (Zx mp pa i) Q))∨(h<mp.length∧(Zx mp pa h).length<Q.length):=by
 induction hq with
 | one=>exact .inl ⟨0,I.c.pos,I.c.d0,by rw [kT];exact zA3 _,fun _=>.inl (by rw [kT,I.c.d0])⟩
 | snoc g b ih =>
  rename_i Q w z
  have hQ:=g.pos;rcases ih with ⟨i,i1,i2,i3,i4⟩|⟨h1,h2⟩
  ·rcases zA7 i h with q|q
   ·rw [← i2] at b;obtain ⟨j,j1,j2,j3⟩:=I.cl i q z b;refine .inl ⟨j,j1,j2,?_⟩;rcases zF4 j with e|e
    ·subst e;rw [kT];simp
     intro h;rw [h] at hQ;simp at hQ
    ·have j3:=j3.resolve_left (by omega);rw [I.c.step e j1,j2];obtain ⟨m1,m2⟩:=I.c.mono i i1 (pa j) j3;simp only [zB2,zD5];refine ⟨by omega,fun e=>?_⟩;exact ((m2 (by omega)).trans (i4 (by omega))).snoc
   ·have:=(I.c.mono i i1 h q).1;exact .inr ⟨by omega,by simp;omega⟩
  ·exact .inr ⟨h1,by simp;omega⟩
theorem BI.found {r:Rl} {x:List UInt8} {mp:Xy} {pa:Nat→Nat} {h:Nat} (I:BI r x mp pa h) (hh:h<mp.length):ChainOk r x (XP mp h) (Zx mp pa h):=by
 have key:∀ Q,Pth r x Q (XP mp h)→(Zx mp pa h).length≤Q.length∧((Zx mp pa h).length=Q.length→lxe (Zx mp pa h) Q):=fun Q hq=>by
  rcases I.all hq with ⟨i,i1,i2,i3,i4⟩|⟨h1,h2⟩
  ·have:i=h:=by
    rcases zE7 i h with q|q|q
    ·exact absurd (by rw [zB i1,zB hh];exact i2) (ZE I.c.nd q (by simp;omega))
    ·exact q
    ·exact absurd (by rw [zB i1,zB hh];exact i2.symm) (ZE I.c.nd q (by simp;omega))
   subst this;exact ⟨i3,i4⟩
  ·exact ⟨by omega,fun e=>by omega⟩
 exact ⟨I.c.pth h hh,fun Q hq=>(key Q hq).1,fun Q hq=>(key Q hq).2⟩
theorem BC.len {r:Rl} (H:RO r) {x:List UInt8} {mp:Xy} {pa:Nat→Nat} (B:BC r x mp pa):mp.length≤64:=by
 have:=Qr B.nd (m:=r.us.map (·.name)) fun y hy=>by
  obtain ⟨j,j1,j2⟩:=qM.1 hy;simp only [zC5] at j1;rw [zB j1] at j2;exact YK (j2 ▸ B.kn j j1)
 have:=H.l64;simp at *;omega
theorem ChainOk.back {r:Rl} {x y:List UInt8} {P R:List (List UInt8)} (h:ChainOk r x y P) (g:ChainOk r y x R):P.length=R.length:=by
 have h1:=h.sh _ g.pth.rev;have h2:=g.sh _ h.pth.rev;simp at h1 h2;omega
theorem ChainOk.self {r:Rl} {x:List UInt8} {P:List (List UInt8)} (h:ChainOk r x x P):P.length=1:=by
 have h1:=h.sh _ .one;have:=h.pth.pos;simp at h1;omega
end Go.Proofs.Xx
