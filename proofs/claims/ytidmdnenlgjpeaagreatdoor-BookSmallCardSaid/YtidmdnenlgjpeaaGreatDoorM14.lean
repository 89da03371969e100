/-
  Sorting by a comparing function (Ct).
-/
import Derived.Test.YtidmdnenlgjpeaaGreatDoorM13
set_option linter.unusedSimpArgs false
set_option linter.unusedVariables false
set_option linter.unusedSectionVars false
set_option maxRecDepth 100000
set_option maxHeartbeats 4000000
namespace Go.Proofs.Xx
open Go Go.Proofs
variable [Flag]
theorem qeC {h0 h:AH} {rs:List Rs} {v:Value} {l:List Ct} (a b:Nat) (S:Hs h0 h (.sl v 147 2 jP l :: rs)) (hab:a≤b) (hb:b≤l.length) (hl:l.length≤1000000) :
 Fn Tryz.prog Xh 173 [v,.int .i64 a,.int .i64 b,ZF] h (fun _ h'=>∃ l',Sw a b l l'∧Srt jI a b l'∧Hs h0 h' (.sl v 147 2 jP l' :: rs)):=by
 have W:WOrd jI:=Qk;refine qV rfl Tryz.func173 rfl rfl ?_;all_goals (repeat' (first|refine qi ?_|refine qh ?_|(refine qc 0 ?_;refine mv ?_;refine ad ?_;refine mv ?_;refine qf ?_)))
 refine qJ (σ:=Nat×List Ct) (fun (i,m) h'=>Hs h0 h' (.sl v 147 2 jP m :: rs)∧a<i∧Sw a b l m∧Srt jI a (min i b) m) (fun (i,m)=>b - i) (fun (i,m)=>[(0,v),(1,.int .i64 a),(2,.int .i64 b),(3,ZF),(8,.int .i64 i)]) (a+1,l) qy ?_ ?_
 ·exact ⟨S,by omega,.refl _,fun i j q1 q2 q3=>by omega⟩
 clear S;rintro ⟨i,m⟩ h ⟨S,h1,h2,h3⟩;have hml:=h2.len;all_goals (repeat' (first|refine qi ?_|refine qg rfl ?_|refine qj ?_|refine qo ?_|refine qh ?_|(refine qc 1 ?_;refine mv ?_;refine mv ?_;(first|(refine cS ?_ ?_<;>intro hc))<;>(refine qf ?_))|(refine qc 3 ?_;refine mv ?_;refine mv ?_;refine qf ?_)))
 ·have hib:i<b:=by omega
  rw [zE5 (by omega)] at h3;refine qJ (σ:=Nat×List Ct) (fun (j,n) h'=>Hs h0 h' (.sl v 147 2 jP n :: rs)∧a≤j∧j≤i∧Sw a b l n∧InsI jI a i j n) (fun (j,n)=>j) (fun (j,n)=>[(0,v),(1,.int .i64 a),(2,.int .i64 b),(3,ZF),(8,.int .i64 i),(9,.int .i64 j)]) (i,m) qy ?_ ?_
  ·exact ⟨S,by omega,zA3 _,h2,InsI.start h3⟩
  clear S h2 h3 hml;rintro ⟨j,n⟩ h ⟨S,k1,k2,k3,k4⟩;have hnl:=k3.len;all_goals (repeat' (first|refine qi ?_|refine qg rfl ?_|refine qo ?_|(refine qc 2 ?_;refine mv ?_;refine ad ?_;refine mv ?_;refine qf ?_)|(refine qK 4 ?_;refine mv ?_;refine mv ?_;(first|(refine cS ?_ ?_<;>intro hc))<;>(refine mv ?_;(first|refine off ?_|refine mv ?_);(first|refine off ?_|refine mv ?_);(first|refine off ?_|refine mv ?_);(first|refine off ?_|(refine qF S rfl rfl ?_));(first|refine off ?_|(refine qB S rfl rfl ?_));(first|refine off ?_|refine mv ?_);(first|refine off ?_|refine mv ?_);(first|refine off ?_|(refine sb ?_));(first|refine off ?_|(refine qF S rfl rfl ?_));(first|refine off ?_|(refine qB S rfl rfl ?_));(first|(refine off ?_;(refine off ?_)<;>(refine vl ?_;refine qf ?_))|skip)))))
  ·simp only [qH,qG,qI,zA0];(refine zV rfl rfl rfl rfl ((jL S.wf _ _).mono ?_);rintro _ h ⟨d,rfl,⟨hd,hq⟩|⟨hd,hq⟩,x⟩)<;>(replace S:=S.qL x;clear x;(first|(first|refine cT ?_|refine cF ?_))<;>(refine vl ?_;refine qf ?_))
   ·all_goals (repeat' (first|refine qi ?_|refine qg rfl ?_|refine qj ?_|refine qh ?_|(refine qc 5 ?_;refine mv ?_;refine sb ?_;refine mv ?_;refine qf ?_)|(refine qK 6 ?_;(iterate 4 refine mv ?_);refine sb ?_;refine mv ?_;refine mv ?_;refine sb ?_;refine qF S rfl rfl ?_;refine qB S rfl rfl ?_;refine mv ?_;refine mv ?_;refine qF S rfl rfl ?_;refine qB S rfl rfl ?_;refine qF S rfl rfl ?_;(first|(refine zZ S rfl rfl ?_;clear S;intro h S));refine qF S rfl rfl ?_;(first|(refine zZ S rfl rfl ?_;clear S;intro h S));refine qf ?_)))
    simp only [qH,qG,qI,zA0] at S;refine ⟨(j - 1,swp n j (j - 1)),?_,?_,qy⟩
    ·show j - 1<j;omega
    ·exact ⟨S,by omega,by omega,k3.step j (j - 1) ⟨by omega,by omega⟩ ⟨by omega,by omega⟩ (by omega),k4.next W (by omega) k2 (by omega) hq⟩
   ·all_goals (repeat' (first|refine qg rfl ?_|refine qo ?_|(refine qc 2 ?_;refine mv ?_;refine ad ?_;refine mv ?_;refine qf ?_)))
    refine ⟨(i+1,n),?_,?_,qy⟩
    ·show b - (i+1)<b - i;omega
    ·simp only [zE5 (show i+1≤b by omega)];exact ⟨S,by omega,k3,k4.done W (.inr hq)⟩
  ·refine ⟨(i+1,n),?_,?_,qy⟩
   ·show b - (i+1)<b - i;omega
   ·simp only [zE5 (show i+1≤b by omega)];exact ⟨S,by omega,k3,k4.done W (.inl (by omega))⟩
 ·rw [Nat.min_eq_right (by omega)] at h3;refine ⟨_,rfl,?_⟩;exact ⟨m,h2,h3,S⟩
theorem qaY {h0 h:AH} {rs:List Rs} {v:Value} {l:List Ct} (lo hi f:Nat) (S:Hs h0 h (.sl v 147 2 jP l :: rs)) (hlo:lo≤hi) (hb:f+hi≤l.length) (hl:l.length≤1000000) (hh:Heap jI f (lo+1) hi l) :
 Fn Tryz.prog Xh 199 [v,.int .i64 lo,.int .i64 hi,.int .i64 f,ZF] h (fun _ h'=>∃ l',Sw f (f+hi) l l'∧Heap jI f lo hi l'∧Hs h0 h' (.sl v 147 2 jP l' :: rs)):=by
 have W:WOrd jI:=Qk;refine qV rfl Tryz.func199 rfl rfl ?_;all_goals (repeat' (first|refine qi ?_|refine qh ?_|(refine qc 0 ?_;refine mv ?_;refine mv ?_;refine qf ?_)))
 refine qJ (σ:=Nat×List Ct) (fun (root,m) h'=>Hs h0 h' (.sl v 147 2 jP m :: rs)∧(lo≤root∧root≤hi)∧Sw f (f+hi) l m∧SiftI jI f lo hi root m) (fun (root,m)=>hi - root) (fun (root,m)=>[(0,v),(1,.int .i64 lo),(2,.int .i64 hi),(3,.int .i64 f),(4,ZF),(10,.int .i64 root)]) (lo,l) qy ?_ ?_
 ·exact ⟨S,⟨zA3 _,hlo⟩,.refl _,.start hh⟩
 clear S;rintro ⟨root,m⟩ h ⟨S,h1,h2,h3⟩;have hml:=h2.len;by_cases hc0:2*root+1<hi
 rotate_left
 ·all_goals (repeat' (first|refine qi ?_|refine qg rfl ?_|refine qo ?_|refine qh ?_|(refine qc 1 ?_;refine mv ?_;refine ml ?_;refine ad ?_;refine mv ?_;refine qf ?_)|(refine qc 2 ?_;refine mv ?_;refine mv ?_;(refine cT ?_)<;>(refine qf ?_))))
  refine ⟨_,rfl,?_⟩;exact ⟨m,h2,h3.done ⟨fun q=>by omega,fun q=>by omega⟩,S⟩
 have e1:(2:Int)*(root:Int)+1=((2*root+1:Nat):Int):=by omega
 have e2:((f:Int)+((2*root+1:Nat):Int)).toNat=f+(2*root+1):=by omega
 have e3:((f:Int)+((2*root+1:Nat):Int)+1).toNat=f+(2*root+2):=by omega
 have e4:((2*root+1:Nat):Int)+1=((2*root+2:Nat):Int):=by omega
 have e5:((f:Int)+((2*root+2:Nat):Int)).toNat=f+(2*root+2):=by omega
 have fin:∀ c:Nat,(c=2*root+1∨c=2*root+2)→c<hi→jI (m.getD (f+root) default) (m.getD (f+c) default)→(∀ d,(d=2*root+1∨d=2*root+2)→d<hi→¬ jI (m.getD (f+c) default) (m.getD (f+d) default))→SiftI jI f lo hi c (swp m (f+root) (f+c)):=fun c g1 g2 g3 g4=>h3.next W h1.1 g1 g2 (by omega) g4 g3
 have stop:∀ c:Nat,(c=2*root+1∨c=2*root+2)→c<hi→¬ jI (m.getD (f+root) default) (m.getD (f+c) default)→(∀ d,(d=2*root+1∨d=2*root+2)→d<hi→¬ jI (m.getD (f+c) default) (m.getD (f+d) default))→Heap jI f lo hi m:=fun c g1 g2 g3 g4 =>
  h3.done ⟨fun q=>W.ntr (g4 _ (.inl rfl) q) g3,fun q=>W.ntr (g4 _ (.inr rfl) q) g3⟩
 refine qh ?_;(repeat (refine qi ?_));refine qc 1 ?_;refine mv ?_;refine ml ?_;refine ad ?_;refine mv ?_;refine qf ?_;simp only [e1];(repeat (refine qi ?_));refine qc 2 ?_;refine mv ?_;refine mv ?_;(refine cF ?_)<;>(refine qf ?_)
 refine qg rfl ?_;refine qj ?_;refine jU (σ:=Nat) (fun c h'=>Hs h0 h' (.sl v 147 2 jP m :: rs)∧(c=2*root+1∨c=2*root+2)∧c<hi∧∀ d,(d=2*root+1∨d=2*root+2)→d<hi→¬ jI (m.getD (f+c) default) (m.getD (f+d) default)) (fun c=>[(0,v),(1,.int .i64 lo),(2,.int .i64 hi),(3,.int .i64 f),(4,ZF),(10,.int .i64 root),(11,.int .i64 c)]) ?_ ?_
 ·all_goals (repeat' (first|refine qi ?_|refine qg rfl ?_|refine qj ?_|(refine qK 3 ?_;refine mv ?_;refine ad ?_;refine mv ?_;(first|(refine cS ?_ ?_<;>intro hc))<;>(refine mv ?_;(first|refine off ?_|refine mv ?_);(first|refine off ?_|refine mv ?_);(first|refine off ?_|refine mv ?_);(first|refine off ?_|refine mv ?_);(first|refine off ?_|(refine ad ?_));(first|refine off ?_|(refine qF S rfl rfl ?_));(first|refine off ?_|(refine qB S rfl rfl ?_));(first|refine off ?_|refine mv ?_);(first|refine off ?_|refine mv ?_);(first|refine off ?_|refine mv ?_);(first|refine off ?_|(refine ad ?_));(first|refine off ?_|(refine ad ?_));(first|refine off ?_|(refine qF S rfl rfl ?_));(first|refine off ?_|(refine qB S rfl rfl ?_));(first|(refine off ?_;(refine off ?_)<;>(refine vl ?_;refine qf ?_))|skip)))))
  ·simp only [e2,e3];(refine zV rfl rfl rfl rfl ((jL S.wf _ _).mono ?_);rintro _ h ⟨d,rfl,⟨hd,hq⟩|⟨hd,hq⟩,x⟩)<;>(replace S:=S.qL x;clear x;(first|(first|refine cT ?_|refine cF ?_))<;>(refine vl ?_;refine qf ?_))
   ·all_goals (repeat' (first|refine qg rfl ?_|(refine qc 4 ?_;refine mv ?_;refine ad ?_;refine mv ?_;refine qf ?_)))
    exact ⟨2*root+2,⟨S,.inr rfl,by omega,fun d q1 q2=>by rcases q1 with rfl|rfl;exact W.asym hq;exact W.irr _⟩,(qy)⟩
   ·all_goals (repeat' (first|refine qg rfl ?_|refine qj ?_))
    exact ⟨2*root+1,⟨S,.inl rfl,by omega,fun d q1 q2=>by rcases q1 with rfl|rfl;exact W.irr _;exact hq⟩,(qy)⟩
  ·exact ⟨2*root+1,⟨S,.inl rfl,by omega,fun d q1 q2=>by rcases q1 with rfl|rfl;exact W.irr _;omega⟩,(qy)⟩
 clear S;rintro c h ⟨S,g1,g2,g3⟩;all_goals (repeat' (first|refine qi ?_|(refine qK 5 ?_;(iterate 4 refine mv ?_);refine ad ?_;refine qF S rfl rfl ?_;refine qB S rfl rfl ?_;(iterate 3 refine mv ?_);refine ad ?_;refine qF S rfl rfl ?_;refine qB S rfl rfl ?_)))
 simp only [qH,qG,qI,zA0];(refine zV rfl rfl rfl rfl ((jL S.wf _ _).mono ?_);rintro _ h ⟨d,rfl,⟨hd,hq⟩|⟨hd,hq⟩,x⟩)<;>(replace S:=S.qL x;clear x;(first|refine cT ?_|refine cF ?_)<;>(refine vl ?_;refine qf ?_))
 ·all_goals (repeat' (first|refine qi ?_|refine qg rfl ?_|refine qj ?_|(refine qK 6 ?_;(iterate 3 refine mv ?_);refine ad ?_;(iterate 3 refine mv ?_);refine ad ?_;(iterate 3 refine mv ?_);refine ad ?_;refine qF S rfl rfl ?_;refine qB S rfl rfl ?_;(iterate 3 refine mv ?_);refine ad ?_;refine qF S rfl rfl ?_;refine qB S rfl rfl ?_;refine qF S rfl rfl ?_;(first|(refine zZ S rfl rfl ?_;clear S;intro h S));refine qF S rfl rfl ?_;(first|(refine zZ S rfl rfl ?_;clear S;intro h S));refine qf ?_)|(refine qc 7 ?_;refine mv ?_;refine mv ?_;refine qf ?_)))
  simp only [qH,qG,qI,zA0] at S;refine ⟨(c,swp m (f+root) (f+c)),?_,?_,qy⟩
  ·show hi - c<hi - root;omega
  ·exact ⟨S,⟨by omega,by omega⟩,h2.step _ _ ⟨by omega,by omega⟩ ⟨by omega,by omega⟩ (by omega),fin c g1 g2 hq g3⟩
 ·all_goals (repeat' (refine qg rfl ?_))
  refine qC ⟨_,rfl,?_⟩;exact ⟨m,h2,stop c g1 g2 hq g3,S⟩
theorem qdA {h0 h:AH} {rs:List Rs} {v:Value} {l:List Ct} (a b:Nat) (S:Hs h0 h (.sl v 147 2 jP l :: rs)) (hab:a<b) (hb:b≤l.length) (hl:l.length≤1000000) :
 Fn Tryz.prog Xh 174 [v,.int .i64 a,.int .i64 b,ZF] h (fun _ h'=>∃ l',Sw a b l l'∧Srt jI a b l'∧Hs h0 h' (.sl v 147 2 jP l' :: rs)):=by
 have W:WOrd jI:=Qk;refine qV rfl Tryz.func174 rfl rfl ?_;all_goals (repeat' (first|refine qi ?_|refine qh ?_|(refine qc 0 ?_;refine mv ?_;refine mv ?_;refine qf ?_)|(refine qc 1 ?_;refine mv ?_;refine qf ?_)|(refine qc 2 ?_;refine mv ?_;refine mv ?_;refine sb ?_;refine mv ?_;refine qf ?_)|(refine qc 3 ?_;refine mv ?_;refine sb ?_;refine qu ?_;refine mv ?_;refine qf ?_)))
 have e1:((b:Int) - (a:Int) - 1) / 2=(((b - a - 1) / 2:Nat):Int):=by omega
 refine qJ (σ:=Nat×List Ct) (fun (i,m) h'=>Hs h0 h' (.sl v 147 2 jP m :: rs)∧i≤b - a∧Sw a b l m∧Heap jI a i (b - a) m) (fun (i,m)=>i) (fun (i,m)=>[(0,v),(1,.int .i64 a),(2,.int .i64 b),(3,ZF),(8,.int .i64 a),(9,.int .i64 0),(10,.int .i64 (b - a:Nat)),(11,.int .i64 ((i:Int) - 1))]) ((b - a - 1) / 2+1,l) qy ?_ ?_
 ·exact ⟨S,by omega,.refl _,fun k hk=>⟨fun q=>by omega,fun q=>by omega⟩⟩
 clear S;rintro ⟨i,m⟩ h ⟨S,h1,h2,h3⟩;have hml:=h2.len;all_goals (repeat' (first|refine qi ?_|refine qg rfl ?_|refine qj ?_|refine qo ?_|refine qh ?_|(refine qc 4 ?_;refine mv ?_;(first|(refine cS ?_ ?_<;>intro hc))<;>(refine qf ?_))))
 ·have e2:(i:Int) - 1=((i - 1:Nat):Int):=by omega
  have h4:Heap jI a (i - 1+1) (b - a) m:=by rw [Nat.sub_add_cancel (by omega)];exact h3
  refine qc 6 ?_;((iterate 5 refine mv ?_);skip);simp only [e2];(refine qx rfl rfl rfl rfl rfl ((qaY (i - 1) (b - a) a S (by omega) (by omega) (by omega) h4).mono ?_);rintro _ h ⟨l2,g1,g2,S2⟩)<;>(replace S:=S2;clear S2;refine qf ?_)
  rw [show a+(b - a)=b by omega] at g1;all_goals (repeat' (first|(refine qc 5 ?_;refine mv ?_;refine sb ?_;refine mv ?_;refine qf ?_)))
  refine ⟨(i - 1,l2),?_,?_,qy⟩
  ·show i - 1<i;omega
  ·exact ⟨S,by omega,h2.trans g1,g2⟩
 obtain rfl:i=0:=by omega
 all_goals (repeat' (first|refine qh ?_|(refine qc 7 ?_;refine mv ?_;refine sb ?_;refine mv ?_;refine qf ?_)))
 refine qJ (σ:=Nat×List Ct) (fun (i,m) h'=>Hs h0 h' (.sl v 147 2 jP m :: rs)∧i≤b - a∧Sw a b l m∧HeapI jI a i (b - a) m) (fun (i,m)=>i) (fun (i,m)=>[(0,v),(1,.int .i64 a),(2,.int .i64 b),(3,ZF),(8,.int .i64 a),(9,.int .i64 0),(10,.int .i64 (b - a:Nat)),(12,.int .i64 ((i:Int) - 1))]) (b - a,m) qy ?_ ?_
 ·exact ⟨S,zA3 _,h2,h3,fun p q q1 q2 q3=>by omega⟩
 clear S h1 h2 h3 hml;rintro ⟨i,m⟩ h ⟨S,h1,h2,h3⟩;have hml:=h2.len;all_goals (repeat' (first|refine qi ?_|refine qg rfl ?_|refine qj ?_|refine qo ?_|refine qh ?_|(refine qc 8 ?_;refine mv ?_;(first|(refine cS ?_ ?_<;>intro hc))<;>(refine qf ?_))))
 ·have e2:(i:Int) - 1=((i - 1:Nat):Int):=by omega
  obtain ⟨k,rfl⟩:∃ k,i=k+1:=⟨i - 1,by omega⟩
  all_goals (repeat' (first|(refine qK 10 ?_;(iterate 5 refine mv ?_);refine ad ?_;(iterate 3 refine mv ?_);refine ad ?_;refine qF S rfl rfl ?_;refine qB S rfl rfl ?_;refine mv ?_;refine mv ?_;refine qF S rfl rfl ?_;refine qB S rfl rfl ?_;refine qF S rfl rfl ?_;(first|(refine zZ S rfl rfl ?_;clear S;intro h S));refine qF S rfl rfl ?_;(first|(refine zZ S rfl rfl ?_;clear S;intro h S));refine qf ?_)))
  refine qc 11 ?_;((iterate 5 refine mv ?_);skip);simp only [Nat.add_sub_cancel] at e2;simp only [e2,qI,zA0] at S ⊢;replace S:Hs h0 h (.sl v 147 2 jP (swp m a (a+k)) :: rs):=S;have s1:Sw a b l (swp m a (a+k)):=h2.step _ _ ⟨by omega,by omega⟩ ⟨by omega,by omega⟩ (by omega);have hsl:=s1.len;(refine qx rfl rfl rfl rfl rfl ((qaY 0 k a S (by omega) (by omega) (by omega) (h3.1.pop (by omega))).mono ?_);rintro _ h ⟨l2,g1,g2,S2⟩)<;>(replace S:=S2;clear S2;refine qf ?_)
  all_goals (repeat' (first|(refine qc 9 ?_;refine mv ?_;refine sb ?_;refine mv ?_;refine qf ?_)))
  refine ⟨(k,l2),?_,?_,qy⟩
  ·show k<k+1;omega
  ·exact ⟨S,by omega,s1.trans (g1.mono (zA3 _) (by omega) (by omega)),h3.pop W (by omega) (by omega) g1 g2⟩
 obtain rfl:i=0:=by omega
 refine ⟨_,rfl,?_⟩;exact ⟨m,h2,h3.done (by omega),S⟩
theorem qeg {h0 h:AH} {rs:List Rs} {v:Value} {l:List Ct} (a b:Nat) (S:Hs h0 h (.sl v 147 2 jP l :: rs)) (hab:a<b) (hb:b≤l.length) (hl:l.length≤1000000) :
 Fn Tryz.prog Xh 177 [v,.int .i64 a,.int .i64 b,ZF] h (fun _ h'=>∃ l',Sw a b l l'∧Hs h0 h' (.sl v 147 2 jP l' :: rs)):=by
 have W:WOrd jI:=Qk;refine qV rfl Tryz.func177 rfl rfl ?_;all_goals (repeat' (first|refine qi ?_|refine qh ?_|(refine qc 0 ?_;refine mv ?_;refine mv ?_;refine qf ?_)|(refine qc 1 ?_;refine mv ?_;refine sb ?_;refine mv ?_;refine qf ?_)))
 refine qJ (σ:=Nat×Nat×List Ct) (fun (i,j,m) h'=>Hs h0 h' (.sl v 147 2 jP m :: rs)∧a≤i∧j<b∧Sw a b l m) (fun (i,j,m)=>j - i) (fun (i,j,m)=>[(0,v),(1,.int .i64 a),(2,.int .i64 b),(3,ZF),(8,.int .i64 i),(9,.int .i64 j)]) (a,b - 1,l) qy ?_ ?_
 ·exact ⟨S,zA3 _,by omega,.refl _⟩
 clear S;rintro ⟨i,j,m⟩ h ⟨S,h1,h2,h3⟩;have hml:=h3.len;all_goals (repeat' (first|refine qi ?_|refine qg rfl ?_|refine qj ?_|refine qo ?_|refine qh ?_|(refine qc 2 ?_;refine mv ?_;refine mv ?_;(first|(refine cS ?_ ?_<;>intro hc))<;>(refine qf ?_))|(refine qK 3 ?_;(iterate 6 refine mv ?_);refine qF S rfl rfl ?_;refine qB S rfl rfl ?_;refine mv ?_;refine mv ?_;refine qF S rfl rfl ?_;refine qB S rfl rfl ?_;refine qF S rfl rfl ?_;(first|(refine zZ S rfl rfl ?_;clear S;intro h S));refine qF S rfl rfl ?_;(first|(refine zZ S rfl rfl ?_;clear S;intro h S));refine qf ?_)|(refine qc 4 ?_;refine mv ?_;refine ad ?_;refine mv ?_;refine qf ?_)|(refine qc 5 ?_;refine mv ?_;refine sb ?_;refine mv ?_;refine qf ?_)))
 ·(try simp only [qH,qG,qI,zA0] at S)
  refine ⟨(i+1,j - 1,swp m i j),?_,?_,qy⟩
  ·show j - 1 - (i+1)<j - i;omega
  ·exact ⟨S,by omega,by omega,h3.step _ _ ⟨by omega,by omega⟩ ⟨by omega,by omega⟩ (by omega)⟩
 ·refine ⟨_,rfl,?_⟩;exact ⟨m,h3,S⟩
theorem Gt {h0 h:AH} {rs:List Rs} {v:Value} {l:List Ct} {bs:Nat} {s:Int} (x y:Nat) (S:Hs h0 h (.blk bs [.int .i64 s] 3 :: .sl v 147 2 jP l :: rs)) (hx:x<l.length) (hy:y<l.length) (hl:l.length≤1000000) (hs:0≤s∧s≤100) :
 Fn Tryz.prog Xh 215 [v,.int .i64 x,.int .i64 y,.pointer (some ⟨bs,0,none⟩),ZF] h (fun r h'=>∃ (p q:Nat) (s':Int),r = .tuple #[.int .i64 p,.int .i64 q]∧((p=x∧q=y)∨(p=y∧q=x))∧(0≤s'∧s'≤s+1)∧Hs h0 h' (.blk bs [.int .i64 s'] 3 :: .sl v 147 2 jP l :: rs)):=by
 have W:WOrd jI:=Qk;refine qV rfl Tryz.func215 rfl rfl ?_;all_goals (repeat' (first|refine qi ?_|(refine qc 0 ?_;refine mv ?_;refine mv ?_;refine qf ?_)|(refine qK 1 ?_;(iterate 3 refine mv ?_);refine qF S rfl rfl ?_;refine qB S rfl rfl ?_;refine mv ?_;refine mv ?_;refine qF S rfl rfl ?_;refine qB S rfl rfl ?_)))
 (try simp only [qH,qG,qI,zA0])
 (refine zV rfl rfl rfl rfl ((jL S.wf _ _).mono ?_);rintro _ h ⟨d,rfl,⟨hd,hq⟩|⟨hd,hq⟩,x⟩)<;>(replace S:=S.qL x;clear x;(first|refine cT ?_|refine cF ?_)<;>(refine qf ?_))
 ·all_goals (repeat' (first|refine qi ?_|refine qg rfl ?_|(refine qc 2 ?_;refine mv ?_;refine vl ?_;refine lB S rfl rfl ?_;refine ad ?_;refine vl ?_;(first|(refine sB S rfl rfl ?_;clear S;intro h S));refine qf ?_)|(refine qc 3 ?_;(iterate 4 refine mv ?_);refine qf ?_)))
  refine qC ⟨_,rfl,?_⟩;exact ⟨y,x,s+1,rfl,.inr ⟨rfl,rfl⟩,by omega,S⟩
 ·all_goals (repeat' (first|refine qi ?_|refine qg rfl ?_|refine qj ?_|(refine qc 4 ?_;(iterate 4 refine mv ?_);refine qf ?_)))
  refine qC ⟨_,rfl,?_⟩;exact ⟨x,y,s,rfl,.inl ⟨rfl,rfl⟩,by omega,S⟩
theorem qcQ {h0 h:AH} {rs:List Rs} {v:Value} {l:List Ct} {bs:Nat} {s:Int} (x y z:Nat) (S:Hs h0 h (.blk bs [.int .i64 s] 3 :: .sl v 147 2 jP l :: rs)) (hx:x<l.length) (hy:y<l.length) (hz:z<l.length) (hl:l.length≤1000000) (hs:0≤s∧s≤90) :
 Fn Tryz.prog Xh 201 [v,.int .i64 x,.int .i64 y,.int .i64 z,.pointer (some ⟨bs,0,none⟩),ZF] h (fun r h'=>∃ (p:Nat) (s':Int),r = .int .i64 p∧(p=x∨p=y∨p=z)∧(0≤s'∧s'≤s+3)∧Hs h0 h' (.blk bs [.int .i64 s'] 3 :: .sl v 147 2 jP l :: rs)):=by
 have W:WOrd jI:=Qk;refine qV rfl Tryz.func201 rfl rfl ?_;all_goals (repeat' (first|refine qi ?_|(refine qc 0 ?_;refine mv ?_;refine qf ?_)|(refine qc 1 ?_;(iterate 5 refine mv ?_);skip)))
 (refine qx rfl rfl rfl rfl rfl ((Gt x y S hx hy hl (by omega)).mono ?_);rintro _ h ⟨p1,q1,s1,rfl,e1,e2,S2⟩)<;>(replace S:=S2;clear S2;refine mv ?_;refine vl ?_;refine vl ?_;refine mv ?_;refine mv ?_;refine qf ?_)
 all_goals (repeat' (first|refine qi ?_|(refine qc 2 ?_;(iterate 5 refine mv ?_);skip)))
 have b1:p1<l.length∧q1<l.length:=by omega
 (refine qx rfl rfl rfl rfl rfl ((Gt q1 z S b1.2 hz hl (by omega)).mono ?_);rintro _ h ⟨p2,q2,s2,rfl,e3,e4,S2⟩)<;>(replace S:=S2;clear S2;refine mv ?_;refine vl ?_;refine vl ?_;refine mv ?_;refine mv ?_;refine qf ?_)
 all_goals (repeat' (first|refine qi ?_|(refine qc 3 ?_;(iterate 5 refine mv ?_);skip)))
 have b2:p2<l.length:=by omega
 (refine qx rfl rfl rfl rfl rfl ((Gt p1 p2 S b1.1 b2 hl (by omega)).mono ?_);rintro _ h ⟨p3,q3,s3,rfl,e5,e6,S2⟩)<;>(replace S:=S2;clear S2;refine mv ?_;refine vl ?_;refine vl ?_;refine mv ?_;refine mv ?_;refine qf ?_)
 all_goals (repeat' (first|refine qi ?_|(refine qc 4 ?_;refine mv ?_;refine mv ?_;refine qf ?_)))
 refine qC ⟨_,rfl,?_⟩;exact ⟨q3,s3,rfl,by omega,by omega,S⟩
theorem GK {h0 h:AH} {rs:List Rs} {v:Value} {l:List Ct} {bs:Nat} {s:Int} (x:Nat) (S:Hs h0 h (.blk bs [.int .i64 s] 3 :: .sl v 147 2 jP l :: rs)) (hx:0<x∧x+1<l.length) (hl:l.length≤1000000) (hs:0≤s∧s≤90) :
 Fn Tryz.prog Xh 200 [v,.int .i64 x,.pointer (some ⟨bs,0,none⟩),ZF] h (fun r h'=>∃ (p:Nat) (s':Int),r = .int .i64 p∧(x - 1≤p∧p≤x+1)∧(0≤s'∧s'≤s+3)∧Hs h0 h' (.blk bs [.int .i64 s'] 3 :: .sl v 147 2 jP l :: rs)):=by
 have e1:(x:Int) - 1=((x - 1:Nat):Int):=by omega
 have e2:(x:Int)+1=((x+1:Nat):Int):=by omega
 refine qV rfl Tryz.func200 rfl rfl ?_;all_goals (repeat' (first|refine qi ?_|(refine qc 0 ?_;refine mv ?_;refine qf ?_)|(refine qc 1 ?_;refine mv ?_;refine mv ?_;refine sb ?_;refine mv ?_;refine mv ?_;refine ad ?_;refine mv ?_;refine mv ?_)))
 simp only [e1,e2];(refine qx rfl rfl rfl rfl rfl ((qcQ (x - 1) x (x+1) S (by omega) (by omega) (by omega) hl (by omega)).mono ?_);rintro _ h ⟨q,s,rfl,g1,g2,S2⟩)<;>(replace S:=S2;clear S2;refine mv ?_;refine qf ?_)
 all_goals (repeat' (fail))
 refine qC ⟨_,rfl,?_⟩;exact ⟨q,s,rfl,by omega,by omega,S⟩
theorem qei {h0 h:AH} {rs:List Rs} {v:Value} {l:List Ct} (a b:Nat) (S:Hs h0 h (.sl v 147 2 jP l :: rs)) (hab:12<b - a∧b - a<260) (hb:b≤l.length) (hl:l.length≤1000000) :
 Fn Tryz.prog Xh 176 [v,.int .i64 a,.int .i64 b,ZF] h (fun r h'=>∃ (q:Nat) (t:Int),r = .tuple #[.int .i64 q,.int .i64 t]∧(a≤q∧q<b)∧Hs h0 h' (.sl v 147 2 jP l :: rs)):=by
 have W:WOrd jI:=Qk;refine qV rfl Tryz.func176 rfl rfl ?_;all_goals (repeat' (first|refine qi ?_|refine qg rfl ?_|(refine qc 0 ?_;refine mv ?_;refine mv ?_;refine qf ?_)|(refine qc 1 ?_;refine mv ?_;refine mv ?_;refine sb ?_;refine mv ?_;refine qf ?_)|(refine qc 2 ?_;(refine al S ?_;clear S;intro b h S);refine qf ?_)|(refine qc 3 ?_;refine mv ?_;refine mv ?_;refine qu ?_;refine ml ?_;refine ad ?_;refine mv ?_;refine qf ?_)|(refine qc 4 ?_;refine mv ?_;refine mv ?_;refine qu ?_;refine ml ?_;refine ad ?_;refine mv ?_;refine qf ?_)|(refine qc 5 ?_;refine mv ?_;refine mv ?_;refine qu ?_;refine ml ?_;refine ad ?_;refine mv ?_;refine qf ?_)|(refine qc 6 ?_;refine mv ?_;(refine cT ?_)<;>(refine qf ?_))))
 obtain ⟨bs,hnm⟩:∃ x,x=b:=⟨_,rfl⟩;subst hnm;have e1:(a:Int)+((b:Int) - (a:Int)) / 4*1=((a+(b - a) / 4*1:Nat):Int):=by omega
 have e2:(a:Int)+((b:Int) - (a:Int)) / 4*2=((a+(b - a) / 4*2:Nat):Int):=by omega
 have e3:(a:Int)+((b:Int) - (a:Int)) / 4*3=((a+(b - a) / 4*3:Nat):Int):=by omega
 simp only [e1,e2,e3];(repeat (refine qi ?_));first|refine Zj (σ:=Nat×Nat×Nat×Int) (fun (i,j,k,s) h'=>Hs h0 h' (.blk bs [.int .i64 s] 3 :: .sl v 147 2 jP l :: rs)∧(a≤i∧i<b)∧(a≤j∧j<b)∧(a≤k∧k<b)∧0≤s∧s≤9) (fun (i,j,k,s)=>[(0,v),(3,ZF),(11,.pointer (some ⟨bs,0,none⟩)),(12,.int .i64 i),(13,.int .i64 j),(14,.int .i64 k)]) ?_ ?_
 ·all_goals (repeat' (first|refine qi ?_|refine qg rfl ?_|refine qj ?_|(refine qc 7 ?_;refine mv ?_;(first|(refine cS ?_ ?_<;>intro hc))<;>(refine qf ?_))|(refine qc 8 ?_;(iterate 3 refine mv ?_);skip)))
  ·(refine qx rfl rfl rfl rfl rfl ((GK (a+(b - a) / 4*1) S (by omega) hl (by omega)).mono ?_);rintro _ h ⟨q,s,rfl,g1,g2,S2⟩)<;>(replace S:=S2;clear S2;refine mv ?_;refine qf ?_)
   all_goals (repeat' (first|refine qi ?_|(refine qc 9 ?_;(iterate 3 refine mv ?_);skip)))
   (refine qx rfl rfl rfl rfl rfl ((GK (a+(b - a) / 4*2) S (by omega) hl (by omega)).mono ?_);rintro _ h ⟨q2,s2,rfl,g3,g4,S2⟩)<;>(replace S:=S2;clear S2;refine mv ?_;refine qf ?_)
   all_goals (repeat' (first|(refine qc 10 ?_;(iterate 3 refine mv ?_);skip)))
   (refine qx rfl rfl rfl rfl rfl ((GK (a+(b - a) / 4*3) S (by omega) hl (by omega)).mono ?_);rintro _ h ⟨q3,s3,rfl,g5,g6,S2⟩)<;>(replace S:=S2;clear S2;refine mv ?_;refine qf ?_)
   all_goals (repeat' (fail))
   exact ⟨(q,q2,q3,s3),⟨S,by (try dsimp only);omega,by (try dsimp only);omega,by (try dsimp only);omega,by (try dsimp only);omega,by (try dsimp only);omega⟩,(qy)⟩
  ·exact ⟨(a+(b - a) / 4*1,a+(b - a) / 4*2,a+(b - a) / 4*3,0),⟨S,by (try dsimp only);omega,by (try dsimp only);omega,by (try dsimp only);omega,by (try dsimp only);omega,by (try dsimp only);omega⟩,(qy)⟩
 clear S;rintro ⟨i,j,k,s⟩ h ⟨S,k1,k2,k3,k4⟩;all_goals (repeat' (first|(refine qc 11 ?_;(iterate 5 refine mv ?_);skip)))
 (refine qx rfl rfl rfl rfl rfl ((qcQ i j k S (by omega) (by omega) (by omega) hl (by omega)).mono ?_);rintro _ h ⟨q,s,rfl,g1,g2,S2⟩)<;>(replace S:=S2;clear S2;refine mv ?_;refine qf ?_)
 all_goals (repeat' (first|refine qi ?_|refine qg rfl ?_|refine qh ?_|(refine qc 12 ?_;refine lB S rfl rfl ?_;refine qf ?_)|(refine qc 13 ?_;(iterate 3 refine mv ?_);refine qf ?_)|(refine qc 14 ?_;(first|(refine cS ?_ ?_<;>intro hc))<;>(refine mv ?_;refine qf ?_))|(refine qc 15 ?_;(iterate 3 refine mv ?_);refine qf ?_)|(refine qc 16 ?_;(first|(refine cS ?_ ?_<;>intro hc))<;>(refine mv ?_;refine qf ?_))|(refine qc 17 ?_;(iterate 3 refine mv ?_);refine qf ?_)))
 all_goals (refine qC ⟨_,rfl,?_⟩)
 all_goals exact ⟨q,_,rfl,by omega,S.tail⟩
theorem qeJ {h0 h:AH} {rs:List Rs} {v:Value} {l:List Ct} (a b:Nat) (S:Hs h0 h (.sl v 147 2 jP l :: rs)) (hab:12<b - a∧b - a<260) (hb:b≤l.length) (hl:l.length≤1000000) :
 Fn Tryz.prog Xh 175 [v,.int .i64 a,.int .i64 b,ZF] h (fun _ h'=>∃ l',Sw a b l l'∧Hs h0 h' (.sl v 147 2 jP l' :: rs)):=by
 have W:WOrd jI:=Qk;have e1:(b:Int) - (a:Int)=((b - a:Nat):Int):=by omega
 refine qV rfl Tryz.func175 rfl rfl ?_;all_goals (repeat' (first|refine qi ?_|refine qg rfl ?_|(refine qc 0 ?_;refine mv ?_;refine mv ?_;refine sb ?_;refine mv ?_;refine qf ?_)|(refine qc 1 ?_;refine mv ?_;(refine cT ?_)<;>(refine qf ?_))|(refine qc 2 ?_;refine mv ?_;refine cW ?_;(refine al S ?_;clear S;intro b h S);(first|(refine sB S rfl rfl ?_;clear S;intro h S));refine qf ?_)|(refine qc 3 ?_;refine mv ?_)))
 obtain ⟨bs,hnm⟩:∃ x,x=b:=⟨_,rfl⟩;subst hnm;simp only [e1];(refine qx rfl rfl rfl rfl rfl ((qbb S.wf (b - a) (by omega)).mono ?_);rintro _ h ⟨P,rfl,hP1,hP2,x⟩)<;>(replace S:=S.qL x;clear x;refine mv ?_;refine qf ?_)
 all_goals (repeat' (first|refine qi ?_|refine qh ?_|(refine qc 4 ?_;refine mv ?_;refine mv ?_;refine qu ?_;refine ml ?_;refine ad ?_;refine sb ?_;refine mv ?_;refine qf ?_)))
 obtain ⟨w0,hw0⟩:∃ w0:Int,w0=(b:Int) - (a:Int):=⟨_,rfl⟩
 refine qJ (σ:=Nat×Int×List Ct) (fun (i,z,m) h'=>Hs h0 h' (.blk bs [.int .u64 z] 217 :: .sl v 147 2 jP m :: rs)∧(0≤z∧z≤18446744073709551615)∧a+(b - a) / 4*2 - 1≤i∧i≤a+(b - a) / 4*2+2∧Sw a b l m) (fun (i,z,m)=>a+(b - a) / 4*2+2 - i) (fun (i,z,m)=>[(0,v),(1,.int .i64 a),(2,.int .i64 b),(3,ZF),(8,.int .i64 (b - a:Nat)),(9,.pointer (some ⟨bs,0,none⟩)),(10,.int .u64 P),(11,.int .i64 i)]) (a+(b - a) / 4*2 - 1,w0,l) qy ?_ ?_
 ·exact ⟨by rw [hw0];exact S,by omega,by omega,by omega,.refl _⟩
 clear S;rintro ⟨i,z,m⟩ h ⟨S,h1,h2,h3,h4⟩;have hml:=h4.len;all_goals (repeat' (first|refine qi ?_|refine qg rfl ?_|refine qj ?_|refine qo ?_|refine qh ?_|(refine qc 5 ?_;(iterate 3 refine mv ?_);refine qu ?_;refine ml ?_;refine ad ?_;refine ad ?_;(first|(refine cS ?_ ?_<;>intro hc))<;>(refine qf ?_))|(refine qc 7 ?_;skip)))
 ·(refine qx rfl rfl rfl rfl rfl ((wZ S h1).mono ?_);rintro _ h ⟨y,rfl,hy,S2⟩)<;>(replace S:=S2;clear S2;refine mv ?_;refine sW ?_;(refine aM ?_;intro r1 hr1 hr2);refine cI ?_;refine mv ?_;refine qf ?_)
  obtain ⟨k,rfl⟩:=zH4 hr1;all_goals (repeat' (first|refine qi ?_|refine qg rfl ?_|refine qj ?_|(refine qc 8 ?_;refine mv ?_;refine mv ?_;(first|(refine cS ?_ ?_<;>intro hc))<;>(refine qf ?_))|(refine qc 9 ?_;refine mv ?_;refine mv ?_;refine sb ?_;refine mv ?_;refine qf ?_)))
  ·have e5:(k:Int) - ((b - a:Nat):Int)=((k - (b - a):Nat):Int):=by omega
   simp only [e5];all_goals (repeat' (first|(refine qc 6 ?_;refine mv ?_;refine ad ?_;refine mv ?_;refine qf ?_)|(refine qK 10 ?_;(iterate 5 refine mv ?_);refine ad ?_;(iterate 3 refine mv ?_);refine ad ?_;refine qF S rfl rfl ?_;refine qB S rfl rfl ?_;refine mv ?_;refine mv ?_;refine qF S rfl rfl ?_;refine qB S rfl rfl ?_;refine qF S rfl rfl ?_;(first|(refine zZ S rfl rfl ?_;clear S;intro h S));refine qF S rfl rfl ?_;(first|(refine zZ S rfl rfl ?_;clear S;intro h S));refine qf ?_)))
   (try simp only [qH,qG,qI,zA0] at S)
   refine ⟨(i+1,y,swp m i (a+(k - (b - a)))),?_,?_,qy⟩
   ·show a+(b - a) / 4*2+2 - (i+1)<a+(b - a) / 4*2+2 - i;omega
   ·exact ⟨S,hy,by omega,by omega,h4.step _ _ ⟨by omega,by omega⟩ ⟨by omega,by omega⟩ (by omega)⟩
  ·skip
   all_goals (repeat' (first|(refine qc 6 ?_;refine mv ?_;refine ad ?_;refine mv ?_;refine qf ?_)|(refine qK 10 ?_;(iterate 5 refine mv ?_);refine ad ?_;(iterate 3 refine mv ?_);refine ad ?_;refine qF S rfl rfl ?_;refine qB S rfl rfl ?_;refine mv ?_;refine mv ?_;refine qF S rfl rfl ?_;refine qB S rfl rfl ?_;refine qF S rfl rfl ?_;(first|(refine zZ S rfl rfl ?_;clear S;intro h S));refine qF S rfl rfl ?_;(first|(refine zZ S rfl rfl ?_;clear S;intro h S));refine qf ?_)))
   (try simp only [qH,qG,qI,zA0] at S)
   refine ⟨(i+1,y,swp m i (a+k)),?_,?_,qy⟩
   ·show a+(b - a) / 4*2+2 - (i+1)<a+(b - a) / 4*2+2 - i;omega
   ·exact ⟨S,hy,by omega,by omega,h4.step _ _ ⟨by omega,by omega⟩ ⟨by omega,by omega⟩ (by omega)⟩
 ·refine ⟨_,rfl,?_⟩;exact ⟨m,h4,S.tail⟩
theorem Srt.qeo {a i:Nat} {m n:List Ct} (h:Srt jI a i m) (e:∀ k,a≤k→k<i→n.getD k default=m.getD k default):Srt jI a i n:=fun p q h1 h2 h3=>by
 rw [e p h1 (by omega),e q (by omega) h3];exact h p q h1 h2 h3
theorem qdn {h0 h:AH} {rs:List Rs} {v:Value} {l:List Ct} (a b:Nat) (S:Hs h0 h (.sl v 147 2 jP l :: rs)) (hab:12<b - a∧b - a<260) (hb:b≤l.length) (hl:l.length≤1000000) (hlow:0<a→∀ k,a≤k→k<b→¬ jI (l.getD k default) (l.getD (a - 1) default)) :
 Fn Tryz.prog Xh 178 [v,.int .i64 a,.int .i64 b,ZF] h (fun r h'=>∃ l',Sw a b l l'∧((r = .bool true∧Srt jI a b l')∨r = .bool false)∧Hs h0 h' (.sl v 147 2 jP l' :: rs)):=by
 have W:WOrd jI:=Qk;have low:∀ n,Sw a b l n→0<a→¬ jI (n.getD a default) (n.getD (a - 1) default):=fun n s q=>by
  rw [s.out (k:=a - 1) (.inl (by omega))];exact s.all (p:=fun y=>¬ jI y (l.getD (a - 1) default)) (hlow q) a (zA3 _) (by omega)
 refine qV rfl Tryz.func178 rfl rfl ?_;all_goals (repeat' (first|refine qi ?_|refine qh ?_|(refine qc 0 ?_;refine mv ?_;refine qf ?_)|(refine qc 1 ?_;refine mv ?_;refine ad ?_;refine mv ?_;refine qf ?_)|(refine qc 2 ?_;refine mv ?_;refine qf ?_)))
 refine qJ (σ:=Nat×Nat×List Ct) (fun (i,c,m) h'=>Hs h0 h' (.sl v 147 2 jP m :: rs)∧(a<i∧i≤b)∧c≤5∧Sw a b l m∧Srt jI a i m) (fun (i,c,m)=>5 - c) (fun (i,c,m)=>[(0,v),(1,.int .i64 a),(2,.int .i64 b),(3,ZF),(9,.int .i64 i),(10,.int .i64 c)]) (a+1,0,l) qy ?_ ?_
 ·exact ⟨S,by omega,by omega,.refl _,fun i j q1 q2 q3=>by omega⟩
 clear S;rintro ⟨i,c,m⟩ h ⟨S,h1,hc5,s1,h3⟩;have hml:=s1.len;all_goals (repeat' (first|refine qi ?_|refine qg rfl ?_|refine qj ?_|refine qo ?_|refine qh ?_|(refine qc 3 ?_;refine mv ?_;(first|(refine cS ?_ ?_<;>intro hc))<;>(refine qf ?_))|(refine qc 24 ?_;refine mv ?_;refine qf ?_)))
 ·refine qJ (σ:=Nat) (fun i h'=>Hs h0 h' (.sl v 147 2 jP m :: rs)∧(a<i∧i≤b)∧Srt jI a i m) (fun i=>b - i) (fun i=>[(0,v),(1,.int .i64 a),(2,.int .i64 b),(3,ZF),(9,.int .i64 i),(10,.int .i64 c)]) i qy ?_ ?_
  ·exact ⟨S,by omega,h3⟩
  clear S h1 h3;rintro i h ⟨S,h1,h3⟩;all_goals (repeat' (first|refine qi ?_|refine qg rfl ?_|refine qo ?_|(refine qK 5 ?_;refine mv ?_;refine mv ?_;(first|(refine cS ?_ ?_<;>intro hc))<;>(refine mv ?_;(first|refine off ?_|refine mv ?_);(first|refine off ?_|refine mv ?_);(first|refine off ?_|refine mv ?_);(first|refine off ?_|(refine qF S rfl rfl ?_));(first|refine off ?_|(refine qB S rfl rfl ?_));(first|refine off ?_|refine mv ?_);(first|refine off ?_|refine mv ?_);(first|refine off ?_|(refine sb ?_));(first|refine off ?_|(refine qF S rfl rfl ?_));(first|refine off ?_|(refine qB S rfl rfl ?_));(first|(refine off ?_;(refine off ?_)<;>((refine off ?_);refine vl ?_;refine qf ?_))|skip)))))
  ·simp only [qH,qG,qI,zA0];(refine zV rfl rfl rfl rfl ((jL S.wf _ _).mono ?_);rintro _ h ⟨d,rfl,⟨hd,hq⟩|⟨hd,hq⟩,x⟩)<;>(replace S:=S.qL x;clear x;(first|(first|refine cT ?_|refine cF ?_))<;>((refine vl ?_);refine vl ?_;refine qf ?_))
   ·all_goals (repeat' (first|refine qi ?_|refine qg rfl ?_|refine qj ?_|refine qo ?_|(refine qc 7 ?_;refine mv ?_;refine mv ?_;(refine cF ?_)<;>(refine qf ?_))|(refine qc 9 ?_;refine mv ?_;refine mv ?_;refine sb ?_;(first|(refine cS ?_ ?_<;>intro hc))<;>(refine qf ?_))|(refine qc 10 ?_;refine mv ?_;refine qf ?_)))
    ·refine qC ⟨_,rfl,?_⟩;exact ⟨m,s1,.inr rfl,S⟩
    ·all_goals (repeat' (first|refine qi ?_|(refine qK 11 ?_;(iterate 4 refine mv ?_);refine sb ?_;refine mv ?_;refine mv ?_;refine sb ?_;refine qF S rfl rfl ?_;refine qB S rfl rfl ?_;refine mv ?_;refine mv ?_;refine qF S rfl rfl ?_;refine qB S rfl rfl ?_;refine qF S rfl rfl ?_;(first|(refine zZ S rfl rfl ?_;clear S;intro h S));refine qF S rfl rfl ?_;(first|(refine zZ S rfl rfl ?_;clear S;intro h S));refine qf ?_)))
     simp only [qH,qG,qI,zA0] at S;have s2:Sw a b l (swp m i (i - 1)):=s1.step _ _ ⟨by omega,by omega⟩ ⟨by omega,by omega⟩ (by omega);have hm2:=s2.len;have h4:Srt jI a (i - 1) (swp m i (i - 1)):=Srt.qeo (m:=m) (fun p q z1 z2 z3=>h3 p q z1 z2 (by omega)) fun k z1 z2=>by rw [swp_get (by omega) (by omega),if_neg (by omega),if_neg (by omega)]
     replace S:Hs h0 h (.sl v 147 2 jP (swp m i (i - 1)) :: rs):=S;generalize swp m i (i - 1)=m2 at S s2 h4 hm2
     (repeat (refine qi ?_));first|refine Zj (σ:=List Ct) (fun m h'=>Hs h0 h' (.sl v 147 2 jP m :: rs)∧Sw a b l m∧Srt jI a i m) (fun m=>[(0,v),(1,.int .i64 a),(2,.int .i64 b),(3,ZF),(9,.int .i64 i),(10,.int .i64 c)]) ?_ ?_
     ·all_goals (repeat' (first|refine qi ?_|refine qg rfl ?_|refine qj ?_|refine qh ?_|(refine qc 12 ?_;refine mv ?_;refine mv ?_;refine sb ?_;(first|(refine cS ?_ ?_<;>intro hc))<;>(refine qf ?_))|(refine qc 13 ?_;refine mv ?_;refine sb ?_;refine mv ?_;refine qf ?_)))
      ·refine qJ (σ:=Nat×List Ct) (fun (j,n) h'=>Hs h0 h' (.sl v 147 2 jP n :: rs)∧(a≤j∧j≤i - 1)∧Sw a b l n∧InsI jI a (i - 1) j n) (fun (j,n)=>j) (fun (j,n)=>[(0,v),(1,.int .i64 a),(2,.int .i64 b),(3,ZF),(9,.int .i64 i),(10,.int .i64 c),(11,.int .i64 j)]) (i - 1,m2) qy ?_ ?_
       ·exact ⟨S,by (try dsimp only);omega,s2,InsI.start h4⟩
       clear S s2 h4 hm2;rintro ⟨j,n⟩ h ⟨S,k1,k2,k3⟩;have hnl:=k2.len;all_goals (repeat' (first|refine qi ?_|refine qg rfl ?_|refine qj ?_|refine qo ?_|refine qh ?_|(refine qc 14 ?_;refine mv ?_;(first|(refine cS ?_ ?_<;>intro hc))<;>(refine qf ?_))|(refine qK 16 ?_;(iterate 3 refine mv ?_);refine qF S rfl rfl ?_;refine qB S rfl rfl ?_;refine mv ?_;refine mv ?_;refine sb ?_;refine qF S rfl rfl ?_;refine qB S rfl rfl ?_)))
       ·simp only [qH,qG,qI,zA0];(refine zV rfl rfl rfl rfl ((jL S.wf _ _).mono ?_);rintro _ h ⟨d,rfl,⟨hd,hq2⟩|⟨hd,hq2⟩,x⟩)<;>(replace S:=S.qL x;clear x;(first|refine cT ?_|refine cF ?_)<;>(refine vl ?_;refine qf ?_))
        ·have hja:a<j:=by
          rcases zA7 a j with z|z
          ·exact z
          ·obtain rfl:j=a:=by omega
           exact absurd hq2 (low n k2 (by omega))
         all_goals (repeat' (first|refine qg rfl ?_|refine qj ?_|(refine qc 15 ?_;refine mv ?_;refine sb ?_;refine mv ?_;refine qf ?_)|(refine qK 17 ?_;(iterate 4 refine mv ?_);refine sb ?_;refine mv ?_;refine mv ?_;refine sb ?_;refine qF S rfl rfl ?_;refine qB S rfl rfl ?_;refine mv ?_;refine mv ?_;refine qF S rfl rfl ?_;refine qB S rfl rfl ?_;refine qF S rfl rfl ?_;(first|(refine zZ S rfl rfl ?_;clear S;intro h S));refine qF S rfl rfl ?_;(first|(refine zZ S rfl rfl ?_;clear S;intro h S));refine qf ?_)))
         simp only [qH,qG,qI,zA0] at S;refine ⟨(j - 1,swp n j (j - 1)),?_,?_,qy⟩
         ·show j - 1<j;omega
         ·exact ⟨S,by (try dsimp only);omega,k2.step _ _ ⟨by omega,by omega⟩ ⟨by omega,by omega⟩ (by omega),k3.next W hja k1.2 (by omega) hq2⟩
        ·all_goals (repeat' (first|refine qg rfl ?_|refine qo ?_))
         exact ⟨n,⟨S,k2,by have:=k3.done W (.inr hq2);rwa [show i - 1+1=i by omega] at this⟩,(qy)⟩
       ·exact ⟨n,⟨S,k2,by have:=k3.done W (.inl (by omega));rwa [show i - 1+1=i by omega] at this⟩,(qy)⟩
      ·exact ⟨m2,⟨S,s2,fun p q z1 z2 z3=>by omega⟩,(qy)⟩
     clear S s2 h4 hm2 m2;rintro m2 h ⟨S,s2,h4⟩;have hm2:=s2.len;all_goals (repeat' (first|refine qi ?_|refine qg rfl ?_|refine qj ?_|refine qh ?_|(refine qc 4 ?_;refine mv ?_;refine ad ?_;refine mv ?_;refine qf ?_)|(refine qc 18 ?_;refine mv ?_;refine mv ?_;refine sb ?_;(first|(refine cS ?_ ?_<;>intro hc))<;>(refine qf ?_))|(refine qc 19 ?_;refine mv ?_;refine ad ?_;refine mv ?_;refine qf ?_)))
     ·refine qJ (σ:=Nat×List Ct) (fun (j,n) h'=>Hs h0 h' (.sl v 147 2 jP n :: rs)∧(i<j∧j≤b)∧Sw a b l n∧Srt jI a i n) (fun (j,n)=>b - j) (fun (j,n)=>[(0,v),(1,.int .i64 a),(2,.int .i64 b),(3,ZF),(9,.int .i64 i),(10,.int .i64 c),(12,.int .i64 j)]) (i+1,m2) qy ?_ ?_
      ·exact ⟨S,by (try dsimp only);omega,s2,h4⟩
      clear S s2 h4 hm2;rintro ⟨j,n⟩ h ⟨S,k1,k2,k3⟩;have hnl:=k2.len;all_goals (repeat' (first|refine qi ?_|refine qg rfl ?_|refine qj ?_|refine qo ?_|refine qh ?_|(refine qc 20 ?_;refine mv ?_;refine mv ?_;(first|(refine cS ?_ ?_<;>intro hc))<;>(refine qf ?_))|(refine qK 22 ?_;(iterate 3 refine mv ?_);refine qF S rfl rfl ?_;refine qB S rfl rfl ?_;refine mv ?_;refine mv ?_;refine sb ?_;refine qF S rfl rfl ?_;refine qB S rfl rfl ?_)))
      ·simp only [qH,qG,qI,zA0];(refine zV rfl rfl rfl rfl ((jL S.wf _ _).mono ?_);rintro _ h ⟨d,rfl,⟨hd,hq2⟩|⟨hd,hq2⟩,x⟩)<;>(replace S:=S.qL x;clear x;(first|refine cT ?_|refine cF ?_)<;>(refine vl ?_;refine qf ?_))
       ·all_goals (repeat' (first|refine qg rfl ?_|refine qj ?_|(refine qc 21 ?_;refine mv ?_;refine ad ?_;refine mv ?_;refine qf ?_)|(refine qK 23 ?_;(iterate 4 refine mv ?_);refine sb ?_;refine mv ?_;refine mv ?_;refine sb ?_;refine qF S rfl rfl ?_;refine qB S rfl rfl ?_;refine mv ?_;refine mv ?_;refine qF S rfl rfl ?_;refine qB S rfl rfl ?_;refine qF S rfl rfl ?_;(first|(refine zZ S rfl rfl ?_;clear S;intro h S));refine qF S rfl rfl ?_;(first|(refine zZ S rfl rfl ?_;clear S;intro h S));refine qf ?_)))
        simp only [qH,qG,qI,zA0] at S;refine ⟨(j+1,swp n j (j - 1)),?_,?_,qy⟩
        ·show b - (j+1)<b - j;omega
        ·refine ⟨S,by (try dsimp only);omega,k2.step _ _ ⟨by omega,by omega⟩ ⟨by omega,by omega⟩ (by omega),k3.qeo fun k z1 z2=>?_⟩;rw [swp_get (by omega) (by omega),if_neg (by omega),if_neg (by omega)]
       ·all_goals (repeat' (first|refine qg rfl ?_|refine qo ?_|(refine qc 4 ?_;refine mv ?_;refine ad ?_;refine mv ?_;refine qf ?_)))
        refine ⟨(i,c+1,n),?_,?_,qy⟩
        ·show 5 - (c+1)<5 - c;omega
        ·exact ⟨S,h1,by (try dsimp only);omega,k2,k3⟩
      ·all_goals (repeat' (first|(refine qc 4 ?_;refine mv ?_;refine ad ?_;refine mv ?_;refine qf ?_)))
       refine ⟨(i,c+1,n),?_,?_,qy⟩
       ·show 5 - (c+1)<5 - c;omega
       ·exact ⟨S,h1,by (try dsimp only);omega,k2,k3⟩
     ·refine ⟨(i,c+1,m2),?_,?_,qy⟩
      ·show 5 - (c+1)<5 - c;omega
      ·exact ⟨S,h1,by (try dsimp only);omega,s2,h4⟩
   ·all_goals (repeat' (first|refine qg rfl ?_|refine qj ?_|refine qh ?_|(refine qc 6 ?_;refine mv ?_;refine ad ?_;refine mv ?_;refine qf ?_)))
    refine ⟨i+1,?_,?_,qy⟩
    ·show b - (i+1)<b - i;omega
    ·refine ⟨S,by omega,Srt.adj W fun k q1 q2=>?_⟩;rcases zA7 (k+1) i with q|q
     ·exact h3 k (k+1) q1 (by omega) q
     ·obtain rfl:i=k+1:=by omega
      exact hq
  ·obtain rfl:i=b:=by omega
   all_goals (repeat' (first|refine qi ?_|refine qg rfl ?_|(refine qc 7 ?_;refine mv ?_;refine mv ?_;(refine cT ?_)<;>(refine qf ?_))|(refine qc 8 ?_;refine mv ?_;refine qf ?_)))
   refine qC ⟨_,rfl,?_⟩;exact ⟨m,s1,.inl ⟨rfl,h3⟩,S⟩
 ·refine qC ⟨_,rfl,?_⟩;exact ⟨m,s1,.inr rfl,S⟩
theorem qek {h0 h:AH} {rs:List Rs} {v:Value} {l:List Ct} (a b q:Nat) (S:Hs h0 h (.sl v 147 2 jP l :: rs)) (hab:a≤q∧q<b) (hb:b≤l.length) (hl:l.length≤1000000) :
 Fn Tryz.prog Xh 179 [v,.int .i64 a,.int .i64 b,.int .i64 q,ZF] h (fun r h'=>∃ (e:Nat) (l':List Ct),r = .int .i64 e∧(a<e∧e≤b)∧Sw a b l l'∧(∀ k,a≤k→k<e→¬ jI (l.getD q default) (l'.getD k default))∧(∀ k,e≤k→k<b→jI (l.getD q default) (l'.getD k default))∧Hs h0 h' (.sl v 147 2 jP l' :: rs)):=by
 have W:WOrd jI:=Qk;obtain ⟨x,hx⟩:∃ x,x=l.getD q default:=⟨_,rfl⟩
 rw [← hx];refine qV rfl Tryz.func179 rfl rfl ?_;all_goals (repeat' (first|refine qi ?_|refine qh ?_|(refine qc 0 ?_;refine mv ?_;refine qf ?_)|(refine qK 1 ?_;(iterate 6 refine mv ?_);refine qF S rfl rfl ?_;refine qB S rfl rfl ?_;refine mv ?_;refine mv ?_;refine qF S rfl rfl ?_;refine qB S rfl rfl ?_;refine qF S rfl rfl ?_;(first|(refine zZ S rfl rfl ?_;clear S;intro h S));refine qF S rfl rfl ?_;(first|(refine zZ S rfl rfl ?_;clear S;intro h S));refine qf ?_)|(refine qc 2 ?_;refine mv ?_;refine ad ?_;refine mv ?_;refine sb ?_;refine mv ?_;refine mv ?_;refine qf ?_)))
 (try simp only [qH,qG,qI,zA0] at S)
 have s1:Sw a b l (swp l a q):=.one _ _ ⟨by omega,by omega⟩ ⟨by omega,by omega⟩ hb;have x1:(swp l a q).getD a default=x:=by
  rw [swp_get (by omega) (by omega),hx];split
  ·rename_i e;rw [e]
  ·rw [if_pos rfl]
 refine qJ (σ:=Nat×Nat×List Ct) (fun (i,j,m) h'=>Hs h0 h' (.sl v 147 2 jP m :: rs)∧Sw a b l m∧EqI jI a b x i j m) (fun (i,j,m)=>j+1 - i) (fun (i,j,m)=>[(0,v),(1,.int .i64 a),(2,.int .i64 b),(3,.int .i64 q),(4,ZF),(11,.int .i64 i),(12,.int .i64 j)]) (a+1,b - 1,swp l a q) qy ?_ ?_
 ·exact ⟨S,s1,⟨by omega,fun k q1 q2=>by omega,fun k q1 q2=>by omega,x1⟩⟩
 clear S s1 x1;rintro ⟨i0,j0,m⟩ h ⟨S,s1,E⟩;have hml:=s1.len;have hbi:=E.bi;have ex:=E.x;refine qh ?_;refine jU (σ:=Nat) (fun i h'=>Hs h0 h' (.sl v 147 2 jP m :: rs)∧EqI jI a b x i j0 m∧i0≤i∧(i≤j0→jI x (m.getD i default))) (fun i=>[(0,v),(1,.int .i64 a),(2,.int .i64 b),(3,.int .i64 q),(4,ZF),(11,.int .i64 i),(12,.int .i64 j0)]) ?_ ?_
 ·all_goals (repeat' (refine qh ?_))
  refine qJ (σ:=Nat) (fun i h'=>Hs h0 h' (.sl v 147 2 jP m :: rs)∧EqI jI a b x i j0 m∧i0≤i) (fun i=>j0+1 - i) (fun i=>[(0,v),(1,.int .i64 a),(2,.int .i64 b),(3,.int .i64 q),(4,ZF),(11,.int .i64 i),(12,.int .i64 j0)]) i0 qy ?_ ?_
  ·exact ⟨S,E,zA3 _⟩
  clear S E hbi;rintro i h ⟨S,E,hi0⟩;have hbi:=E.bi;all_goals (repeat' (first|refine qi ?_|refine qg rfl ?_|refine qo ?_|(refine qK 3 ?_;refine mv ?_;refine mv ?_;(first|(refine cS ?_ ?_<;>intro hc))<;>(refine mv ?_;(first|refine off ?_|refine mv ?_);(first|refine off ?_|refine mv ?_);(first|refine off ?_|refine mv ?_);(first|refine off ?_|(refine qF S rfl rfl ?_));(first|refine off ?_|(refine qB S rfl rfl ?_));(first|refine off ?_|refine mv ?_);(first|refine off ?_|refine mv ?_);(first|refine off ?_|(refine qF S rfl rfl ?_));(first|refine off ?_|(refine qB S rfl rfl ?_));(first|(refine off ?_;(refine off ?_)<;>((refine off ?_);refine vl ?_;refine qf ?_))|skip)))))
  ·simp only [qH,qG,qI,zA0];(refine zV rfl rfl rfl rfl ((jL S.wf _ _).mono ?_);rintro _ h ⟨d,rfl,⟨hd,hq⟩|⟨hd,hq⟩,x⟩)<;>(replace S:=S.qL x;clear x;rw [ex] at hq;(first|(first|refine cT ?_|refine cF ?_))<;>((refine vl ?_);refine vl ?_;refine qf ?_))
   ·all_goals (repeat' (first|refine qg rfl ?_|refine qo ?_))
    exact ⟨i,⟨S,E,hi0,fun _=>hq⟩,(qy)⟩
   ·all_goals (repeat' (first|refine qg rfl ?_|refine qj ?_|refine qh ?_|(refine qc 4 ?_;refine mv ?_;refine ad ?_;refine mv ?_;refine qf ?_)))
    refine ⟨i+1,?_,?_,qy⟩
    ·show j0+1 - (i+1)<j0+1 - i;omega
    ·refine ⟨S,⟨by omega,fun k q1 q2=>?_,E.hi,ex⟩,by omega⟩;rcases zA7 k i with q|q
     ·exact E.lo k q1 q
     ·obtain rfl:k=i:=by omega
      exact hq
  ·exact ⟨i,⟨S,E,hi0,fun q=>by omega⟩,(qy)⟩
 clear S E hbi;rintro i h ⟨S,E,hi0,hi1⟩;have hbi:=E.bi;refine jU (σ:=Nat) (fun j h'=>Hs h0 h' (.sl v 147 2 jP m :: rs)∧EqI jI a b x i j m∧j≤j0∧(i≤j→¬ jI x (m.getD j default))) (fun j=>[(0,v),(1,.int .i64 a),(2,.int .i64 b),(3,.int .i64 q),(4,ZF),(11,.int .i64 i),(12,.int .i64 j)]) ?_ ?_
 ·all_goals (repeat' (refine qh ?_))
  refine qJ (σ:=Nat) (fun j h'=>Hs h0 h' (.sl v 147 2 jP m :: rs)∧EqI jI a b x i j m∧j≤j0) (fun j=>j) (fun j=>[(0,v),(1,.int .i64 a),(2,.int .i64 b),(3,.int .i64 q),(4,ZF),(11,.int .i64 i),(12,.int .i64 j)]) j0 qy ?_ ?_
  ·exact ⟨S,E,zA3 _⟩
  clear S E hbi;rintro j h ⟨S,E,hj0⟩;have hbi:=E.bi;all_goals (repeat' (first|refine qi ?_|refine qg rfl ?_|refine qo ?_|(refine qK 5 ?_;refine mv ?_;refine mv ?_;(first|(refine cS ?_ ?_<;>intro hc))<;>(refine mv ?_;(first|refine off ?_|refine mv ?_);(first|refine off ?_|refine mv ?_);(first|refine off ?_|refine mv ?_);(first|refine off ?_|(refine qF S rfl rfl ?_));(first|refine off ?_|(refine qB S rfl rfl ?_));(first|refine off ?_|refine mv ?_);(first|refine off ?_|refine mv ?_);(first|refine off ?_|(refine qF S rfl rfl ?_));(first|refine off ?_|(refine qB S rfl rfl ?_));(first|(refine off ?_;(refine off ?_)<;>(refine vl ?_;refine qf ?_))|skip)))))
  ·simp only [qH,qG,qI,zA0];(refine zV rfl rfl rfl rfl ((jL S.wf _ _).mono ?_);rintro _ h ⟨d,rfl,⟨hd,hq⟩|⟨hd,hq⟩,x⟩)<;>(replace S:=S.qL x;clear x;rw [ex] at hq;(first|(first|refine cT ?_|refine cF ?_))<;>(refine vl ?_;refine qf ?_))
   ·all_goals (repeat' (first|refine qg rfl ?_|refine qj ?_|refine qh ?_|(refine qc 6 ?_;refine mv ?_;refine sb ?_;refine mv ?_;refine qf ?_)))
    refine ⟨j - 1,?_,?_,qy⟩
    ·show j - 1<j;omega
    ·refine ⟨S,⟨by omega,E.lo,fun k q1 q2=>?_,ex⟩,by omega⟩;rcases zA7 j k with q|q
     ·exact E.hi k q q2
     ·obtain rfl:k=j:=by omega
      exact hq
   ·all_goals (repeat' (first|refine qg rfl ?_|refine qo ?_))
    exact ⟨j,⟨S,E,hj0,fun _=>hq⟩,(qy)⟩
  ·exact ⟨j,⟨S,E,hj0,fun q=>by omega⟩,(qy)⟩
 clear S E hbi;rintro j h ⟨S,E,hj0,hj1⟩;have hbi:=E.bi;all_goals (repeat' (first|refine qi ?_|refine qg rfl ?_|refine qj ?_|refine qo ?_|(refine qc 7 ?_;refine mv ?_;refine mv ?_;(first|(refine cS ?_ ?_<;>intro hc))<;>(refine qf ?_))|(refine qK 8 ?_;(iterate 6 refine mv ?_);refine qF S rfl rfl ?_;refine qB S rfl rfl ?_;refine mv ?_;refine mv ?_;refine qF S rfl rfl ?_;refine qB S rfl rfl ?_;refine qF S rfl rfl ?_;(first|(refine zZ S rfl rfl ?_;clear S;intro h S));refine qF S rfl rfl ?_;(first|(refine zZ S rfl rfl ?_;clear S;intro h S));refine qf ?_)|(refine qc 9 ?_;refine mv ?_;refine ad ?_;refine mv ?_;refine qf ?_)|(refine qc 10 ?_;refine mv ?_;refine sb ?_;refine mv ?_;refine qf ?_)|(refine qc 11 ?_;refine mv ?_;refine mv ?_;refine qf ?_)))
 ·refine qC ⟨_,rfl,?_⟩;refine ⟨i,m,rfl,by omega,s1,fun k q1 q2=>?_,fun k q1 q2=>E.hi k (by omega) q2,S⟩;rcases zA7 a k with q|q
  ·exact E.lo k q q2
  ·obtain rfl:k=a:=by omega
   rw [ex];exact W.irr _
 ·(try simp only [qH,qG,qI,zA0] at S)
  obtain ⟨z1,z2⟩:=E.swap (by omega) (by omega) (hi1 (by omega)) (hj1 (by omega));refine ⟨(i+1,j - 1,swp m i j),?_,?_,qy⟩
  ·show j - 1+1 - (i+1)<j0+1 - i0;omega
  ·exact ⟨S,s1.step _ _ ⟨by omega,by omega⟩ ⟨by omega,by omega⟩ (by omega),z2⟩
theorem qdp {h0 h:AH} {rs:List Rs} {v:Value} {l:List Ct} (a b q:Nat) (S:Hs h0 h (.sl v 147 2 jP l :: rs)) (hab:a≤q∧q<b) (hb:b≤l.length) (hl:l.length≤1000000) :
 Fn Tryz.prog Xh 180 [v,.int .i64 a,.int .i64 b,.int .i64 q,ZF] h (fun r h'=>∃ (e:Nat) (f:Bool) (l':List Ct),r = .tuple #[.int .i64 e,.bool f]∧(a≤e∧e<b)∧Sw a b l l'∧Parted jI a b e l'∧Hs h0 h' (.sl v 147 2 jP l' :: rs)):=by
 have W:WOrd jI:=Qk;obtain ⟨x,hx⟩:∃ x,x=l.getD q default:=⟨_,rfl⟩
 refine qV rfl Tryz.func180 rfl rfl ?_;all_goals (repeat' (first|refine qi ?_|(refine qc 0 ?_;refine mv ?_;refine mv ?_;refine qf ?_)|(refine qK 1 ?_;(iterate 6 refine mv ?_);refine qF S rfl rfl ?_;refine qB S rfl rfl ?_;refine mv ?_;refine mv ?_;refine qF S rfl rfl ?_;refine qB S rfl rfl ?_;refine qF S rfl rfl ?_;(first|(refine zZ S rfl rfl ?_;clear S;intro h S));refine qF S rfl rfl ?_;(first|(refine zZ S rfl rfl ?_;clear S;intro h S));refine qf ?_)))
 (repeat (refine qi ?_));refine qc 2 ?_;refine mv ?_;refine ad ?_;refine mv ?_;refine sb ?_;refine mv ?_;refine mv ?_;refine qf ?_;(try simp only [qH,qG,qI,zA0] at S);have s1:Sw a b l (swp l a q):=.one _ _ ⟨by omega,by omega⟩ ⟨by omega,by omega⟩ hb;have x1:(swp l a q).getD a default=x:=by
  rw [swp_get (by omega) (by omega),hx];split
  ·rename_i e;rw [e]
  ·rw [if_pos rfl]
 obtain ⟨m,hm⟩:∃ m,m=swp l a q:=⟨_,rfl⟩
 replace S:Hs h0 h (.sl v 147 2 jP m :: rs):=by rw [hm];exact S
 rw [← hm] at s1 x1;have hml:=s1.len;have ex:=x1;have E:PartI jI a b x (a+1) (b - 1) m:=⟨by omega,fun k q1 q2=>by omega,fun k q1 q2=>by omega,x1⟩
 have hbi:=E.bi;refine jU (σ:=Nat) (fun i h'=>Hs h0 h' (.sl v 147 2 jP m :: rs)∧PartI jI a b x i (b - 1) m∧(a+1)≤i∧(i≤(b - 1)→¬ jI (m.getD i default) x)) (fun i=>[(0,v),(1,.int .i64 a),(2,.int .i64 b),(3,.int .i64 q),(4,ZF),(12,.int .i64 i),(13,.int .i64 (b - 1:Nat))]) ?_ ?_
 ·all_goals (repeat' (refine qh ?_))
  refine qJ (σ:=Nat) (fun i h'=>Hs h0 h' (.sl v 147 2 jP m :: rs)∧PartI jI a b x i (b - 1) m∧(a+1)≤i) (fun i=>(b - 1)+1 - i) (fun i=>[(0,v),(1,.int .i64 a),(2,.int .i64 b),(3,.int .i64 q),(4,ZF),(12,.int .i64 i),(13,.int .i64 (b - 1:Nat))]) (a+1) qy ?_ ?_
  ·exact ⟨S,E,zA3 _⟩
  clear S E hbi;rintro i h ⟨S,E,hi0⟩;have hbi:=E.bi;all_goals (repeat' (first|refine qi ?_|refine qg rfl ?_|refine qo ?_|(refine qK 3 ?_;refine mv ?_;refine mv ?_;(first|(refine cS ?_ ?_<;>intro hc))<;>(refine mv ?_;(first|refine off ?_|refine mv ?_);(first|refine off ?_|refine mv ?_);(first|refine off ?_|refine mv ?_);(first|refine off ?_|(refine qF S rfl rfl ?_));(first|refine off ?_|(refine qB S rfl rfl ?_));(first|refine off ?_|refine mv ?_);(first|refine off ?_|refine mv ?_);(first|refine off ?_|(refine qF S rfl rfl ?_));(first|refine off ?_|(refine qB S rfl rfl ?_));(first|(refine off ?_;(refine off ?_)<;>(refine vl ?_;refine qf ?_))|skip)))))
  ·simp only [qH,qG,qI,zA0];(refine zV rfl rfl rfl rfl ((jL S.wf _ _).mono ?_);rintro _ h ⟨d,rfl,⟨hd,hq⟩|⟨hd,hq⟩,x⟩)<;>(replace S:=S.qL x;clear x;rw [ex] at hq;(first|(first|refine cT ?_|refine cF ?_))<;>(refine vl ?_;refine qf ?_))
   ·all_goals (repeat' (first|refine qg rfl ?_|refine qj ?_|refine qh ?_|(refine qc 4 ?_;refine mv ?_;refine ad ?_;refine mv ?_;refine qf ?_)))
    refine ⟨i+1,?_,?_,qy⟩
    ·show (b - 1)+1 - (i+1)<(b - 1)+1 - i;omega
    ·refine ⟨S,⟨by omega,fun k q1 q2=>?_,E.hi,ex⟩,by omega⟩;rcases zA7 k i with q|q
     ·exact E.lo k q1 q
     ·obtain rfl:k=i:=by omega
      exact hq
   ·all_goals (repeat' (first|refine qg rfl ?_|refine qo ?_))
    exact ⟨i,⟨S,E,hi0,fun _=>hq⟩,(qy)⟩
  ·exact ⟨i,⟨S,E,hi0,fun q=>by omega⟩,(qy)⟩
 clear S E hbi;rintro i h ⟨S,E,hi0,hi1⟩;have hbi:=E.bi;refine jU (σ:=Nat) (fun j h'=>Hs h0 h' (.sl v 147 2 jP m :: rs)∧PartI jI a b x i j m∧j≤(b - 1)∧(i≤j→jI (m.getD j default) x)) (fun j=>[(0,v),(1,.int .i64 a),(2,.int .i64 b),(3,.int .i64 q),(4,ZF),(12,.int .i64 i),(13,.int .i64 j)]) ?_ ?_
 ·all_goals (repeat' (refine qh ?_))
  refine qJ (σ:=Nat) (fun j h'=>Hs h0 h' (.sl v 147 2 jP m :: rs)∧PartI jI a b x i j m∧j≤(b - 1)) (fun j=>j) (fun j=>[(0,v),(1,.int .i64 a),(2,.int .i64 b),(3,.int .i64 q),(4,ZF),(12,.int .i64 i),(13,.int .i64 j)]) (b - 1) qy ?_ ?_
  ·exact ⟨S,E,zA3 _⟩
  clear S E hbi;rintro j h ⟨S,E,hj0⟩;have hbi:=E.bi;all_goals (repeat' (first|refine qi ?_|refine qg rfl ?_|refine qo ?_|(refine qK 5 ?_;refine mv ?_;refine mv ?_;(first|(refine cS ?_ ?_<;>intro hc))<;>(refine mv ?_;(first|refine off ?_|refine mv ?_);(first|refine off ?_|refine mv ?_);(first|refine off ?_|refine mv ?_);(first|refine off ?_|(refine qF S rfl rfl ?_));(first|refine off ?_|(refine qB S rfl rfl ?_));(first|refine off ?_|refine mv ?_);(first|refine off ?_|refine mv ?_);(first|refine off ?_|(refine qF S rfl rfl ?_));(first|refine off ?_|(refine qB S rfl rfl ?_));(first|(refine off ?_;(refine off ?_)<;>((refine off ?_);refine vl ?_;refine qf ?_))|skip)))))
  ·simp only [qH,qG,qI,zA0];(refine zV rfl rfl rfl rfl ((jL S.wf _ _).mono ?_);rintro _ h ⟨d,rfl,⟨hd,hq⟩|⟨hd,hq⟩,x⟩)<;>(replace S:=S.qL x;clear x;rw [ex] at hq;(first|(first|refine cT ?_|refine cF ?_))<;>((refine vl ?_);refine vl ?_;refine qf ?_))
   ·all_goals (repeat' (first|refine qg rfl ?_|refine qo ?_))
    exact ⟨j,⟨S,E,hj0,fun _=>hq⟩,(qy)⟩
   ·all_goals (repeat' (first|refine qg rfl ?_|refine qj ?_|refine qh ?_|(refine qc 6 ?_;refine mv ?_;refine sb ?_;refine mv ?_;refine qf ?_)))
    refine ⟨j - 1,?_,?_,qy⟩
    ·show j - 1<j;omega
    ·refine ⟨S,⟨by omega,E.lo,fun k q1 q2=>?_,ex⟩,by omega⟩;rcases zA7 j k with q|q
     ·exact E.hi k q q2
     ·obtain rfl:k=j:=by omega
      exact hq
  ·exact ⟨j,⟨S,E,hj0,fun q=>by omega⟩,(qy)⟩
 clear S E hbi;rintro j h ⟨S,E,hj0,hj1⟩;have hbi:=E.bi;all_goals (repeat' (first|refine qi ?_|refine qg rfl ?_|refine qj ?_|refine qh ?_|(refine qc 7 ?_;refine mv ?_;refine mv ?_;(first|(refine cS ?_ ?_<;>intro hc))<;>(refine qf ?_))|(refine qK 8 ?_;(iterate 6 refine mv ?_);refine qF S rfl rfl ?_;refine qB S rfl rfl ?_;refine mv ?_;refine mv ?_;refine qF S rfl rfl ?_;refine qB S rfl rfl ?_;refine qF S rfl rfl ?_;(first|(refine zZ S rfl rfl ?_;clear S;intro h S));refine qF S rfl rfl ?_;(first|(refine zZ S rfl rfl ?_;clear S;intro h S));refine qf ?_)|(refine qc 9 ?_;(iterate 3 refine mv ?_);refine qf ?_)|(refine qK 10 ?_;(iterate 6 refine mv ?_);refine qF S rfl rfl ?_;refine qB S rfl rfl ?_;refine mv ?_;refine mv ?_;refine qF S rfl rfl ?_;refine qB S rfl rfl ?_;refine qF S rfl rfl ?_;(first|(refine zZ S rfl rfl ?_;clear S;intro h S));refine qF S rfl rfl ?_;(first|(refine zZ S rfl rfl ?_;clear S;intro h S));refine qf ?_)|(refine qc 11 ?_;refine mv ?_;refine ad ?_;refine mv ?_;refine qf ?_)|(refine qc 12 ?_;refine mv ?_;refine sb ?_;refine mv ?_;refine qf ?_)))
 ·(try simp only [qH,qG,qI,zA0] at S)
  refine qC ⟨_,rfl,?_⟩;exact ⟨j,true,swp m j a,rfl,by omega,s1.step _ _ ⟨by omega,by omega⟩ ⟨by omega,by omega⟩ (by omega),E.done W (by omega) (by omega),S⟩
 (try simp only [qH,qG,qI,zA0] at S)
 obtain ⟨z1,z2⟩:=E.swap (by omega) (by omega) (hi1 (by omega)) (hj1 (by omega));refine qJ (σ:=Nat×Nat×List Ct) (fun (i,j,m) h'=>Hs h0 h' (.sl v 147 2 jP m :: rs)∧Sw a b l m∧PartI jI a b x i j m) (fun (i,j,m)=>j+1 - i) (fun (i,j,m)=>[(0,v),(1,.int .i64 a),(2,.int .i64 b),(3,.int .i64 q),(4,ZF),(12,.int .i64 i),(13,.int .i64 j)]) (i+1,j - 1,swp m i j) qy ?_ ?_
 ·exact ⟨S,s1.step _ _ ⟨by omega,by omega⟩ ⟨by omega,by omega⟩ (by omega),z2⟩
 clear S s1 x1 E hbi hi0 hi1 hj0 hj1 z1 z2 hml ex hm;rintro ⟨i0,j0,m⟩ h ⟨S,s1,E⟩;have hml:=s1.len;have hbi:=E.bi;have ex:=E.x;refine qh ?_;refine jU (σ:=Nat) (fun i h'=>Hs h0 h' (.sl v 147 2 jP m :: rs)∧PartI jI a b x i j0 m∧i0≤i∧(i≤j0→¬ jI (m.getD i default) x)) (fun i=>[(0,v),(1,.int .i64 a),(2,.int .i64 b),(3,.int .i64 q),(4,ZF),(12,.int .i64 i),(13,.int .i64 j0)]) ?_ ?_
 ·all_goals (repeat' (refine qh ?_))
  refine qJ (σ:=Nat) (fun i h'=>Hs h0 h' (.sl v 147 2 jP m :: rs)∧PartI jI a b x i j0 m∧i0≤i) (fun i=>j0+1 - i) (fun i=>[(0,v),(1,.int .i64 a),(2,.int .i64 b),(3,.int .i64 q),(4,ZF),(12,.int .i64 i),(13,.int .i64 j0)]) i0 qy ?_ ?_
  ·exact ⟨S,E,zA3 _⟩
  clear S E hbi;rintro i h ⟨S,E,hi0⟩;have hbi:=E.bi;all_goals (repeat' (first|refine qi ?_|refine qg rfl ?_|refine qo ?_|(refine qK 13 ?_;refine mv ?_;refine mv ?_;(first|(refine cS ?_ ?_<;>intro hc))<;>(refine mv ?_;(first|refine off ?_|refine mv ?_);(first|refine off ?_|refine mv ?_);(first|refine off ?_|refine mv ?_);(first|refine off ?_|(refine qF S rfl rfl ?_));(first|refine off ?_|(refine qB S rfl rfl ?_));(first|refine off ?_|refine mv ?_);(first|refine off ?_|refine mv ?_);(first|refine off ?_|(refine qF S rfl rfl ?_));(first|refine off ?_|(refine qB S rfl rfl ?_));(first|(refine off ?_;(refine off ?_)<;>(refine vl ?_;refine qf ?_))|skip)))))
  ·simp only [qH,qG,qI,zA0];(refine zV rfl rfl rfl rfl ((jL S.wf _ _).mono ?_);rintro _ h ⟨d,rfl,⟨hd,hq⟩|⟨hd,hq⟩,x⟩)<;>(replace S:=S.qL x;clear x;rw [ex] at hq;(first|(first|refine cT ?_|refine cF ?_))<;>(refine vl ?_;refine qf ?_))
   ·all_goals (repeat' (first|refine qg rfl ?_|refine qj ?_|refine qh ?_|(refine qc 14 ?_;refine mv ?_;refine ad ?_;refine mv ?_;refine qf ?_)))
    refine ⟨i+1,?_,?_,qy⟩
    ·show j0+1 - (i+1)<j0+1 - i;omega
    ·refine ⟨S,⟨by omega,fun k q1 q2=>?_,E.hi,ex⟩,by omega⟩;rcases zA7 k i with q|q
     ·exact E.lo k q1 q
     ·obtain rfl:k=i:=by omega
      exact hq
   ·all_goals (repeat' (first|refine qg rfl ?_|refine qo ?_))
    exact ⟨i,⟨S,E,hi0,fun _=>hq⟩,(qy)⟩
  ·exact ⟨i,⟨S,E,hi0,fun q=>by omega⟩,(qy)⟩
 clear S E hbi;rintro i h ⟨S,E,hi0,hi1⟩;have hbi:=E.bi;refine jU (σ:=Nat) (fun j h'=>Hs h0 h' (.sl v 147 2 jP m :: rs)∧PartI jI a b x i j m∧j≤j0∧(i≤j→jI (m.getD j default) x)) (fun j=>[(0,v),(1,.int .i64 a),(2,.int .i64 b),(3,.int .i64 q),(4,ZF),(12,.int .i64 i),(13,.int .i64 j)]) ?_ ?_
 ·all_goals (repeat' (refine qh ?_))
  refine qJ (σ:=Nat) (fun j h'=>Hs h0 h' (.sl v 147 2 jP m :: rs)∧PartI jI a b x i j m∧j≤j0) (fun j=>j) (fun j=>[(0,v),(1,.int .i64 a),(2,.int .i64 b),(3,.int .i64 q),(4,ZF),(12,.int .i64 i),(13,.int .i64 j)]) j0 qy ?_ ?_
  ·exact ⟨S,E,zA3 _⟩
  clear S E hbi;rintro j h ⟨S,E,hj0⟩;have hbi:=E.bi;all_goals (repeat' (first|refine qi ?_|refine qg rfl ?_|refine qo ?_|(refine qK 15 ?_;refine mv ?_;refine mv ?_;(first|(refine cS ?_ ?_<;>intro hc))<;>(refine mv ?_;(first|refine off ?_|refine mv ?_);(first|refine off ?_|refine mv ?_);(first|refine off ?_|refine mv ?_);(first|refine off ?_|(refine qF S rfl rfl ?_));(first|refine off ?_|(refine qB S rfl rfl ?_));(first|refine off ?_|refine mv ?_);(first|refine off ?_|refine mv ?_);(first|refine off ?_|(refine qF S rfl rfl ?_));(first|refine off ?_|(refine qB S rfl rfl ?_));(first|(refine off ?_;(refine off ?_)<;>((refine off ?_);refine vl ?_;refine qf ?_))|skip)))))
  ·simp only [qH,qG,qI,zA0];(refine zV rfl rfl rfl rfl ((jL S.wf _ _).mono ?_);rintro _ h ⟨d,rfl,⟨hd,hq⟩|⟨hd,hq⟩,x⟩)<;>(replace S:=S.qL x;clear x;rw [ex] at hq;(first|(first|refine cT ?_|refine cF ?_))<;>((refine vl ?_);refine vl ?_;refine qf ?_))
   ·all_goals (repeat' (first|refine qg rfl ?_|refine qo ?_))
    exact ⟨j,⟨S,E,hj0,fun _=>hq⟩,(qy)⟩
   ·all_goals (repeat' (first|refine qg rfl ?_|refine qj ?_|refine qh ?_|(refine qc 16 ?_;refine mv ?_;refine sb ?_;refine mv ?_;refine qf ?_)))
    refine ⟨j - 1,?_,?_,qy⟩
    ·show j - 1<j;omega
    ·refine ⟨S,⟨by omega,E.lo,fun k q1 q2=>?_,ex⟩,by omega⟩;rcases zA7 j k with q|q
     ·exact E.hi k q q2
     ·obtain rfl:k=j:=by omega
      exact hq
  ·exact ⟨j,⟨S,E,hj0,fun q=>by omega⟩,(qy)⟩
 clear S E hbi;rintro j h ⟨S,E,hj0,hj1⟩;have hbi:=E.bi;all_goals (repeat' (first|refine qi ?_|refine qg rfl ?_|refine qj ?_|refine qo ?_|(refine qc 17 ?_;refine mv ?_;refine mv ?_;(first|(refine cS ?_ ?_<;>intro hc))<;>(refine qf ?_))|(refine qK 18 ?_;(iterate 6 refine mv ?_);refine qF S rfl rfl ?_;refine qB S rfl rfl ?_;refine mv ?_;refine mv ?_;refine qF S rfl rfl ?_;refine qB S rfl rfl ?_;refine qF S rfl rfl ?_;(first|(refine zZ S rfl rfl ?_;clear S;intro h S));refine qF S rfl rfl ?_;(first|(refine zZ S rfl rfl ?_;clear S;intro h S));refine qf ?_)|(refine qc 19 ?_;refine mv ?_;refine ad ?_;refine mv ?_;refine qf ?_)|(refine qc 20 ?_;refine mv ?_;refine sb ?_;refine mv ?_;refine qf ?_)|(refine qK 21 ?_;(iterate 6 refine mv ?_);refine qF S rfl rfl ?_;refine qB S rfl rfl ?_;refine mv ?_;refine mv ?_;refine qF S rfl rfl ?_;refine qB S rfl rfl ?_;refine qF S rfl rfl ?_;(first|(refine zZ S rfl rfl ?_;clear S;intro h S));refine qF S rfl rfl ?_;(first|(refine zZ S rfl rfl ?_;clear S;intro h S));refine qf ?_)|(refine qc 22 ?_;(iterate 3 refine mv ?_);refine qf ?_)))
 ·(try simp only [qH,qG,qI,zA0] at S)
  refine qC ⟨_,rfl,?_⟩;exact ⟨j,false,swp m j a,rfl,by omega,s1.step _ _ ⟨by omega,by omega⟩ ⟨by omega,by omega⟩ (by omega),E.done W (by omega) (by omega),S⟩
 ·(try simp only [qH,qG,qI,zA0] at S)
  obtain ⟨z1,z2⟩:=E.swap (by omega) (by omega) (hi1 (by omega)) (hj1 (by omega));refine ⟨(i+1,j - 1,swp m i j),?_,?_,qy⟩
  ·show j - 1+1 - (i+1)<j0+1 - i0;omega
  ·exact ⟨S,s1.step _ _ ⟨by omega,by omega⟩ ⟨by omega,by omega⟩ (by omega),z2⟩
end Go.Proofs.Xx
namespace Go.Proofs.Xx
open Go Go.Proofs
variable [Flag]
theorem qem {h0:AH} {v:Value}:∀ (n:Nat) {h:AH} {rs:List Rs} {l:List Ct} (a b lim:Nat) (S:Hs h0 h (.sl v 147 2 jP l :: rs)) (hn:b - a=n) (hab:a≤b) (hb:b≤l.length) (hl:l.length≤1000000) (hbig:b - a<260) (hlim:lim≤1000) (hlow:0<a→∀ k,a≤k→k<b→¬ jI (l.getD k default) (l.getD (a - 1) default)),
 Fn Tryz.prog Xh 142 [v,.int .i64 a,.int .i64 b,.int .i64 lim,ZF] h (fun _ h'=>∃ l',Sw a b l l'∧Srt jI a b l'∧Hs h0 h' (.sl v 147 2 jP l' :: rs)):=by
 intro n;induction n using Nat.strongRecOn with
 | _ n ih =>
 intro h rs l a b lim S hn hab hb hl hbig hlim hlow;have W:WOrd jI:=Qk;refine qV rfl Tryz.func142 rfl rfl ?_;all_goals (repeat' (first|refine qi ?_|refine qh ?_|(refine qc 0 ?_;refine mv ?_;refine qf ?_)|(refine qc 1 ?_;refine mv ?_;refine qf ?_)))
 refine qJ (σ:=Nat×Nat×Nat×Bool×Bool×List Ct) (fun (a1,b1,lim,wb,wp,m) h'=>Hs h0 h' (.sl v 147 2 jP m :: rs)∧(a≤a1∧a1≤b1∧b1≤b)∧lim≤1000∧Sw a b l m∧DoneI jI a b a1 b1 m) (fun (a1,b1,lim,wb,wp,m)=>b1 - a1) (fun (a1,b1,lim,wb,wp,m)=>[(0,v),(1,.int .i64 a1),(2,.int .i64 b1),(3,.int .i64 lim),(4,ZF),(10,.bool wb),(11,.bool wp)]) (a,b,lim,true,true,l) qy ?_ ?_
 ·exact ⟨S,by omega,hlim,.refl _,.start⟩
 clear S hlim;rintro ⟨a1,b1,lim,wb,wp,m⟩ h ⟨S,h1,hlim,h2,D⟩;have hml:=h2.len;have low:∀ m',Sw a1 b1 m m'→0<a1→∀ k,a1≤k→k<b1→¬ jI (m'.getD k default) (m'.getD (a1 - 1) default):=fun m' s q1 k q2 q3=>by
  rcases zA7 a a1 with q|q
  ·exact (D.sw s h1.1 h1.2.2).low q h1.2.2 k q2 q3
  ·obtain rfl:a=a1:=by omega
   have s2:=h2.trans (s.mono (zA3 _) h1.2.2 (by omega));rw [s2.out (k:=a - 1) (.inl (by omega))];exact s2.all (p:=fun y=>¬ jI y (l.getD (a - 1) default)) (hlow q1) k q2 (by omega)
 have e0:(b1:Int) - (a1:Int)=((b1 - a1:Nat):Int):=by omega
 refine qh ?_;(repeat (refine qi ?_));refine qc 2 ?_;refine mv ?_;refine mv ?_;refine sb ?_;refine mv ?_;refine qf ?_;simp only [e0];(repeat (refine qi ?_));refine qc 3 ?_;refine mv ?_;(first|(refine cS ?_ ?_<;>intro hc))<;>(refine qf ?_)
 ·refine qg rfl ?_;all_goals (repeat' (first|refine qi ?_|(refine qc 4 ?_;(iterate 4 refine mv ?_);skip)))
  (refine qx rfl rfl rfl rfl rfl ((qeC a1 b1 S h1.2.1 (by omega) (by omega)).mono ?_);rintro _ h ⟨l2,g1,g2,S2⟩)<;>(replace S:=S2;clear S2;refine qf ?_)
  all_goals (repeat' (fail))
  refine qC ⟨_,rfl,?_⟩;exact ⟨l2,h2.trans (g1.mono h1.1 h1.2.2 (by omega)),(D.sw g1 h1.1 h1.2.2).finish g2,S⟩
 have hbig2:12<b1 - a1∧b1 - a1<260:=by omega
 refine qg rfl ?_;refine qj ?_;(repeat (refine qi ?_));refine qc 5 ?_;refine mv ?_;(first|(refine cS ?_ ?_<;>intro hc))<;>(refine qf ?_)
 ·refine qg rfl ?_;all_goals (repeat' (first|refine qi ?_|(refine qc 6 ?_;(iterate 4 refine mv ?_);skip)))
  (refine qx rfl rfl rfl rfl rfl ((qdA a1 b1 S (by omega) (by omega) (by omega)).mono ?_);rintro _ h ⟨l2,g1,g2,S2⟩)<;>(replace S:=S2;clear S2;refine qf ?_)
  all_goals (repeat' (fail))
  refine qC ⟨_,rfl,?_⟩;exact ⟨l2,h2.trans (g1.mono h1.1 h1.2.2 (by omega)),(D.sw g1 h1.1 h1.2.2).finish g2,S⟩
 refine qg rfl ?_;refine qj ?_;refine jU (σ:=Nat×List Ct) (fun (lim,m2) h'=>Hs h0 h' (.sl v 147 2 jP m2 :: rs)∧lim≤1000∧Sw a1 b1 m m2) (fun (lim,m2)=>[(0,v),(1,.int .i64 a1),(2,.int .i64 b1),(3,.int .i64 lim),(4,ZF),(10,.bool wb),(11,.bool wp),(12,.int .i64 (b1 - a1:Nat))]) ?_ ?_
 ·cases wb
  ·all_goals (repeat' (first|refine qi ?_|refine qg rfl ?_|(refine qc 7 ?_;refine mv ?_;refine vl ?_;refine qf ?_)|(refine qc 8 ?_;(iterate 4 refine mv ?_);skip)))
   (refine qx rfl rfl rfl rfl rfl ((qeJ a1 b1 S hbig2 (by omega) (by omega)).mono ?_);rintro _ h ⟨l2,g1,S2⟩)<;>(replace S:=S2;clear S2;refine qf ?_)
   all_goals (repeat' (first|(refine qc 9 ?_;refine mv ?_;refine sb ?_;refine mv ?_;refine qf ?_)))
   exact ⟨(lim - 1,l2),⟨S,by show lim - 1≤1000;omega,g1⟩,(qy)⟩
  ·all_goals (repeat' (first|refine qi ?_|refine qg rfl ?_|refine qj ?_|(refine qc 7 ?_;refine mv ?_;refine vl ?_;refine qf ?_)))
   exact ⟨(lim,m),⟨S,hlim,.refl _⟩,(qy)⟩
 clear S hlim;rintro ⟨lim,m2⟩ h ⟨S,hlim,g1⟩;have hm2:=g1.len;(repeat (refine qi ?_));refine qc 10 ?_;(iterate 4 refine mv ?_);skip
 (refine qx rfl rfl rfl rfl rfl ((qei a1 b1 S hbig2 (by omega) (by omega)).mono ?_);rintro _ h ⟨q,t,rfl,hq0,S2⟩)<;>(replace S:=S2;clear S2;refine mv ?_;refine vl ?_;refine vl ?_;refine mv ?_;refine mv ?_;refine qf ?_)
 refine jU (σ:=Nat×Int×List Ct) (fun (q,t,m3) h'=>Hs h0 h' (.sl v 147 2 jP m3 :: rs)∧(a1≤q∧q<b1)∧Sw a1 b1 m2 m3) (fun (q,t,m3)=>[(0,v),(1,.int .i64 a1),(2,.int .i64 b1),(3,.int .i64 lim),(4,ZF),(10,.bool wb),(11,.bool wp),(12,.int .i64 (b1 - a1:Nat)),(13,.int .i64 q),(14,.int .i64 t)]) ?_ ?_
 ·all_goals (repeat' (first|refine qi ?_|refine qg rfl ?_|refine qj ?_|(refine qc 11 ?_;refine mv ?_;(first|(refine cS ?_ ?_<;>intro hc))<;>(refine qf ?_))|(refine qc 12 ?_;(iterate 4 refine mv ?_);skip)))
  ·(refine qx rfl rfl rfl rfl rfl ((qeg a1 b1 S (by omega) (by omega) (by omega)).mono ?_);rintro _ h ⟨l2,k1,S2⟩)<;>(replace S:=S2;clear S2;refine qf ?_)
   all_goals (repeat' (first|refine qi ?_|(refine qc 13 ?_;refine mv ?_;refine sb ?_;refine mv ?_;refine mv ?_;refine sb ?_;refine sb ?_;refine mv ?_;refine qf ?_)|(refine qc 14 ?_;refine mv ?_;refine qf ?_)))
   exact ⟨(b1 - 1 - (q - a1),1,l2),⟨S,by show a1≤b1 - 1 - (q - a1)∧b1 - 1 - (q - a1)<b1;omega,k1⟩,(qy)⟩
  ·exact ⟨(q,t,m2),⟨S,hq0,.refl _⟩,(qy)⟩
 clear S hq0;rintro ⟨q,t,m3⟩ h ⟨S,hq0,g2⟩;have g13:=g1.trans g2;have D3:=D.sw g13 h1.1 h1.2.2;have low3:=low m3 g13;have s3:=h2.trans (g13.mono h1.1 h1.2.2 (by omega));have hm3:=g13.len;refine jU (σ:=List Ct) (fun m3 h'=>Hs h0 h' (.sl v 147 2 jP m3 :: rs)∧Sw a1 b1 m m3) (fun _=>[(0,v),(1,.int .i64 a1),(2,.int .i64 b1),(3,.int .i64 lim),(4,ZF),(10,.bool wb),(11,.bool wp),(12,.int .i64 (b1 - a1:Nat)),(13,.int .i64 q)]) ?_ ?_
 ·cases wb
  ·all_goals (repeat' (first|refine qi ?_|refine qg rfl ?_|refine qj ?_|(refine qc 15 ?_;refine mv ?_;refine mv ?_;refine off ?_;refine vl ?_;refine mv ?_;refine off ?_;(refine off ?_)<;>(refine vl ?_;refine qf ?_))))
   exact ⟨m3,⟨S,g13⟩,(qy)⟩
  cases wp
  ·all_goals (repeat' (first|refine qi ?_|refine qg rfl ?_|refine qj ?_|(refine qc 15 ?_;(iterate 3 refine mv ?_);refine vl ?_;refine mv ?_;refine off ?_;(refine off ?_)<;>(refine vl ?_;refine qf ?_))))
   exact ⟨m3,⟨S,g13⟩,(qy)⟩
  all_goals (repeat' (first|refine qi ?_|refine qg rfl ?_|refine qj ?_|(refine qc 15 ?_;(iterate 3 refine mv ?_);refine vl ?_;refine mv ?_;refine mv ?_;(first|(first|(refine cS ?_ ?_<;>intro hc)))<;>(refine vl ?_;refine qf ?_))|(refine qc 16 ?_;(iterate 4 refine mv ?_);skip)))
  ·(refine qx rfl rfl rfl rfl rfl ((qdn a1 b1 S hbig2 (by omega) (by omega) low3).mono ?_);rintro _ h ⟨m4,gp,⟨rfl,hs⟩|rfl,S2⟩)<;>(replace S:=S2;clear S2;refine qf ?_)
   ·all_goals (repeat' (refine qg rfl ?_))
    refine qC ⟨_,rfl,?_⟩;exact ⟨m4,s3.trans (gp.mono h1.1 h1.2.2 (by omega)),(D3.sw gp h1.1 h1.2.2).finish hs,S⟩
   ·all_goals (repeat' (first|refine qg rfl ?_|refine qj ?_))
    exact ⟨m4,⟨S,g13.trans gp⟩,(qy)⟩
  ·exact ⟨m3,⟨S,g13⟩,(qy)⟩
 clear S D3 low3 s3 hm3 g13 g2;rintro m3 h ⟨S,g13⟩;have D3:=D.sw g13 h1.1 h1.2.2;have low3:=low m3 g13;have s3:=h2.trans (g13.mono h1.1 h1.2.2 (by omega));have hm3:=g13.len;refine jU (σ:=Unit) (fun _ h'=>Hs h0 h' (.sl v 147 2 jP m3 :: rs)) (fun _=>[(0,v),(1,.int .i64 a1),(2,.int .i64 b1),(3,.int .i64 lim),(4,ZF),(10,.bool wb),(11,.bool wp),(12,.int .i64 (b1 - a1:Nat)),(13,.int .i64 q)]) ?_ ?_
 ·all_goals (repeat' (first|refine qi ?_|refine qg rfl ?_|refine qj ?_|(refine qK 17 ?_;refine mv ?_;(first|(refine cS ?_ ?_<;>intro hc))<;>(refine mv ?_;(first|refine off ?_|refine mv ?_);(first|refine off ?_|refine mv ?_);(first|refine off ?_|refine mv ?_);(first|refine off ?_|(refine sb ?_));(first|refine off ?_|(refine qF S rfl rfl ?_));(first|refine off ?_|(refine qB S rfl rfl ?_));(first|refine off ?_|refine mv ?_);(first|refine off ?_|refine mv ?_);(first|refine off ?_|(refine qF S rfl rfl ?_));(first|refine off ?_|(refine qB S rfl rfl ?_));(first|(refine off ?_;(refine off ?_)<;>((refine off ?_);refine vl ?_;refine qf ?_))|skip)))))
  ·simp only [qH,qG,qI,zA0];(refine zV rfl rfl rfl rfl ((jL S.wf _ _).mono ?_);rintro _ h ⟨d,rfl,⟨hd,hq⟩|⟨hd,hq⟩,x⟩)<;>(replace S:=S.qL x;clear x;(first|(first|refine cT ?_|refine cF ?_))<;>((refine vl ?_);refine vl ?_;refine qf ?_))
   ·all_goals (repeat' (first|refine qg rfl ?_|refine qj ?_))
    exact ⟨(),S,(qy)⟩
   ·all_goals (repeat' (first|refine qi ?_|refine qg rfl ?_|(refine qc 18 ?_;(iterate 5 refine mv ?_);skip)))
    (refine qx rfl rfl rfl rfl rfl ((qek a1 b1 q S hq0 (by omega) (by omega)).mono ?_);rintro _ h ⟨e,m4,rfl,e1,e2,e3,e4,S2⟩)<;>(replace S:=S2;clear S2;refine mv ?_;refine qf ?_)
    all_goals (repeat' (first|refine qi ?_|refine qo ?_|(refine qc 19 ?_;refine mv ?_;refine mv ?_;refine qf ?_)))
    refine ⟨(e,b1,lim,wb,wp,m4),?_,?_,qy⟩
    ·show b1 - e<b1 - a1;omega
    ·have s4:=low m4 (g13.trans e2) (by omega);refine ⟨S,by (try dsimp only);omega,hlim,s3.trans (e2.mono h1.1 h1.2.2 (by omega)),(D3.sw e2 h1.1 h1.2.2).eq_ W (x:=m3.getD q default) (show a1≤e∧e≤b1 by omega) e3 e4 fun k q1 q2=>?_⟩;have:=s4 k q1 q2;rw [e2.out (k:=a1 - 1) (.inl (by omega))] at this;exact W.ntr hq this
  ·exact ⟨(),S,(qy)⟩
 clear S;rintro - h S;all_goals (repeat' (first|refine qi ?_|(refine qc 20 ?_;(iterate 5 refine mv ?_);skip)))
 (refine qx rfl rfl rfl rfl rfl ((qdp a1 b1 q S hq0 (by omega) (by omega)).mono ?_);rintro _ h ⟨e,f,m4,rfl,e1,e2,e3,S2⟩)<;>(replace S:=S2;clear S2;refine mv ?_;refine vl ?_;refine vl ?_;refine mv ?_;refine mv ?_;refine qf ?_)
 have D4:=D3.sw e2 h1.1 h1.2.2;have s4:=s3.trans (e2.mono h1.1 h1.2.2 (by omega));have hm4:=e2.len;have low4:=low m4 (g13.trans e2);have ee:(e:Int)+1=((e+1:Nat):Int):=by omega
 all_goals (repeat' (first|refine qi ?_|refine qg rfl ?_|(refine qc 21 ?_;refine mv ?_;refine mv ?_;refine qf ?_)|(refine qc 22 ?_;refine mv ?_;refine mv ?_;refine sb ?_;refine mv ?_;refine mv ?_;refine sb ?_;refine mv ?_;refine mv ?_;refine qf ?_)|(refine qc 23 ?_;refine mv ?_;refine qu ?_;refine mv ?_;refine qf ?_)|(refine qc 24 ?_;refine mv ?_;refine mv ?_;(first|(refine cS ?_ ?_<;>intro hc))<;>(refine qf ?_))|(refine qc 25 ?_;refine mv ?_;refine mv ?_;(first|(refine cS ?_ ?_<;>intro hc))<;>(refine mv ?_;refine qf ?_))|(refine qc 26 ?_;(iterate 5 refine mv ?_);skip)|(refine qc 28 ?_;refine mv ?_;refine mv ?_;(first|(refine cS ?_ ?_<;>intro hc))<;>(refine mv ?_;refine qf ?_))))
 ·(refine qx rfl rfl rfl rfl rfl ((ih (e - a1) (by omega) a1 e lim S rfl (by omega) (by omega) (by omega) (by omega) hlim (fun z k q1 q2=>low4 z k q1 (by omega))).mono ?_);rintro _ h ⟨m5,k1,k2,S2⟩)<;>(replace S:=S2;clear S2;refine qf ?_)
  all_goals (repeat' (first|(refine qc 27 ?_;refine mv ?_;refine ad ?_;refine mv ?_;refine qf ?_)))
  refine ⟨(e+1,b1,lim,true,f,m5),?_,?_,qy⟩
  ·show b1 - (e+1)<b1 - a1;omega
  ·exact ⟨S,by (try dsimp only);omega,hlim,s4.trans (k1.mono h1.1 (by omega) (by omega)),D4.left W e3 (by omega) ⟨h1.1,h1.2.2⟩ k1 k2 (by omega)⟩
 ·(refine qx rfl rfl rfl rfl rfl ((ih (e - a1) (by omega) a1 e lim S rfl (by omega) (by omega) (by omega) (by omega) hlim (fun z k q1 q2=>low4 z k q1 (by omega))).mono ?_);rintro _ h ⟨m5,k1,k2,S2⟩)<;>(replace S:=S2;clear S2;refine qf ?_)
  all_goals (repeat' (first|(refine qc 27 ?_;refine mv ?_;refine ad ?_;refine mv ?_;refine qf ?_)))
  refine ⟨(e+1,b1,lim,false,f,m5),?_,?_,qy⟩
  ·show b1 - (e+1)<b1 - a1;omega
  ·exact ⟨S,by (try dsimp only);omega,hlim,s4.trans (k1.mono h1.1 (by omega) (by omega)),D4.left W e3 (by omega) ⟨h1.1,h1.2.2⟩ k1 k2 (by omega)⟩
 ·refine qc 29 ?_;(refine mv ?_;refine mv ?_;refine ad ?_;(iterate 3 refine mv ?_);skip);simp only [ee];(refine qx rfl rfl rfl rfl rfl ((ih (b1 - (e+1)) (by omega) (e+1) b1 lim S rfl (by omega) (by omega) (by omega) (by omega) hlim (fun z k q1 q2=>e3.2 k (by omega) q2)).mono ?_);rintro _ h ⟨m5,k1,k2,S2⟩)<;>(replace S:=S2;clear S2;refine qf ?_)
  all_goals (repeat' (first|(refine qc 30 ?_;refine mv ?_;refine mv ?_;refine qf ?_)))
  refine ⟨(a1,e,lim,true,f,m5),?_,?_,qy⟩
  ·show e - a1<b1 - a1;omega
  ·exact ⟨S,by (try dsimp only);omega,hlim,s4.trans (k1.mono (by omega) h1.2.2 (by omega)),D4.right W e3 (by omega) ⟨h1.1,h1.2.2⟩ k1 k2 (by omega)⟩
 ·refine qc 29 ?_;(refine mv ?_;refine mv ?_;refine ad ?_;(iterate 3 refine mv ?_);skip);simp only [ee];(refine qx rfl rfl rfl rfl rfl ((ih (b1 - (e+1)) (by omega) (e+1) b1 lim S rfl (by omega) (by omega) (by omega) (by omega) hlim (fun z k q1 q2=>e3.2 k (by omega) q2)).mono ?_);rintro _ h ⟨m5,k1,k2,S2⟩)<;>(replace S:=S2;clear S2;refine qf ?_)
  all_goals (repeat' (first|(refine qc 30 ?_;refine mv ?_;refine mv ?_;refine qf ?_)))
  refine ⟨(a1,e,lim,false,f,m5),?_,?_,qy⟩
  ·show e - a1<b1 - a1;omega
  ·exact ⟨S,by (try dsimp only);omega,hlim,s4.trans (k1.mono (by omega) h1.2.2 (by omega)),D4.right W e3 (by omega) ⟨h1.1,h1.2.2⟩ k1 k2 (by omega)⟩
theorem qdd {h0 h:AH} {rs:List Rs} {v:Value} {l:List Ct} (S:Hs h0 h (.sl v 147 2 jP l :: rs)) (hl:l.length<260) :
 Fn Tryz.prog Xh 109 [v,ZF] h (fun _ h'=>∃ l',Sw 0 l.length l l'∧Srt jI 0 l.length l'∧Hs h0 h' (.sl v 147 2 jP l' :: rs)):=by
 have hk:=qck l.length (by omega);refine qV rfl Tryz.func109 rfl rfl ?_;all_goals (repeat' (first|refine qi ?_|(refine qc 0 ?_;refine mv ?_;refine QC S rfl rfl ?_;refine mv ?_;refine qf ?_)|(refine qc 1 ?_;(iterate 3 refine mv ?_);refine cW ?_)))
 (refine qx rfl rfl rfl rfl rfl ((Po S.wf l.length (by omega)).mono ?_);rintro _ h ⟨rfl,x⟩)<;>(replace S:=S.qL x;clear x;refine mv ?_)
 (refine qx rfl rfl rfl rfl rfl ((qem l.length 0 l.length (WI l.length) S rfl (zB0 _) (zA3 _) (by omega) (by omega) (by omega) (fun z=>by omega)).mono ?_);rintro _ h ⟨l2,g1,g2,S2⟩)<;>(replace S:=S2;clear S2;refine qf ?_)
 all_goals (repeat' (fail))
 refine ⟨_,rfl,?_⟩;exact ⟨l2,g1,g2,S⟩
end Go.Proofs.Xx
namespace Go.Proofs.Xx
open Go Go.Proofs
theorem qaJ {r:Rl} (H:RO r):(r.us.map (·.name)).Nodup:=by
 rw [List.Nodup,zD2];intro i j hi hj hij;simp only [zC5] at hi hj;have:=H.nd i j hij hj;rw [zA2,zA2,zA4 hj,zA4 hi] at this;simpa using this
theorem SS.filter {l:List (List UInt8)} (h:SS l) (p:List UInt8→Bool):SS (l.filter p):=by
 have hp:l.Pairwise zB:=by
  rw [zD2];intro i j hi hj hij;have:=h i j hij hj;rwa [zA2,zA2,zA4 hj,zA4 hi] at this
 have hq:=hp.filter p;intro i j hij hj;have:=zD2.1 hq i j (by omega) hj hij;rw [zA2,zA2,zA4 hj,zA4 (show i<(l.filter p).length by omega)];exact this
variable [Flag]
theorem kM {h0:AH} (w:WfH h0) (v:Value) (l:List (List UInt8)) (hr:Qq h0 v 1 eS l) (hl:l.length≤1000000):Fn Tryz.prog Xh 139 [v] h0 (fun u h'=>∃ l',Sw 0 l.length l l'∧Srt zB 0 l.length l'∧Hs h0 h' [.sl u 9 1 eS l']):=by
 have W:WOrd zB:=jY;have S:=Hs.start w;refine qV rfl Tryz.func139 rfl rfl ?_;all_goals (repeat' (first|refine qi ?_|(refine qc 0 ?_;refine mv ?_;refine qf ?_)|(refine qc 1 ?_;refine mv ?_)))
 (refine qx rfl rfl rfl rfl rfl ((qbw S.wf v l (hr.ext w S.ext) (by omega)).mono ?_);rintro v3 h x)<;>(replace S:=S.Qd x;clear x;refine mv ?_;refine qf ?_)
 all_goals (repeat' (first|refine qi ?_|refine qh ?_|(refine qc 2 ?_;refine mv ?_;refine qf ?_)))
 refine qJ (σ:=Nat×List (List UInt8)) (fun (i,m) h'=>Hs h0 h' [.sl v3 9 1 eS m]∧Sw 0 l.length l m∧Srt zB 0 (min i l.length) m) (fun (i,m)=>l.length - i) (fun (i,m)=>[(3,v3),(4,.int .i64 i)]) (0,l) qy ?_ ?_
 ·exact ⟨S,.refl _,fun i j q1 q2 q3=>by omega⟩
 clear S;rintro ⟨i,m⟩ h ⟨S,g2,g3⟩;have hml:=g2.len;all_goals (repeat' (first|refine qi ?_|refine qg rfl ?_|refine qj ?_|refine qo ?_|refine qh ?_|(refine qc 3 ?_;refine mv ?_;refine mv ?_;refine QC S rfl rfl ?_;(first|(refine cS ?_ ?_<;>intro hc))<;>(refine qf ?_))))
 ·have hib:i<l.length:=by omega
  rw [zE5 (by omega)] at g3;all_goals (repeat' (first|refine qh ?_|(refine qc 5 ?_;refine mv ?_;refine mv ?_;refine qf ?_)))
  refine qJ (σ:=Nat×List (List UInt8)) (fun (j,n) h'=>Hs h0 h' [.sl v3 9 1 eS n]∧j≤i∧Sw 0 l.length l n∧InsI zB 0 i j n) (fun (j,n)=>j) (fun (j,n)=>[(3,v3),(4,.int .i64 i),(5,.int .i64 j)]) (i,m) qy ?_ ?_
  ·exact ⟨S,zA3 _,g2,InsI.start g3⟩
  clear S g2 g3 hml;rintro ⟨j,n⟩ h ⟨S,k2,k3,k4⟩;have hnl:=k3.len;all_goals (repeat' (first|refine qi ?_|refine qg rfl ?_|refine qj ?_|refine qo ?_|refine qh ?_|(refine qK 6 ?_;refine mv ?_;(first|(refine cS ?_ ?_<;>intro hc))<;>(refine mv ?_;(first|refine off ?_|refine mv ?_);(first|refine off ?_|refine mv ?_);(first|refine off ?_|(refine qF S rfl rfl ?_));(first|refine off ?_|(refine qB S rfl rfl ?_));(first|refine off ?_|refine mv ?_);(first|refine off ?_|refine mv ?_);(first|refine off ?_|(refine sb ?_));(first|refine off ?_|(refine qF S rfl rfl ?_));(first|refine off ?_|(refine qB S rfl rfl ?_));(first|refine off ?_|(refine tO ?_ ?_<;>intro hc))<;>(refine vl ?_;refine qf ?_)))))
  all_goals (try simp only [qH,qG,qI,zA0] at *)
  ·have hj0:0<j:=by omega
   all_goals (repeat' (first|(refine qc 7 ?_;refine mv ?_;refine sb ?_;refine mv ?_;refine qf ?_)|(refine qK 8 ?_;(iterate 4 refine mv ?_);refine sb ?_;refine mv ?_;refine mv ?_;refine sb ?_;refine qF S rfl rfl ?_;refine qB S rfl rfl ?_;refine mv ?_;refine mv ?_;refine qF S rfl rfl ?_;refine qB S rfl rfl ?_;refine qF S rfl rfl ?_;(first|(refine zZ S rfl rfl ?_;clear S;intro h S));refine qF S rfl rfl ?_;(first|(refine zZ S rfl rfl ?_;clear S;intro h S));refine qf ?_)))
   (try simp only [qH,qG,qI,zA0] at S)
   refine ⟨(j - 1,swp n j (j - 1)),?_,?_,qy⟩
   ·show j - 1<j;omega
   ·exact ⟨S,by (try dsimp only);omega,k3.step j (j - 1) ⟨by omega,by omega⟩ ⟨by omega,by omega⟩ (by omega),k4.next W hj0 k2 (by omega) hc⟩
  ·skip
   all_goals (repeat' (first|(refine qc 4 ?_;refine mv ?_;refine ad ?_;refine mv ?_;refine qf ?_)))
   refine ⟨(i+1,n),?_,?_,qy⟩
   ·show l.length - (i+1)<l.length - i;omega
   ·simp only [zE5 (show i+1≤l.length by omega)];exact ⟨S,k3,k4.done W (.inr hc)⟩
  ·skip
   all_goals (repeat' (first|(refine qc 4 ?_;refine mv ?_;refine ad ?_;refine mv ?_;refine qf ?_)))
   refine ⟨(i+1,n),?_,?_,qy⟩
   ·show l.length - (i+1)<l.length - i;omega
   ·simp only [zE5 (show i+1≤l.length by omega)];exact ⟨S,k3,k4.done W (.inl (by omega))⟩
 ·rw [Nat.min_eq_right (by omega)] at g3;all_goals (repeat' (first|(refine qc 9 ?_;refine mv ?_;refine mv ?_;refine qf ?_)))
  refine qC ⟨_,rfl,?_⟩;exact ⟨m,g2,g3,S⟩
theorem qab {h0:AH} (w:WfH h0) (v:RlV) (r:Rl) (HR:RlOk h0 v r) (H:RO r):Fn Tryz.prog Xh 133 [v.val] h0 (fun u h'=>∃ l,Hs h0 h' [.sl u 9 1 eS l]∧SS l∧(∀ x,x∈l↔gat r.us x≠none)∧l.length=r.us.length):=by
 have S:=Hs.start w;have hrg:=HR.rg;have hgl:=HR.len;have h64:=H.l64;unfold RlV.val;refine qV rfl Tryz.func133 rfl rfl ?_;all_goals (repeat' (first|refine qi ?_|refine qh ?_|(refine qc 0 ?_;(refine bx S ?_;clear S;intro b h S);refine mv ?_;refine qf ?_)|(refine qc 1 ?_;refine mv ?_;refine qf ?_)|(refine qc 2 ?_;refine mv ?_;refine qf ?_)))
 have S:=S.Zg (e:=9) (z:=1) (enc:=eS);obtain ⟨b1,hnm⟩:∃ x,x=b:=⟨_,rfl⟩;subst hnm;replace S:Hs h0 h (.sl (.slice none 0 0) 9 1 eS [] :: .blk b1 [v.vg.val,v.vt.val] 32 :: []):=S;refine qJ (σ:=Nat×Value) (fun (i,v3) h'=>Hs h0 h' [.sl v3 9 1 eS ((r.us.take i).map (·.name)),.blk b1 [v.vg.val,v.vt.val] 32]∧i≤r.us.length) (fun (i,v3)=>r.us.length - i) (fun (i,v3)=>[(1,.pointer (some ⟨b1,0,none⟩)),(3,v3),(4,.int .i64 i)]) (0,.slice none 0 0) qy ?_ ?_
 ·exact ⟨S,zB0 _⟩
 clear S;rintro ⟨i,v3⟩ h ⟨S,g1⟩;have htl:((r.us.take i).map (·.name)).length≤64:=by simp;omega
 all_goals (repeat' (first|refine qi ?_|refine qg rfl ?_|refine qj ?_|refine qo ?_|refine qh ?_|(refine qc 3 ?_;refine mv ?_;refine vl ?_;refine lB S rfl rfl ?_;refine Qa S ?_;(first|(refine cS ?_ ?_<;>intro hc))<;>(refine qf ?_))))
 ·have hil:i<v.gs.length:=by omega
  have hg:=HR.at_ hil;all_goals (repeat' (first|(refine qc 5 ?_;refine mv ?_;refine vl ?_;refine lB S rfl rfl ?_;refine mv ?_;refine Qv S ?_;refine fB S ?_;refine zu S ?_;(refine one 1 S ?_;clear S;intro u h S))))
  simp only [zA0] at *;refine app (y0:=(v.gs.getD i default).name) S rfl rfl ?_;clear S;intro v3 h S;(refine mv ?_;refine qf ?_);all_goals (repeat' (first|(refine qc 4 ?_;refine mv ?_;refine ad ?_;refine mv ?_;refine qf ?_)))
  refine ⟨(i+1,v3),?_,?_,qy⟩
  ·show r.us.length - (i+1)<r.us.length - i;omega
  ·have e:(r.us.take (i+1)).map (·.name)=(r.us.take i).map (·.name) ++ [(v.gs.getD i default).name]:=by rw [zi (by omega),← hg];simp
   refine ⟨?_,by (try dsimp only);omega⟩;dsimp only;rw [e];exact S.pick
 ·obtain rfl:i=r.us.length:=by omega
  rw [zD4] at S htl;all_goals (repeat' (first|(refine qc 6 ?_;refine mv ?_)))
  (refine qx rfl rfl rfl rfl rfl ((kM S.wf v3 (r.us.map (·.name)) (Rd.Qc S .here) (zD0 htl (by decide))).mono ?_);rintro u h ⟨l,z1,z2,x⟩)<;>(replace S:=S.Qd x;clear x;refine mv ?_;refine qf ?_)
  all_goals (repeat' (fail))
  refine qC ⟨_,rfl,?_⟩;refine ⟨l,S.only .here,SS.of z1 z2 (qaJ H),fun x=>?_,(by rw [z1.len];simp)⟩;rw [z1.perm.mem_iff,Xo,zF1]
end Go.Proofs.Xx
namespace Go.Proofs.Xx
open Go Go.Proofs
def adB (r:Rl) (k:Int) (n x:List UInt8):Bool:=match Zv r.ts n x with|some t=>decide (t.k=k)|none=>false
theorem TgOk.ss {l:List (List UInt8)} (h:TgOk l):SS l:=fun i j hij=>by
 induction j with
 | zero=>omega
 | succ j ih =>
  intro hj;have h1:=(h (j+1) hj).2 (by omega);rw [Nat.add_sub_cancel] at h1;rcases zA7 i j with q|q
  ·exact jX (ih q (by omega)) h1
  ·obtain rfl:i=j:=by omega
   exact h1
variable [Flag]
end Go.Proofs.Xx
