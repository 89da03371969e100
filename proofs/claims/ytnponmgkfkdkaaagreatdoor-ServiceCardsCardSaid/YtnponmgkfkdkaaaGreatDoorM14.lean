/-
  Sorting by a comparing function (Int).
-/
import Derived.Test.YtnponmgkfkdkaaaGreatDoorM13
import Derived.Test.YtnponmgkfkdkaaaGreatDoorM9
import Derived.Test.YtnponmgkfkdkaaaGreatDoorM8
import Derived.Test.YtnponmgkfkdkaaaGreatDoorM11
set_option linter.unusedSimpArgs false
set_option linter.unusedVariables false
set_option linter.unusedSectionVars false
set_option maxRecDepth 100000
set_option maxHeartbeats 4000000
namespace Go.Proofs.Xx
open Go Go.Proofs
variable [Flag] {g nn:Nat} {cap:List Value} {key:Int→Int}
theorem qin {h0 h:AH} [CmpK h0 g cap nn key] {rs:List Rs} {v:Value} {l:List Int} (a b:Nat) (S:Hs h0 h (.sl v 3 1 (eQ nn) l :: rs)) (hab:a≤b) (hb:b≤l.length) (hl:l.length≤1000000) :
 Fn Tryz.prog Xh 187 [v,.int .i64 a,.int .i64 b,(Zk g cap)] h (fun _ h'=>∃ l',Sw a b l l'∧Srt (jG nn key) a b l'∧Hs h0 h' (.sl v 3 1 (eQ nn) l' :: rs)):=by
 have W:WOrd (jG nn key):=(Qv nn key)
 refine qA (by first|rfl) Tryz.func187 rfl rfl ?_;all_goals (repeat' (first|refine qg ?_|refine ql ?_|(refine qc 0 ?_;refine mv ?_;refine ad ?_;refine mv ?_;refine qf ?_)))
 refine qB (σ:=Nat×List Int) (fun (i,m) h'=>Hs h0 h' (.sl v 3 1 (eQ nn) m :: rs)∧a<i∧Sw a b l m∧Srt (jG nn key) a (min i b) m) (fun (i,m)=>b - i) (fun (i,m)=>[(0,v),(1,.int .i64 a),(2,.int .i64 b),(3,(Zk g cap)),(8,.int .i64 i)]) (a+1,l) qw ?_ ?_
 ·exact ⟨S,by omega,.refl _,fun i j q1 q2 q3=>by omega⟩
 clear S;rintro ⟨i,m⟩ h ⟨S,h1,h2,h3⟩;have hml:=h2.len;all_goals (repeat' (first|refine qg ?_|refine qh rfl ?_|refine qi ?_|refine qy ?_|refine ql ?_|(refine qc 1 ?_;refine mv ?_;refine mv ?_;(first|(refine cS ?_ ?_<;>intro hc))<;>(refine qf ?_))|(refine qc 3 ?_;refine mv ?_;refine mv ?_;refine qf ?_)))
 ·have hib:i<b:=by omega
  rw [zE5 (by omega)] at h3;refine qB (σ:=Nat×List Int) (fun (j,n) h'=>Hs h0 h' (.sl v 3 1 (eQ nn) n :: rs)∧a≤j∧j≤i∧Sw a b l n∧InsI (jG nn key) a i j n) (fun (j,n)=>j) (fun (j,n)=>[(0,v),(1,.int .i64 a),(2,.int .i64 b),(3,(Zk g cap)),(8,.int .i64 i),(9,.int .i64 j)]) (i,m) qw ?_ ?_
  ·exact ⟨S,by omega,zA3 _,h2,InsI.start h3⟩
  clear S h2 h3 hml;rintro ⟨j,n⟩ h ⟨S,k1,k2,k3,k4⟩;have hnl:=k3.len;all_goals (repeat' (first|refine qg ?_|refine qh rfl ?_|refine qy ?_|(refine qc 2 ?_;refine mv ?_;refine ad ?_;refine mv ?_;refine qf ?_)|(refine qF 4 ?_;refine mv ?_;refine mv ?_;(first|(refine cS ?_ ?_<;>intro hc))<;>(refine mv ?_;(first|refine off ?_|refine mv ?_);(first|refine off ?_|refine mv ?_);(first|refine off ?_|refine mv ?_);(first|refine off ?_|(refine qR S rfl rfl ?_));(first|refine off ?_|(refine zu S rfl rfl ?_));(first|refine off ?_|refine mv ?_);(first|refine off ?_|refine mv ?_);(first|refine off ?_|(refine sb ?_));(first|refine off ?_|(refine qR S rfl rfl ?_));(first|refine off ?_|(refine zu S rfl rfl ?_));(first|(refine off ?_;(refine off ?_)<;>(refine vl ?_;refine qf ?_))|skip)))))
  ·simp only [qO,qN,qU,zA0];(refine zk rfl rfl rfl rfl (((CmpK.ok (h0:=h0) (g:=g) (cap:=cap) (n:=nn) (key:=key)) S.ext S.wf _ _).mono ?_);rintro _ h ⟨d,rfl,⟨hd,hq⟩|⟨hd,hq⟩,x⟩)<;>(replace S:=S.qx x;clear x;(first|(first|refine cT ?_|refine cF ?_))<;>(refine vl ?_;refine qf ?_))
   ·all_goals (repeat' (first|refine qg ?_|refine qh rfl ?_|refine qi ?_|refine ql ?_|(refine qc 5 ?_;refine mv ?_;refine sb ?_;refine mv ?_;refine qf ?_)|(refine qF 6 ?_;(iterate 4 refine mv ?_);refine sb ?_;refine mv ?_;refine mv ?_;refine sb ?_;refine qR S rfl rfl ?_;refine zu S rfl rfl ?_;refine mv ?_;refine mv ?_;refine qR S rfl rfl ?_;refine zu S rfl rfl ?_;refine qR S rfl rfl ?_;(first|(refine XK S rfl rfl ?_;clear S;intro h S));refine qR S rfl rfl ?_;(first|(refine XK S rfl rfl ?_;clear S;intro h S));refine qf ?_)))
    simp only [qO,qN,qU,zA0] at S;refine ⟨(j - 1,swp n j (j - 1)),?_,?_,qw⟩
    ·show j - 1<j;omega
    ·exact ⟨S,by omega,by omega,k3.step j (j - 1) ⟨by omega,by omega⟩ ⟨by omega,by omega⟩ (by omega),k4.next W (by omega) k2 (by omega) hq⟩
   ·all_goals (repeat' (first|refine qh rfl ?_|refine qy ?_|(refine qc 2 ?_;refine mv ?_;refine ad ?_;refine mv ?_;refine qf ?_)))
    refine ⟨(i+1,n),?_,?_,qw⟩
    ·show b - (i+1)<b - i;omega
    ·simp only [zE5 (show i+1≤b by omega)];exact ⟨S,by omega,k3,k4.done W (.inr hq)⟩
  ·refine ⟨(i+1,n),?_,?_,qw⟩
   ·show b - (i+1)<b - i;omega
   ·simp only [zE5 (show i+1≤b by omega)];exact ⟨S,by omega,k3,k4.done W (.inl (by omega))⟩
 ·rw [Nat.min_eq_right (by omega)] at h3;refine ⟨_,rfl,?_⟩;exact ⟨m,h2,h3,S⟩
theorem qdv {h0 h:AH} [CmpK h0 g cap nn key] {rs:List Rs} {v:Value} {l:List Int} (lo hi f:Nat) (S:Hs h0 h (.sl v 3 1 (eQ nn) l :: rs)) (hlo:lo≤hi) (hb:f+hi≤l.length) (hl:l.length≤1000000) (hh:Heap (jG nn key) f (lo+1) hi l) :
 Fn Tryz.prog Xh 322 [v,.int .i64 lo,.int .i64 hi,.int .i64 f,(Zk g cap)] h (fun _ h'=>∃ l',Sw f (f+hi) l l'∧Heap (jG nn key) f lo hi l'∧Hs h0 h' (.sl v 3 1 (eQ nn) l' :: rs)):=by
 have W:WOrd (jG nn key):=(Qv nn key)
 refine qA (by first|rfl) Tryz.func322 rfl rfl ?_;all_goals (repeat' (first|refine qg ?_|refine ql ?_|(refine qc 0 ?_;refine mv ?_;refine mv ?_;refine qf ?_)))
 refine qB (σ:=Nat×List Int) (fun (root,m) h'=>Hs h0 h' (.sl v 3 1 (eQ nn) m :: rs)∧(lo≤root∧root≤hi)∧Sw f (f+hi) l m∧SiftI (jG nn key) f lo hi root m) (fun (root,m)=>hi - root) (fun (root,m)=>[(0,v),(1,.int .i64 lo),(2,.int .i64 hi),(3,.int .i64 f),(4,(Zk g cap)),(10,.int .i64 root)]) (lo,l) qw ?_ ?_
 ·exact ⟨S,⟨zA3 _,hlo⟩,.refl _,.start hh⟩
 clear S;rintro ⟨root,m⟩ h ⟨S,h1,h2,h3⟩;have hml:=h2.len;by_cases hc0:2*root+1<hi
 rotate_left
 ·all_goals (repeat' (first|refine qg ?_|refine qh rfl ?_|refine qy ?_|refine ql ?_|(refine qc 1 ?_;refine mv ?_;refine ml ?_;refine ad ?_;refine mv ?_;refine qf ?_)|(refine qc 2 ?_;refine mv ?_;refine mv ?_;(refine cT ?_)<;>(refine qf ?_))))
  refine ⟨_,rfl,?_⟩;exact ⟨m,h2,h3.done ⟨fun q=>by omega,fun q=>by omega⟩,S⟩
 have e1:(2:Int)*(root:Int)+1=((2*root+1:Nat):Int):=by omega
 have e2:((f:Int)+((2*root+1:Nat):Int)).toNat=f+(2*root+1):=by omega
 have e3:((f:Int)+((2*root+1:Nat):Int)+1).toNat=f+(2*root+2):=by omega
 have e4:((2*root+1:Nat):Int)+1=((2*root+2:Nat):Int):=by omega
 have e5:((f:Int)+((2*root+2:Nat):Int)).toNat=f+(2*root+2):=by omega
 have fin:∀ c:Nat,(c=2*root+1∨c=2*root+2)→c<hi→(jG nn key) (m.getD (f+root) default) (m.getD (f+c) default)→(∀ d,(d=2*root+1∨d=2*root+2)→d<hi→¬ (jG nn key) (m.getD (f+c) default) (m.getD (f+d) default))→SiftI (jG nn key) f lo hi c (swp m (f+root) (f+c)):=fun c g1 g2 g3 g4=>h3.next W h1.1 g1 g2 (by omega) g4 g3
 have stop:∀ c:Nat,(c=2*root+1∨c=2*root+2)→c<hi→¬ (jG nn key) (m.getD (f+root) default) (m.getD (f+c) default)→(∀ d,(d=2*root+1∨d=2*root+2)→d<hi→¬ (jG nn key) (m.getD (f+c) default) (m.getD (f+d) default))→Heap (jG nn key) f lo hi m:=fun c g1 g2 g3 g4 =>
  h3.done ⟨fun q=>W.ntr (g4 _ (.inl rfl) q) g3,fun q=>W.ntr (g4 _ (.inr rfl) q) g3⟩
 refine ql ?_;(repeat (refine qg ?_));refine qc 1 ?_;refine mv ?_;refine ml ?_;refine ad ?_;refine mv ?_;refine qf ?_;simp only [e1];(repeat (refine qg ?_));refine qc 2 ?_;refine mv ?_;refine mv ?_;(refine cF ?_)<;>(refine qf ?_)
 refine qh rfl ?_;refine qi ?_;refine XE (σ:=Nat) (fun c h'=>Hs h0 h' (.sl v 3 1 (eQ nn) m :: rs)∧(c=2*root+1∨c=2*root+2)∧c<hi∧∀ d,(d=2*root+1∨d=2*root+2)→d<hi→¬ (jG nn key) (m.getD (f+c) default) (m.getD (f+d) default)) (fun c=>[(0,v),(1,.int .i64 lo),(2,.int .i64 hi),(3,.int .i64 f),(4,(Zk g cap)),(10,.int .i64 root),(11,.int .i64 c)]) ?_ ?_
 ·all_goals (repeat' (first|refine qg ?_|refine qh rfl ?_|refine qi ?_|(refine qF 3 ?_;refine mv ?_;refine ad ?_;refine mv ?_;(first|(refine cS ?_ ?_<;>intro hc))<;>(refine mv ?_;(first|refine off ?_|refine mv ?_);(first|refine off ?_|refine mv ?_);(first|refine off ?_|refine mv ?_);(first|refine off ?_|refine mv ?_);(first|refine off ?_|(refine ad ?_));(first|refine off ?_|(refine qR S rfl rfl ?_));(first|refine off ?_|(refine zu S rfl rfl ?_));(first|refine off ?_|refine mv ?_);(first|refine off ?_|refine mv ?_);(first|refine off ?_|refine mv ?_);(first|refine off ?_|(refine ad ?_));(first|refine off ?_|(refine ad ?_));(first|refine off ?_|(refine qR S rfl rfl ?_));(first|refine off ?_|(refine zu S rfl rfl ?_));(first|(refine off ?_;(refine off ?_)<;>(refine vl ?_;refine qf ?_))|skip)))))
  ·simp only [e2,e3];(refine zk rfl rfl rfl rfl (((CmpK.ok (h0:=h0) (g:=g) (cap:=cap) (n:=nn) (key:=key)) S.ext S.wf _ _).mono ?_);rintro _ h ⟨d,rfl,⟨hd,hq⟩|⟨hd,hq⟩,x⟩)<;>(replace S:=S.qx x;clear x;(first|(first|refine cT ?_|refine cF ?_))<;>(refine vl ?_;refine qf ?_))
   ·all_goals (repeat' (first|refine qh rfl ?_|(refine qc 4 ?_;refine mv ?_;refine ad ?_;refine mv ?_;refine qf ?_)))
    exact ⟨2*root+2,⟨S,.inr rfl,by omega,fun d q1 q2=>by rcases q1 with rfl|rfl;exact W.asym hq;exact W.irr _⟩,(qw)⟩
   ·all_goals (repeat' (first|refine qh rfl ?_|refine qi ?_))
    exact ⟨2*root+1,⟨S,.inl rfl,by omega,fun d q1 q2=>by rcases q1 with rfl|rfl;exact W.irr _;exact hq⟩,(qw)⟩
  ·exact ⟨2*root+1,⟨S,.inl rfl,by omega,fun d q1 q2=>by rcases q1 with rfl|rfl;exact W.irr _;omega⟩,(qw)⟩
 clear S;rintro c h ⟨S,g1,g2,g3⟩;all_goals (repeat' (first|refine qg ?_|(refine qF 5 ?_;(iterate 4 refine mv ?_);refine ad ?_;refine qR S rfl rfl ?_;refine zu S rfl rfl ?_;(iterate 3 refine mv ?_);refine ad ?_;refine qR S rfl rfl ?_;refine zu S rfl rfl ?_)))
 simp only [qO,qN,qU,zA0];(refine zk rfl rfl rfl rfl (((CmpK.ok (h0:=h0) (g:=g) (cap:=cap) (n:=nn) (key:=key)) S.ext S.wf _ _).mono ?_);rintro _ h ⟨d,rfl,⟨hd,hq⟩|⟨hd,hq⟩,x⟩)<;>(replace S:=S.qx x;clear x;(first|refine cT ?_|refine cF ?_)<;>(refine vl ?_;refine qf ?_))
 ·all_goals (repeat' (first|refine qg ?_|refine qh rfl ?_|refine qi ?_|(refine qF 6 ?_;(iterate 3 refine mv ?_);refine ad ?_;(iterate 3 refine mv ?_);refine ad ?_;(iterate 3 refine mv ?_);refine ad ?_;refine qR S rfl rfl ?_;refine zu S rfl rfl ?_;(iterate 3 refine mv ?_);refine ad ?_;refine qR S rfl rfl ?_;refine zu S rfl rfl ?_;refine qR S rfl rfl ?_;(first|(refine XK S rfl rfl ?_;clear S;intro h S));refine qR S rfl rfl ?_;(first|(refine XK S rfl rfl ?_;clear S;intro h S));refine qf ?_)|(refine qc 7 ?_;refine mv ?_;refine mv ?_;refine qf ?_)))
  simp only [qO,qN,qU,zA0] at S;refine ⟨(c,swp m (f+root) (f+c)),?_,?_,qw⟩
  ·show hi - c<hi - root;omega
  ·exact ⟨S,⟨by omega,by omega⟩,h2.step _ _ ⟨by omega,by omega⟩ ⟨by omega,by omega⟩ (by omega),fin c g1 g2 hq g3⟩
 ·all_goals (repeat' (refine qh rfl ?_))
  refine qj ⟨_,rfl,?_⟩;exact ⟨m,h2,stop c g1 g2 hq g3,S⟩
theorem qgL {h0 h:AH} [CmpK h0 g cap nn key] {rs:List Rs} {v:Value} {l:List Int} (a b:Nat) (S:Hs h0 h (.sl v 3 1 (eQ nn) l :: rs)) (hab:a<b) (hb:b≤l.length) (hl:l.length≤1000000) :
 Fn Tryz.prog Xh 249 [v,.int .i64 a,.int .i64 b,(Zk g cap)] h (fun _ h'=>∃ l',Sw a b l l'∧Srt (jG nn key) a b l'∧Hs h0 h' (.sl v 3 1 (eQ nn) l' :: rs)):=by
 have W:WOrd (jG nn key):=(Qv nn key)
 refine qA (by first|rfl) Tryz.func249 rfl rfl ?_;all_goals (repeat' (first|refine qg ?_|refine ql ?_|(refine qc 0 ?_;refine mv ?_;refine mv ?_;refine qf ?_)|(refine qc 1 ?_;refine mv ?_;refine qf ?_)|(refine qc 2 ?_;refine mv ?_;refine mv ?_;refine sb ?_;refine mv ?_;refine qf ?_)|(refine qc 3 ?_;refine mv ?_;refine sb ?_;refine qu ?_;refine mv ?_;refine qf ?_)))
 have e1:((b:Int) - (a:Int) - 1) / 2=(((b - a - 1) / 2:Nat):Int):=by omega
 refine qB (σ:=Nat×List Int) (fun (i,m) h'=>Hs h0 h' (.sl v 3 1 (eQ nn) m :: rs)∧i≤b - a∧Sw a b l m∧Heap (jG nn key) a i (b - a) m) (fun (i,m)=>i) (fun (i,m)=>[(0,v),(1,.int .i64 a),(2,.int .i64 b),(3,(Zk g cap)),(8,.int .i64 a),(9,.int .i64 0),(10,.int .i64 (b - a:Nat)),(11,.int .i64 ((i:Int) - 1))]) ((b - a - 1) / 2+1,l) qw ?_ ?_
 ·exact ⟨S,by omega,.refl _,fun k hk=>⟨fun q=>by omega,fun q=>by omega⟩⟩
 clear S;rintro ⟨i,m⟩ h ⟨S,h1,h2,h3⟩;have hml:=h2.len;all_goals (repeat' (first|refine qg ?_|refine qh rfl ?_|refine qi ?_|refine qy ?_|refine ql ?_|(refine qc 4 ?_;refine mv ?_;(first|(refine cS ?_ ?_<;>intro hc))<;>(refine qf ?_))))
 ·have e2:(i:Int) - 1=((i - 1:Nat):Int):=by omega
  have h4:Heap (jG nn key) a (i - 1+1) (b - a) m:=by rw [Nat.sub_add_cancel (by omega)];exact h3
  refine qc 6 ?_;((iterate 5 refine mv ?_);skip);simp only [e2];(refine qm rfl rfl rfl rfl rfl ((qdv (i - 1) (b - a) a S (by omega) (by omega) (by omega) h4).mono ?_);rintro _ h ⟨l2,g1,g2,S2⟩)<;>(replace S:=S2;clear S2;refine qf ?_)
  rw [show a+(b - a)=b by omega] at g1;all_goals (repeat' (first|(refine qc 5 ?_;refine mv ?_;refine sb ?_;refine mv ?_;refine qf ?_)))
  refine ⟨(i - 1,l2),?_,?_,qw⟩
  ·show i - 1<i;omega
  ·exact ⟨S,by omega,h2.trans g1,g2⟩
 obtain rfl:i=0:=by omega
 all_goals (repeat' (first|refine ql ?_|(refine qc 7 ?_;refine mv ?_;refine sb ?_;refine mv ?_;refine qf ?_)))
 refine qB (σ:=Nat×List Int) (fun (i,m) h'=>Hs h0 h' (.sl v 3 1 (eQ nn) m :: rs)∧i≤b - a∧Sw a b l m∧HeapI (jG nn key) a i (b - a) m) (fun (i,m)=>i) (fun (i,m)=>[(0,v),(1,.int .i64 a),(2,.int .i64 b),(3,(Zk g cap)),(8,.int .i64 a),(9,.int .i64 0),(10,.int .i64 (b - a:Nat)),(12,.int .i64 ((i:Int) - 1))]) (b - a,m) qw ?_ ?_
 ·exact ⟨S,zA3 _,h2,h3,fun p q q1 q2 q3=>by omega⟩
 clear S h1 h2 h3 hml;rintro ⟨i,m⟩ h ⟨S,h1,h2,h3⟩;have hml:=h2.len;all_goals (repeat' (first|refine qg ?_|refine qh rfl ?_|refine qi ?_|refine qy ?_|refine ql ?_|(refine qc 8 ?_;refine mv ?_;(first|(refine cS ?_ ?_<;>intro hc))<;>(refine qf ?_))))
 ·have e2:(i:Int) - 1=((i - 1:Nat):Int):=by omega
  obtain ⟨k,rfl⟩:∃ k,i=k+1:=⟨i - 1,by omega⟩
  all_goals (repeat' (first|(refine qF 10 ?_;(iterate 5 refine mv ?_);refine ad ?_;(iterate 3 refine mv ?_);refine ad ?_;refine qR S rfl rfl ?_;refine zu S rfl rfl ?_;refine mv ?_;refine mv ?_;refine qR S rfl rfl ?_;refine zu S rfl rfl ?_;refine qR S rfl rfl ?_;(first|(refine XK S rfl rfl ?_;clear S;intro h S));refine qR S rfl rfl ?_;(first|(refine XK S rfl rfl ?_;clear S;intro h S));refine qf ?_)))
  refine qc 11 ?_;((iterate 5 refine mv ?_);skip);simp only [Nat.add_sub_cancel] at e2;simp only [e2,qU,zA0] at S ⊢;replace S:Hs h0 h (.sl v 3 1 (eQ nn) (swp m a (a+k)) :: rs):=S;have s1:Sw a b l (swp m a (a+k)):=h2.step _ _ ⟨by omega,by omega⟩ ⟨by omega,by omega⟩ (by omega);have hsl:=s1.len;(refine qm rfl rfl rfl rfl rfl ((qdv 0 k a S (by omega) (by omega) (by omega) (h3.1.pop (by omega))).mono ?_);rintro _ h ⟨l2,g1,g2,S2⟩)<;>(replace S:=S2;clear S2;refine qf ?_)
  all_goals (repeat' (first|(refine qc 9 ?_;refine mv ?_;refine sb ?_;refine mv ?_;refine qf ?_)))
  refine ⟨(k,l2),?_,?_,qw⟩
  ·show k<k+1;omega
  ·exact ⟨S,by omega,s1.trans (g1.mono (zA3 _) (by omega) (by omega)),h3.pop W (by omega) (by omega) g1 g2⟩
 obtain rfl:i=0:=by omega
 refine ⟨_,rfl,?_⟩;exact ⟨m,h2,h3.done (by omega),S⟩
theorem qhX {h0 h:AH} [CmpK h0 g cap nn key] {rs:List Rs} {v:Value} {l:List Int} (a b:Nat) (S:Hs h0 h (.sl v 3 1 (eQ nn) l :: rs)) (hab:a<b) (hb:b≤l.length) (hl:l.length≤1000000) :
 Fn Tryz.prog Xh 252 [v,.int .i64 a,.int .i64 b,(Zk g cap)] h (fun _ h'=>∃ l',Sw a b l l'∧Hs h0 h' (.sl v 3 1 (eQ nn) l' :: rs)):=by
 have W:WOrd (jG nn key):=(Qv nn key)
 refine qA (by first|rfl) Tryz.func252 rfl rfl ?_;all_goals (repeat' (first|refine qg ?_|refine ql ?_|(refine qc 0 ?_;refine mv ?_;refine mv ?_;refine qf ?_)|(refine qc 1 ?_;refine mv ?_;refine sb ?_;refine mv ?_;refine qf ?_)))
 refine qB (σ:=Nat×Nat×List Int) (fun (i,j,m) h'=>Hs h0 h' (.sl v 3 1 (eQ nn) m :: rs)∧a≤i∧j<b∧Sw a b l m) (fun (i,j,m)=>j - i) (fun (i,j,m)=>[(0,v),(1,.int .i64 a),(2,.int .i64 b),(3,(Zk g cap)),(8,.int .i64 i),(9,.int .i64 j)]) (a,b - 1,l) qw ?_ ?_
 ·exact ⟨S,zA3 _,by omega,.refl _⟩
 clear S;rintro ⟨i,j,m⟩ h ⟨S,h1,h2,h3⟩;have hml:=h3.len;all_goals (repeat' (first|refine qg ?_|refine qh rfl ?_|refine qi ?_|refine qy ?_|refine ql ?_|(refine qc 2 ?_;refine mv ?_;refine mv ?_;(first|(refine cS ?_ ?_<;>intro hc))<;>(refine qf ?_))|(refine qF 3 ?_;(iterate 6 refine mv ?_);refine qR S rfl rfl ?_;refine zu S rfl rfl ?_;refine mv ?_;refine mv ?_;refine qR S rfl rfl ?_;refine zu S rfl rfl ?_;refine qR S rfl rfl ?_;(first|(refine XK S rfl rfl ?_;clear S;intro h S));refine qR S rfl rfl ?_;(first|(refine XK S rfl rfl ?_;clear S;intro h S));refine qf ?_)|(refine qc 4 ?_;refine mv ?_;refine ad ?_;refine mv ?_;refine qf ?_)|(refine qc 5 ?_;refine mv ?_;refine sb ?_;refine mv ?_;refine qf ?_)))
 ·(try simp only [qO,qN,qU,zA0] at S)
  refine ⟨(i+1,j - 1,swp m i j),?_,?_,qw⟩
  ·show j - 1 - (i+1)<j - i;omega
  ·exact ⟨S,by omega,by omega,h3.step _ _ ⟨by omega,by omega⟩ ⟨by omega,by omega⟩ (by omega)⟩
 ·refine ⟨_,rfl,?_⟩;exact ⟨m,h3,S⟩
theorem qaP {h0 h:AH} [CmpK h0 g cap nn key] {rs:List Rs} {v:Value} {l:List Int} {bs:Nat} {s:Int} (x y:Nat) (S:Hs h0 h (.blk bs [.int .i64 s] 3 :: .sl v 3 1 (eQ nn) l :: rs)) (hx:x<l.length) (hy:y<l.length) (hl:l.length≤1000000) (hs:0≤s∧s≤100) :
 Fn Tryz.prog Xh 356 [v,.int .i64 x,.int .i64 y,.pointer (some ⟨bs,0,none⟩),(Zk g cap)] h (fun r h'=>∃ (p q:Nat) (s':Int),r = .tuple #[.int .i64 p,.int .i64 q]∧((p=x∧q=y)∨(p=y∧q=x))∧(0≤s'∧s'≤s+1)∧Hs h0 h' (.blk bs [.int .i64 s'] 3 :: .sl v 3 1 (eQ nn) l :: rs)):=by
 have W:WOrd (jG nn key):=(Qv nn key)
 refine qA (by first|rfl) Tryz.func356 rfl rfl ?_;all_goals (repeat' (first|refine qg ?_|(refine qc 0 ?_;refine mv ?_;refine mv ?_;refine qf ?_)|(refine qF 1 ?_;(iterate 3 refine mv ?_);refine qR S rfl rfl ?_;refine zu S rfl rfl ?_;refine mv ?_;refine mv ?_;refine qR S rfl rfl ?_;refine zu S rfl rfl ?_)))
 (try simp only [qO,qN,qU,zA0])
 (refine zk rfl rfl rfl rfl (((CmpK.ok (h0:=h0) (g:=g) (cap:=cap) (n:=nn) (key:=key)) S.ext S.wf _ _).mono ?_);rintro _ h ⟨d,rfl,⟨hd,hq⟩|⟨hd,hq⟩,x⟩)<;>(replace S:=S.qx x;clear x;(first|refine cT ?_|refine cF ?_)<;>(refine qf ?_))
 ·all_goals (repeat' (first|refine qg ?_|refine qh rfl ?_|(refine qc 2 ?_;refine mv ?_;refine vl ?_;refine lB S rfl rfl ?_;refine ad ?_;refine vl ?_;(first|(refine sB S rfl rfl ?_;clear S;intro h S));refine qf ?_)|(refine qc 3 ?_;(iterate 4 refine mv ?_);refine qf ?_)))
  refine qj ⟨_,rfl,?_⟩;exact ⟨y,x,s+1,rfl,.inr ⟨rfl,rfl⟩,by omega,S⟩
 ·all_goals (repeat' (first|refine qg ?_|refine qh rfl ?_|refine qi ?_|(refine qc 4 ?_;(iterate 4 refine mv ?_);refine qf ?_)))
  refine qj ⟨_,rfl,?_⟩;exact ⟨x,y,s,rfl,.inl ⟨rfl,rfl⟩,by omega,S⟩
theorem qf4 {h0 h:AH} [CmpK h0 g cap nn key] {rs:List Rs} {v:Value} {l:List Int} {bs:Nat} {s:Int} (x y z:Nat) (S:Hs h0 h (.blk bs [.int .i64 s] 3 :: .sl v 3 1 (eQ nn) l :: rs)) (hx:x<l.length) (hy:y<l.length) (hz:z<l.length) (hl:l.length≤1000000) (hs:0≤s∧s≤90) :
 Fn Tryz.prog Xh 324 [v,.int .i64 x,.int .i64 y,.int .i64 z,.pointer (some ⟨bs,0,none⟩),(Zk g cap)] h (fun r h'=>∃ (p:Nat) (s':Int),r = .int .i64 p∧(p=x∨p=y∨p=z)∧(0≤s'∧s'≤s+3)∧Hs h0 h' (.blk bs [.int .i64 s'] 3 :: .sl v 3 1 (eQ nn) l :: rs)):=by
 have W:WOrd (jG nn key):=(Qv nn key)
 refine qA (by first|rfl) Tryz.func324 rfl rfl ?_;all_goals (repeat' (first|refine qg ?_|(refine qc 0 ?_;refine mv ?_;refine qf ?_)|(refine qc 1 ?_;(iterate 5 refine mv ?_);skip)))
 (refine qm rfl rfl rfl rfl rfl ((qaP x y S hx hy hl (by omega)).mono ?_);rintro _ h ⟨p1,q1,s1,rfl,e1,e2,S2⟩)<;>(replace S:=S2;clear S2;refine mv ?_;refine vl ?_;refine vl ?_;refine mv ?_;refine mv ?_;refine qf ?_)
 all_goals (repeat' (first|refine qg ?_|(refine qc 2 ?_;(iterate 5 refine mv ?_);skip)))
 have b1:p1<l.length∧q1<l.length:=by omega
 (refine qm rfl rfl rfl rfl rfl ((qaP q1 z S b1.2 hz hl (by omega)).mono ?_);rintro _ h ⟨p2,q2,s2,rfl,e3,e4,S2⟩)<;>(replace S:=S2;clear S2;refine mv ?_;refine vl ?_;refine vl ?_;refine mv ?_;refine mv ?_;refine qf ?_)
 all_goals (repeat' (first|refine qg ?_|(refine qc 3 ?_;(iterate 5 refine mv ?_);skip)))
 have b2:p2<l.length:=by omega
 (refine qm rfl rfl rfl rfl rfl ((qaP p1 p2 S b1.1 b2 hl (by omega)).mono ?_);rintro _ h ⟨p3,q3,s3,rfl,e5,e6,S2⟩)<;>(replace S:=S2;clear S2;refine mv ?_;refine vl ?_;refine vl ?_;refine mv ?_;refine mv ?_;refine qf ?_)
 all_goals (repeat' (first|refine qg ?_|(refine qc 4 ?_;refine mv ?_;refine mv ?_;refine qf ?_)))
 refine qj ⟨_,rfl,?_⟩;exact ⟨q3,s3,rfl,by omega,by omega,S⟩
theorem qaV {h0 h:AH} [CmpK h0 g cap nn key] {rs:List Rs} {v:Value} {l:List Int} {bs:Nat} {s:Int} (x:Nat) (S:Hs h0 h (.blk bs [.int .i64 s] 3 :: .sl v 3 1 (eQ nn) l :: rs)) (hx:0<x∧x+1<l.length) (hl:l.length≤1000000) (hs:0≤s∧s≤90) :
 Fn Tryz.prog Xh 323 [v,.int .i64 x,.pointer (some ⟨bs,0,none⟩),(Zk g cap)] h (fun r h'=>∃ (p:Nat) (s':Int),r = .int .i64 p∧(x - 1≤p∧p≤x+1)∧(0≤s'∧s'≤s+3)∧Hs h0 h' (.blk bs [.int .i64 s'] 3 :: .sl v 3 1 (eQ nn) l :: rs)):=by
 have e1:(x:Int) - 1=((x - 1:Nat):Int):=by omega
 have e2:(x:Int)+1=((x+1:Nat):Int):=by omega
 refine qA (by first|rfl) Tryz.func323 rfl rfl ?_;all_goals (repeat' (first|refine qg ?_|(refine qc 0 ?_;refine mv ?_;refine qf ?_)|(refine qc 1 ?_;refine mv ?_;refine mv ?_;refine sb ?_;refine mv ?_;refine mv ?_;refine ad ?_;refine mv ?_;refine mv ?_)))
 simp only [e1,e2];(refine qm rfl rfl rfl rfl rfl ((qf4 (x - 1) x (x+1) S (by omega) (by omega) (by omega) hl (by omega)).mono ?_);rintro _ h ⟨q,s,rfl,g1,g2,S2⟩)<;>(replace S:=S2;clear S2;refine mv ?_;refine qf ?_)
 all_goals (repeat' (fail))
 refine qj ⟨_,rfl,?_⟩;exact ⟨q,s,rfl,by omega,by omega,S⟩
theorem qh1 {h0 h:AH} [CmpK h0 g cap nn key] {rs:List Rs} {v:Value} {l:List Int} (a b:Nat) (S:Hs h0 h (.sl v 3 1 (eQ nn) l :: rs)) (hab:12<b - a∧b - a<260) (hb:b≤l.length) (hl:l.length≤1000000) :
 Fn Tryz.prog Xh 251 [v,.int .i64 a,.int .i64 b,(Zk g cap)] h (fun r h'=>∃ (q:Nat) (t:Int),r = .tuple #[.int .i64 q,.int .i64 t]∧(a≤q∧q<b)∧Hs h0 h' (.sl v 3 1 (eQ nn) l :: rs)):=by
 have W:WOrd (jG nn key):=(Qv nn key)
 refine qA (by first|rfl) Tryz.func251 rfl rfl ?_;all_goals (repeat' (first|refine qg ?_|refine qh rfl ?_|(refine qc 0 ?_;refine mv ?_;refine mv ?_;refine qf ?_)|(refine qc 1 ?_;refine mv ?_;refine mv ?_;refine sb ?_;refine mv ?_;refine qf ?_)|(refine qc 2 ?_;(refine al S ?_;clear S;intro b h S);refine qf ?_)|(refine qc 3 ?_;refine mv ?_;refine mv ?_;refine qu ?_;refine ml ?_;refine ad ?_;refine mv ?_;refine qf ?_)|(refine qc 4 ?_;refine mv ?_;refine mv ?_;refine qu ?_;refine ml ?_;refine ad ?_;refine mv ?_;refine qf ?_)|(refine qc 5 ?_;refine mv ?_;refine mv ?_;refine qu ?_;refine ml ?_;refine ad ?_;refine mv ?_;refine qf ?_)|(refine qc 6 ?_;refine mv ?_;(refine cT ?_)<;>(refine qf ?_))))
 obtain ⟨bs,hnm⟩:∃ x,x=b:=⟨_,rfl⟩;subst hnm;have e1:(a:Int)+((b:Int) - (a:Int)) / 4*1=((a+(b - a) / 4*1:Nat):Int):=by omega
 have e2:(a:Int)+((b:Int) - (a:Int)) / 4*2=((a+(b - a) / 4*2:Nat):Int):=by omega
 have e3:(a:Int)+((b:Int) - (a:Int)) / 4*3=((a+(b - a) / 4*3:Nat):Int):=by omega
 simp only [e1,e2,e3];(repeat (refine qg ?_));first|refine zL (σ:=Nat×Nat×Nat×Int) (fun (i,j,k,s) h'=>Hs h0 h' (.blk bs [.int .i64 s] 3 :: .sl v 3 1 (eQ nn) l :: rs)∧(a≤i∧i<b)∧(a≤j∧j<b)∧(a≤k∧k<b)∧0≤s∧s≤9) (fun (i,j,k,s)=>[(0,v),(3,(Zk g cap)),(11,.pointer (some ⟨bs,0,none⟩)),(12,.int .i64 i),(13,.int .i64 j),(14,.int .i64 k)]) ?_ ?_
 ·all_goals (repeat' (first|refine qg ?_|refine qh rfl ?_|refine qi ?_|(refine qc 7 ?_;refine mv ?_;(first|(refine cS ?_ ?_<;>intro hc))<;>(refine qf ?_))|(refine qc 8 ?_;(iterate 3 refine mv ?_);skip)))
  ·(refine qm rfl rfl rfl rfl rfl ((qaV (a+(b - a) / 4*1) S (by omega) hl (by omega)).mono ?_);rintro _ h ⟨q,s,rfl,g1,g2,S2⟩)<;>(replace S:=S2;clear S2;refine mv ?_;refine qf ?_)
   all_goals (repeat' (first|refine qg ?_|(refine qc 9 ?_;(iterate 3 refine mv ?_);skip)))
   (refine qm rfl rfl rfl rfl rfl ((qaV (a+(b - a) / 4*2) S (by omega) hl (by omega)).mono ?_);rintro _ h ⟨q2,s2,rfl,g3,g4,S2⟩)<;>(replace S:=S2;clear S2;refine mv ?_;refine qf ?_)
   all_goals (repeat' (first|(refine qc 10 ?_;(iterate 3 refine mv ?_);skip)))
   (refine qm rfl rfl rfl rfl rfl ((qaV (a+(b - a) / 4*3) S (by omega) hl (by omega)).mono ?_);rintro _ h ⟨q3,s3,rfl,g5,g6,S2⟩)<;>(replace S:=S2;clear S2;refine mv ?_;refine qf ?_)
   all_goals (repeat' (fail))
   exact ⟨(q,q2,q3,s3),⟨S,by (try dsimp only);omega,by (try dsimp only);omega,by (try dsimp only);omega,by (try dsimp only);omega,by (try dsimp only);omega⟩,(qw)⟩
  ·exact ⟨(a+(b - a) / 4*1,a+(b - a) / 4*2,a+(b - a) / 4*3,0),⟨S,by (try dsimp only);omega,by (try dsimp only);omega,by (try dsimp only);omega,by (try dsimp only);omega,by (try dsimp only);omega⟩,(qw)⟩
 clear S;rintro ⟨i,j,k,s⟩ h ⟨S,k1,k2,k3,k4⟩;all_goals (repeat' (first|(refine qc 11 ?_;(iterate 5 refine mv ?_);skip)))
 (refine qm rfl rfl rfl rfl rfl ((qf4 i j k S (by omega) (by omega) (by omega) hl (by omega)).mono ?_);rintro _ h ⟨q,s,rfl,g1,g2,S2⟩)<;>(replace S:=S2;clear S2;refine mv ?_;refine qf ?_)
 all_goals (repeat' (first|refine qg ?_|refine qh rfl ?_|refine ql ?_|(refine qc 12 ?_;refine lB S rfl rfl ?_;refine qf ?_)|(refine qc 13 ?_;(iterate 3 refine mv ?_);refine qf ?_)|(refine qc 14 ?_;(first|(refine cS ?_ ?_<;>intro hc))<;>(refine mv ?_;refine qf ?_))|(refine qc 15 ?_;(iterate 3 refine mv ?_);refine qf ?_)|(refine qc 16 ?_;(first|(refine cS ?_ ?_<;>intro hc))<;>(refine mv ?_;refine qf ?_))|(refine qc 17 ?_;(iterate 3 refine mv ?_);refine qf ?_)))
 all_goals (refine qj ⟨_,rfl,?_⟩)
 all_goals exact ⟨q,_,rfl,by omega,S.tail⟩
theorem qiG {h0 h:AH} [CmpK h0 g cap nn key] {rs:List Rs} {v:Value} {l:List Int} (a b:Nat) (S:Hs h0 h (.sl v 3 1 (eQ nn) l :: rs)) (hab:12<b - a∧b - a<260) (hb:b≤l.length) (hl:l.length≤1000000) :
 Fn Tryz.prog Xh 250 [v,.int .i64 a,.int .i64 b,(Zk g cap)] h (fun _ h'=>∃ l',Sw a b l l'∧Hs h0 h' (.sl v 3 1 (eQ nn) l' :: rs)):=by
 have W:WOrd (jG nn key):=(Qv nn key)
 have e1:(b:Int) - (a:Int)=((b - a:Nat):Int):=by omega
 refine qA (by first|rfl) Tryz.func250 rfl rfl ?_;all_goals (repeat' (first|refine qg ?_|refine qh rfl ?_|(refine qc 0 ?_;refine mv ?_;refine mv ?_;refine sb ?_;refine mv ?_;refine qf ?_)|(refine qc 1 ?_;refine mv ?_;(refine cT ?_)<;>(refine qf ?_))|(refine qc 2 ?_;refine mv ?_;refine cW ?_;(refine al S ?_;clear S;intro b h S);(first|(refine sB S rfl rfl ?_;clear S;intro h S));refine qf ?_)|(refine qc 3 ?_;refine mv ?_)))
 obtain ⟨bs,hnm⟩:∃ x,x=b:=⟨_,rfl⟩;subst hnm;simp only [e1];(refine qm rfl rfl rfl rfl rfl ((qdT S.wf (b - a) (by omega)).mono ?_);rintro _ h ⟨P,rfl,hP1,hP2,x⟩)<;>(replace S:=S.qx x;clear x;refine mv ?_;refine qf ?_)
 all_goals (repeat' (first|refine qg ?_|refine ql ?_|(refine qc 4 ?_;refine mv ?_;refine mv ?_;refine qu ?_;refine ml ?_;refine ad ?_;refine sb ?_;refine mv ?_;refine qf ?_)))
 obtain ⟨w0,hw0⟩:∃ w0:Int,w0=(b:Int) - (a:Int):=⟨_,rfl⟩
 refine qB (σ:=Nat×Int×List Int) (fun (i,z,m) h'=>Hs h0 h' (.blk bs [.int .u64 z] 228 :: .sl v 3 1 (eQ nn) m :: rs)∧(0≤z∧z≤18446744073709551615)∧a+(b - a) / 4*2 - 1≤i∧i≤a+(b - a) / 4*2+2∧Sw a b l m) (fun (i,z,m)=>a+(b - a) / 4*2+2 - i) (fun (i,z,m)=>[(0,v),(1,.int .i64 a),(2,.int .i64 b),(3,(Zk g cap)),(8,.int .i64 (b - a:Nat)),(9,.pointer (some ⟨bs,0,none⟩)),(10,.int .u64 P),(11,.int .i64 i)]) (a+(b - a) / 4*2 - 1,w0,l) qw ?_ ?_
 ·exact ⟨by rw [hw0];exact S,by omega,by omega,by omega,.refl _⟩
 clear S;rintro ⟨i,z,m⟩ h ⟨S,h1,h2,h3,h4⟩;have hml:=h4.len;all_goals (repeat' (first|refine qg ?_|refine qh rfl ?_|refine qi ?_|refine qy ?_|refine ql ?_|(refine qc 5 ?_;(iterate 3 refine mv ?_);refine qu ?_;refine ml ?_;refine ad ?_;refine ad ?_;(first|(refine cS ?_ ?_<;>intro hc))<;>(refine qf ?_))|(refine qc 7 ?_;skip)))
 ·(refine qm rfl rfl rfl rfl rfl ((qc0 S h1).mono ?_);rintro _ h ⟨y,rfl,hy,S2⟩)<;>(replace S:=S2;clear S2;refine mv ?_;refine sW ?_;(refine aM ?_;intro r1 hr1 hr2);refine cI ?_;refine mv ?_;refine qf ?_)
  obtain ⟨k,rfl⟩:=zH3 hr1;all_goals (repeat' (first|refine qg ?_|refine qh rfl ?_|refine qi ?_|(refine qc 8 ?_;refine mv ?_;refine mv ?_;(first|(refine cS ?_ ?_<;>intro hc))<;>(refine qf ?_))|(refine qc 9 ?_;refine mv ?_;refine mv ?_;refine sb ?_;refine mv ?_;refine qf ?_)))
  ·have e5:(k:Int) - ((b - a:Nat):Int)=((k - (b - a):Nat):Int):=by omega
   simp only [e5];all_goals (repeat' (first|(refine qc 6 ?_;refine mv ?_;refine ad ?_;refine mv ?_;refine qf ?_)|(refine qF 10 ?_;(iterate 5 refine mv ?_);refine ad ?_;(iterate 3 refine mv ?_);refine ad ?_;refine qR S rfl rfl ?_;refine zu S rfl rfl ?_;refine mv ?_;refine mv ?_;refine qR S rfl rfl ?_;refine zu S rfl rfl ?_;refine qR S rfl rfl ?_;(first|(refine XK S rfl rfl ?_;clear S;intro h S));refine qR S rfl rfl ?_;(first|(refine XK S rfl rfl ?_;clear S;intro h S));refine qf ?_)))
   (try simp only [qO,qN,qU,zA0] at S)
   refine ⟨(i+1,y,swp m i (a+(k - (b - a)))),?_,?_,qw⟩
   ·show a+(b - a) / 4*2+2 - (i+1)<a+(b - a) / 4*2+2 - i;omega
   ·exact ⟨S,hy,by omega,by omega,h4.step _ _ ⟨by omega,by omega⟩ ⟨by omega,by omega⟩ (by omega)⟩
  ·skip
   all_goals (repeat' (first|(refine qc 6 ?_;refine mv ?_;refine ad ?_;refine mv ?_;refine qf ?_)|(refine qF 10 ?_;(iterate 5 refine mv ?_);refine ad ?_;(iterate 3 refine mv ?_);refine ad ?_;refine qR S rfl rfl ?_;refine zu S rfl rfl ?_;refine mv ?_;refine mv ?_;refine qR S rfl rfl ?_;refine zu S rfl rfl ?_;refine qR S rfl rfl ?_;(first|(refine XK S rfl rfl ?_;clear S;intro h S));refine qR S rfl rfl ?_;(first|(refine XK S rfl rfl ?_;clear S;intro h S));refine qf ?_)))
   (try simp only [qO,qN,qU,zA0] at S)
   refine ⟨(i+1,y,swp m i (a+k)),?_,?_,qw⟩
   ·show a+(b - a) / 4*2+2 - (i+1)<a+(b - a) / 4*2+2 - i;omega
   ·exact ⟨S,hy,by omega,by omega,h4.step _ _ ⟨by omega,by omega⟩ ⟨by omega,by omega⟩ (by omega)⟩
 ·refine ⟨_,rfl,?_⟩;exact ⟨m,h4,S.tail⟩
theorem Srt.qh7 {a i:Nat} {m n:List Int} (h:Srt (jG nn key) a i m) (e:∀ k,a≤k→k<i→n.getD k default=m.getD k default):Srt (jG nn key) a i n:=fun p q h1 h2 h3=>by
 rw [e p h1 (by omega),e q (by omega) h3];exact h p q h1 h2 h3
theorem qgx {h0 h:AH} [CmpK h0 g cap nn key] {rs:List Rs} {v:Value} {l:List Int} (a b:Nat) (S:Hs h0 h (.sl v 3 1 (eQ nn) l :: rs)) (hab:12<b - a∧b - a<260) (hb:b≤l.length) (hl:l.length≤1000000) (hlow:0<a→∀ k,a≤k→k<b→¬ (jG nn key) (l.getD k default) (l.getD (a - 1) default)) :
 Fn Tryz.prog Xh 253 [v,.int .i64 a,.int .i64 b,(Zk g cap)] h (fun r h'=>∃ l',Sw a b l l'∧((r = .bool true∧Srt (jG nn key) a b l')∨r = .bool false)∧Hs h0 h' (.sl v 3 1 (eQ nn) l' :: rs)):=by
 have W:WOrd (jG nn key):=(Qv nn key)
 have low:∀ n,Sw a b l n→0<a→¬ (jG nn key) (n.getD a default) (n.getD (a - 1) default):=fun n s q=>by
  rw [s.out (k:=a - 1) (.inl (by omega))];exact s.all (p:=fun y=>¬ (jG nn key) y (l.getD (a - 1) default)) (hlow q) a (zA3 _) (by omega)
 refine qA (by first|rfl) Tryz.func253 rfl rfl ?_;all_goals (repeat' (first|refine qg ?_|refine ql ?_|(refine qc 0 ?_;refine mv ?_;refine qf ?_)|(refine qc 1 ?_;refine mv ?_;refine ad ?_;refine mv ?_;refine qf ?_)|(refine qc 2 ?_;refine mv ?_;refine qf ?_)))
 refine qB (σ:=Nat×Nat×List Int) (fun (i,c,m) h'=>Hs h0 h' (.sl v 3 1 (eQ nn) m :: rs)∧(a<i∧i≤b)∧c≤5∧Sw a b l m∧Srt (jG nn key) a i m) (fun (i,c,m)=>5 - c) (fun (i,c,m)=>[(0,v),(1,.int .i64 a),(2,.int .i64 b),(3,(Zk g cap)),(9,.int .i64 i),(10,.int .i64 c)]) (a+1,0,l) qw ?_ ?_
 ·exact ⟨S,by omega,by omega,.refl _,fun i j q1 q2 q3=>by omega⟩
 clear S;rintro ⟨i,c,m⟩ h ⟨S,h1,hc5,s1,h3⟩;have hml:=s1.len;all_goals (repeat' (first|refine qg ?_|refine qh rfl ?_|refine qi ?_|refine qy ?_|refine ql ?_|(refine qc 3 ?_;refine mv ?_;(first|(refine cS ?_ ?_<;>intro hc))<;>(refine qf ?_))|(refine qc 24 ?_;refine mv ?_;refine qf ?_)))
 ·refine qB (σ:=Nat) (fun i h'=>Hs h0 h' (.sl v 3 1 (eQ nn) m :: rs)∧(a<i∧i≤b)∧Srt (jG nn key) a i m) (fun i=>b - i) (fun i=>[(0,v),(1,.int .i64 a),(2,.int .i64 b),(3,(Zk g cap)),(9,.int .i64 i),(10,.int .i64 c)]) i qw ?_ ?_
  ·exact ⟨S,by omega,h3⟩
  clear S h1 h3;rintro i h ⟨S,h1,h3⟩;all_goals (repeat' (first|refine qg ?_|refine qh rfl ?_|refine qy ?_|(refine qF 5 ?_;refine mv ?_;refine mv ?_;(first|(refine cS ?_ ?_<;>intro hc))<;>(refine mv ?_;(first|refine off ?_|refine mv ?_);(first|refine off ?_|refine mv ?_);(first|refine off ?_|refine mv ?_);(first|refine off ?_|(refine qR S rfl rfl ?_));(first|refine off ?_|(refine zu S rfl rfl ?_));(first|refine off ?_|refine mv ?_);(first|refine off ?_|refine mv ?_);(first|refine off ?_|(refine sb ?_));(first|refine off ?_|(refine qR S rfl rfl ?_));(first|refine off ?_|(refine zu S rfl rfl ?_));(first|(refine off ?_;(refine off ?_)<;>((refine off ?_);refine vl ?_;refine qf ?_))|skip)))))
  ·simp only [qO,qN,qU,zA0];(refine zk rfl rfl rfl rfl (((CmpK.ok (h0:=h0) (g:=g) (cap:=cap) (n:=nn) (key:=key)) S.ext S.wf _ _).mono ?_);rintro _ h ⟨d,rfl,⟨hd,hq⟩|⟨hd,hq⟩,x⟩)<;>(replace S:=S.qx x;clear x;(first|(first|refine cT ?_|refine cF ?_))<;>((refine vl ?_);refine vl ?_;refine qf ?_))
   ·all_goals (repeat' (first|refine qg ?_|refine qh rfl ?_|refine qi ?_|refine qy ?_|(refine qc 7 ?_;refine mv ?_;refine mv ?_;(refine cF ?_)<;>(refine qf ?_))|(refine qc 9 ?_;refine mv ?_;refine mv ?_;refine sb ?_;(first|(refine cS ?_ ?_<;>intro hc))<;>(refine qf ?_))|(refine qc 10 ?_;refine mv ?_;refine qf ?_)))
    ·refine qj ⟨_,rfl,?_⟩;exact ⟨m,s1,.inr rfl,S⟩
    ·all_goals (repeat' (first|refine qg ?_|(refine qF 11 ?_;(iterate 4 refine mv ?_);refine sb ?_;refine mv ?_;refine mv ?_;refine sb ?_;refine qR S rfl rfl ?_;refine zu S rfl rfl ?_;refine mv ?_;refine mv ?_;refine qR S rfl rfl ?_;refine zu S rfl rfl ?_;refine qR S rfl rfl ?_;(first|(refine XK S rfl rfl ?_;clear S;intro h S));refine qR S rfl rfl ?_;(first|(refine XK S rfl rfl ?_;clear S;intro h S));refine qf ?_)))
     simp only [qO,qN,qU,zA0] at S;have s2:Sw a b l (swp m i (i - 1)):=s1.step _ _ ⟨by omega,by omega⟩ ⟨by omega,by omega⟩ (by omega);have hm2:=s2.len;have h4:Srt (jG nn key) a (i - 1) (swp m i (i - 1)):=Srt.qh7 (m:=m) (fun p q z1 z2 z3=>h3 p q z1 z2 (by omega)) fun k z1 z2=>by rw [swp_get (by omega) (by omega),if_neg (by omega),if_neg (by omega)]
     replace S:Hs h0 h (.sl v 3 1 (eQ nn) (swp m i (i - 1)) :: rs):=S;generalize swp m i (i - 1)=m2 at S s2 h4 hm2
     (repeat (refine qg ?_));first|refine zL (σ:=List Int) (fun m h'=>Hs h0 h' (.sl v 3 1 (eQ nn) m :: rs)∧Sw a b l m∧Srt (jG nn key) a i m) (fun m=>[(0,v),(1,.int .i64 a),(2,.int .i64 b),(3,(Zk g cap)),(9,.int .i64 i),(10,.int .i64 c)]) ?_ ?_
     ·all_goals (repeat' (first|refine qg ?_|refine qh rfl ?_|refine qi ?_|refine ql ?_|(refine qc 12 ?_;refine mv ?_;refine mv ?_;refine sb ?_;(first|(refine cS ?_ ?_<;>intro hc))<;>(refine qf ?_))|(refine qc 13 ?_;refine mv ?_;refine sb ?_;refine mv ?_;refine qf ?_)))
      ·refine qB (σ:=Nat×List Int) (fun (j,n) h'=>Hs h0 h' (.sl v 3 1 (eQ nn) n :: rs)∧(a≤j∧j≤i - 1)∧Sw a b l n∧InsI (jG nn key) a (i - 1) j n) (fun (j,n)=>j) (fun (j,n)=>[(0,v),(1,.int .i64 a),(2,.int .i64 b),(3,(Zk g cap)),(9,.int .i64 i),(10,.int .i64 c),(11,.int .i64 j)]) (i - 1,m2) qw ?_ ?_
       ·exact ⟨S,by (try dsimp only);omega,s2,InsI.start h4⟩
       clear S s2 h4 hm2;rintro ⟨j,n⟩ h ⟨S,k1,k2,k3⟩;have hnl:=k2.len;all_goals (repeat' (first|refine qg ?_|refine qh rfl ?_|refine qi ?_|refine qy ?_|refine ql ?_|(refine qc 14 ?_;refine mv ?_;(first|(refine cS ?_ ?_<;>intro hc))<;>(refine qf ?_))|(refine qF 16 ?_;(iterate 3 refine mv ?_);refine qR S rfl rfl ?_;refine zu S rfl rfl ?_;refine mv ?_;refine mv ?_;refine sb ?_;refine qR S rfl rfl ?_;refine zu S rfl rfl ?_)))
       ·simp only [qO,qN,qU,zA0];(refine zk rfl rfl rfl rfl (((CmpK.ok (h0:=h0) (g:=g) (cap:=cap) (n:=nn) (key:=key)) S.ext S.wf _ _).mono ?_);rintro _ h ⟨d,rfl,⟨hd,hq2⟩|⟨hd,hq2⟩,x⟩)<;>(replace S:=S.qx x;clear x;(first|refine cT ?_|refine cF ?_)<;>(refine vl ?_;refine qf ?_))
        ·have hja:a<j:=by
          rcases zA7 a j with z|z
          ·exact z
          ·obtain rfl:j=a:=by omega
           exact absurd hq2 (low n k2 (by omega))
         all_goals (repeat' (first|refine qh rfl ?_|refine qi ?_|(refine qc 15 ?_;refine mv ?_;refine sb ?_;refine mv ?_;refine qf ?_)|(refine qF 17 ?_;(iterate 4 refine mv ?_);refine sb ?_;refine mv ?_;refine mv ?_;refine sb ?_;refine qR S rfl rfl ?_;refine zu S rfl rfl ?_;refine mv ?_;refine mv ?_;refine qR S rfl rfl ?_;refine zu S rfl rfl ?_;refine qR S rfl rfl ?_;(first|(refine XK S rfl rfl ?_;clear S;intro h S));refine qR S rfl rfl ?_;(first|(refine XK S rfl rfl ?_;clear S;intro h S));refine qf ?_)))
         simp only [qO,qN,qU,zA0] at S;refine ⟨(j - 1,swp n j (j - 1)),?_,?_,qw⟩
         ·show j - 1<j;omega
         ·exact ⟨S,by (try dsimp only);omega,k2.step _ _ ⟨by omega,by omega⟩ ⟨by omega,by omega⟩ (by omega),k3.next W hja k1.2 (by omega) hq2⟩
        ·all_goals (repeat' (first|refine qh rfl ?_|refine qy ?_))
         exact ⟨n,⟨S,k2,by have:=k3.done W (.inr hq2);rwa [show i - 1+1=i by omega] at this⟩,(qw)⟩
       ·exact ⟨n,⟨S,k2,by have:=k3.done W (.inl (by omega));rwa [show i - 1+1=i by omega] at this⟩,(qw)⟩
      ·exact ⟨m2,⟨S,s2,fun p q z1 z2 z3=>by omega⟩,(qw)⟩
     clear S s2 h4 hm2 m2;rintro m2 h ⟨S,s2,h4⟩;have hm2:=s2.len;all_goals (repeat' (first|refine qg ?_|refine qh rfl ?_|refine qi ?_|refine ql ?_|(refine qc 4 ?_;refine mv ?_;refine ad ?_;refine mv ?_;refine qf ?_)|(refine qc 18 ?_;refine mv ?_;refine mv ?_;refine sb ?_;(first|(refine cS ?_ ?_<;>intro hc))<;>(refine qf ?_))|(refine qc 19 ?_;refine mv ?_;refine ad ?_;refine mv ?_;refine qf ?_)))
     ·refine qB (σ:=Nat×List Int) (fun (j,n) h'=>Hs h0 h' (.sl v 3 1 (eQ nn) n :: rs)∧(i<j∧j≤b)∧Sw a b l n∧Srt (jG nn key) a i n) (fun (j,n)=>b - j) (fun (j,n)=>[(0,v),(1,.int .i64 a),(2,.int .i64 b),(3,(Zk g cap)),(9,.int .i64 i),(10,.int .i64 c),(12,.int .i64 j)]) (i+1,m2) qw ?_ ?_
      ·exact ⟨S,by (try dsimp only);omega,s2,h4⟩
      clear S s2 h4 hm2;rintro ⟨j,n⟩ h ⟨S,k1,k2,k3⟩;have hnl:=k2.len;all_goals (repeat' (first|refine qg ?_|refine qh rfl ?_|refine qi ?_|refine qy ?_|refine ql ?_|(refine qc 20 ?_;refine mv ?_;refine mv ?_;(first|(refine cS ?_ ?_<;>intro hc))<;>(refine qf ?_))|(refine qF 22 ?_;(iterate 3 refine mv ?_);refine qR S rfl rfl ?_;refine zu S rfl rfl ?_;refine mv ?_;refine mv ?_;refine sb ?_;refine qR S rfl rfl ?_;refine zu S rfl rfl ?_)))
      ·simp only [qO,qN,qU,zA0];(refine zk rfl rfl rfl rfl (((CmpK.ok (h0:=h0) (g:=g) (cap:=cap) (n:=nn) (key:=key)) S.ext S.wf _ _).mono ?_);rintro _ h ⟨d,rfl,⟨hd,hq2⟩|⟨hd,hq2⟩,x⟩)<;>(replace S:=S.qx x;clear x;(first|refine cT ?_|refine cF ?_)<;>(refine vl ?_;refine qf ?_))
       ·all_goals (repeat' (first|refine qh rfl ?_|refine qi ?_|(refine qc 21 ?_;refine mv ?_;refine ad ?_;refine mv ?_;refine qf ?_)|(refine qF 23 ?_;(iterate 4 refine mv ?_);refine sb ?_;refine mv ?_;refine mv ?_;refine sb ?_;refine qR S rfl rfl ?_;refine zu S rfl rfl ?_;refine mv ?_;refine mv ?_;refine qR S rfl rfl ?_;refine zu S rfl rfl ?_;refine qR S rfl rfl ?_;(first|(refine XK S rfl rfl ?_;clear S;intro h S));refine qR S rfl rfl ?_;(first|(refine XK S rfl rfl ?_;clear S;intro h S));refine qf ?_)))
        simp only [qO,qN,qU,zA0] at S;refine ⟨(j+1,swp n j (j - 1)),?_,?_,qw⟩
        ·show b - (j+1)<b - j;omega
        ·refine ⟨S,by (try dsimp only);omega,k2.step _ _ ⟨by omega,by omega⟩ ⟨by omega,by omega⟩ (by omega),k3.qh7 fun k z1 z2=>?_⟩;rw [swp_get (by omega) (by omega),if_neg (by omega),if_neg (by omega)]
       ·all_goals (repeat' (first|refine qh rfl ?_|refine qy ?_|(refine qc 4 ?_;refine mv ?_;refine ad ?_;refine mv ?_;refine qf ?_)))
        refine ⟨(i,c+1,n),?_,?_,qw⟩
        ·show 5 - (c+1)<5 - c;omega
        ·exact ⟨S,h1,by (try dsimp only);omega,k2,k3⟩
      ·all_goals (repeat' (first|(refine qc 4 ?_;refine mv ?_;refine ad ?_;refine mv ?_;refine qf ?_)))
       refine ⟨(i,c+1,n),?_,?_,qw⟩
       ·show 5 - (c+1)<5 - c;omega
       ·exact ⟨S,h1,by (try dsimp only);omega,k2,k3⟩
     ·refine ⟨(i,c+1,m2),?_,?_,qw⟩
      ·show 5 - (c+1)<5 - c;omega
      ·exact ⟨S,h1,by (try dsimp only);omega,s2,h4⟩
   ·all_goals (repeat' (first|refine qh rfl ?_|refine qi ?_|refine ql ?_|(refine qc 6 ?_;refine mv ?_;refine ad ?_;refine mv ?_;refine qf ?_)))
    refine ⟨i+1,?_,?_,qw⟩
    ·show b - (i+1)<b - i;omega
    ·refine ⟨S,by omega,Srt.adj W fun k q1 q2=>?_⟩;rcases zA7 (k+1) i with q|q
     ·exact h3 k (k+1) q1 (by omega) q
     ·obtain rfl:i=k+1:=by omega
      exact hq
  ·obtain rfl:i=b:=by omega
   all_goals (repeat' (first|refine qg ?_|refine qh rfl ?_|(refine qc 7 ?_;refine mv ?_;refine mv ?_;(refine cT ?_)<;>(refine qf ?_))|(refine qc 8 ?_;refine mv ?_;refine qf ?_)))
   refine qj ⟨_,rfl,?_⟩;exact ⟨m,s1,.inl ⟨rfl,h3⟩,S⟩
 ·refine qj ⟨_,rfl,?_⟩;exact ⟨m,s1,.inr rfl,S⟩
theorem qh3 {h0 h:AH} [CmpK h0 g cap nn key] {rs:List Rs} {v:Value} {l:List Int} (a b q:Nat) (S:Hs h0 h (.sl v 3 1 (eQ nn) l :: rs)) (hab:a≤q∧q<b) (hb:b≤l.length) (hl:l.length≤1000000) :
 Fn Tryz.prog Xh 254 [v,.int .i64 a,.int .i64 b,.int .i64 q,(Zk g cap)] h (fun r h'=>∃ (e:Nat) (l':List Int),r = .int .i64 e∧(a<e∧e≤b)∧Sw a b l l'∧(∀ k,a≤k→k<e→¬ (jG nn key) (l.getD q default) (l'.getD k default))∧(∀ k,e≤k→k<b→(jG nn key) (l.getD q default) (l'.getD k default))∧Hs h0 h' (.sl v 3 1 (eQ nn) l' :: rs)):=by
 have W:WOrd (jG nn key):=(Qv nn key)
 obtain ⟨x,hx⟩:∃ x,x=l.getD q default:=⟨_,rfl⟩
 rw [← hx];refine qA (by first|rfl) Tryz.func254 rfl rfl ?_;all_goals (repeat' (first|refine qg ?_|refine ql ?_|(refine qc 0 ?_;refine mv ?_;refine qf ?_)|(refine qF 1 ?_;(iterate 6 refine mv ?_);refine qR S rfl rfl ?_;refine zu S rfl rfl ?_;refine mv ?_;refine mv ?_;refine qR S rfl rfl ?_;refine zu S rfl rfl ?_;refine qR S rfl rfl ?_;(first|(refine XK S rfl rfl ?_;clear S;intro h S));refine qR S rfl rfl ?_;(first|(refine XK S rfl rfl ?_;clear S;intro h S));refine qf ?_)|(refine qc 2 ?_;refine mv ?_;refine ad ?_;refine mv ?_;refine sb ?_;refine mv ?_;refine mv ?_;refine qf ?_)))
 (try simp only [qO,qN,qU,zA0] at S)
 have s1:Sw a b l (swp l a q):=.one _ _ ⟨by omega,by omega⟩ ⟨by omega,by omega⟩ hb;have x1:(swp l a q).getD a default=x:=by
  rw [swp_get (by omega) (by omega),hx];split
  ·rename_i e;rw [e]
  ·rw [if_pos rfl]
 refine qB (σ:=Nat×Nat×List Int) (fun (i,j,m) h'=>Hs h0 h' (.sl v 3 1 (eQ nn) m :: rs)∧Sw a b l m∧EqI (jG nn key) a b x i j m) (fun (i,j,m)=>j+1 - i) (fun (i,j,m)=>[(0,v),(1,.int .i64 a),(2,.int .i64 b),(3,.int .i64 q),(4,(Zk g cap)),(11,.int .i64 i),(12,.int .i64 j)]) (a+1,b - 1,swp l a q) qw ?_ ?_
 ·exact ⟨S,s1,⟨by omega,fun k q1 q2=>by omega,fun k q1 q2=>by omega,x1⟩⟩
 clear S s1 x1;rintro ⟨i0,j0,m⟩ h ⟨S,s1,E⟩;have hml:=s1.len;have hbi:=E.bi;have ex:=E.x;refine ql ?_;refine XE (σ:=Nat) (fun i h'=>Hs h0 h' (.sl v 3 1 (eQ nn) m :: rs)∧EqI (jG nn key) a b x i j0 m∧i0≤i∧(i≤j0→(jG nn key) x (m.getD i default))) (fun i=>[(0,v),(1,.int .i64 a),(2,.int .i64 b),(3,.int .i64 q),(4,(Zk g cap)),(11,.int .i64 i),(12,.int .i64 j0)]) ?_ ?_
 ·all_goals (repeat' (refine ql ?_))
  refine qB (σ:=Nat) (fun i h'=>Hs h0 h' (.sl v 3 1 (eQ nn) m :: rs)∧EqI (jG nn key) a b x i j0 m∧i0≤i) (fun i=>j0+1 - i) (fun i=>[(0,v),(1,.int .i64 a),(2,.int .i64 b),(3,.int .i64 q),(4,(Zk g cap)),(11,.int .i64 i),(12,.int .i64 j0)]) i0 qw ?_ ?_
  ·exact ⟨S,E,zA3 _⟩
  clear S E hbi;rintro i h ⟨S,E,hi0⟩;have hbi:=E.bi;all_goals (repeat' (first|refine qg ?_|refine qh rfl ?_|refine qy ?_|(refine qF 3 ?_;refine mv ?_;refine mv ?_;(first|(refine cS ?_ ?_<;>intro hc))<;>(refine mv ?_;(first|refine off ?_|refine mv ?_);(first|refine off ?_|refine mv ?_);(first|refine off ?_|refine mv ?_);(first|refine off ?_|(refine qR S rfl rfl ?_));(first|refine off ?_|(refine zu S rfl rfl ?_));(first|refine off ?_|refine mv ?_);(first|refine off ?_|refine mv ?_);(first|refine off ?_|(refine qR S rfl rfl ?_));(first|refine off ?_|(refine zu S rfl rfl ?_));(first|(refine off ?_;(refine off ?_)<;>((refine off ?_);refine vl ?_;refine qf ?_))|skip)))))
  ·simp only [qO,qN,qU,zA0];(refine zk rfl rfl rfl rfl (((CmpK.ok (h0:=h0) (g:=g) (cap:=cap) (n:=nn) (key:=key)) S.ext S.wf _ _).mono ?_);rintro _ h ⟨d,rfl,⟨hd,hq⟩|⟨hd,hq⟩,x⟩)<;>(replace S:=S.qx x;clear x;rw [ex] at hq;(first|(first|refine cT ?_|refine cF ?_))<;>((refine vl ?_);refine vl ?_;refine qf ?_))
   ·all_goals (repeat' (first|refine qh rfl ?_|refine qy ?_))
    exact ⟨i,⟨S,E,hi0,fun _=>hq⟩,(qw)⟩
   ·all_goals (repeat' (first|refine qh rfl ?_|refine qi ?_|refine ql ?_|(refine qc 4 ?_;refine mv ?_;refine ad ?_;refine mv ?_;refine qf ?_)))
    refine ⟨i+1,?_,?_,qw⟩
    ·show j0+1 - (i+1)<j0+1 - i;omega
    ·refine ⟨S,⟨by omega,fun k q1 q2=>?_,E.hi,ex⟩,by omega⟩;rcases zA7 k i with q|q
     ·exact E.lo k q1 q
     ·obtain rfl:k=i:=by omega
      exact hq
  ·exact ⟨i,⟨S,E,hi0,fun q=>by omega⟩,(qw)⟩
 clear S E hbi;rintro i h ⟨S,E,hi0,hi1⟩;have hbi:=E.bi;refine XE (σ:=Nat) (fun j h'=>Hs h0 h' (.sl v 3 1 (eQ nn) m :: rs)∧EqI (jG nn key) a b x i j m∧j≤j0∧(i≤j→¬ (jG nn key) x (m.getD j default))) (fun j=>[(0,v),(1,.int .i64 a),(2,.int .i64 b),(3,.int .i64 q),(4,(Zk g cap)),(11,.int .i64 i),(12,.int .i64 j)]) ?_ ?_
 ·all_goals (repeat' (refine ql ?_))
  refine qB (σ:=Nat) (fun j h'=>Hs h0 h' (.sl v 3 1 (eQ nn) m :: rs)∧EqI (jG nn key) a b x i j m∧j≤j0) (fun j=>j) (fun j=>[(0,v),(1,.int .i64 a),(2,.int .i64 b),(3,.int .i64 q),(4,(Zk g cap)),(11,.int .i64 i),(12,.int .i64 j)]) j0 qw ?_ ?_
  ·exact ⟨S,E,zA3 _⟩
  clear S E hbi;rintro j h ⟨S,E,hj0⟩;have hbi:=E.bi;all_goals (repeat' (first|refine qg ?_|refine qh rfl ?_|refine qy ?_|(refine qF 5 ?_;refine mv ?_;refine mv ?_;(first|(refine cS ?_ ?_<;>intro hc))<;>(refine mv ?_;(first|refine off ?_|refine mv ?_);(first|refine off ?_|refine mv ?_);(first|refine off ?_|refine mv ?_);(first|refine off ?_|(refine qR S rfl rfl ?_));(first|refine off ?_|(refine zu S rfl rfl ?_));(first|refine off ?_|refine mv ?_);(first|refine off ?_|refine mv ?_);(first|refine off ?_|(refine qR S rfl rfl ?_));(first|refine off ?_|(refine zu S rfl rfl ?_));(first|(refine off ?_;(refine off ?_)<;>(refine vl ?_;refine qf ?_))|skip)))))
  ·simp only [qO,qN,qU,zA0];(refine zk rfl rfl rfl rfl (((CmpK.ok (h0:=h0) (g:=g) (cap:=cap) (n:=nn) (key:=key)) S.ext S.wf _ _).mono ?_);rintro _ h ⟨d,rfl,⟨hd,hq⟩|⟨hd,hq⟩,x⟩)<;>(replace S:=S.qx x;clear x;rw [ex] at hq;(first|(first|refine cT ?_|refine cF ?_))<;>(refine vl ?_;refine qf ?_))
   ·all_goals (repeat' (first|refine qh rfl ?_|refine qi ?_|refine ql ?_|(refine qc 6 ?_;refine mv ?_;refine sb ?_;refine mv ?_;refine qf ?_)))
    refine ⟨j - 1,?_,?_,qw⟩
    ·show j - 1<j;omega
    ·refine ⟨S,⟨by omega,E.lo,fun k q1 q2=>?_,ex⟩,by omega⟩;rcases zA7 j k with q|q
     ·exact E.hi k q q2
     ·obtain rfl:k=j:=by omega
      exact hq
   ·all_goals (repeat' (first|refine qh rfl ?_|refine qy ?_))
    exact ⟨j,⟨S,E,hj0,fun _=>hq⟩,(qw)⟩
  ·exact ⟨j,⟨S,E,hj0,fun q=>by omega⟩,(qw)⟩
 clear S E hbi;rintro j h ⟨S,E,hj0,hj1⟩;have hbi:=E.bi;all_goals (repeat' (first|refine qg ?_|refine qh rfl ?_|refine qi ?_|refine qy ?_|(refine qc 7 ?_;refine mv ?_;refine mv ?_;(first|(refine cS ?_ ?_<;>intro hc))<;>(refine qf ?_))|(refine qF 8 ?_;(iterate 6 refine mv ?_);refine qR S rfl rfl ?_;refine zu S rfl rfl ?_;refine mv ?_;refine mv ?_;refine qR S rfl rfl ?_;refine zu S rfl rfl ?_;refine qR S rfl rfl ?_;(first|(refine XK S rfl rfl ?_;clear S;intro h S));refine qR S rfl rfl ?_;(first|(refine XK S rfl rfl ?_;clear S;intro h S));refine qf ?_)|(refine qc 9 ?_;refine mv ?_;refine ad ?_;refine mv ?_;refine qf ?_)|(refine qc 10 ?_;refine mv ?_;refine sb ?_;refine mv ?_;refine qf ?_)|(refine qc 11 ?_;refine mv ?_;refine mv ?_;refine qf ?_)))
 ·refine qj ⟨_,rfl,?_⟩;refine ⟨i,m,rfl,by omega,s1,fun k q1 q2=>?_,fun k q1 q2=>E.hi k (by omega) q2,S⟩;rcases zA7 a k with q|q
  ·exact E.lo k q q2
  ·obtain rfl:k=a:=by omega
   rw [ex];exact W.irr _
 ·(try simp only [qO,qN,qU,zA0] at S)
  obtain ⟨z1,z2⟩:=E.swap (by omega) (by omega) (hi1 (by omega)) (hj1 (by omega));refine ⟨(i+1,j - 1,swp m i j),?_,?_,qw⟩
  ·show j - 1+1 - (i+1)<j0+1 - i0;omega
  ·exact ⟨S,s1.step _ _ ⟨by omega,by omega⟩ ⟨by omega,by omega⟩ (by omega),z2⟩
theorem qgz {h0 h:AH} [CmpK h0 g cap nn key] {rs:List Rs} {v:Value} {l:List Int} (a b q:Nat) (S:Hs h0 h (.sl v 3 1 (eQ nn) l :: rs)) (hab:a≤q∧q<b) (hb:b≤l.length) (hl:l.length≤1000000) :
 Fn Tryz.prog Xh 255 [v,.int .i64 a,.int .i64 b,.int .i64 q,(Zk g cap)] h (fun r h'=>∃ (e:Nat) (f:Bool) (l':List Int),r = .tuple #[.int .i64 e,.bool f]∧(a≤e∧e<b)∧Sw a b l l'∧Parted (jG nn key) a b e l'∧Hs h0 h' (.sl v 3 1 (eQ nn) l' :: rs)):=by
 have W:WOrd (jG nn key):=(Qv nn key)
 obtain ⟨x,hx⟩:∃ x,x=l.getD q default:=⟨_,rfl⟩
 refine qA (by first|rfl) Tryz.func255 rfl rfl ?_;all_goals (repeat' (first|refine qg ?_|(refine qc 0 ?_;refine mv ?_;refine mv ?_;refine qf ?_)|(refine qF 1 ?_;(iterate 6 refine mv ?_);refine qR S rfl rfl ?_;refine zu S rfl rfl ?_;refine mv ?_;refine mv ?_;refine qR S rfl rfl ?_;refine zu S rfl rfl ?_;refine qR S rfl rfl ?_;(first|(refine XK S rfl rfl ?_;clear S;intro h S));refine qR S rfl rfl ?_;(first|(refine XK S rfl rfl ?_;clear S;intro h S));refine qf ?_)))
 (repeat (refine qg ?_));refine qc 2 ?_;refine mv ?_;refine ad ?_;refine mv ?_;refine sb ?_;refine mv ?_;refine mv ?_;refine qf ?_;(try simp only [qO,qN,qU,zA0] at S);have s1:Sw a b l (swp l a q):=.one _ _ ⟨by omega,by omega⟩ ⟨by omega,by omega⟩ hb;have x1:(swp l a q).getD a default=x:=by
  rw [swp_get (by omega) (by omega),hx];split
  ·rename_i e;rw [e]
  ·rw [if_pos rfl]
 obtain ⟨m,hm⟩:∃ m,m=swp l a q:=⟨_,rfl⟩
 replace S:Hs h0 h (.sl v 3 1 (eQ nn) m :: rs):=by rw [hm];exact S
 rw [← hm] at s1 x1;have hml:=s1.len;have ex:=x1;have E:PartI (jG nn key) a b x (a+1) (b - 1) m:=⟨by omega,fun k q1 q2=>by omega,fun k q1 q2=>by omega,x1⟩
 have hbi:=E.bi;refine XE (σ:=Nat) (fun i h'=>Hs h0 h' (.sl v 3 1 (eQ nn) m :: rs)∧PartI (jG nn key) a b x i (b - 1) m∧(a+1)≤i∧(i≤(b - 1)→¬ (jG nn key) (m.getD i default) x)) (fun i=>[(0,v),(1,.int .i64 a),(2,.int .i64 b),(3,.int .i64 q),(4,(Zk g cap)),(12,.int .i64 i),(13,.int .i64 (b - 1:Nat))]) ?_ ?_
 ·all_goals (repeat' (refine ql ?_))
  refine qB (σ:=Nat) (fun i h'=>Hs h0 h' (.sl v 3 1 (eQ nn) m :: rs)∧PartI (jG nn key) a b x i (b - 1) m∧(a+1)≤i) (fun i=>(b - 1)+1 - i) (fun i=>[(0,v),(1,.int .i64 a),(2,.int .i64 b),(3,.int .i64 q),(4,(Zk g cap)),(12,.int .i64 i),(13,.int .i64 (b - 1:Nat))]) (a+1) qw ?_ ?_
  ·exact ⟨S,E,zA3 _⟩
  clear S E hbi;rintro i h ⟨S,E,hi0⟩;have hbi:=E.bi;all_goals (repeat' (first|refine qg ?_|refine qh rfl ?_|refine qy ?_|(refine qF 3 ?_;refine mv ?_;refine mv ?_;(first|(refine cS ?_ ?_<;>intro hc))<;>(refine mv ?_;(first|refine off ?_|refine mv ?_);(first|refine off ?_|refine mv ?_);(first|refine off ?_|refine mv ?_);(first|refine off ?_|(refine qR S rfl rfl ?_));(first|refine off ?_|(refine zu S rfl rfl ?_));(first|refine off ?_|refine mv ?_);(first|refine off ?_|refine mv ?_);(first|refine off ?_|(refine qR S rfl rfl ?_));(first|refine off ?_|(refine zu S rfl rfl ?_));(first|(refine off ?_;(refine off ?_)<;>(refine vl ?_;refine qf ?_))|skip)))))
  ·simp only [qO,qN,qU,zA0];(refine zk rfl rfl rfl rfl (((CmpK.ok (h0:=h0) (g:=g) (cap:=cap) (n:=nn) (key:=key)) S.ext S.wf _ _).mono ?_);rintro _ h ⟨d,rfl,⟨hd,hq⟩|⟨hd,hq⟩,x⟩)<;>(replace S:=S.qx x;clear x;rw [ex] at hq;(first|(first|refine cT ?_|refine cF ?_))<;>(refine vl ?_;refine qf ?_))
   ·all_goals (repeat' (first|refine qh rfl ?_|refine qi ?_|refine ql ?_|(refine qc 4 ?_;refine mv ?_;refine ad ?_;refine mv ?_;refine qf ?_)))
    refine ⟨i+1,?_,?_,qw⟩
    ·show (b - 1)+1 - (i+1)<(b - 1)+1 - i;omega
    ·refine ⟨S,⟨by omega,fun k q1 q2=>?_,E.hi,ex⟩,by omega⟩;rcases zA7 k i with q|q
     ·exact E.lo k q1 q
     ·obtain rfl:k=i:=by omega
      exact hq
   ·all_goals (repeat' (first|refine qh rfl ?_|refine qy ?_))
    exact ⟨i,⟨S,E,hi0,fun _=>hq⟩,(qw)⟩
  ·exact ⟨i,⟨S,E,hi0,fun q=>by omega⟩,(qw)⟩
 clear S E hbi;rintro i h ⟨S,E,hi0,hi1⟩;have hbi:=E.bi;refine XE (σ:=Nat) (fun j h'=>Hs h0 h' (.sl v 3 1 (eQ nn) m :: rs)∧PartI (jG nn key) a b x i j m∧j≤(b - 1)∧(i≤j→(jG nn key) (m.getD j default) x)) (fun j=>[(0,v),(1,.int .i64 a),(2,.int .i64 b),(3,.int .i64 q),(4,(Zk g cap)),(12,.int .i64 i),(13,.int .i64 j)]) ?_ ?_
 ·all_goals (repeat' (refine ql ?_))
  refine qB (σ:=Nat) (fun j h'=>Hs h0 h' (.sl v 3 1 (eQ nn) m :: rs)∧PartI (jG nn key) a b x i j m∧j≤(b - 1)) (fun j=>j) (fun j=>[(0,v),(1,.int .i64 a),(2,.int .i64 b),(3,.int .i64 q),(4,(Zk g cap)),(12,.int .i64 i),(13,.int .i64 j)]) (b - 1) qw ?_ ?_
  ·exact ⟨S,E,zA3 _⟩
  clear S E hbi;rintro j h ⟨S,E,hj0⟩;have hbi:=E.bi;all_goals (repeat' (first|refine qg ?_|refine qh rfl ?_|refine qy ?_|(refine qF 5 ?_;refine mv ?_;refine mv ?_;(first|(refine cS ?_ ?_<;>intro hc))<;>(refine mv ?_;(first|refine off ?_|refine mv ?_);(first|refine off ?_|refine mv ?_);(first|refine off ?_|refine mv ?_);(first|refine off ?_|(refine qR S rfl rfl ?_));(first|refine off ?_|(refine zu S rfl rfl ?_));(first|refine off ?_|refine mv ?_);(first|refine off ?_|refine mv ?_);(first|refine off ?_|(refine qR S rfl rfl ?_));(first|refine off ?_|(refine zu S rfl rfl ?_));(first|(refine off ?_;(refine off ?_)<;>((refine off ?_);refine vl ?_;refine qf ?_))|skip)))))
  ·simp only [qO,qN,qU,zA0];(refine zk rfl rfl rfl rfl (((CmpK.ok (h0:=h0) (g:=g) (cap:=cap) (n:=nn) (key:=key)) S.ext S.wf _ _).mono ?_);rintro _ h ⟨d,rfl,⟨hd,hq⟩|⟨hd,hq⟩,x⟩)<;>(replace S:=S.qx x;clear x;rw [ex] at hq;(first|(first|refine cT ?_|refine cF ?_))<;>((refine vl ?_);refine vl ?_;refine qf ?_))
   ·all_goals (repeat' (first|refine qh rfl ?_|refine qy ?_))
    exact ⟨j,⟨S,E,hj0,fun _=>hq⟩,(qw)⟩
   ·all_goals (repeat' (first|refine qh rfl ?_|refine qi ?_|refine ql ?_|(refine qc 6 ?_;refine mv ?_;refine sb ?_;refine mv ?_;refine qf ?_)))
    refine ⟨j - 1,?_,?_,qw⟩
    ·show j - 1<j;omega
    ·refine ⟨S,⟨by omega,E.lo,fun k q1 q2=>?_,ex⟩,by omega⟩;rcases zA7 j k with q|q
     ·exact E.hi k q q2
     ·obtain rfl:k=j:=by omega
      exact hq
  ·exact ⟨j,⟨S,E,hj0,fun q=>by omega⟩,(qw)⟩
 clear S E hbi;rintro j h ⟨S,E,hj0,hj1⟩;have hbi:=E.bi;all_goals (repeat' (first|refine qg ?_|refine qh rfl ?_|refine qi ?_|refine ql ?_|(refine qc 7 ?_;refine mv ?_;refine mv ?_;(first|(refine cS ?_ ?_<;>intro hc))<;>(refine qf ?_))|(refine qF 8 ?_;(iterate 6 refine mv ?_);refine qR S rfl rfl ?_;refine zu S rfl rfl ?_;refine mv ?_;refine mv ?_;refine qR S rfl rfl ?_;refine zu S rfl rfl ?_;refine qR S rfl rfl ?_;(first|(refine XK S rfl rfl ?_;clear S;intro h S));refine qR S rfl rfl ?_;(first|(refine XK S rfl rfl ?_;clear S;intro h S));refine qf ?_)|(refine qc 9 ?_;(iterate 3 refine mv ?_);refine qf ?_)|(refine qF 10 ?_;(iterate 6 refine mv ?_);refine qR S rfl rfl ?_;refine zu S rfl rfl ?_;refine mv ?_;refine mv ?_;refine qR S rfl rfl ?_;refine zu S rfl rfl ?_;refine qR S rfl rfl ?_;(first|(refine XK S rfl rfl ?_;clear S;intro h S));refine qR S rfl rfl ?_;(first|(refine XK S rfl rfl ?_;clear S;intro h S));refine qf ?_)|(refine qc 11 ?_;refine mv ?_;refine ad ?_;refine mv ?_;refine qf ?_)|(refine qc 12 ?_;refine mv ?_;refine sb ?_;refine mv ?_;refine qf ?_)))
 ·(try simp only [qO,qN,qU,zA0] at S)
  refine qj ⟨_,rfl,?_⟩;exact ⟨j,true,swp m j a,rfl,by omega,s1.step _ _ ⟨by omega,by omega⟩ ⟨by omega,by omega⟩ (by omega),E.done W (by omega) (by omega),S⟩
 (try simp only [qO,qN,qU,zA0] at S)
 obtain ⟨z1,z2⟩:=E.swap (by omega) (by omega) (hi1 (by omega)) (hj1 (by omega));refine qB (σ:=Nat×Nat×List Int) (fun (i,j,m) h'=>Hs h0 h' (.sl v 3 1 (eQ nn) m :: rs)∧Sw a b l m∧PartI (jG nn key) a b x i j m) (fun (i,j,m)=>j+1 - i) (fun (i,j,m)=>[(0,v),(1,.int .i64 a),(2,.int .i64 b),(3,.int .i64 q),(4,(Zk g cap)),(12,.int .i64 i),(13,.int .i64 j)]) (i+1,j - 1,swp m i j) qw ?_ ?_
 ·exact ⟨S,s1.step _ _ ⟨by omega,by omega⟩ ⟨by omega,by omega⟩ (by omega),z2⟩
 clear S s1 x1 E hbi hi0 hi1 hj0 hj1 z1 z2 hml ex hm;rintro ⟨i0,j0,m⟩ h ⟨S,s1,E⟩;have hml:=s1.len;have hbi:=E.bi;have ex:=E.x;refine ql ?_;refine XE (σ:=Nat) (fun i h'=>Hs h0 h' (.sl v 3 1 (eQ nn) m :: rs)∧PartI (jG nn key) a b x i j0 m∧i0≤i∧(i≤j0→¬ (jG nn key) (m.getD i default) x)) (fun i=>[(0,v),(1,.int .i64 a),(2,.int .i64 b),(3,.int .i64 q),(4,(Zk g cap)),(12,.int .i64 i),(13,.int .i64 j0)]) ?_ ?_
 ·all_goals (repeat' (refine ql ?_))
  refine qB (σ:=Nat) (fun i h'=>Hs h0 h' (.sl v 3 1 (eQ nn) m :: rs)∧PartI (jG nn key) a b x i j0 m∧i0≤i) (fun i=>j0+1 - i) (fun i=>[(0,v),(1,.int .i64 a),(2,.int .i64 b),(3,.int .i64 q),(4,(Zk g cap)),(12,.int .i64 i),(13,.int .i64 j0)]) i0 qw ?_ ?_
  ·exact ⟨S,E,zA3 _⟩
  clear S E hbi;rintro i h ⟨S,E,hi0⟩;have hbi:=E.bi;all_goals (repeat' (first|refine qg ?_|refine qh rfl ?_|refine qy ?_|(refine qF 13 ?_;refine mv ?_;refine mv ?_;(first|(refine cS ?_ ?_<;>intro hc))<;>(refine mv ?_;(first|refine off ?_|refine mv ?_);(first|refine off ?_|refine mv ?_);(first|refine off ?_|refine mv ?_);(first|refine off ?_|(refine qR S rfl rfl ?_));(first|refine off ?_|(refine zu S rfl rfl ?_));(first|refine off ?_|refine mv ?_);(first|refine off ?_|refine mv ?_);(first|refine off ?_|(refine qR S rfl rfl ?_));(first|refine off ?_|(refine zu S rfl rfl ?_));(first|(refine off ?_;(refine off ?_)<;>(refine vl ?_;refine qf ?_))|skip)))))
  ·simp only [qO,qN,qU,zA0];(refine zk rfl rfl rfl rfl (((CmpK.ok (h0:=h0) (g:=g) (cap:=cap) (n:=nn) (key:=key)) S.ext S.wf _ _).mono ?_);rintro _ h ⟨d,rfl,⟨hd,hq⟩|⟨hd,hq⟩,x⟩)<;>(replace S:=S.qx x;clear x;rw [ex] at hq;(first|(first|refine cT ?_|refine cF ?_))<;>(refine vl ?_;refine qf ?_))
   ·all_goals (repeat' (first|refine qh rfl ?_|refine qi ?_|refine ql ?_|(refine qc 14 ?_;refine mv ?_;refine ad ?_;refine mv ?_;refine qf ?_)))
    refine ⟨i+1,?_,?_,qw⟩
    ·show j0+1 - (i+1)<j0+1 - i;omega
    ·refine ⟨S,⟨by omega,fun k q1 q2=>?_,E.hi,ex⟩,by omega⟩;rcases zA7 k i with q|q
     ·exact E.lo k q1 q
     ·obtain rfl:k=i:=by omega
      exact hq
   ·all_goals (repeat' (first|refine qh rfl ?_|refine qy ?_))
    exact ⟨i,⟨S,E,hi0,fun _=>hq⟩,(qw)⟩
  ·exact ⟨i,⟨S,E,hi0,fun q=>by omega⟩,(qw)⟩
 clear S E hbi;rintro i h ⟨S,E,hi0,hi1⟩;have hbi:=E.bi;refine XE (σ:=Nat) (fun j h'=>Hs h0 h' (.sl v 3 1 (eQ nn) m :: rs)∧PartI (jG nn key) a b x i j m∧j≤j0∧(i≤j→(jG nn key) (m.getD j default) x)) (fun j=>[(0,v),(1,.int .i64 a),(2,.int .i64 b),(3,.int .i64 q),(4,(Zk g cap)),(12,.int .i64 i),(13,.int .i64 j)]) ?_ ?_
 ·all_goals (repeat' (refine ql ?_))
  refine qB (σ:=Nat) (fun j h'=>Hs h0 h' (.sl v 3 1 (eQ nn) m :: rs)∧PartI (jG nn key) a b x i j m∧j≤j0) (fun j=>j) (fun j=>[(0,v),(1,.int .i64 a),(2,.int .i64 b),(3,.int .i64 q),(4,(Zk g cap)),(12,.int .i64 i),(13,.int .i64 j)]) j0 qw ?_ ?_
  ·exact ⟨S,E,zA3 _⟩
  clear S E hbi;rintro j h ⟨S,E,hj0⟩;have hbi:=E.bi;all_goals (repeat' (first|refine qg ?_|refine qh rfl ?_|refine qy ?_|(refine qF 15 ?_;refine mv ?_;refine mv ?_;(first|(refine cS ?_ ?_<;>intro hc))<;>(refine mv ?_;(first|refine off ?_|refine mv ?_);(first|refine off ?_|refine mv ?_);(first|refine off ?_|refine mv ?_);(first|refine off ?_|(refine qR S rfl rfl ?_));(first|refine off ?_|(refine zu S rfl rfl ?_));(first|refine off ?_|refine mv ?_);(first|refine off ?_|refine mv ?_);(first|refine off ?_|(refine qR S rfl rfl ?_));(first|refine off ?_|(refine zu S rfl rfl ?_));(first|(refine off ?_;(refine off ?_)<;>((refine off ?_);refine vl ?_;refine qf ?_))|skip)))))
  ·simp only [qO,qN,qU,zA0];(refine zk rfl rfl rfl rfl (((CmpK.ok (h0:=h0) (g:=g) (cap:=cap) (n:=nn) (key:=key)) S.ext S.wf _ _).mono ?_);rintro _ h ⟨d,rfl,⟨hd,hq⟩|⟨hd,hq⟩,x⟩)<;>(replace S:=S.qx x;clear x;rw [ex] at hq;(first|(first|refine cT ?_|refine cF ?_))<;>((refine vl ?_);refine vl ?_;refine qf ?_))
   ·all_goals (repeat' (first|refine qh rfl ?_|refine qy ?_))
    exact ⟨j,⟨S,E,hj0,fun _=>hq⟩,(qw)⟩
   ·all_goals (repeat' (first|refine qh rfl ?_|refine qi ?_|refine ql ?_|(refine qc 16 ?_;refine mv ?_;refine sb ?_;refine mv ?_;refine qf ?_)))
    refine ⟨j - 1,?_,?_,qw⟩
    ·show j - 1<j;omega
    ·refine ⟨S,⟨by omega,E.lo,fun k q1 q2=>?_,ex⟩,by omega⟩;rcases zA7 j k with q|q
     ·exact E.hi k q q2
     ·obtain rfl:k=j:=by omega
      exact hq
  ·exact ⟨j,⟨S,E,hj0,fun q=>by omega⟩,(qw)⟩
 clear S E hbi;rintro j h ⟨S,E,hj0,hj1⟩;have hbi:=E.bi;all_goals (repeat' (first|refine qg ?_|refine qh rfl ?_|refine qi ?_|refine qy ?_|(refine qc 17 ?_;refine mv ?_;refine mv ?_;(first|(refine cS ?_ ?_<;>intro hc))<;>(refine qf ?_))|(refine qF 18 ?_;(iterate 6 refine mv ?_);refine qR S rfl rfl ?_;refine zu S rfl rfl ?_;refine mv ?_;refine mv ?_;refine qR S rfl rfl ?_;refine zu S rfl rfl ?_;refine qR S rfl rfl ?_;(first|(refine XK S rfl rfl ?_;clear S;intro h S));refine qR S rfl rfl ?_;(first|(refine XK S rfl rfl ?_;clear S;intro h S));refine qf ?_)|(refine qc 19 ?_;refine mv ?_;refine ad ?_;refine mv ?_;refine qf ?_)|(refine qc 20 ?_;refine mv ?_;refine sb ?_;refine mv ?_;refine qf ?_)|(refine qF 21 ?_;(iterate 6 refine mv ?_);refine qR S rfl rfl ?_;refine zu S rfl rfl ?_;refine mv ?_;refine mv ?_;refine qR S rfl rfl ?_;refine zu S rfl rfl ?_;refine qR S rfl rfl ?_;(first|(refine XK S rfl rfl ?_;clear S;intro h S));refine qR S rfl rfl ?_;(first|(refine XK S rfl rfl ?_;clear S;intro h S));refine qf ?_)|(refine qc 22 ?_;(iterate 3 refine mv ?_);refine qf ?_)))
 ·(try simp only [qO,qN,qU,zA0] at S)
  refine qj ⟨_,rfl,?_⟩;exact ⟨j,false,swp m j a,rfl,by omega,s1.step _ _ ⟨by omega,by omega⟩ ⟨by omega,by omega⟩ (by omega),E.done W (by omega) (by omega),S⟩
 ·(try simp only [qO,qN,qU,zA0] at S)
  obtain ⟨z1,z2⟩:=E.swap (by omega) (by omega) (hi1 (by omega)) (hj1 (by omega));refine ⟨(i+1,j - 1,swp m i j),?_,?_,qw⟩
  ·show j - 1+1 - (i+1)<j0+1 - i0;omega
  ·exact ⟨S,s1.step _ _ ⟨by omega,by omega⟩ ⟨by omega,by omega⟩ (by omega),z2⟩
end Go.Proofs.Xx
namespace Go.Proofs.Xx
open Go Go.Proofs
variable [Flag] {g nn:Nat} {cap:List Value} {key:Int→Int}
theorem qh4 {h0:AH} [CmpK h0 g cap nn key] {v:Value}:∀ (n:Nat) {h:AH} {rs:List Rs} {l:List Int} (a b lim:Nat) (S:Hs h0 h (.sl v 3 1 (eQ nn) l :: rs)) (hn:b - a=n) (hab:a≤b) (hb:b≤l.length) (hl:l.length≤1000000) (hbig:b - a<260) (hlim:lim≤1000) (hlow:0<a→∀ k,a≤k→k<b→¬ (jG nn key) (l.getD k default) (l.getD (a - 1) default)),
 Fn Tryz.prog Xh 185 [v,.int .i64 a,.int .i64 b,.int .i64 lim,(Zk g cap)] h (fun _ h'=>∃ l',Sw a b l l'∧Srt (jG nn key) a b l'∧Hs h0 h' (.sl v 3 1 (eQ nn) l' :: rs)):=by
 intro n;induction n using Nat.strongRecOn with
 | _ n ih =>
 intro h rs l a b lim S hn hab hb hl hbig hlim hlow;have W:WOrd (jG nn key):=(Qv nn key)
 refine qA (by first|rfl) Tryz.func185 rfl rfl ?_;all_goals (repeat' (first|refine qg ?_|refine ql ?_|(refine qc 0 ?_;refine mv ?_;refine qf ?_)|(refine qc 1 ?_;refine mv ?_;refine qf ?_)))
 refine qB (σ:=Nat×Nat×Nat×Bool×Bool×List Int) (fun (a1,b1,lim,wb,wp,m) h'=>Hs h0 h' (.sl v 3 1 (eQ nn) m :: rs)∧(a≤a1∧a1≤b1∧b1≤b)∧lim≤1000∧Sw a b l m∧DoneI (jG nn key) a b a1 b1 m) (fun (a1,b1,lim,wb,wp,m)=>b1 - a1) (fun (a1,b1,lim,wb,wp,m)=>[(0,v),(1,.int .i64 a1),(2,.int .i64 b1),(3,.int .i64 lim),(4,(Zk g cap)),(10,.bool wb),(11,.bool wp)]) (a,b,lim,true,true,l) qw ?_ ?_
 ·exact ⟨S,by omega,hlim,.refl _,.start⟩
 clear S hlim;rintro ⟨a1,b1,lim,wb,wp,m⟩ h ⟨S,h1,hlim,h2,D⟩;have hml:=h2.len;have low:∀ m',Sw a1 b1 m m'→0<a1→∀ k,a1≤k→k<b1→¬ (jG nn key) (m'.getD k default) (m'.getD (a1 - 1) default):=fun m' s q1 k q2 q3=>by
  rcases zA7 a a1 with q|q
  ·exact (D.sw s h1.1 h1.2.2).low q h1.2.2 k q2 q3
  ·obtain rfl:a=a1:=by omega
   have s2:=h2.trans (s.mono (zA3 _) h1.2.2 (by omega));rw [s2.out (k:=a - 1) (.inl (by omega))];exact s2.all (p:=fun y=>¬ (jG nn key) y (l.getD (a - 1) default)) (hlow q1) k q2 (by omega)
 have e0:(b1:Int) - (a1:Int)=((b1 - a1:Nat):Int):=by omega
 refine ql ?_;(repeat (refine qg ?_));refine qc 2 ?_;refine mv ?_;refine mv ?_;refine sb ?_;refine mv ?_;refine qf ?_;simp only [e0];(repeat (refine qg ?_));refine qc 3 ?_;refine mv ?_;(first|(refine cS ?_ ?_<;>intro hc))<;>(refine qf ?_)
 ·refine qh rfl ?_;all_goals (repeat' (first|refine qg ?_|(refine qc 4 ?_;(iterate 4 refine mv ?_);skip)))
  (refine qm rfl rfl rfl rfl rfl ((qin a1 b1 S h1.2.1 (by omega) (by omega)).mono ?_);rintro _ h ⟨l2,g1,g2,S2⟩)<;>(replace S:=S2;clear S2;refine qf ?_)
  all_goals (repeat' (fail))
  refine qj ⟨_,rfl,?_⟩;exact ⟨l2,h2.trans (g1.mono h1.1 h1.2.2 (by omega)),(D.sw g1 h1.1 h1.2.2).finish g2,S⟩
 have hbig2:12<b1 - a1∧b1 - a1<260:=by omega
 refine qh rfl ?_;refine qi ?_;(repeat (refine qg ?_));refine qc 5 ?_;refine mv ?_;(first|(refine cS ?_ ?_<;>intro hc))<;>(refine qf ?_)
 ·refine qh rfl ?_;all_goals (repeat' (first|refine qg ?_|(refine qc 6 ?_;(iterate 4 refine mv ?_);skip)))
  (refine qm rfl rfl rfl rfl rfl ((qgL a1 b1 S (by omega) (by omega) (by omega)).mono ?_);rintro _ h ⟨l2,g1,g2,S2⟩)<;>(replace S:=S2;clear S2;refine qf ?_)
  all_goals (repeat' (fail))
  refine qj ⟨_,rfl,?_⟩;exact ⟨l2,h2.trans (g1.mono h1.1 h1.2.2 (by omega)),(D.sw g1 h1.1 h1.2.2).finish g2,S⟩
 refine qh rfl ?_;refine qi ?_;refine XE (σ:=Nat×List Int) (fun (lim,m2) h'=>Hs h0 h' (.sl v 3 1 (eQ nn) m2 :: rs)∧lim≤1000∧Sw a1 b1 m m2) (fun (lim,m2)=>[(0,v),(1,.int .i64 a1),(2,.int .i64 b1),(3,.int .i64 lim),(4,(Zk g cap)),(10,.bool wb),(11,.bool wp),(12,.int .i64 (b1 - a1:Nat))]) ?_ ?_
 ·cases wb
  ·all_goals (repeat' (first|refine qg ?_|refine qh rfl ?_|(refine qc 7 ?_;refine mv ?_;refine vl ?_;refine qf ?_)|(refine qc 8 ?_;(iterate 4 refine mv ?_);skip)))
   (refine qm rfl rfl rfl rfl rfl ((qiG a1 b1 S hbig2 (by omega) (by omega)).mono ?_);rintro _ h ⟨l2,g1,S2⟩)<;>(replace S:=S2;clear S2;refine qf ?_)
   all_goals (repeat' (first|(refine qc 9 ?_;refine mv ?_;refine sb ?_;refine mv ?_;refine qf ?_)))
   exact ⟨(lim - 1,l2),⟨S,by show lim - 1≤1000;omega,g1⟩,(qw)⟩
  ·all_goals (repeat' (first|refine qg ?_|refine qh rfl ?_|refine qi ?_|(refine qc 7 ?_;refine mv ?_;refine vl ?_;refine qf ?_)))
   exact ⟨(lim,m),⟨S,hlim,.refl _⟩,(qw)⟩
 clear S hlim;rintro ⟨lim,m2⟩ h ⟨S,hlim,g1⟩;have hm2:=g1.len;(repeat (refine qg ?_));refine qc 10 ?_;(iterate 4 refine mv ?_);skip
 (refine qm rfl rfl rfl rfl rfl ((qh1 a1 b1 S hbig2 (by omega) (by omega)).mono ?_);rintro _ h ⟨q,t,rfl,hq0,S2⟩)<;>(replace S:=S2;clear S2;refine mv ?_;refine vl ?_;refine vl ?_;refine mv ?_;refine mv ?_;refine qf ?_)
 refine XE (σ:=Nat×Int×List Int) (fun (q,t,m3) h'=>Hs h0 h' (.sl v 3 1 (eQ nn) m3 :: rs)∧(a1≤q∧q<b1)∧Sw a1 b1 m2 m3) (fun (q,t,m3)=>[(0,v),(1,.int .i64 a1),(2,.int .i64 b1),(3,.int .i64 lim),(4,(Zk g cap)),(10,.bool wb),(11,.bool wp),(12,.int .i64 (b1 - a1:Nat)),(13,.int .i64 q),(14,.int .i64 t)]) ?_ ?_
 ·all_goals (repeat' (first|refine qg ?_|refine qh rfl ?_|refine qi ?_|(refine qc 11 ?_;refine mv ?_;(first|(refine cS ?_ ?_<;>intro hc))<;>(refine qf ?_))|(refine qc 12 ?_;(iterate 4 refine mv ?_);skip)))
  ·(refine qm rfl rfl rfl rfl rfl ((qhX a1 b1 S (by omega) (by omega) (by omega)).mono ?_);rintro _ h ⟨l2,k1,S2⟩)<;>(replace S:=S2;clear S2;refine qf ?_)
   all_goals (repeat' (first|refine qg ?_|(refine qc 13 ?_;refine mv ?_;refine sb ?_;refine mv ?_;refine mv ?_;refine sb ?_;refine sb ?_;refine mv ?_;refine qf ?_)|(refine qc 14 ?_;refine mv ?_;refine qf ?_)))
   exact ⟨(b1 - 1 - (q - a1),1,l2),⟨S,by show a1≤b1 - 1 - (q - a1)∧b1 - 1 - (q - a1)<b1;omega,k1⟩,(qw)⟩
  ·exact ⟨(q,t,m2),⟨S,hq0,.refl _⟩,(qw)⟩
 clear S hq0;rintro ⟨q,t,m3⟩ h ⟨S,hq0,g2⟩;have g13:=g1.trans g2;have D3:=D.sw g13 h1.1 h1.2.2;have low3:=low m3 g13;have s3:=h2.trans (g13.mono h1.1 h1.2.2 (by omega));have hm3:=g13.len;refine XE (σ:=List Int) (fun m3 h'=>Hs h0 h' (.sl v 3 1 (eQ nn) m3 :: rs)∧Sw a1 b1 m m3) (fun _=>[(0,v),(1,.int .i64 a1),(2,.int .i64 b1),(3,.int .i64 lim),(4,(Zk g cap)),(10,.bool wb),(11,.bool wp),(12,.int .i64 (b1 - a1:Nat)),(13,.int .i64 q)]) ?_ ?_
 ·cases wb
  ·all_goals (repeat' (first|refine qg ?_|refine qh rfl ?_|refine qi ?_|(refine qc 15 ?_;refine mv ?_;refine mv ?_;refine off ?_;refine vl ?_;refine mv ?_;refine off ?_;(refine off ?_)<;>(refine vl ?_;refine qf ?_))))
   exact ⟨m3,⟨S,g13⟩,(qw)⟩
  cases wp
  ·all_goals (repeat' (first|refine qg ?_|refine qh rfl ?_|refine qi ?_|(refine qc 15 ?_;(iterate 3 refine mv ?_);refine vl ?_;refine mv ?_;refine off ?_;(refine off ?_)<;>(refine vl ?_;refine qf ?_))))
   exact ⟨m3,⟨S,g13⟩,(qw)⟩
  all_goals (repeat' (first|refine qg ?_|refine qh rfl ?_|refine qi ?_|(refine qc 15 ?_;(iterate 3 refine mv ?_);refine vl ?_;refine mv ?_;refine mv ?_;(first|(first|(refine cS ?_ ?_<;>intro hc)))<;>(refine vl ?_;refine qf ?_))|(refine qc 16 ?_;(iterate 4 refine mv ?_);skip)))
  ·(refine qm rfl rfl rfl rfl rfl ((qgx a1 b1 S hbig2 (by omega) (by omega) low3).mono ?_);rintro _ h ⟨m4,gp,⟨rfl,hs⟩|rfl,S2⟩)<;>(replace S:=S2;clear S2;refine qf ?_)
   ·all_goals (repeat' (refine qh rfl ?_))
    refine qj ⟨_,rfl,?_⟩;exact ⟨m4,s3.trans (gp.mono h1.1 h1.2.2 (by omega)),(D3.sw gp h1.1 h1.2.2).finish hs,S⟩
   ·all_goals (repeat' (first|refine qh rfl ?_|refine qi ?_))
    exact ⟨m4,⟨S,g13.trans gp⟩,(qw)⟩
  ·exact ⟨m3,⟨S,g13⟩,(qw)⟩
 clear S D3 low3 s3 hm3 g13 g2;rintro m3 h ⟨S,g13⟩;have D3:=D.sw g13 h1.1 h1.2.2;have low3:=low m3 g13;have s3:=h2.trans (g13.mono h1.1 h1.2.2 (by omega));have hm3:=g13.len;refine XE (σ:=Unit) (fun _ h'=>Hs h0 h' (.sl v 3 1 (eQ nn) m3 :: rs)) (fun _=>[(0,v),(1,.int .i64 a1),(2,.int .i64 b1),(3,.int .i64 lim),(4,(Zk g cap)),(10,.bool wb),(11,.bool wp),(12,.int .i64 (b1 - a1:Nat)),(13,.int .i64 q)]) ?_ ?_
 ·all_goals (repeat' (first|refine qg ?_|refine qh rfl ?_|refine qi ?_|(refine qF 17 ?_;refine mv ?_;(first|(refine cS ?_ ?_<;>intro hc))<;>(refine mv ?_;(first|refine off ?_|refine mv ?_);(first|refine off ?_|refine mv ?_);(first|refine off ?_|refine mv ?_);(first|refine off ?_|(refine sb ?_));(first|refine off ?_|(refine qR S rfl rfl ?_));(first|refine off ?_|(refine zu S rfl rfl ?_));(first|refine off ?_|refine mv ?_);(first|refine off ?_|refine mv ?_);(first|refine off ?_|(refine qR S rfl rfl ?_));(first|refine off ?_|(refine zu S rfl rfl ?_));(first|(refine off ?_;(refine off ?_)<;>((refine off ?_);refine vl ?_;refine qf ?_))|skip)))))
  ·simp only [qO,qN,qU,zA0];(refine zk rfl rfl rfl rfl (((CmpK.ok (h0:=h0) (g:=g) (cap:=cap) (n:=nn) (key:=key)) S.ext S.wf _ _).mono ?_);rintro _ h ⟨d,rfl,⟨hd,hq⟩|⟨hd,hq⟩,x⟩)<;>(replace S:=S.qx x;clear x;(first|(first|refine cT ?_|refine cF ?_))<;>((refine vl ?_);refine vl ?_;refine qf ?_))
   ·all_goals (repeat' (first|refine qh rfl ?_|refine qi ?_))
    exact ⟨(),S,(qw)⟩
   ·all_goals (repeat' (first|refine qg ?_|refine qh rfl ?_|(refine qc 18 ?_;(iterate 5 refine mv ?_);skip)))
    (refine qm rfl rfl rfl rfl rfl ((qh3 a1 b1 q S hq0 (by omega) (by omega)).mono ?_);rintro _ h ⟨e,m4,rfl,e1,e2,e3,e4,S2⟩)<;>(replace S:=S2;clear S2;refine mv ?_;refine qf ?_)
    all_goals (repeat' (first|refine qg ?_|refine qy ?_|(refine qc 19 ?_;refine mv ?_;refine mv ?_;refine qf ?_)))
    refine ⟨(e,b1,lim,wb,wp,m4),?_,?_,qw⟩
    ·show b1 - e<b1 - a1;omega
    ·have s4:=low m4 (g13.trans e2) (by omega);refine ⟨S,by (try dsimp only);omega,hlim,s3.trans (e2.mono h1.1 h1.2.2 (by omega)),(D3.sw e2 h1.1 h1.2.2).eq_ W (x:=m3.getD q default) (show a1≤e∧e≤b1 by omega) e3 e4 fun k q1 q2=>?_⟩;have:=s4 k q1 q2;rw [e2.out (k:=a1 - 1) (.inl (by omega))] at this;exact W.ntr hq this
  ·exact ⟨(),S,(qw)⟩
 clear S;rintro - h S;all_goals (repeat' (first|refine qg ?_|(refine qc 20 ?_;(iterate 5 refine mv ?_);skip)))
 (refine qm rfl rfl rfl rfl rfl ((qgz a1 b1 q S hq0 (by omega) (by omega)).mono ?_);rintro _ h ⟨e,f,m4,rfl,e1,e2,e3,S2⟩)<;>(replace S:=S2;clear S2;refine mv ?_;refine vl ?_;refine vl ?_;refine mv ?_;refine mv ?_;refine qf ?_)
 have D4:=D3.sw e2 h1.1 h1.2.2;have s4:=s3.trans (e2.mono h1.1 h1.2.2 (by omega));have hm4:=e2.len;have low4:=low m4 (g13.trans e2);have ee:(e:Int)+1=((e+1:Nat):Int):=by omega
 all_goals (repeat' (first|refine qg ?_|refine qh rfl ?_|(refine qc 21 ?_;refine mv ?_;refine mv ?_;refine qf ?_)|(refine qc 22 ?_;refine mv ?_;refine mv ?_;refine sb ?_;refine mv ?_;refine mv ?_;refine sb ?_;refine mv ?_;refine mv ?_;refine qf ?_)|(refine qc 23 ?_;refine mv ?_;refine qu ?_;refine mv ?_;refine qf ?_)|(refine qc 24 ?_;refine mv ?_;refine mv ?_;(first|(refine cS ?_ ?_<;>intro hc))<;>(refine qf ?_))|(refine qc 25 ?_;refine mv ?_;refine mv ?_;(first|(refine cS ?_ ?_<;>intro hc))<;>(refine mv ?_;refine qf ?_))|(refine qc 26 ?_;(iterate 5 refine mv ?_);skip)|(refine qc 28 ?_;refine mv ?_;refine mv ?_;(first|(refine cS ?_ ?_<;>intro hc))<;>(refine mv ?_;refine qf ?_))))
 ·(refine qm rfl rfl rfl rfl rfl ((ih (e - a1) (by omega) a1 e lim S rfl (by omega) (by omega) (by omega) (by omega) hlim (fun z k q1 q2=>low4 z k q1 (by omega))).mono ?_);rintro _ h ⟨m5,k1,k2,S2⟩)<;>(replace S:=S2;clear S2;refine qf ?_)
  all_goals (repeat' (first|(refine qc 27 ?_;refine mv ?_;refine ad ?_;refine mv ?_;refine qf ?_)))
  refine ⟨(e+1,b1,lim,true,f,m5),?_,?_,qw⟩
  ·show b1 - (e+1)<b1 - a1;omega
  ·exact ⟨S,by (try dsimp only);omega,hlim,s4.trans (k1.mono h1.1 (by omega) (by omega)),D4.left W e3 (by omega) ⟨h1.1,h1.2.2⟩ k1 k2 (by omega)⟩
 ·(refine qm rfl rfl rfl rfl rfl ((ih (e - a1) (by omega) a1 e lim S rfl (by omega) (by omega) (by omega) (by omega) hlim (fun z k q1 q2=>low4 z k q1 (by omega))).mono ?_);rintro _ h ⟨m5,k1,k2,S2⟩)<;>(replace S:=S2;clear S2;refine qf ?_)
  all_goals (repeat' (first|(refine qc 27 ?_;refine mv ?_;refine ad ?_;refine mv ?_;refine qf ?_)))
  refine ⟨(e+1,b1,lim,false,f,m5),?_,?_,qw⟩
  ·show b1 - (e+1)<b1 - a1;omega
  ·exact ⟨S,by (try dsimp only);omega,hlim,s4.trans (k1.mono h1.1 (by omega) (by omega)),D4.left W e3 (by omega) ⟨h1.1,h1.2.2⟩ k1 k2 (by omega)⟩
 ·refine qc 29 ?_;(refine mv ?_;refine mv ?_;refine ad ?_;(iterate 3 refine mv ?_);skip);simp only [ee];(refine qm rfl rfl rfl rfl rfl ((ih (b1 - (e+1)) (by omega) (e+1) b1 lim S rfl (by omega) (by omega) (by omega) (by omega) hlim (fun z k q1 q2=>e3.2 k (by omega) q2)).mono ?_);rintro _ h ⟨m5,k1,k2,S2⟩)<;>(replace S:=S2;clear S2;refine qf ?_)
  all_goals (repeat' (first|(refine qc 30 ?_;refine mv ?_;refine mv ?_;refine qf ?_)))
  refine ⟨(a1,e,lim,true,f,m5),?_,?_,qw⟩
  ·show e - a1<b1 - a1;omega
  ·exact ⟨S,by (try dsimp only);omega,hlim,s4.trans (k1.mono (by omega) h1.2.2 (by omega)),D4.right W e3 (by omega) ⟨h1.1,h1.2.2⟩ k1 k2 (by omega)⟩
 ·refine qc 29 ?_;(refine mv ?_;refine mv ?_;refine ad ?_;(iterate 3 refine mv ?_);skip);simp only [ee];(refine qm rfl rfl rfl rfl rfl ((ih (b1 - (e+1)) (by omega) (e+1) b1 lim S rfl (by omega) (by omega) (by omega) (by omega) hlim (fun z k q1 q2=>e3.2 k (by omega) q2)).mono ?_);rintro _ h ⟨m5,k1,k2,S2⟩)<;>(replace S:=S2;clear S2;refine qf ?_)
  all_goals (repeat' (first|(refine qc 30 ?_;refine mv ?_;refine mv ?_;refine qf ?_)))
  refine ⟨(a1,e,lim,false,f,m5),?_,?_,qw⟩
  ·show e - a1<b1 - a1;omega
  ·exact ⟨S,by (try dsimp only);omega,hlim,s4.trans (k1.mono (by omega) h1.2.2 (by omega)),D4.right W e3 (by omega) ⟨h1.1,h1.2.2⟩ k1 k2 (by omega)⟩
theorem qgr {h0 h:AH} [CmpK h0 g cap nn key] {rs:List Rs} {v:Value} {l:List Int} (S:Hs h0 h (.sl v 3 1 (eQ nn) l :: rs)) (hl:l.length<260) :
 Fn Tryz.prog Xh 128 [v,(Zk g cap)] h (fun _ h'=>∃ l',Sw 0 l.length l l'∧Srt (jG nn key) 0 l.length l'∧Hs h0 h' (.sl v 3 1 (eQ nn) l' :: rs)):=by
 have hk:=qfd l.length (by omega);refine qA (by first|rfl) Tryz.func128 rfl rfl ?_;all_goals (repeat' (first|refine qg ?_|(refine qc 0 ?_;refine mv ?_;refine Py S rfl rfl ?_;refine mv ?_;refine qf ?_)|(refine qc 1 ?_;(iterate 3 refine mv ?_);refine cW ?_)))
 (refine qm rfl rfl rfl rfl rfl ((KG S.wf l.length (by omega)).mono ?_);rintro _ h ⟨rfl,x⟩)<;>(replace S:=S.qx x;clear x;refine mv ?_)
 (refine qm rfl rfl rfl rfl rfl ((qh4 l.length 0 l.length (WH l.length) S rfl (zB0 _) (zA3 _) (by omega) (by omega) (by omega) (fun z=>by omega)).mono ?_);rintro _ h ⟨l2,g1,g2,S2⟩)<;>(replace S:=S2;clear S2;refine qf ?_)
 all_goals (repeat' (fail))
 refine ⟨_,rfl,?_⟩;exact ⟨l2,g1,g2,S⟩
end Go.Proofs.Xx
namespace Go.Proofs.Xx
open Go Go.Proofs
def WE (a:List UInt8):List (List UInt8)→List (List UInt8)
 | []=>[a]
 | w :: r=>(a ++ w) :: r
def GL (c:UInt8):List UInt8→List (List UInt8)
 | []=>[[]]
 | x :: s=>if x=c then [] :: GL c s else WE [x] (GL c s)
theorem pW:∀ {l:List (List UInt8)},l≠[]→WE [] l=l
 | [],h=>absurd rfl h
 | w :: r,_=>rfl
theorem qe5 {a:List UInt8}:∀ {l:List (List UInt8)},WE a l≠[]
 | []=>by simp [WE]
 | _ :: _=>by simp [WE]
theorem qct {a b:List UInt8}:∀ {l:List (List UInt8)},l≠[]→WE a (WE b l)=WE (a ++ b) l
 | [],h=>absurd rfl h
 | w :: r,_=>by simp [WE]
theorem qaB (c:UInt8):∀ s,GL c s≠[]
 | []=>by simp [GL]
 | x :: s=>by
  unfold GL;split
  ·simp
  ·exact qe5
def qiu (x:UInt8):Prop:=48≤x.toNat∧x.toNat≤57
instance (x:UInt8):Decidable (qiu x):=inferInstanceAs (Decidable (_∧_))
def qdc (s:List UInt8):Nat:=s.foldl (fun n x=>10*n+(x.toNat - 48)) 0
def qcy (s:List UInt8):Prop:=1≤s.length∧s.length≤9∧(1<s.length→s.getD 0 default≠48)∧∀ i,i<s.length→qiu (s.getD i default)
section
variable {P:Program} {X:Extern} {inR:Bool} {sz:Nat} {L:Ks} {h h0:AH} {rs:List Rs} {ops:Array Oper} {os:List Oper} {o:Oper} {R:Ks→AH→Prop} {Q:KQ}
end
section
variable {P:Program} {X:Extern} {sz:Nat} {L:Ks} {h h0:AH} {rs:List Rs} {ops:Array Oper} {os:List Oper} {o:Oper} {R:Ks→AH→Prop}
theorem tsl {L':Ks} {x:Operand} {lo hi:Option Operand} {vlo vhi:Option Value} {ty:TypeId} {l:List UInt8} {a b:Nat} (w:KO P X sz ops os L' h R) (ho:o.op = .slice ty x lo hi none:=by exact rfl) (hg:qo ops L.tree o.guard=some true:=by exact rfl) (hx:kA L x=some (str l):=by exact rfl)
 (hlo:jd L.tree lo=some vlo:=by exact rfl) (hhi:jd L.tree hi=some vhi:=by exact rfl) (hu:P.underlying ty=some .string:=by exact rfl) (h1:zi vlo 0=some a:=by exact rfl) (h2:zi vhi l.length=some b:=by exact rfl) (hab:a≤b∧b≤l.length:=by first|omega|grind)
 (hp:qG sz L o.dst (str ((l.drop a).take (b - a)))=some L':=by exact rfl):KO P X sz ops (o :: os) L h R:=by
 refine zo hg ?_ hp w;have t1:Nat.ble a b=true:=zB3 hab.1;have t2:Nat.ble b l.length=true:=zB3 hab.2;rw [ho];have e:(⟨l.toArray⟩:ByteArray).data.toList=l:=rfl;simp only [zX,qE hx,hlo,hhi,show jd L.tree none=some none from rfl,je,zH,str,hu,h1,h2,e,t1,t2,zF9,qM]
end
section
variable {P:Program} {X:Extern} {sz:Nat} {L:Ks} {h h0:AH} {rs:List Rs} {ops:Array Oper} {os:List Oper} {o:Oper} {R:Ks→AH→Prop}
end
variable [Flag]
def cutV (c:UInt8) (s:List UInt8):Value:=match kK c s with
 | some m=>.tuple #[str (s.take m),str (s.drop (m+1)),.bool true]
 | none=>.tuple #[str s,str [],.bool false]
def qj7 (s:List UInt8) (k:Int) (b:Bool):Prop:=(b=true∧qcy s∧k=qdc s)∨(b=false∧¬ qcy s)
theorem G8 {c:UInt8} {s:List UInt8} {i:Nat} (h:i<s.length):GL c (s.drop i)=if s.getD i 0=c then [] :: GL c (s.drop (i+1)) else WE [s.getD i 0] (GL c (s.drop (i+1))):=by
 rw [zG7 h];have e:s.getD i 0=s[i]:=by simp [zA2,h]
 rw [e];rfl
theorem qeZ {c:UInt8} {s:List UInt8}:GL c (s.drop s.length)=[[]]:=by rw [List.drop_length];rfl
theorem wU {a w:List UInt8} {r:List (List UInt8)}:WE a (w :: r)=(a ++ w) :: r:=rfl
def PcsL (c:UInt8) (s:List UInt8) (st i:Nat) (out:List (List UInt8)):Prop:=st≤i∧i≤s.length∧GL c s=out ++ WE ((s.drop st).take (i - st)) (GL c (s.drop i))∧out.length≤i
theorem take_snoc {s:List UInt8} {st i:Nat} (h1:st≤i) (h2:i<s.length):(s.drop st).take (i+1 - st)=(s.drop st).take (i - st) ++ [s.getD i 0]:=by
 rw [show i+1 - st=(i - st)+1 by omega,List.take_add_one,zC3,show st+(i - st)=i by omega,zA4 h2];simp [zA2,h2]
theorem PcsL.zero (c:UInt8) (s:List UInt8):PcsL c s 0 0 []:=⟨zA3 _,zB0 _,by rw [zC0,zG6,List.take_zero,pW (qaB _ _),List.drop_zero],zA3 _⟩
theorem PcsL.no {c:UInt8} {s:List UInt8} {st i:Nat} {out:List (List UInt8)} (p:PcsL c s st i out) (hi:i<s.length) (hx:¬ s.getD i 0=c):PcsL c s st (i+1) out:=by
 obtain ⟨p1,p2,p3,p4⟩:=p;rw [G8 hi,if_neg hx,qct (qaB _ _),← take_snoc p1 hi] at p3;exact ⟨by omega,hi,p3,by omega⟩
theorem PcsL.yes {c:UInt8} {s:List UInt8} {st i:Nat} {out:List (List UInt8)} (p:PcsL c s st i out) (hi:i<s.length) (hx:s.getD i 0=c):GL c s=out ++ (s.drop st).take (i - st) :: GL c (s.drop (i+1))∧PcsL c s (i+1) (i+1) (out ++ [(s.drop st).take (i - st)]):=by
 obtain ⟨p1,p2,p3,p4⟩:=p;rw [G8 hi,if_pos hx,wU,zD7] at p3;exact ⟨p3,zA3 _,hi,by rw [zG6,List.take_zero,pW (qaB _ _),zF2];exact p3,by simp;omega⟩
theorem PcsL.fin {c:UInt8} {s:List UInt8} {st:Nat} {out:List (List UInt8)} (p:PcsL c s st s.length out):GL c s=out ++ [s.drop st]:=by
 obtain ⟨p1,p2,p3,p4⟩:=p;rw [qeZ,wU,zD7,zF8 (by simp)] at p3;exact p3
end Go.Proofs.Xx
