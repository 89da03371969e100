/-
  Sorting by a comparing function (Di).
-/
import Derived.Test.YtnponmgkfkdkaaaGreatDoorM14
import Derived.Test.YtnponmgkfkdkaaaGreatDoorM8
import Derived.Test.YtnponmgkfkdkaaaGreatDoorM10
import Derived.Test.YtnponmgkfkdkaaaGreatDoorM11
set_option linter.unusedSimpArgs false
set_option linter.unusedVariables false
set_option linter.unusedSectionVars false
set_option maxRecDepth 100000
set_option maxHeartbeats 4000000
namespace Go.Proofs.Xx
open Go Go.Proofs
variable [Flag]
theorem qjc {h0 h:AH} {rs:List Rs} {v:Value} {l:List Di} (a b:Nat) (S:Hs h0 h (.sl v 50 3 jb l :: rs)) (hab:a≤b) (hb:b≤l.length) (hl:l.length≤1000000) :
 Fn Tryz.prog Xh 173 [v,.int .i64 a,.int .i64 b,ZX] h (fun _ h'=>∃ l',Sw a b l l'∧Srt jl a b l'∧Hs h0 h' (.sl v 50 3 jb l' :: rs)):=by
 have W:WOrd jl:=diL_ord;refine qL (by first|rfl) Tryz.func173 rfl rfl ?_;all_goals (repeat' (first|refine qg ?_|refine qj ?_|(refine qc 0 ?_;refine mv ?_;refine ad ?_;refine mv ?_;refine qf ?_)))
 refine qH (σ:=Nat×List Di) (fun (i,m) h'=>Hs h0 h' (.sl v 50 3 jb m :: rs)∧a<i∧Sw a b l m∧Srt jl a (min i b) m) (fun (i,m)=>b - i) (fun (i,m)=>[(0,v),(1,.int .i64 a),(2,.int .i64 b),(3,ZX),(8,.int .i64 i)]) (a+1,l) qx ?_ ?_
 ·exact ⟨S,by omega,.refl _,fun i j q1 q2 q3=>by omega⟩
 clear S;rintro ⟨i,m⟩ h ⟨S,h1,h2,h3⟩;have hml:=h2.len;all_goals (repeat' (first|refine qg ?_|refine qh rfl ?_|refine qi ?_|refine qC ?_|refine qj ?_|(refine qc 1 ?_;refine mv ?_;refine mv ?_;(first|(refine cS ?_ ?_<;>intro hc))<;>(refine qf ?_))|(refine qc 3 ?_;refine mv ?_;refine mv ?_;refine qf ?_)))
 ·have hib:i<b:=by omega
  rw [zE4 (by omega)] at h3;refine qH (σ:=Nat×List Di) (fun (j,n) h'=>Hs h0 h' (.sl v 50 3 jb n :: rs)∧a≤j∧j≤i∧Sw a b l n∧InsI jl a i j n) (fun (j,n)=>j) (fun (j,n)=>[(0,v),(1,.int .i64 a),(2,.int .i64 b),(3,ZX),(8,.int .i64 i),(9,.int .i64 j)]) (i,m) qx ?_ ?_
  ·exact ⟨S,by omega,zA3 _,h2,InsI.start h3⟩
  clear S h2 h3 hml;rintro ⟨j,n⟩ h ⟨S,k1,k2,k3,k4⟩;have hnl:=k3.len;all_goals (repeat' (first|refine qg ?_|refine qh rfl ?_|refine qC ?_|(refine qc 2 ?_;refine mv ?_;refine ad ?_;refine mv ?_;refine qf ?_)|(refine qM 4 ?_;refine mv ?_;refine mv ?_;(first|(refine cS ?_ ?_<;>intro hc))<;>(refine mv ?_;(first|refine off ?_|refine mv ?_);(first|refine off ?_|refine mv ?_);(first|refine off ?_|refine mv ?_);(first|refine off ?_|(refine qO S rfl rfl ?_));(first|refine off ?_|(refine zk S rfl rfl ?_));(first|refine off ?_|refine mv ?_);(first|refine off ?_|refine mv ?_);(first|refine off ?_|(refine sb ?_));(first|refine off ?_|(refine qO S rfl rfl ?_));(first|refine off ?_|(refine zk S rfl rfl ?_));(first|(refine off ?_;(refine off ?_)<;>(refine vl ?_;refine qf ?_))|skip)))))
  ·simp only [qN,qR,qW,zA0];(refine zK rfl rfl rfl rfl ((Qd S.wf _ _).mono ?_);rintro _ h ⟨d,rfl,⟨hd,hq⟩|⟨hd,hq⟩,x⟩)<;>(replace S:=S.qE x;clear x;(first|(first|refine cT ?_|refine cF ?_))<;>(refine vl ?_;refine qf ?_))
   ·all_goals (repeat' (first|refine qg ?_|refine qh rfl ?_|refine qi ?_|refine qj ?_|(refine qc 5 ?_;refine mv ?_;refine sb ?_;refine mv ?_;refine qf ?_)|(refine qM 6 ?_;(iterate 4 refine mv ?_);refine sb ?_;refine mv ?_;refine mv ?_;refine sb ?_;refine qO S rfl rfl ?_;refine zk S rfl rfl ?_;refine mv ?_;refine mv ?_;refine qO S rfl rfl ?_;refine zk S rfl rfl ?_;refine qO S rfl rfl ?_;(first|(refine JY S rfl rfl ?_;clear S;intro h S));refine qO S rfl rfl ?_;(first|(refine JY S rfl rfl ?_;clear S;intro h S));refine qf ?_)))
    simp only [qN,qR,qW,zA0] at S;refine ⟨(j - 1,swp n j (j - 1)),?_,?_,qx⟩
    ·show j - 1<j;omega
    ·exact ⟨S,by omega,by omega,k3.step j (j - 1) ⟨by omega,by omega⟩ ⟨by omega,by omega⟩ (by omega),k4.next W (by omega) k2 (by omega) hq⟩
   ·all_goals (repeat' (first|refine qh rfl ?_|refine qC ?_|(refine qc 2 ?_;refine mv ?_;refine ad ?_;refine mv ?_;refine qf ?_)))
    refine ⟨(i+1,n),?_,?_,qx⟩
    ·show b - (i+1)<b - i;omega
    ·simp only [zE4 (show i+1≤b by omega)];exact ⟨S,by omega,k3,k4.done W (.inr hq)⟩
  ·refine ⟨(i+1,n),?_,?_,qx⟩
   ·show b - (i+1)<b - i;omega
   ·simp only [zE4 (show i+1≤b by omega)];exact ⟨S,by omega,k3,k4.done W (.inl (by omega))⟩
 ·rw [Nat.min_eq_right (by omega)] at h3;refine ⟨_,rfl,?_⟩;exact ⟨m,h2,h3,S⟩
theorem qdQ {h0 h:AH} {rs:List Rs} {v:Value} {l:List Di} (lo hi f:Nat) (S:Hs h0 h (.sl v 50 3 jb l :: rs)) (hlo:lo≤hi) (hb:f+hi≤l.length) (hl:l.length≤1000000) (hh:Heap jl f (lo+1) hi l) :
 Fn Tryz.prog Xh 244 [v,.int .i64 lo,.int .i64 hi,.int .i64 f,ZX] h (fun _ h'=>∃ l',Sw f (f+hi) l l'∧Heap jl f lo hi l'∧Hs h0 h' (.sl v 50 3 jb l' :: rs)):=by
 have W:WOrd jl:=diL_ord;refine qL (by first|rfl) Tryz.func244 rfl rfl ?_;all_goals (repeat' (first|refine qg ?_|refine qj ?_|(refine qc 0 ?_;refine mv ?_;refine mv ?_;refine qf ?_)))
 refine qH (σ:=Nat×List Di) (fun (root,m) h'=>Hs h0 h' (.sl v 50 3 jb m :: rs)∧(lo≤root∧root≤hi)∧Sw f (f+hi) l m∧SiftI jl f lo hi root m) (fun (root,m)=>hi - root) (fun (root,m)=>[(0,v),(1,.int .i64 lo),(2,.int .i64 hi),(3,.int .i64 f),(4,ZX),(10,.int .i64 root)]) (lo,l) qx ?_ ?_
 ·exact ⟨S,⟨zA3 _,hlo⟩,.refl _,.start hh⟩
 clear S;rintro ⟨root,m⟩ h ⟨S,h1,h2,h3⟩;have hml:=h2.len;by_cases hc0:2*root+1<hi
 rotate_left
 ·all_goals (repeat' (first|refine qg ?_|refine qh rfl ?_|refine qC ?_|refine qj ?_|(refine qc 1 ?_;refine mv ?_;refine ml ?_;refine ad ?_;refine mv ?_;refine qf ?_)|(refine qc 2 ?_;refine mv ?_;refine mv ?_;(refine cT ?_)<;>(refine qf ?_))))
  refine ⟨_,rfl,?_⟩;exact ⟨m,h2,h3.done ⟨fun q=>by omega,fun q=>by omega⟩,S⟩
 have e1:(2:Int)*(root:Int)+1=((2*root+1:Nat):Int):=by omega
 have e2:((f:Int)+((2*root+1:Nat):Int)).toNat=f+(2*root+1):=by omega
 have e3:((f:Int)+((2*root+1:Nat):Int)+1).toNat=f+(2*root+2):=by omega
 have e4:((2*root+1:Nat):Int)+1=((2*root+2:Nat):Int):=by omega
 have e5:((f:Int)+((2*root+2:Nat):Int)).toNat=f+(2*root+2):=by omega
 have fin:∀ c:Nat,(c=2*root+1∨c=2*root+2)→c<hi→jl (m.getD (f+root) default) (m.getD (f+c) default)→(∀ d,(d=2*root+1∨d=2*root+2)→d<hi→¬ jl (m.getD (f+c) default) (m.getD (f+d) default))→SiftI jl f lo hi c (swp m (f+root) (f+c)):=fun c g1 g2 g3 g4=>h3.next W h1.1 g1 g2 (by omega) g4 g3
 have stop:∀ c:Nat,(c=2*root+1∨c=2*root+2)→c<hi→¬ jl (m.getD (f+root) default) (m.getD (f+c) default)→(∀ d,(d=2*root+1∨d=2*root+2)→d<hi→¬ jl (m.getD (f+c) default) (m.getD (f+d) default))→Heap jl f lo hi m:=fun c g1 g2 g3 g4 =>
  h3.done ⟨fun q=>W.ntr (g4 _ (.inl rfl) q) g3,fun q=>W.ntr (g4 _ (.inr rfl) q) g3⟩
 refine qj ?_;(repeat (refine qg ?_));refine qc 1 ?_;refine mv ?_;refine ml ?_;refine ad ?_;refine mv ?_;refine qf ?_;simp only [e1];(repeat (refine qg ?_));refine qc 2 ?_;refine mv ?_;refine mv ?_;(refine cF ?_)<;>(refine qf ?_)
 refine qh rfl ?_;refine qi ?_;refine XY (σ:=Nat) (fun c h'=>Hs h0 h' (.sl v 50 3 jb m :: rs)∧(c=2*root+1∨c=2*root+2)∧c<hi∧∀ d,(d=2*root+1∨d=2*root+2)→d<hi→¬ jl (m.getD (f+c) default) (m.getD (f+d) default)) (fun c=>[(0,v),(1,.int .i64 lo),(2,.int .i64 hi),(3,.int .i64 f),(4,ZX),(10,.int .i64 root),(11,.int .i64 c)]) ?_ ?_
 ·all_goals (repeat' (first|refine qg ?_|refine qh rfl ?_|refine qi ?_|(refine qM 3 ?_;refine mv ?_;refine ad ?_;refine mv ?_;(first|(refine cS ?_ ?_<;>intro hc))<;>(refine mv ?_;(first|refine off ?_|refine mv ?_);(first|refine off ?_|refine mv ?_);(first|refine off ?_|refine mv ?_);(first|refine off ?_|refine mv ?_);(first|refine off ?_|(refine ad ?_));(first|refine off ?_|(refine qO S rfl rfl ?_));(first|refine off ?_|(refine zk S rfl rfl ?_));(first|refine off ?_|refine mv ?_);(first|refine off ?_|refine mv ?_);(first|refine off ?_|refine mv ?_);(first|refine off ?_|(refine ad ?_));(first|refine off ?_|(refine ad ?_));(first|refine off ?_|(refine qO S rfl rfl ?_));(first|refine off ?_|(refine zk S rfl rfl ?_));(first|(refine off ?_;(refine off ?_)<;>(refine vl ?_;refine qf ?_))|skip)))))
  ·simp only [e2,e3];(refine zK rfl rfl rfl rfl ((Qd S.wf _ _).mono ?_);rintro _ h ⟨d,rfl,⟨hd,hq⟩|⟨hd,hq⟩,x⟩)<;>(replace S:=S.qE x;clear x;(first|(first|refine cT ?_|refine cF ?_))<;>(refine vl ?_;refine qf ?_))
   ·all_goals (repeat' (first|refine qh rfl ?_|(refine qc 4 ?_;refine mv ?_;refine ad ?_;refine mv ?_;refine qf ?_)))
    exact ⟨2*root+2,⟨S,.inr rfl,by omega,fun d q1 q2=>by rcases q1 with rfl|rfl;exact W.asym hq;exact W.irr _⟩,(qx)⟩
   ·all_goals (repeat' (first|refine qh rfl ?_|refine qi ?_))
    exact ⟨2*root+1,⟨S,.inl rfl,by omega,fun d q1 q2=>by rcases q1 with rfl|rfl;exact W.irr _;exact hq⟩,(qx)⟩
  ·exact ⟨2*root+1,⟨S,.inl rfl,by omega,fun d q1 q2=>by rcases q1 with rfl|rfl;exact W.irr _;omega⟩,(qx)⟩
 clear S;rintro c h ⟨S,g1,g2,g3⟩;all_goals (repeat' (first|refine qg ?_|(refine qM 5 ?_;(iterate 4 refine mv ?_);refine ad ?_;refine qO S rfl rfl ?_;refine zk S rfl rfl ?_;(iterate 3 refine mv ?_);refine ad ?_;refine qO S rfl rfl ?_;refine zk S rfl rfl ?_)))
 simp only [qN,qR,qW,zA0];(refine zK rfl rfl rfl rfl ((Qd S.wf _ _).mono ?_);rintro _ h ⟨d,rfl,⟨hd,hq⟩|⟨hd,hq⟩,x⟩)<;>(replace S:=S.qE x;clear x;(first|refine cT ?_|refine cF ?_)<;>(refine vl ?_;refine qf ?_))
 ·all_goals (repeat' (first|refine qg ?_|refine qh rfl ?_|refine qi ?_|(refine qM 6 ?_;(iterate 3 refine mv ?_);refine ad ?_;(iterate 3 refine mv ?_);refine ad ?_;(iterate 3 refine mv ?_);refine ad ?_;refine qO S rfl rfl ?_;refine zk S rfl rfl ?_;(iterate 3 refine mv ?_);refine ad ?_;refine qO S rfl rfl ?_;refine zk S rfl rfl ?_;refine qO S rfl rfl ?_;(first|(refine JY S rfl rfl ?_;clear S;intro h S));refine qO S rfl rfl ?_;(first|(refine JY S rfl rfl ?_;clear S;intro h S));refine qf ?_)|(refine qc 7 ?_;refine mv ?_;refine mv ?_;refine qf ?_)))
  simp only [qN,qR,qW,zA0] at S;refine ⟨(c,swp m (f+root) (f+c)),?_,?_,qx⟩
  ·show hi - c<hi - root;omega
  ·exact ⟨S,⟨by omega,by omega⟩,h2.step _ _ ⟨by omega,by omega⟩ ⟨by omega,by omega⟩ (by omega),fin c g1 g2 hq g3⟩
 ·all_goals (repeat' (refine qh rfl ?_))
  refine qo ⟨_,rfl,?_⟩;exact ⟨m,h2,stop c g1 g2 hq g3,S⟩
theorem qhr {h0 h:AH} {rs:List Rs} {v:Value} {l:List Di} (a b:Nat) (S:Hs h0 h (.sl v 50 3 jb l :: rs)) (hab:a<b) (hb:b≤l.length) (hl:l.length≤1000000) :
 Fn Tryz.prog Xh 174 [v,.int .i64 a,.int .i64 b,ZX] h (fun _ h'=>∃ l',Sw a b l l'∧Srt jl a b l'∧Hs h0 h' (.sl v 50 3 jb l' :: rs)):=by
 have W:WOrd jl:=diL_ord;refine qL (by first|rfl) Tryz.func174 rfl rfl ?_;all_goals (repeat' (first|refine qg ?_|refine qj ?_|(refine qc 0 ?_;refine mv ?_;refine mv ?_;refine qf ?_)|(refine qc 1 ?_;refine mv ?_;refine qf ?_)|(refine qc 2 ?_;refine mv ?_;refine mv ?_;refine sb ?_;refine mv ?_;refine qf ?_)|(refine qc 3 ?_;refine mv ?_;refine sb ?_;refine qu ?_;refine mv ?_;refine qf ?_)))
 have e1:((b:Int) - (a:Int) - 1) / 2=(((b - a - 1) / 2:Nat):Int):=by omega
 refine qH (σ:=Nat×List Di) (fun (i,m) h'=>Hs h0 h' (.sl v 50 3 jb m :: rs)∧i≤b - a∧Sw a b l m∧Heap jl a i (b - a) m) (fun (i,m)=>i) (fun (i,m)=>[(0,v),(1,.int .i64 a),(2,.int .i64 b),(3,ZX),(8,.int .i64 a),(9,.int .i64 0),(10,.int .i64 (b - a:Nat)),(11,.int .i64 ((i:Int) - 1))]) ((b - a - 1) / 2+1,l) qx ?_ ?_
 ·exact ⟨S,by omega,.refl _,fun k hk=>⟨fun q=>by omega,fun q=>by omega⟩⟩
 clear S;rintro ⟨i,m⟩ h ⟨S,h1,h2,h3⟩;have hml:=h2.len;all_goals (repeat' (first|refine qg ?_|refine qh rfl ?_|refine qi ?_|refine qC ?_|refine qj ?_|(refine qc 4 ?_;refine mv ?_;(first|(refine cS ?_ ?_<;>intro hc))<;>(refine qf ?_))))
 ·have e2:(i:Int) - 1=((i - 1:Nat):Int):=by omega
  have h4:Heap jl a (i - 1+1) (b - a) m:=by rw [Nat.sub_add_cancel (by omega)];exact h3
  refine qc 6 ?_;((iterate 5 refine mv ?_);skip);simp only [e2];(refine qw rfl rfl rfl rfl rfl ((qdQ (i - 1) (b - a) a S (by omega) (by omega) (by omega) h4).mono ?_);rintro _ h ⟨l2,g1,g2,S2⟩)<;>(replace S:=S2;clear S2;refine qf ?_)
  rw [show a+(b - a)=b by omega] at g1;all_goals (repeat' (first|(refine qc 5 ?_;refine mv ?_;refine sb ?_;refine mv ?_;refine qf ?_)))
  refine ⟨(i - 1,l2),?_,?_,qx⟩
  ·show i - 1<i;omega
  ·exact ⟨S,by omega,h2.trans g1,g2⟩
 obtain rfl:i=0:=by omega
 all_goals (repeat' (first|refine qj ?_|(refine qc 7 ?_;refine mv ?_;refine sb ?_;refine mv ?_;refine qf ?_)))
 refine qH (σ:=Nat×List Di) (fun (i,m) h'=>Hs h0 h' (.sl v 50 3 jb m :: rs)∧i≤b - a∧Sw a b l m∧HeapI jl a i (b - a) m) (fun (i,m)=>i) (fun (i,m)=>[(0,v),(1,.int .i64 a),(2,.int .i64 b),(3,ZX),(8,.int .i64 a),(9,.int .i64 0),(10,.int .i64 (b - a:Nat)),(12,.int .i64 ((i:Int) - 1))]) (b - a,m) qx ?_ ?_
 ·exact ⟨S,zA3 _,h2,h3,fun p q q1 q2 q3=>by omega⟩
 clear S h1 h2 h3 hml;rintro ⟨i,m⟩ h ⟨S,h1,h2,h3⟩;have hml:=h2.len;all_goals (repeat' (first|refine qg ?_|refine qh rfl ?_|refine qi ?_|refine qC ?_|refine qj ?_|(refine qc 8 ?_;refine mv ?_;(first|(refine cS ?_ ?_<;>intro hc))<;>(refine qf ?_))))
 ·have e2:(i:Int) - 1=((i - 1:Nat):Int):=by omega
  obtain ⟨k,rfl⟩:∃ k,i=k+1:=⟨i - 1,by omega⟩
  all_goals (repeat' (first|(refine qM 10 ?_;(iterate 5 refine mv ?_);refine ad ?_;(iterate 3 refine mv ?_);refine ad ?_;refine qO S rfl rfl ?_;refine zk S rfl rfl ?_;refine mv ?_;refine mv ?_;refine qO S rfl rfl ?_;refine zk S rfl rfl ?_;refine qO S rfl rfl ?_;(first|(refine JY S rfl rfl ?_;clear S;intro h S));refine qO S rfl rfl ?_;(first|(refine JY S rfl rfl ?_;clear S;intro h S));refine qf ?_)))
  refine qc 11 ?_;((iterate 5 refine mv ?_);skip);simp only [Nat.add_sub_cancel] at e2;simp only [e2,qW,zA0] at S ⊢;replace S:Hs h0 h (.sl v 50 3 jb (swp m a (a+k)) :: rs):=S;have s1:Sw a b l (swp m a (a+k)):=h2.step _ _ ⟨by omega,by omega⟩ ⟨by omega,by omega⟩ (by omega);have hsl:=s1.len;(refine qw rfl rfl rfl rfl rfl ((qdQ 0 k a S (by omega) (by omega) (by omega) (h3.1.pop (by omega))).mono ?_);rintro _ h ⟨l2,g1,g2,S2⟩)<;>(replace S:=S2;clear S2;refine qf ?_)
  all_goals (repeat' (first|(refine qc 9 ?_;refine mv ?_;refine sb ?_;refine mv ?_;refine qf ?_)))
  refine ⟨(k,l2),?_,?_,qx⟩
  ·show k<k+1;omega
  ·exact ⟨S,by omega,s1.trans (g1.mono (zA3 _) (by omega) (by omega)),h3.pop W (by omega) (by omega) g1 g2⟩
 obtain rfl:i=0:=by omega
 refine ⟨_,rfl,?_⟩;exact ⟨m,h2,h3.done (by omega),S⟩
theorem qiz {h0 h:AH} {rs:List Rs} {v:Value} {l:List Di} (a b:Nat) (S:Hs h0 h (.sl v 50 3 jb l :: rs)) (hab:a<b) (hb:b≤l.length) (hl:l.length≤1000000) :
 Fn Tryz.prog Xh 177 [v,.int .i64 a,.int .i64 b,ZX] h (fun _ h'=>∃ l',Sw a b l l'∧Hs h0 h' (.sl v 50 3 jb l' :: rs)):=by
 have W:WOrd jl:=diL_ord;refine qL (by first|rfl) Tryz.func177 rfl rfl ?_;all_goals (repeat' (first|refine qg ?_|refine qj ?_|(refine qc 0 ?_;refine mv ?_;refine mv ?_;refine qf ?_)|(refine qc 1 ?_;refine mv ?_;refine sb ?_;refine mv ?_;refine qf ?_)))
 refine qH (σ:=Nat×Nat×List Di) (fun (i,j,m) h'=>Hs h0 h' (.sl v 50 3 jb m :: rs)∧a≤i∧j<b∧Sw a b l m) (fun (i,j,m)=>j - i) (fun (i,j,m)=>[(0,v),(1,.int .i64 a),(2,.int .i64 b),(3,ZX),(8,.int .i64 i),(9,.int .i64 j)]) (a,b - 1,l) qx ?_ ?_
 ·exact ⟨S,zA3 _,by omega,.refl _⟩
 clear S;rintro ⟨i,j,m⟩ h ⟨S,h1,h2,h3⟩;have hml:=h3.len;all_goals (repeat' (first|refine qg ?_|refine qh rfl ?_|refine qi ?_|refine qC ?_|refine qj ?_|(refine qc 2 ?_;refine mv ?_;refine mv ?_;(first|(refine cS ?_ ?_<;>intro hc))<;>(refine qf ?_))|(refine qM 3 ?_;(iterate 6 refine mv ?_);refine qO S rfl rfl ?_;refine zk S rfl rfl ?_;refine mv ?_;refine mv ?_;refine qO S rfl rfl ?_;refine zk S rfl rfl ?_;refine qO S rfl rfl ?_;(first|(refine JY S rfl rfl ?_;clear S;intro h S));refine qO S rfl rfl ?_;(first|(refine JY S rfl rfl ?_;clear S;intro h S));refine qf ?_)|(refine qc 4 ?_;refine mv ?_;refine ad ?_;refine mv ?_;refine qf ?_)|(refine qc 5 ?_;refine mv ?_;refine sb ?_;refine mv ?_;refine qf ?_)))
 ·(try simp only [qN,qR,qW,zA0] at S)
  refine ⟨(i+1,j - 1,swp m i j),?_,?_,qx⟩
  ·show j - 1 - (i+1)<j - i;omega
  ·exact ⟨S,by omega,by omega,h3.step _ _ ⟨by omega,by omega⟩ ⟨by omega,by omega⟩ (by omega)⟩
 ·refine ⟨_,rfl,?_⟩;exact ⟨m,h3,S⟩
theorem qaZ {h0 h:AH} {rs:List Rs} {v:Value} {l:List Di} {bs:Nat} {s:Int} (x y:Nat) (S:Hs h0 h (.blk bs [.int .i64 s] 3 :: .sl v 50 3 jb l :: rs)) (hx:x<l.length) (hy:y<l.length) (hl:l.length≤1000000) (hs:0≤s∧s≤100) :
 Fn Tryz.prog Xh 321 [v,.int .i64 x,.int .i64 y,.pointer (some ⟨bs,0,none⟩),ZX] h (fun r h'=>∃ (p q:Nat) (s':Int),r = .tuple #[.int .i64 p,.int .i64 q]∧((p=x∧q=y)∨(p=y∧q=x))∧(0≤s'∧s'≤s+1)∧Hs h0 h' (.blk bs [.int .i64 s'] 3 :: .sl v 50 3 jb l :: rs)):=by
 have W:WOrd jl:=diL_ord;refine qL (by first|rfl) Tryz.func321 rfl rfl ?_;all_goals (repeat' (first|refine qg ?_|(refine qc 0 ?_;refine mv ?_;refine mv ?_;refine qf ?_)|(refine qM 1 ?_;(iterate 3 refine mv ?_);refine qO S rfl rfl ?_;refine zk S rfl rfl ?_;refine mv ?_;refine mv ?_;refine qO S rfl rfl ?_;refine zk S rfl rfl ?_)))
 (try simp only [qN,qR,qW,zA0])
 (refine zK rfl rfl rfl rfl ((Qd S.wf _ _).mono ?_);rintro _ h ⟨d,rfl,⟨hd,hq⟩|⟨hd,hq⟩,x⟩)<;>(replace S:=S.qE x;clear x;(first|refine cT ?_|refine cF ?_)<;>(refine qf ?_))
 ·all_goals (repeat' (first|refine qg ?_|refine qh rfl ?_|(refine qc 2 ?_;refine mv ?_;refine vl ?_;refine lB S rfl rfl ?_;refine ad ?_;refine vl ?_;(first|(refine sB S rfl rfl ?_;clear S;intro h S));refine qf ?_)|(refine qc 3 ?_;(iterate 4 refine mv ?_);refine qf ?_)))
  refine qo ⟨_,rfl,?_⟩;exact ⟨y,x,s+1,rfl,.inr ⟨rfl,rfl⟩,by omega,S⟩
 ·all_goals (repeat' (first|refine qg ?_|refine qh rfl ?_|refine qi ?_|(refine qc 4 ?_;(iterate 4 refine mv ?_);refine qf ?_)))
  refine qo ⟨_,rfl,?_⟩;exact ⟨x,y,s,rfl,.inl ⟨rfl,rfl⟩,by omega,S⟩
theorem qgB {h0 h:AH} {rs:List Rs} {v:Value} {l:List Di} {bs:Nat} {s:Int} (x y z:Nat) (S:Hs h0 h (.blk bs [.int .i64 s] 3 :: .sl v 50 3 jb l :: rs)) (hx:x<l.length) (hy:y<l.length) (hz:z<l.length) (hl:l.length≤1000000) (hs:0≤s∧s≤90) :
 Fn Tryz.prog Xh 246 [v,.int .i64 x,.int .i64 y,.int .i64 z,.pointer (some ⟨bs,0,none⟩),ZX] h (fun r h'=>∃ (p:Nat) (s':Int),r = .int .i64 p∧(p=x∨p=y∨p=z)∧(0≤s'∧s'≤s+3)∧Hs h0 h' (.blk bs [.int .i64 s'] 3 :: .sl v 50 3 jb l :: rs)):=by
 have W:WOrd jl:=diL_ord;refine qL (by first|rfl) Tryz.func246 rfl rfl ?_;all_goals (repeat' (first|refine qg ?_|(refine qc 0 ?_;refine mv ?_;refine qf ?_)|(refine qc 1 ?_;(iterate 5 refine mv ?_);skip)))
 (refine qw rfl rfl rfl rfl rfl ((qaZ x y S hx hy hl (by omega)).mono ?_);rintro _ h ⟨p1,q1,s1,rfl,e1,e2,S2⟩)<;>(replace S:=S2;clear S2;refine mv ?_;refine vl ?_;refine vl ?_;refine mv ?_;refine mv ?_;refine qf ?_)
 all_goals (repeat' (first|refine qg ?_|(refine qc 2 ?_;(iterate 5 refine mv ?_);skip)))
 have b1:p1<l.length∧q1<l.length:=by omega
 (refine qw rfl rfl rfl rfl rfl ((qaZ q1 z S b1.2 hz hl (by omega)).mono ?_);rintro _ h ⟨p2,q2,s2,rfl,e3,e4,S2⟩)<;>(replace S:=S2;clear S2;refine mv ?_;refine vl ?_;refine vl ?_;refine mv ?_;refine mv ?_;refine qf ?_)
 all_goals (repeat' (first|refine qg ?_|(refine qc 3 ?_;(iterate 5 refine mv ?_);skip)))
 have b2:p2<l.length:=by omega
 (refine qw rfl rfl rfl rfl rfl ((qaZ p1 p2 S b1.1 b2 hl (by omega)).mono ?_);rintro _ h ⟨p3,q3,s3,rfl,e5,e6,S2⟩)<;>(replace S:=S2;clear S2;refine mv ?_;refine vl ?_;refine vl ?_;refine mv ?_;refine mv ?_;refine qf ?_)
 all_goals (repeat' (first|refine qg ?_|(refine qc 4 ?_;refine mv ?_;refine mv ?_;refine qf ?_)))
 refine qo ⟨_,rfl,?_⟩;exact ⟨q3,s3,rfl,by omega,by omega,S⟩
theorem qa4 {h0 h:AH} {rs:List Rs} {v:Value} {l:List Di} {bs:Nat} {s:Int} (x:Nat) (S:Hs h0 h (.blk bs [.int .i64 s] 3 :: .sl v 50 3 jb l :: rs)) (hx:0<x∧x+1<l.length) (hl:l.length≤1000000) (hs:0≤s∧s≤90) :
 Fn Tryz.prog Xh 245 [v,.int .i64 x,.pointer (some ⟨bs,0,none⟩),ZX] h (fun r h'=>∃ (p:Nat) (s':Int),r = .int .i64 p∧(x - 1≤p∧p≤x+1)∧(0≤s'∧s'≤s+3)∧Hs h0 h' (.blk bs [.int .i64 s'] 3 :: .sl v 50 3 jb l :: rs)):=by
 have e1:(x:Int) - 1=((x - 1:Nat):Int):=by omega
 have e2:(x:Int)+1=((x+1:Nat):Int):=by omega
 refine qL (by first|rfl) Tryz.func245 rfl rfl ?_;all_goals (repeat' (first|refine qg ?_|(refine qc 0 ?_;refine mv ?_;refine qf ?_)|(refine qc 1 ?_;refine mv ?_;refine mv ?_;refine sb ?_;refine mv ?_;refine mv ?_;refine ad ?_;refine mv ?_;refine mv ?_)))
 simp only [e1,e2];(refine qw rfl rfl rfl rfl rfl ((qgB (x - 1) x (x+1) S (by omega) (by omega) (by omega) hl (by omega)).mono ?_);rintro _ h ⟨q,s,rfl,g1,g2,S2⟩)<;>(replace S:=S2;clear S2;refine mv ?_;refine qf ?_)
 all_goals (repeat' (fail))
 refine qo ⟨_,rfl,?_⟩;exact ⟨q,s,rfl,by omega,by omega,S⟩
theorem qiC {h0 h:AH} {rs:List Rs} {v:Value} {l:List Di} (a b:Nat) (S:Hs h0 h (.sl v 50 3 jb l :: rs)) (hab:12<b - a∧b - a<260) (hb:b≤l.length) (hl:l.length≤1000000) :
 Fn Tryz.prog Xh 176 [v,.int .i64 a,.int .i64 b,ZX] h (fun r h'=>∃ (q:Nat) (t:Int),r = .tuple #[.int .i64 q,.int .i64 t]∧(a≤q∧q<b)∧Hs h0 h' (.sl v 50 3 jb l :: rs)):=by
 have W:WOrd jl:=diL_ord;refine qL (by first|rfl) Tryz.func176 rfl rfl ?_;all_goals (repeat' (first|refine qg ?_|refine qh rfl ?_|(refine qc 0 ?_;refine mv ?_;refine mv ?_;refine qf ?_)|(refine qc 1 ?_;refine mv ?_;refine mv ?_;refine sb ?_;refine mv ?_;refine qf ?_)|(refine qc 2 ?_;(refine al S ?_;clear S;intro b h S);refine qf ?_)|(refine qc 3 ?_;refine mv ?_;refine mv ?_;refine qu ?_;refine ml ?_;refine ad ?_;refine mv ?_;refine qf ?_)|(refine qc 4 ?_;refine mv ?_;refine mv ?_;refine qu ?_;refine ml ?_;refine ad ?_;refine mv ?_;refine qf ?_)|(refine qc 5 ?_;refine mv ?_;refine mv ?_;refine qu ?_;refine ml ?_;refine ad ?_;refine mv ?_;refine qf ?_)|(refine qc 6 ?_;refine mv ?_;(refine cT ?_)<;>(refine qf ?_))))
 obtain ⟨bs,hnm⟩:∃ x,x=b:=⟨_,rfl⟩;subst hnm;have e1:(a:Int)+((b:Int) - (a:Int)) / 4*1=((a+(b - a) / 4*1:Nat):Int):=by omega
 have e2:(a:Int)+((b:Int) - (a:Int)) / 4*2=((a+(b - a) / 4*2:Nat):Int):=by omega
 have e3:(a:Int)+((b:Int) - (a:Int)) / 4*3=((a+(b - a) / 4*3:Nat):Int):=by omega
 simp only [e1,e2,e3];(repeat (refine qg ?_));first|refine jC (σ:=Nat×Nat×Nat×Int) (fun (i,j,k,s) h'=>Hs h0 h' (.blk bs [.int .i64 s] 3 :: .sl v 50 3 jb l :: rs)∧(a≤i∧i<b)∧(a≤j∧j<b)∧(a≤k∧k<b)∧0≤s∧s≤9) (fun (i,j,k,s)=>[(0,v),(3,ZX),(11,.pointer (some ⟨bs,0,none⟩)),(12,.int .i64 i),(13,.int .i64 j),(14,.int .i64 k)]) ?_ ?_
 ·all_goals (repeat' (first|refine qg ?_|refine qh rfl ?_|refine qi ?_|(refine qc 7 ?_;refine mv ?_;(first|(refine cS ?_ ?_<;>intro hc))<;>(refine qf ?_))|(refine qc 8 ?_;(iterate 3 refine mv ?_);skip)))
  ·(refine qw rfl rfl rfl rfl rfl ((qa4 (a+(b - a) / 4*1) S (by omega) hl (by omega)).mono ?_);rintro _ h ⟨q,s,rfl,g1,g2,S2⟩)<;>(replace S:=S2;clear S2;refine mv ?_;refine qf ?_)
   all_goals (repeat' (first|refine qg ?_|(refine qc 9 ?_;(iterate 3 refine mv ?_);skip)))
   (refine qw rfl rfl rfl rfl rfl ((qa4 (a+(b - a) / 4*2) S (by omega) hl (by omega)).mono ?_);rintro _ h ⟨q2,s2,rfl,g3,g4,S2⟩)<;>(replace S:=S2;clear S2;refine mv ?_;refine qf ?_)
   all_goals (repeat' (first|(refine qc 10 ?_;(iterate 3 refine mv ?_);skip)))
   (refine qw rfl rfl rfl rfl rfl ((qa4 (a+(b - a) / 4*3) S (by omega) hl (by omega)).mono ?_);rintro _ h ⟨q3,s3,rfl,g5,g6,S2⟩)<;>(replace S:=S2;clear S2;refine mv ?_;refine qf ?_)
   all_goals (repeat' (fail))
   exact ⟨(q,q2,q3,s3),⟨S,by (try dsimp only);omega,by (try dsimp only);omega,by (try dsimp only);omega,by (try dsimp only);omega,by (try dsimp only);omega⟩,(qx)⟩
  ·exact ⟨(a+(b - a) / 4*1,a+(b - a) / 4*2,a+(b - a) / 4*3,0),⟨S,by (try dsimp only);omega,by (try dsimp only);omega,by (try dsimp only);omega,by (try dsimp only);omega,by (try dsimp only);omega⟩,(qx)⟩
 clear S;rintro ⟨i,j,k,s⟩ h ⟨S,k1,k2,k3,k4⟩;all_goals (repeat' (first|(refine qc 11 ?_;(iterate 5 refine mv ?_);skip)))
 (refine qw rfl rfl rfl rfl rfl ((qgB i j k S (by omega) (by omega) (by omega) hl (by omega)).mono ?_);rintro _ h ⟨q,s,rfl,g1,g2,S2⟩)<;>(replace S:=S2;clear S2;refine mv ?_;refine qf ?_)
 all_goals (repeat' (first|refine qg ?_|refine qh rfl ?_|refine qj ?_|(refine qc 12 ?_;refine lB S rfl rfl ?_;refine qf ?_)|(refine qc 13 ?_;(iterate 3 refine mv ?_);refine qf ?_)|(refine qc 14 ?_;(first|(refine cS ?_ ?_<;>intro hc))<;>(refine mv ?_;refine qf ?_))|(refine qc 15 ?_;(iterate 3 refine mv ?_);refine qf ?_)|(refine qc 16 ?_;(first|(refine cS ?_ ?_<;>intro hc))<;>(refine mv ?_;refine qf ?_))|(refine qc 17 ?_;(iterate 3 refine mv ?_);refine qf ?_)))
 all_goals (refine qo ⟨_,rfl,?_⟩)
 all_goals exact ⟨q,_,rfl,by omega,S.tail⟩
theorem qjt {h0 h:AH} {rs:List Rs} {v:Value} {l:List Di} (a b:Nat) (S:Hs h0 h (.sl v 50 3 jb l :: rs)) (hab:12<b - a∧b - a<260) (hb:b≤l.length) (hl:l.length≤1000000) :
 Fn Tryz.prog Xh 175 [v,.int .i64 a,.int .i64 b,ZX] h (fun _ h'=>∃ l',Sw a b l l'∧Hs h0 h' (.sl v 50 3 jb l' :: rs)):=by
 have W:WOrd jl:=diL_ord;have e1:(b:Int) - (a:Int)=((b - a:Nat):Int):=by omega
 refine qL (by first|rfl) Tryz.func175 rfl rfl ?_;all_goals (repeat' (first|refine qg ?_|refine qh rfl ?_|(refine qc 0 ?_;refine mv ?_;refine mv ?_;refine sb ?_;refine mv ?_;refine qf ?_)|(refine qc 1 ?_;refine mv ?_;(refine cT ?_)<;>(refine qf ?_))|(refine qc 2 ?_;refine mv ?_;refine cW ?_;(refine al S ?_;clear S;intro b h S);(first|(refine sB S rfl rfl ?_;clear S;intro h S));refine qf ?_)|(refine qc 3 ?_;refine mv ?_)))
 obtain ⟨bs,hnm⟩:∃ x,x=b:=⟨_,rfl⟩;subst hnm;simp only [e1];(refine qw rfl rfl rfl rfl rfl ((qeh S.wf (b - a) (by omega)).mono ?_);rintro _ h ⟨P,rfl,hP1,hP2,x⟩)<;>(replace S:=S.qE x;clear x;refine mv ?_;refine qf ?_)
 all_goals (repeat' (first|refine qg ?_|refine qj ?_|(refine qc 4 ?_;refine mv ?_;refine mv ?_;refine qu ?_;refine ml ?_;refine ad ?_;refine sb ?_;refine mv ?_;refine qf ?_)))
 obtain ⟨w0,hw0⟩:∃ w0:Int,w0=(b:Int) - (a:Int):=⟨_,rfl⟩
 refine qH (σ:=Nat×Int×List Di) (fun (i,z,m) h'=>Hs h0 h' (.blk bs [.int .u64 z] 228 :: .sl v 50 3 jb m :: rs)∧(0≤z∧z≤18446744073709551615)∧a+(b - a) / 4*2 - 1≤i∧i≤a+(b - a) / 4*2+2∧Sw a b l m) (fun (i,z,m)=>a+(b - a) / 4*2+2 - i) (fun (i,z,m)=>[(0,v),(1,.int .i64 a),(2,.int .i64 b),(3,ZX),(8,.int .i64 (b - a:Nat)),(9,.pointer (some ⟨bs,0,none⟩)),(10,.int .u64 P),(11,.int .i64 i)]) (a+(b - a) / 4*2 - 1,w0,l) qx ?_ ?_
 ·exact ⟨by rw [hw0];exact S,by omega,by omega,by omega,.refl _⟩
 clear S;rintro ⟨i,z,m⟩ h ⟨S,h1,h2,h3,h4⟩;have hml:=h4.len;all_goals (repeat' (first|refine qg ?_|refine qh rfl ?_|refine qi ?_|refine qC ?_|refine qj ?_|(refine qc 5 ?_;(iterate 3 refine mv ?_);refine qu ?_;refine ml ?_;refine ad ?_;refine ad ?_;(first|(refine cS ?_ ?_<;>intro hc))<;>(refine qf ?_))|(refine qc 7 ?_;skip)))
 ·(refine qw rfl rfl rfl rfl rfl ((qdq S h1).mono ?_);rintro _ h ⟨y,rfl,hy,S2⟩)<;>(replace S:=S2;clear S2;refine mv ?_;refine sW ?_;(refine aM ?_;intro r1 hr1 hr2);refine cI ?_;refine mv ?_;refine qf ?_)
  obtain ⟨k,rfl⟩:=zH3 hr1;all_goals (repeat' (first|refine qg ?_|refine qh rfl ?_|refine qi ?_|(refine qc 8 ?_;refine mv ?_;refine mv ?_;(first|(refine cS ?_ ?_<;>intro hc))<;>(refine qf ?_))|(refine qc 9 ?_;refine mv ?_;refine mv ?_;refine sb ?_;refine mv ?_;refine qf ?_)))
  ·have e5:(k:Int) - ((b - a:Nat):Int)=((k - (b - a):Nat):Int):=by omega
   simp only [e5];all_goals (repeat' (first|(refine qc 6 ?_;refine mv ?_;refine ad ?_;refine mv ?_;refine qf ?_)|(refine qM 10 ?_;(iterate 5 refine mv ?_);refine ad ?_;(iterate 3 refine mv ?_);refine ad ?_;refine qO S rfl rfl ?_;refine zk S rfl rfl ?_;refine mv ?_;refine mv ?_;refine qO S rfl rfl ?_;refine zk S rfl rfl ?_;refine qO S rfl rfl ?_;(first|(refine JY S rfl rfl ?_;clear S;intro h S));refine qO S rfl rfl ?_;(first|(refine JY S rfl rfl ?_;clear S;intro h S));refine qf ?_)))
   (try simp only [qN,qR,qW,zA0] at S)
   refine ⟨(i+1,y,swp m i (a+(k - (b - a)))),?_,?_,qx⟩
   ·show a+(b - a) / 4*2+2 - (i+1)<a+(b - a) / 4*2+2 - i;omega
   ·exact ⟨S,hy,by omega,by omega,h4.step _ _ ⟨by omega,by omega⟩ ⟨by omega,by omega⟩ (by omega)⟩
  ·skip
   all_goals (repeat' (first|(refine qc 6 ?_;refine mv ?_;refine ad ?_;refine mv ?_;refine qf ?_)|(refine qM 10 ?_;(iterate 5 refine mv ?_);refine ad ?_;(iterate 3 refine mv ?_);refine ad ?_;refine qO S rfl rfl ?_;refine zk S rfl rfl ?_;refine mv ?_;refine mv ?_;refine qO S rfl rfl ?_;refine zk S rfl rfl ?_;refine qO S rfl rfl ?_;(first|(refine JY S rfl rfl ?_;clear S;intro h S));refine qO S rfl rfl ?_;(first|(refine JY S rfl rfl ?_;clear S;intro h S));refine qf ?_)))
   (try simp only [qN,qR,qW,zA0] at S)
   refine ⟨(i+1,y,swp m i (a+k)),?_,?_,qx⟩
   ·show a+(b - a) / 4*2+2 - (i+1)<a+(b - a) / 4*2+2 - i;omega
   ·exact ⟨S,hy,by omega,by omega,h4.step _ _ ⟨by omega,by omega⟩ ⟨by omega,by omega⟩ (by omega)⟩
 ·refine ⟨_,rfl,?_⟩;exact ⟨m,h4,S.tail⟩
theorem Srt.qiI {a i:Nat} {m n:List Di} (h:Srt jl a i m) (e:∀ k,a≤k→k<i→n.getD k default=m.getD k default):Srt jl a i n:=fun p q h1 h2 h3=>by
 rw [e p h1 (by omega),e q (by omega) h3];exact h p q h1 h2 h3
theorem qhd {h0 h:AH} {rs:List Rs} {v:Value} {l:List Di} (a b:Nat) (S:Hs h0 h (.sl v 50 3 jb l :: rs)) (hab:12<b - a∧b - a<260) (hb:b≤l.length) (hl:l.length≤1000000) (hlow:0<a→∀ k,a≤k→k<b→¬ jl (l.getD k default) (l.getD (a - 1) default)) :
 Fn Tryz.prog Xh 178 [v,.int .i64 a,.int .i64 b,ZX] h (fun r h'=>∃ l',Sw a b l l'∧((r = .bool true∧Srt jl a b l')∨r = .bool false)∧Hs h0 h' (.sl v 50 3 jb l' :: rs)):=by
 have W:WOrd jl:=diL_ord;have low:∀ n,Sw a b l n→0<a→¬ jl (n.getD a default) (n.getD (a - 1) default):=fun n s q=>by
  rw [s.out (k:=a - 1) (.inl (by omega))];exact s.all (p:=fun y=>¬ jl y (l.getD (a - 1) default)) (hlow q) a (zA3 _) (by omega)
 refine qL (by first|rfl) Tryz.func178 rfl rfl ?_;all_goals (repeat' (first|refine qg ?_|refine qj ?_|(refine qc 0 ?_;refine mv ?_;refine qf ?_)|(refine qc 1 ?_;refine mv ?_;refine ad ?_;refine mv ?_;refine qf ?_)|(refine qc 2 ?_;refine mv ?_;refine qf ?_)))
 refine qH (σ:=Nat×Nat×List Di) (fun (i,c,m) h'=>Hs h0 h' (.sl v 50 3 jb m :: rs)∧(a<i∧i≤b)∧c≤5∧Sw a b l m∧Srt jl a i m) (fun (i,c,m)=>5 - c) (fun (i,c,m)=>[(0,v),(1,.int .i64 a),(2,.int .i64 b),(3,ZX),(9,.int .i64 i),(10,.int .i64 c)]) (a+1,0,l) qx ?_ ?_
 ·exact ⟨S,by omega,by omega,.refl _,fun i j q1 q2 q3=>by omega⟩
 clear S;rintro ⟨i,c,m⟩ h ⟨S,h1,hc5,s1,h3⟩;have hml:=s1.len;all_goals (repeat' (first|refine qg ?_|refine qh rfl ?_|refine qi ?_|refine qC ?_|refine qj ?_|(refine qc 3 ?_;refine mv ?_;(first|(refine cS ?_ ?_<;>intro hc))<;>(refine qf ?_))|(refine qc 24 ?_;refine mv ?_;refine qf ?_)))
 ·refine qH (σ:=Nat) (fun i h'=>Hs h0 h' (.sl v 50 3 jb m :: rs)∧(a<i∧i≤b)∧Srt jl a i m) (fun i=>b - i) (fun i=>[(0,v),(1,.int .i64 a),(2,.int .i64 b),(3,ZX),(9,.int .i64 i),(10,.int .i64 c)]) i qx ?_ ?_
  ·exact ⟨S,by omega,h3⟩
  clear S h1 h3;rintro i h ⟨S,h1,h3⟩;all_goals (repeat' (first|refine qg ?_|refine qh rfl ?_|refine qC ?_|(refine qM 5 ?_;refine mv ?_;refine mv ?_;(first|(refine cS ?_ ?_<;>intro hc))<;>(refine mv ?_;(first|refine off ?_|refine mv ?_);(first|refine off ?_|refine mv ?_);(first|refine off ?_|refine mv ?_);(first|refine off ?_|(refine qO S rfl rfl ?_));(first|refine off ?_|(refine zk S rfl rfl ?_));(first|refine off ?_|refine mv ?_);(first|refine off ?_|refine mv ?_);(first|refine off ?_|(refine sb ?_));(first|refine off ?_|(refine qO S rfl rfl ?_));(first|refine off ?_|(refine zk S rfl rfl ?_));(first|(refine off ?_;(refine off ?_)<;>((refine off ?_);refine vl ?_;refine qf ?_))|skip)))))
  ·simp only [qN,qR,qW,zA0];(refine zK rfl rfl rfl rfl ((Qd S.wf _ _).mono ?_);rintro _ h ⟨d,rfl,⟨hd,hq⟩|⟨hd,hq⟩,x⟩)<;>(replace S:=S.qE x;clear x;(first|(first|refine cT ?_|refine cF ?_))<;>((refine vl ?_);refine vl ?_;refine qf ?_))
   ·all_goals (repeat' (first|refine qg ?_|refine qh rfl ?_|refine qi ?_|refine qC ?_|(refine qc 7 ?_;refine mv ?_;refine mv ?_;(refine cF ?_)<;>(refine qf ?_))|(refine qc 9 ?_;refine mv ?_;refine mv ?_;refine sb ?_;(first|(refine cS ?_ ?_<;>intro hc))<;>(refine qf ?_))|(refine qc 10 ?_;refine mv ?_;refine qf ?_)))
    ·refine qo ⟨_,rfl,?_⟩;exact ⟨m,s1,.inr rfl,S⟩
    ·all_goals (repeat' (first|refine qg ?_|(refine qM 11 ?_;(iterate 4 refine mv ?_);refine sb ?_;refine mv ?_;refine mv ?_;refine sb ?_;refine qO S rfl rfl ?_;refine zk S rfl rfl ?_;refine mv ?_;refine mv ?_;refine qO S rfl rfl ?_;refine zk S rfl rfl ?_;refine qO S rfl rfl ?_;(first|(refine JY S rfl rfl ?_;clear S;intro h S));refine qO S rfl rfl ?_;(first|(refine JY S rfl rfl ?_;clear S;intro h S));refine qf ?_)))
     simp only [qN,qR,qW,zA0] at S;have s2:Sw a b l (swp m i (i - 1)):=s1.step _ _ ⟨by omega,by omega⟩ ⟨by omega,by omega⟩ (by omega);have hm2:=s2.len;have h4:Srt jl a (i - 1) (swp m i (i - 1)):=Srt.qiI (m:=m) (fun p q z1 z2 z3=>h3 p q z1 z2 (by omega)) fun k z1 z2=>by rw [swp_get (by omega) (by omega),if_neg (by omega),if_neg (by omega)]
     replace S:Hs h0 h (.sl v 50 3 jb (swp m i (i - 1)) :: rs):=S;generalize swp m i (i - 1)=m2 at S s2 h4 hm2
     (repeat (refine qg ?_));first|refine jC (σ:=List Di) (fun m h'=>Hs h0 h' (.sl v 50 3 jb m :: rs)∧Sw a b l m∧Srt jl a i m) (fun m=>[(0,v),(1,.int .i64 a),(2,.int .i64 b),(3,ZX),(9,.int .i64 i),(10,.int .i64 c)]) ?_ ?_
     ·all_goals (repeat' (first|refine qg ?_|refine qh rfl ?_|refine qi ?_|refine qj ?_|(refine qc 12 ?_;refine mv ?_;refine mv ?_;refine sb ?_;(first|(refine cS ?_ ?_<;>intro hc))<;>(refine qf ?_))|(refine qc 13 ?_;refine mv ?_;refine sb ?_;refine mv ?_;refine qf ?_)))
      ·refine qH (σ:=Nat×List Di) (fun (j,n) h'=>Hs h0 h' (.sl v 50 3 jb n :: rs)∧(a≤j∧j≤i - 1)∧Sw a b l n∧InsI jl a (i - 1) j n) (fun (j,n)=>j) (fun (j,n)=>[(0,v),(1,.int .i64 a),(2,.int .i64 b),(3,ZX),(9,.int .i64 i),(10,.int .i64 c),(11,.int .i64 j)]) (i - 1,m2) qx ?_ ?_
       ·exact ⟨S,by (try dsimp only);omega,s2,InsI.start h4⟩
       clear S s2 h4 hm2;rintro ⟨j,n⟩ h ⟨S,k1,k2,k3⟩;have hnl:=k2.len;all_goals (repeat' (first|refine qg ?_|refine qh rfl ?_|refine qi ?_|refine qC ?_|refine qj ?_|(refine qc 14 ?_;refine mv ?_;(first|(refine cS ?_ ?_<;>intro hc))<;>(refine qf ?_))|(refine qM 16 ?_;(iterate 3 refine mv ?_);refine qO S rfl rfl ?_;refine zk S rfl rfl ?_;refine mv ?_;refine mv ?_;refine sb ?_;refine qO S rfl rfl ?_;refine zk S rfl rfl ?_)))
       ·simp only [qN,qR,qW,zA0];(refine zK rfl rfl rfl rfl ((Qd S.wf _ _).mono ?_);rintro _ h ⟨d,rfl,⟨hd,hq2⟩|⟨hd,hq2⟩,x⟩)<;>(replace S:=S.qE x;clear x;(first|refine cT ?_|refine cF ?_)<;>(refine vl ?_;refine qf ?_))
        ·have hja:a<j:=by
          rcases zA7 a j with z|z
          ·exact z
          ·obtain rfl:j=a:=by omega
           exact absurd hq2 (low n k2 (by omega))
         all_goals (repeat' (first|refine qh rfl ?_|refine qi ?_|(refine qc 15 ?_;refine mv ?_;refine sb ?_;refine mv ?_;refine qf ?_)|(refine qM 17 ?_;(iterate 4 refine mv ?_);refine sb ?_;refine mv ?_;refine mv ?_;refine sb ?_;refine qO S rfl rfl ?_;refine zk S rfl rfl ?_;refine mv ?_;refine mv ?_;refine qO S rfl rfl ?_;refine zk S rfl rfl ?_;refine qO S rfl rfl ?_;(first|(refine JY S rfl rfl ?_;clear S;intro h S));refine qO S rfl rfl ?_;(first|(refine JY S rfl rfl ?_;clear S;intro h S));refine qf ?_)))
         simp only [qN,qR,qW,zA0] at S;refine ⟨(j - 1,swp n j (j - 1)),?_,?_,qx⟩
         ·show j - 1<j;omega
         ·exact ⟨S,by (try dsimp only);omega,k2.step _ _ ⟨by omega,by omega⟩ ⟨by omega,by omega⟩ (by omega),k3.next W hja k1.2 (by omega) hq2⟩
        ·all_goals (repeat' (first|refine qh rfl ?_|refine qC ?_))
         exact ⟨n,⟨S,k2,by have:=k3.done W (.inr hq2);rwa [show i - 1+1=i by omega] at this⟩,(qx)⟩
       ·exact ⟨n,⟨S,k2,by have:=k3.done W (.inl (by omega));rwa [show i - 1+1=i by omega] at this⟩,(qx)⟩
      ·exact ⟨m2,⟨S,s2,fun p q z1 z2 z3=>by omega⟩,(qx)⟩
     clear S s2 h4 hm2 m2;rintro m2 h ⟨S,s2,h4⟩;have hm2:=s2.len;all_goals (repeat' (first|refine qg ?_|refine qh rfl ?_|refine qi ?_|refine qj ?_|(refine qc 4 ?_;refine mv ?_;refine ad ?_;refine mv ?_;refine qf ?_)|(refine qc 18 ?_;refine mv ?_;refine mv ?_;refine sb ?_;(first|(refine cS ?_ ?_<;>intro hc))<;>(refine qf ?_))|(refine qc 19 ?_;refine mv ?_;refine ad ?_;refine mv ?_;refine qf ?_)))
     ·refine qH (σ:=Nat×List Di) (fun (j,n) h'=>Hs h0 h' (.sl v 50 3 jb n :: rs)∧(i<j∧j≤b)∧Sw a b l n∧Srt jl a i n) (fun (j,n)=>b - j) (fun (j,n)=>[(0,v),(1,.int .i64 a),(2,.int .i64 b),(3,ZX),(9,.int .i64 i),(10,.int .i64 c),(12,.int .i64 j)]) (i+1,m2) qx ?_ ?_
      ·exact ⟨S,by (try dsimp only);omega,s2,h4⟩
      clear S s2 h4 hm2;rintro ⟨j,n⟩ h ⟨S,k1,k2,k3⟩;have hnl:=k2.len;all_goals (repeat' (first|refine qg ?_|refine qh rfl ?_|refine qi ?_|refine qC ?_|refine qj ?_|(refine qc 20 ?_;refine mv ?_;refine mv ?_;(first|(refine cS ?_ ?_<;>intro hc))<;>(refine qf ?_))|(refine qM 22 ?_;(iterate 3 refine mv ?_);refine qO S rfl rfl ?_;refine zk S rfl rfl ?_;refine mv ?_;refine mv ?_;refine sb ?_;refine qO S rfl rfl ?_;refine zk S rfl rfl ?_)))
      ·simp only [qN,qR,qW,zA0];(refine zK rfl rfl rfl rfl ((Qd S.wf _ _).mono ?_);rintro _ h ⟨d,rfl,⟨hd,hq2⟩|⟨hd,hq2⟩,x⟩)<;>(replace S:=S.qE x;clear x;(first|refine cT ?_|refine cF ?_)<;>(refine vl ?_;refine qf ?_))
       ·all_goals (repeat' (first|refine qh rfl ?_|refine qi ?_|(refine qc 21 ?_;refine mv ?_;refine ad ?_;refine mv ?_;refine qf ?_)|(refine qM 23 ?_;(iterate 4 refine mv ?_);refine sb ?_;refine mv ?_;refine mv ?_;refine sb ?_;refine qO S rfl rfl ?_;refine zk S rfl rfl ?_;refine mv ?_;refine mv ?_;refine qO S rfl rfl ?_;refine zk S rfl rfl ?_;refine qO S rfl rfl ?_;(first|(refine JY S rfl rfl ?_;clear S;intro h S));refine qO S rfl rfl ?_;(first|(refine JY S rfl rfl ?_;clear S;intro h S));refine qf ?_)))
        simp only [qN,qR,qW,zA0] at S;refine ⟨(j+1,swp n j (j - 1)),?_,?_,qx⟩
        ·show b - (j+1)<b - j;omega
        ·refine ⟨S,by (try dsimp only);omega,k2.step _ _ ⟨by omega,by omega⟩ ⟨by omega,by omega⟩ (by omega),k3.qiI fun k z1 z2=>?_⟩;rw [swp_get (by omega) (by omega),if_neg (by omega),if_neg (by omega)]
       ·all_goals (repeat' (first|refine qh rfl ?_|refine qC ?_|(refine qc 4 ?_;refine mv ?_;refine ad ?_;refine mv ?_;refine qf ?_)))
        refine ⟨(i,c+1,n),?_,?_,qx⟩
        ·show 5 - (c+1)<5 - c;omega
        ·exact ⟨S,h1,by (try dsimp only);omega,k2,k3⟩
      ·all_goals (repeat' (first|(refine qc 4 ?_;refine mv ?_;refine ad ?_;refine mv ?_;refine qf ?_)))
       refine ⟨(i,c+1,n),?_,?_,qx⟩
       ·show 5 - (c+1)<5 - c;omega
       ·exact ⟨S,h1,by (try dsimp only);omega,k2,k3⟩
     ·refine ⟨(i,c+1,m2),?_,?_,qx⟩
      ·show 5 - (c+1)<5 - c;omega
      ·exact ⟨S,h1,by (try dsimp only);omega,s2,h4⟩
   ·all_goals (repeat' (first|refine qh rfl ?_|refine qi ?_|refine qj ?_|(refine qc 6 ?_;refine mv ?_;refine ad ?_;refine mv ?_;refine qf ?_)))
    refine ⟨i+1,?_,?_,qx⟩
    ·show b - (i+1)<b - i;omega
    ·refine ⟨S,by omega,Srt.adj W fun k q1 q2=>?_⟩;rcases zA7 (k+1) i with q|q
     ·exact h3 k (k+1) q1 (by omega) q
     ·obtain rfl:i=k+1:=by omega
      exact hq
  ·obtain rfl:i=b:=by omega
   all_goals (repeat' (first|refine qg ?_|refine qh rfl ?_|(refine qc 7 ?_;refine mv ?_;refine mv ?_;(refine cT ?_)<;>(refine qf ?_))|(refine qc 8 ?_;refine mv ?_;refine qf ?_)))
   refine qo ⟨_,rfl,?_⟩;exact ⟨m,s1,.inl ⟨rfl,h3⟩,S⟩
 ·refine qo ⟨_,rfl,?_⟩;exact ⟨m,s1,.inr rfl,S⟩
theorem qiE {h0 h:AH} {rs:List Rs} {v:Value} {l:List Di} (a b q:Nat) (S:Hs h0 h (.sl v 50 3 jb l :: rs)) (hab:a≤q∧q<b) (hb:b≤l.length) (hl:l.length≤1000000) :
 Fn Tryz.prog Xh 179 [v,.int .i64 a,.int .i64 b,.int .i64 q,ZX] h (fun r h'=>∃ (e:Nat) (l':List Di),r = .int .i64 e∧(a<e∧e≤b)∧Sw a b l l'∧(∀ k,a≤k→k<e→¬ jl (l.getD q default) (l'.getD k default))∧(∀ k,e≤k→k<b→jl (l.getD q default) (l'.getD k default))∧Hs h0 h' (.sl v 50 3 jb l' :: rs)):=by
 have W:WOrd jl:=diL_ord;obtain ⟨x,hx⟩:∃ x,x=l.getD q default:=⟨_,rfl⟩
 rw [← hx];refine qL (by first|rfl) Tryz.func179 rfl rfl ?_;all_goals (repeat' (first|refine qg ?_|refine qj ?_|(refine qc 0 ?_;refine mv ?_;refine qf ?_)|(refine qM 1 ?_;(iterate 6 refine mv ?_);refine qO S rfl rfl ?_;refine zk S rfl rfl ?_;refine mv ?_;refine mv ?_;refine qO S rfl rfl ?_;refine zk S rfl rfl ?_;refine qO S rfl rfl ?_;(first|(refine JY S rfl rfl ?_;clear S;intro h S));refine qO S rfl rfl ?_;(first|(refine JY S rfl rfl ?_;clear S;intro h S));refine qf ?_)|(refine qc 2 ?_;refine mv ?_;refine ad ?_;refine mv ?_;refine sb ?_;refine mv ?_;refine mv ?_;refine qf ?_)))
 (try simp only [qN,qR,qW,zA0] at S)
 have s1:Sw a b l (swp l a q):=.one _ _ ⟨by omega,by omega⟩ ⟨by omega,by omega⟩ hb;have x1:(swp l a q).getD a default=x:=by
  rw [swp_get (by omega) (by omega),hx];split
  ·rename_i e;rw [e]
  ·rw [if_pos rfl]
 refine qH (σ:=Nat×Nat×List Di) (fun (i,j,m) h'=>Hs h0 h' (.sl v 50 3 jb m :: rs)∧Sw a b l m∧EqI jl a b x i j m) (fun (i,j,m)=>j+1 - i) (fun (i,j,m)=>[(0,v),(1,.int .i64 a),(2,.int .i64 b),(3,.int .i64 q),(4,ZX),(11,.int .i64 i),(12,.int .i64 j)]) (a+1,b - 1,swp l a q) qx ?_ ?_
 ·exact ⟨S,s1,⟨by omega,fun k q1 q2=>by omega,fun k q1 q2=>by omega,x1⟩⟩
 clear S s1 x1;rintro ⟨i0,j0,m⟩ h ⟨S,s1,E⟩;have hml:=s1.len;have hbi:=E.bi;have ex:=E.x;refine qj ?_;refine XY (σ:=Nat) (fun i h'=>Hs h0 h' (.sl v 50 3 jb m :: rs)∧EqI jl a b x i j0 m∧i0≤i∧(i≤j0→jl x (m.getD i default))) (fun i=>[(0,v),(1,.int .i64 a),(2,.int .i64 b),(3,.int .i64 q),(4,ZX),(11,.int .i64 i),(12,.int .i64 j0)]) ?_ ?_
 ·all_goals (repeat' (refine qj ?_))
  refine qH (σ:=Nat) (fun i h'=>Hs h0 h' (.sl v 50 3 jb m :: rs)∧EqI jl a b x i j0 m∧i0≤i) (fun i=>j0+1 - i) (fun i=>[(0,v),(1,.int .i64 a),(2,.int .i64 b),(3,.int .i64 q),(4,ZX),(11,.int .i64 i),(12,.int .i64 j0)]) i0 qx ?_ ?_
  ·exact ⟨S,E,zA3 _⟩
  clear S E hbi;rintro i h ⟨S,E,hi0⟩;have hbi:=E.bi;all_goals (repeat' (first|refine qg ?_|refine qh rfl ?_|refine qC ?_|(refine qM 3 ?_;refine mv ?_;refine mv ?_;(first|(refine cS ?_ ?_<;>intro hc))<;>(refine mv ?_;(first|refine off ?_|refine mv ?_);(first|refine off ?_|refine mv ?_);(first|refine off ?_|refine mv ?_);(first|refine off ?_|(refine qO S rfl rfl ?_));(first|refine off ?_|(refine zk S rfl rfl ?_));(first|refine off ?_|refine mv ?_);(first|refine off ?_|refine mv ?_);(first|refine off ?_|(refine qO S rfl rfl ?_));(first|refine off ?_|(refine zk S rfl rfl ?_));(first|(refine off ?_;(refine off ?_)<;>((refine off ?_);refine vl ?_;refine qf ?_))|skip)))))
  ·simp only [qN,qR,qW,zA0];(refine zK rfl rfl rfl rfl ((Qd S.wf _ _).mono ?_);rintro _ h ⟨d,rfl,⟨hd,hq⟩|⟨hd,hq⟩,x⟩)<;>(replace S:=S.qE x;clear x;rw [ex] at hq;(first|(first|refine cT ?_|refine cF ?_))<;>((refine vl ?_);refine vl ?_;refine qf ?_))
   ·all_goals (repeat' (first|refine qh rfl ?_|refine qC ?_))
    exact ⟨i,⟨S,E,hi0,fun _=>hq⟩,(qx)⟩
   ·all_goals (repeat' (first|refine qh rfl ?_|refine qi ?_|refine qj ?_|(refine qc 4 ?_;refine mv ?_;refine ad ?_;refine mv ?_;refine qf ?_)))
    refine ⟨i+1,?_,?_,qx⟩
    ·show j0+1 - (i+1)<j0+1 - i;omega
    ·refine ⟨S,⟨by omega,fun k q1 q2=>?_,E.hi,ex⟩,by omega⟩;rcases zA7 k i with q|q
     ·exact E.lo k q1 q
     ·obtain rfl:k=i:=by omega
      exact hq
  ·exact ⟨i,⟨S,E,hi0,fun q=>by omega⟩,(qx)⟩
 clear S E hbi;rintro i h ⟨S,E,hi0,hi1⟩;have hbi:=E.bi;refine XY (σ:=Nat) (fun j h'=>Hs h0 h' (.sl v 50 3 jb m :: rs)∧EqI jl a b x i j m∧j≤j0∧(i≤j→¬ jl x (m.getD j default))) (fun j=>[(0,v),(1,.int .i64 a),(2,.int .i64 b),(3,.int .i64 q),(4,ZX),(11,.int .i64 i),(12,.int .i64 j)]) ?_ ?_
 ·all_goals (repeat' (refine qj ?_))
  refine qH (σ:=Nat) (fun j h'=>Hs h0 h' (.sl v 50 3 jb m :: rs)∧EqI jl a b x i j m∧j≤j0) (fun j=>j) (fun j=>[(0,v),(1,.int .i64 a),(2,.int .i64 b),(3,.int .i64 q),(4,ZX),(11,.int .i64 i),(12,.int .i64 j)]) j0 qx ?_ ?_
  ·exact ⟨S,E,zA3 _⟩
  clear S E hbi;rintro j h ⟨S,E,hj0⟩;have hbi:=E.bi;all_goals (repeat' (first|refine qg ?_|refine qh rfl ?_|refine qC ?_|(refine qM 5 ?_;refine mv ?_;refine mv ?_;(first|(refine cS ?_ ?_<;>intro hc))<;>(refine mv ?_;(first|refine off ?_|refine mv ?_);(first|refine off ?_|refine mv ?_);(first|refine off ?_|refine mv ?_);(first|refine off ?_|(refine qO S rfl rfl ?_));(first|refine off ?_|(refine zk S rfl rfl ?_));(first|refine off ?_|refine mv ?_);(first|refine off ?_|refine mv ?_);(first|refine off ?_|(refine qO S rfl rfl ?_));(first|refine off ?_|(refine zk S rfl rfl ?_));(first|(refine off ?_;(refine off ?_)<;>(refine vl ?_;refine qf ?_))|skip)))))
  ·simp only [qN,qR,qW,zA0];(refine zK rfl rfl rfl rfl ((Qd S.wf _ _).mono ?_);rintro _ h ⟨d,rfl,⟨hd,hq⟩|⟨hd,hq⟩,x⟩)<;>(replace S:=S.qE x;clear x;rw [ex] at hq;(first|(first|refine cT ?_|refine cF ?_))<;>(refine vl ?_;refine qf ?_))
   ·all_goals (repeat' (first|refine qh rfl ?_|refine qi ?_|refine qj ?_|(refine qc 6 ?_;refine mv ?_;refine sb ?_;refine mv ?_;refine qf ?_)))
    refine ⟨j - 1,?_,?_,qx⟩
    ·show j - 1<j;omega
    ·refine ⟨S,⟨by omega,E.lo,fun k q1 q2=>?_,ex⟩,by omega⟩;rcases zA7 j k with q|q
     ·exact E.hi k q q2
     ·obtain rfl:k=j:=by omega
      exact hq
   ·all_goals (repeat' (first|refine qh rfl ?_|refine qC ?_))
    exact ⟨j,⟨S,E,hj0,fun _=>hq⟩,(qx)⟩
  ·exact ⟨j,⟨S,E,hj0,fun q=>by omega⟩,(qx)⟩
 clear S E hbi;rintro j h ⟨S,E,hj0,hj1⟩;have hbi:=E.bi;all_goals (repeat' (first|refine qg ?_|refine qh rfl ?_|refine qi ?_|refine qC ?_|(refine qc 7 ?_;refine mv ?_;refine mv ?_;(first|(refine cS ?_ ?_<;>intro hc))<;>(refine qf ?_))|(refine qM 8 ?_;(iterate 6 refine mv ?_);refine qO S rfl rfl ?_;refine zk S rfl rfl ?_;refine mv ?_;refine mv ?_;refine qO S rfl rfl ?_;refine zk S rfl rfl ?_;refine qO S rfl rfl ?_;(first|(refine JY S rfl rfl ?_;clear S;intro h S));refine qO S rfl rfl ?_;(first|(refine JY S rfl rfl ?_;clear S;intro h S));refine qf ?_)|(refine qc 9 ?_;refine mv ?_;refine ad ?_;refine mv ?_;refine qf ?_)|(refine qc 10 ?_;refine mv ?_;refine sb ?_;refine mv ?_;refine qf ?_)|(refine qc 11 ?_;refine mv ?_;refine mv ?_;refine qf ?_)))
 ·refine qo ⟨_,rfl,?_⟩;refine ⟨i,m,rfl,by omega,s1,fun k q1 q2=>?_,fun k q1 q2=>E.hi k (by omega) q2,S⟩;rcases zA7 a k with q|q
  ·exact E.lo k q q2
  ·obtain rfl:k=a:=by omega
   rw [ex];exact W.irr _
 ·(try simp only [qN,qR,qW,zA0] at S)
  obtain ⟨z1,z2⟩:=E.swap (by omega) (by omega) (hi1 (by omega)) (hj1 (by omega));refine ⟨(i+1,j - 1,swp m i j),?_,?_,qx⟩
  ·show j - 1+1 - (i+1)<j0+1 - i0;omega
  ·exact ⟨S,s1.step _ _ ⟨by omega,by omega⟩ ⟨by omega,by omega⟩ (by omega),z2⟩
theorem qhf {h0 h:AH} {rs:List Rs} {v:Value} {l:List Di} (a b q:Nat) (S:Hs h0 h (.sl v 50 3 jb l :: rs)) (hab:a≤q∧q<b) (hb:b≤l.length) (hl:l.length≤1000000) :
 Fn Tryz.prog Xh 180 [v,.int .i64 a,.int .i64 b,.int .i64 q,ZX] h (fun r h'=>∃ (e:Nat) (f:Bool) (l':List Di),r = .tuple #[.int .i64 e,.bool f]∧(a≤e∧e<b)∧Sw a b l l'∧Parted jl a b e l'∧Hs h0 h' (.sl v 50 3 jb l' :: rs)):=by
 have W:WOrd jl:=diL_ord;obtain ⟨x,hx⟩:∃ x,x=l.getD q default:=⟨_,rfl⟩
 refine qL (by first|rfl) Tryz.func180 rfl rfl ?_;all_goals (repeat' (first|refine qg ?_|(refine qc 0 ?_;refine mv ?_;refine mv ?_;refine qf ?_)|(refine qM 1 ?_;(iterate 6 refine mv ?_);refine qO S rfl rfl ?_;refine zk S rfl rfl ?_;refine mv ?_;refine mv ?_;refine qO S rfl rfl ?_;refine zk S rfl rfl ?_;refine qO S rfl rfl ?_;(first|(refine JY S rfl rfl ?_;clear S;intro h S));refine qO S rfl rfl ?_;(first|(refine JY S rfl rfl ?_;clear S;intro h S));refine qf ?_)))
 (repeat (refine qg ?_));refine qc 2 ?_;refine mv ?_;refine ad ?_;refine mv ?_;refine sb ?_;refine mv ?_;refine mv ?_;refine qf ?_;(try simp only [qN,qR,qW,zA0] at S);have s1:Sw a b l (swp l a q):=.one _ _ ⟨by omega,by omega⟩ ⟨by omega,by omega⟩ hb;have x1:(swp l a q).getD a default=x:=by
  rw [swp_get (by omega) (by omega),hx];split
  ·rename_i e;rw [e]
  ·rw [if_pos rfl]
 obtain ⟨m,hm⟩:∃ m,m=swp l a q:=⟨_,rfl⟩
 replace S:Hs h0 h (.sl v 50 3 jb m :: rs):=by rw [hm];exact S
 rw [← hm] at s1 x1;have hml:=s1.len;have ex:=x1;have E:PartI jl a b x (a+1) (b - 1) m:=⟨by omega,fun k q1 q2=>by omega,fun k q1 q2=>by omega,x1⟩
 have hbi:=E.bi;refine XY (σ:=Nat) (fun i h'=>Hs h0 h' (.sl v 50 3 jb m :: rs)∧PartI jl a b x i (b - 1) m∧(a+1)≤i∧(i≤(b - 1)→¬ jl (m.getD i default) x)) (fun i=>[(0,v),(1,.int .i64 a),(2,.int .i64 b),(3,.int .i64 q),(4,ZX),(12,.int .i64 i),(13,.int .i64 (b - 1:Nat))]) ?_ ?_
 ·all_goals (repeat' (refine qj ?_))
  refine qH (σ:=Nat) (fun i h'=>Hs h0 h' (.sl v 50 3 jb m :: rs)∧PartI jl a b x i (b - 1) m∧(a+1)≤i) (fun i=>(b - 1)+1 - i) (fun i=>[(0,v),(1,.int .i64 a),(2,.int .i64 b),(3,.int .i64 q),(4,ZX),(12,.int .i64 i),(13,.int .i64 (b - 1:Nat))]) (a+1) qx ?_ ?_
  ·exact ⟨S,E,zA3 _⟩
  clear S E hbi;rintro i h ⟨S,E,hi0⟩;have hbi:=E.bi;all_goals (repeat' (first|refine qg ?_|refine qh rfl ?_|refine qC ?_|(refine qM 3 ?_;refine mv ?_;refine mv ?_;(first|(refine cS ?_ ?_<;>intro hc))<;>(refine mv ?_;(first|refine off ?_|refine mv ?_);(first|refine off ?_|refine mv ?_);(first|refine off ?_|refine mv ?_);(first|refine off ?_|(refine qO S rfl rfl ?_));(first|refine off ?_|(refine zk S rfl rfl ?_));(first|refine off ?_|refine mv ?_);(first|refine off ?_|refine mv ?_);(first|refine off ?_|(refine qO S rfl rfl ?_));(first|refine off ?_|(refine zk S rfl rfl ?_));(first|(refine off ?_;(refine off ?_)<;>(refine vl ?_;refine qf ?_))|skip)))))
  ·simp only [qN,qR,qW,zA0];(refine zK rfl rfl rfl rfl ((Qd S.wf _ _).mono ?_);rintro _ h ⟨d,rfl,⟨hd,hq⟩|⟨hd,hq⟩,x⟩)<;>(replace S:=S.qE x;clear x;rw [ex] at hq;(first|(first|refine cT ?_|refine cF ?_))<;>(refine vl ?_;refine qf ?_))
   ·all_goals (repeat' (first|refine qh rfl ?_|refine qi ?_|refine qj ?_|(refine qc 4 ?_;refine mv ?_;refine ad ?_;refine mv ?_;refine qf ?_)))
    refine ⟨i+1,?_,?_,qx⟩
    ·show (b - 1)+1 - (i+1)<(b - 1)+1 - i;omega
    ·refine ⟨S,⟨by omega,fun k q1 q2=>?_,E.hi,ex⟩,by omega⟩;rcases zA7 k i with q|q
     ·exact E.lo k q1 q
     ·obtain rfl:k=i:=by omega
      exact hq
   ·all_goals (repeat' (first|refine qh rfl ?_|refine qC ?_))
    exact ⟨i,⟨S,E,hi0,fun _=>hq⟩,(qx)⟩
  ·exact ⟨i,⟨S,E,hi0,fun q=>by omega⟩,(qx)⟩
 clear S E hbi;rintro i h ⟨S,E,hi0,hi1⟩;have hbi:=E.bi;refine XY (σ:=Nat) (fun j h'=>Hs h0 h' (.sl v 50 3 jb m :: rs)∧PartI jl a b x i j m∧j≤(b - 1)∧(i≤j→jl (m.getD j default) x)) (fun j=>[(0,v),(1,.int .i64 a),(2,.int .i64 b),(3,.int .i64 q),(4,ZX),(12,.int .i64 i),(13,.int .i64 j)]) ?_ ?_
 ·all_goals (repeat' (refine qj ?_))
  refine qH (σ:=Nat) (fun j h'=>Hs h0 h' (.sl v 50 3 jb m :: rs)∧PartI jl a b x i j m∧j≤(b - 1)) (fun j=>j) (fun j=>[(0,v),(1,.int .i64 a),(2,.int .i64 b),(3,.int .i64 q),(4,ZX),(12,.int .i64 i),(13,.int .i64 j)]) (b - 1) qx ?_ ?_
  ·exact ⟨S,E,zA3 _⟩
  clear S E hbi;rintro j h ⟨S,E,hj0⟩;have hbi:=E.bi;all_goals (repeat' (first|refine qg ?_|refine qh rfl ?_|refine qC ?_|(refine qM 5 ?_;refine mv ?_;refine mv ?_;(first|(refine cS ?_ ?_<;>intro hc))<;>(refine mv ?_;(first|refine off ?_|refine mv ?_);(first|refine off ?_|refine mv ?_);(first|refine off ?_|refine mv ?_);(first|refine off ?_|(refine qO S rfl rfl ?_));(first|refine off ?_|(refine zk S rfl rfl ?_));(first|refine off ?_|refine mv ?_);(first|refine off ?_|refine mv ?_);(first|refine off ?_|(refine qO S rfl rfl ?_));(first|refine off ?_|(refine zk S rfl rfl ?_));(first|(refine off ?_;(refine off ?_)<;>((refine off ?_);refine vl ?_;refine qf ?_))|skip)))))
  ·simp only [qN,qR,qW,zA0];(refine zK rfl rfl rfl rfl ((Qd S.wf _ _).mono ?_);rintro _ h ⟨d,rfl,⟨hd,hq⟩|⟨hd,hq⟩,x⟩)<;>(replace S:=S.qE x;clear x;rw [ex] at hq;(first|(first|refine cT ?_|refine cF ?_))<;>((refine vl ?_);refine vl ?_;refine qf ?_))
   ·all_goals (repeat' (first|refine qh rfl ?_|refine qC ?_))
    exact ⟨j,⟨S,E,hj0,fun _=>hq⟩,(qx)⟩
   ·all_goals (repeat' (first|refine qh rfl ?_|refine qi ?_|refine qj ?_|(refine qc 6 ?_;refine mv ?_;refine sb ?_;refine mv ?_;refine qf ?_)))
    refine ⟨j - 1,?_,?_,qx⟩
    ·show j - 1<j;omega
    ·refine ⟨S,⟨by omega,E.lo,fun k q1 q2=>?_,ex⟩,by omega⟩;rcases zA7 j k with q|q
     ·exact E.hi k q q2
     ·obtain rfl:k=j:=by omega
      exact hq
  ·exact ⟨j,⟨S,E,hj0,fun q=>by omega⟩,(qx)⟩
 clear S E hbi;rintro j h ⟨S,E,hj0,hj1⟩;have hbi:=E.bi;all_goals (repeat' (first|refine qg ?_|refine qh rfl ?_|refine qi ?_|refine qj ?_|(refine qc 7 ?_;refine mv ?_;refine mv ?_;(first|(refine cS ?_ ?_<;>intro hc))<;>(refine qf ?_))|(refine qM 8 ?_;(iterate 6 refine mv ?_);refine qO S rfl rfl ?_;refine zk S rfl rfl ?_;refine mv ?_;refine mv ?_;refine qO S rfl rfl ?_;refine zk S rfl rfl ?_;refine qO S rfl rfl ?_;(first|(refine JY S rfl rfl ?_;clear S;intro h S));refine qO S rfl rfl ?_;(first|(refine JY S rfl rfl ?_;clear S;intro h S));refine qf ?_)|(refine qc 9 ?_;(iterate 3 refine mv ?_);refine qf ?_)|(refine qM 10 ?_;(iterate 6 refine mv ?_);refine qO S rfl rfl ?_;refine zk S rfl rfl ?_;refine mv ?_;refine mv ?_;refine qO S rfl rfl ?_;refine zk S rfl rfl ?_;refine qO S rfl rfl ?_;(first|(refine JY S rfl rfl ?_;clear S;intro h S));refine qO S rfl rfl ?_;(first|(refine JY S rfl rfl ?_;clear S;intro h S));refine qf ?_)|(refine qc 11 ?_;refine mv ?_;refine ad ?_;refine mv ?_;refine qf ?_)|(refine qc 12 ?_;refine mv ?_;refine sb ?_;refine mv ?_;refine qf ?_)))
 ·(try simp only [qN,qR,qW,zA0] at S)
  refine qo ⟨_,rfl,?_⟩;exact ⟨j,true,swp m j a,rfl,by omega,s1.step _ _ ⟨by omega,by omega⟩ ⟨by omega,by omega⟩ (by omega),E.done W (by omega) (by omega),S⟩
 (try simp only [qN,qR,qW,zA0] at S)
 obtain ⟨z1,z2⟩:=E.swap (by omega) (by omega) (hi1 (by omega)) (hj1 (by omega));refine qH (σ:=Nat×Nat×List Di) (fun (i,j,m) h'=>Hs h0 h' (.sl v 50 3 jb m :: rs)∧Sw a b l m∧PartI jl a b x i j m) (fun (i,j,m)=>j+1 - i) (fun (i,j,m)=>[(0,v),(1,.int .i64 a),(2,.int .i64 b),(3,.int .i64 q),(4,ZX),(12,.int .i64 i),(13,.int .i64 j)]) (i+1,j - 1,swp m i j) qx ?_ ?_
 ·exact ⟨S,s1.step _ _ ⟨by omega,by omega⟩ ⟨by omega,by omega⟩ (by omega),z2⟩
 clear S s1 x1 E hbi hi0 hi1 hj0 hj1 z1 z2 hml ex hm;rintro ⟨i0,j0,m⟩ h ⟨S,s1,E⟩;have hml:=s1.len;have hbi:=E.bi;have ex:=E.x;refine qj ?_;refine XY (σ:=Nat) (fun i h'=>Hs h0 h' (.sl v 50 3 jb m :: rs)∧PartI jl a b x i j0 m∧i0≤i∧(i≤j0→¬ jl (m.getD i default) x)) (fun i=>[(0,v),(1,.int .i64 a),(2,.int .i64 b),(3,.int .i64 q),(4,ZX),(12,.int .i64 i),(13,.int .i64 j0)]) ?_ ?_
 ·all_goals (repeat' (refine qj ?_))
  refine qH (σ:=Nat) (fun i h'=>Hs h0 h' (.sl v 50 3 jb m :: rs)∧PartI jl a b x i j0 m∧i0≤i) (fun i=>j0+1 - i) (fun i=>[(0,v),(1,.int .i64 a),(2,.int .i64 b),(3,.int .i64 q),(4,ZX),(12,.int .i64 i),(13,.int .i64 j0)]) i0 qx ?_ ?_
  ·exact ⟨S,E,zA3 _⟩
  clear S E hbi;rintro i h ⟨S,E,hi0⟩;have hbi:=E.bi;all_goals (repeat' (first|refine qg ?_|refine qh rfl ?_|refine qC ?_|(refine qM 13 ?_;refine mv ?_;refine mv ?_;(first|(refine cS ?_ ?_<;>intro hc))<;>(refine mv ?_;(first|refine off ?_|refine mv ?_);(first|refine off ?_|refine mv ?_);(first|refine off ?_|refine mv ?_);(first|refine off ?_|(refine qO S rfl rfl ?_));(first|refine off ?_|(refine zk S rfl rfl ?_));(first|refine off ?_|refine mv ?_);(first|refine off ?_|refine mv ?_);(first|refine off ?_|(refine qO S rfl rfl ?_));(first|refine off ?_|(refine zk S rfl rfl ?_));(first|(refine off ?_;(refine off ?_)<;>(refine vl ?_;refine qf ?_))|skip)))))
  ·simp only [qN,qR,qW,zA0];(refine zK rfl rfl rfl rfl ((Qd S.wf _ _).mono ?_);rintro _ h ⟨d,rfl,⟨hd,hq⟩|⟨hd,hq⟩,x⟩)<;>(replace S:=S.qE x;clear x;rw [ex] at hq;(first|(first|refine cT ?_|refine cF ?_))<;>(refine vl ?_;refine qf ?_))
   ·all_goals (repeat' (first|refine qh rfl ?_|refine qi ?_|refine qj ?_|(refine qc 14 ?_;refine mv ?_;refine ad ?_;refine mv ?_;refine qf ?_)))
    refine ⟨i+1,?_,?_,qx⟩
    ·show j0+1 - (i+1)<j0+1 - i;omega
    ·refine ⟨S,⟨by omega,fun k q1 q2=>?_,E.hi,ex⟩,by omega⟩;rcases zA7 k i with q|q
     ·exact E.lo k q1 q
     ·obtain rfl:k=i:=by omega
      exact hq
   ·all_goals (repeat' (first|refine qh rfl ?_|refine qC ?_))
    exact ⟨i,⟨S,E,hi0,fun _=>hq⟩,(qx)⟩
  ·exact ⟨i,⟨S,E,hi0,fun q=>by omega⟩,(qx)⟩
 clear S E hbi;rintro i h ⟨S,E,hi0,hi1⟩;have hbi:=E.bi;refine XY (σ:=Nat) (fun j h'=>Hs h0 h' (.sl v 50 3 jb m :: rs)∧PartI jl a b x i j m∧j≤j0∧(i≤j→jl (m.getD j default) x)) (fun j=>[(0,v),(1,.int .i64 a),(2,.int .i64 b),(3,.int .i64 q),(4,ZX),(12,.int .i64 i),(13,.int .i64 j)]) ?_ ?_
 ·all_goals (repeat' (refine qj ?_))
  refine qH (σ:=Nat) (fun j h'=>Hs h0 h' (.sl v 50 3 jb m :: rs)∧PartI jl a b x i j m∧j≤j0) (fun j=>j) (fun j=>[(0,v),(1,.int .i64 a),(2,.int .i64 b),(3,.int .i64 q),(4,ZX),(12,.int .i64 i),(13,.int .i64 j)]) j0 qx ?_ ?_
  ·exact ⟨S,E,zA3 _⟩
  clear S E hbi;rintro j h ⟨S,E,hj0⟩;have hbi:=E.bi;all_goals (repeat' (first|refine qg ?_|refine qh rfl ?_|refine qC ?_|(refine qM 15 ?_;refine mv ?_;refine mv ?_;(first|(refine cS ?_ ?_<;>intro hc))<;>(refine mv ?_;(first|refine off ?_|refine mv ?_);(first|refine off ?_|refine mv ?_);(first|refine off ?_|refine mv ?_);(first|refine off ?_|(refine qO S rfl rfl ?_));(first|refine off ?_|(refine zk S rfl rfl ?_));(first|refine off ?_|refine mv ?_);(first|refine off ?_|refine mv ?_);(first|refine off ?_|(refine qO S rfl rfl ?_));(first|refine off ?_|(refine zk S rfl rfl ?_));(first|(refine off ?_;(refine off ?_)<;>((refine off ?_);refine vl ?_;refine qf ?_))|skip)))))
  ·simp only [qN,qR,qW,zA0];(refine zK rfl rfl rfl rfl ((Qd S.wf _ _).mono ?_);rintro _ h ⟨d,rfl,⟨hd,hq⟩|⟨hd,hq⟩,x⟩)<;>(replace S:=S.qE x;clear x;rw [ex] at hq;(first|(first|refine cT ?_|refine cF ?_))<;>((refine vl ?_);refine vl ?_;refine qf ?_))
   ·all_goals (repeat' (first|refine qh rfl ?_|refine qC ?_))
    exact ⟨j,⟨S,E,hj0,fun _=>hq⟩,(qx)⟩
   ·all_goals (repeat' (first|refine qh rfl ?_|refine qi ?_|refine qj ?_|(refine qc 16 ?_;refine mv ?_;refine sb ?_;refine mv ?_;refine qf ?_)))
    refine ⟨j - 1,?_,?_,qx⟩
    ·show j - 1<j;omega
    ·refine ⟨S,⟨by omega,E.lo,fun k q1 q2=>?_,ex⟩,by omega⟩;rcases zA7 j k with q|q
     ·exact E.hi k q q2
     ·obtain rfl:k=j:=by omega
      exact hq
  ·exact ⟨j,⟨S,E,hj0,fun q=>by omega⟩,(qx)⟩
 clear S E hbi;rintro j h ⟨S,E,hj0,hj1⟩;have hbi:=E.bi;all_goals (repeat' (first|refine qg ?_|refine qh rfl ?_|refine qi ?_|refine qC ?_|(refine qc 17 ?_;refine mv ?_;refine mv ?_;(first|(refine cS ?_ ?_<;>intro hc))<;>(refine qf ?_))|(refine qM 18 ?_;(iterate 6 refine mv ?_);refine qO S rfl rfl ?_;refine zk S rfl rfl ?_;refine mv ?_;refine mv ?_;refine qO S rfl rfl ?_;refine zk S rfl rfl ?_;refine qO S rfl rfl ?_;(first|(refine JY S rfl rfl ?_;clear S;intro h S));refine qO S rfl rfl ?_;(first|(refine JY S rfl rfl ?_;clear S;intro h S));refine qf ?_)|(refine qc 19 ?_;refine mv ?_;refine ad ?_;refine mv ?_;refine qf ?_)|(refine qc 20 ?_;refine mv ?_;refine sb ?_;refine mv ?_;refine qf ?_)|(refine qM 21 ?_;(iterate 6 refine mv ?_);refine qO S rfl rfl ?_;refine zk S rfl rfl ?_;refine mv ?_;refine mv ?_;refine qO S rfl rfl ?_;refine zk S rfl rfl ?_;refine qO S rfl rfl ?_;(first|(refine JY S rfl rfl ?_;clear S;intro h S));refine qO S rfl rfl ?_;(first|(refine JY S rfl rfl ?_;clear S;intro h S));refine qf ?_)|(refine qc 22 ?_;(iterate 3 refine mv ?_);refine qf ?_)))
 ·(try simp only [qN,qR,qW,zA0] at S)
  refine qo ⟨_,rfl,?_⟩;exact ⟨j,false,swp m j a,rfl,by omega,s1.step _ _ ⟨by omega,by omega⟩ ⟨by omega,by omega⟩ (by omega),E.done W (by omega) (by omega),S⟩
 ·(try simp only [qN,qR,qW,zA0] at S)
  obtain ⟨z1,z2⟩:=E.swap (by omega) (by omega) (hi1 (by omega)) (hj1 (by omega));refine ⟨(i+1,j - 1,swp m i j),?_,?_,qx⟩
  ·show j - 1+1 - (i+1)<j0+1 - i0;omega
  ·exact ⟨S,s1.step _ _ ⟨by omega,by omega⟩ ⟨by omega,by omega⟩ (by omega),z2⟩
end Go.Proofs.Xx
namespace Go.Proofs.Xx
open Go Go.Proofs
variable [Flag]
theorem qiF {h0:AH} {v:Value}:∀ (n:Nat) {h:AH} {rs:List Rs} {l:List Di} (a b lim:Nat) (S:Hs h0 h (.sl v 50 3 jb l :: rs)) (hn:b - a=n) (hab:a≤b) (hb:b≤l.length) (hl:l.length≤1000000) (hbig:b - a<260) (hlim:lim≤1000) (hlow:0<a→∀ k,a≤k→k<b→¬ jl (l.getD k default) (l.getD (a - 1) default)),
 Fn Tryz.prog Xh 125 [v,.int .i64 a,.int .i64 b,.int .i64 lim,ZX] h (fun _ h'=>∃ l',Sw a b l l'∧Srt jl a b l'∧Hs h0 h' (.sl v 50 3 jb l' :: rs)):=by
 intro n;induction n using Nat.strongRecOn with
 | _ n ih =>
 intro h rs l a b lim S hn hab hb hl hbig hlim hlow;have W:WOrd jl:=diL_ord;refine qL (by first|rfl) Tryz.func125 rfl rfl ?_;all_goals (repeat' (first|refine qg ?_|refine qj ?_|(refine qc 0 ?_;refine mv ?_;refine qf ?_)|(refine qc 1 ?_;refine mv ?_;refine qf ?_)))
 refine qH (σ:=Nat×Nat×Nat×Bool×Bool×List Di) (fun (a1,b1,lim,wb,wp,m) h'=>Hs h0 h' (.sl v 50 3 jb m :: rs)∧(a≤a1∧a1≤b1∧b1≤b)∧lim≤1000∧Sw a b l m∧DoneI jl a b a1 b1 m) (fun (a1,b1,lim,wb,wp,m)=>b1 - a1) (fun (a1,b1,lim,wb,wp,m)=>[(0,v),(1,.int .i64 a1),(2,.int .i64 b1),(3,.int .i64 lim),(4,ZX),(10,.bool wb),(11,.bool wp)]) (a,b,lim,true,true,l) qx ?_ ?_
 ·exact ⟨S,by omega,hlim,.refl _,.start⟩
 clear S hlim;rintro ⟨a1,b1,lim,wb,wp,m⟩ h ⟨S,h1,hlim,h2,D⟩;have hml:=h2.len;have low:∀ m',Sw a1 b1 m m'→0<a1→∀ k,a1≤k→k<b1→¬ jl (m'.getD k default) (m'.getD (a1 - 1) default):=fun m' s q1 k q2 q3=>by
  rcases zA7 a a1 with q|q
  ·exact (D.sw s h1.1 h1.2.2).low q h1.2.2 k q2 q3
  ·obtain rfl:a=a1:=by omega
   have s2:=h2.trans (s.mono (zA3 _) h1.2.2 (by omega));rw [s2.out (k:=a - 1) (.inl (by omega))];exact s2.all (p:=fun y=>¬ jl y (l.getD (a - 1) default)) (hlow q1) k q2 (by omega)
 have e0:(b1:Int) - (a1:Int)=((b1 - a1:Nat):Int):=by omega
 refine qj ?_;(repeat (refine qg ?_));refine qc 2 ?_;refine mv ?_;refine mv ?_;refine sb ?_;refine mv ?_;refine qf ?_;simp only [e0];(repeat (refine qg ?_));refine qc 3 ?_;refine mv ?_;(first|(refine cS ?_ ?_<;>intro hc))<;>(refine qf ?_)
 ·refine qh rfl ?_;all_goals (repeat' (first|refine qg ?_|(refine qc 4 ?_;(iterate 4 refine mv ?_);skip)))
  (refine qw rfl rfl rfl rfl rfl ((qjc a1 b1 S h1.2.1 (by omega) (by omega)).mono ?_);rintro _ h ⟨l2,g1,g2,S2⟩)<;>(replace S:=S2;clear S2;refine qf ?_)
  all_goals (repeat' (fail))
  refine qo ⟨_,rfl,?_⟩;exact ⟨l2,h2.trans (g1.mono h1.1 h1.2.2 (by omega)),(D.sw g1 h1.1 h1.2.2).finish g2,S⟩
 have hbig2:12<b1 - a1∧b1 - a1<260:=by omega
 refine qh rfl ?_;refine qi ?_;(repeat (refine qg ?_));refine qc 5 ?_;refine mv ?_;(first|(refine cS ?_ ?_<;>intro hc))<;>(refine qf ?_)
 ·refine qh rfl ?_;all_goals (repeat' (first|refine qg ?_|(refine qc 6 ?_;(iterate 4 refine mv ?_);skip)))
  (refine qw rfl rfl rfl rfl rfl ((qhr a1 b1 S (by omega) (by omega) (by omega)).mono ?_);rintro _ h ⟨l2,g1,g2,S2⟩)<;>(replace S:=S2;clear S2;refine qf ?_)
  all_goals (repeat' (fail))
  refine qo ⟨_,rfl,?_⟩;exact ⟨l2,h2.trans (g1.mono h1.1 h1.2.2 (by omega)),(D.sw g1 h1.1 h1.2.2).finish g2,S⟩
 refine qh rfl ?_;refine qi ?_;refine XY (σ:=Nat×List Di) (fun (lim,m2) h'=>Hs h0 h' (.sl v 50 3 jb m2 :: rs)∧lim≤1000∧Sw a1 b1 m m2) (fun (lim,m2)=>[(0,v),(1,.int .i64 a1),(2,.int .i64 b1),(3,.int .i64 lim),(4,ZX),(10,.bool wb),(11,.bool wp),(12,.int .i64 (b1 - a1:Nat))]) ?_ ?_
 ·cases wb
  ·all_goals (repeat' (first|refine qg ?_|refine qh rfl ?_|(refine qc 7 ?_;refine mv ?_;refine vl ?_;refine qf ?_)|(refine qc 8 ?_;(iterate 4 refine mv ?_);skip)))
   (refine qw rfl rfl rfl rfl rfl ((qjt a1 b1 S hbig2 (by omega) (by omega)).mono ?_);rintro _ h ⟨l2,g1,S2⟩)<;>(replace S:=S2;clear S2;refine qf ?_)
   all_goals (repeat' (first|(refine qc 9 ?_;refine mv ?_;refine sb ?_;refine mv ?_;refine qf ?_)))
   exact ⟨(lim - 1,l2),⟨S,by show lim - 1≤1000;omega,g1⟩,(qx)⟩
  ·all_goals (repeat' (first|refine qg ?_|refine qh rfl ?_|refine qi ?_|(refine qc 7 ?_;refine mv ?_;refine vl ?_;refine qf ?_)))
   exact ⟨(lim,m),⟨S,hlim,.refl _⟩,(qx)⟩
 clear S hlim;rintro ⟨lim,m2⟩ h ⟨S,hlim,g1⟩;have hm2:=g1.len;(repeat (refine qg ?_));refine qc 10 ?_;(iterate 4 refine mv ?_);skip
 (refine qw rfl rfl rfl rfl rfl ((qiC a1 b1 S hbig2 (by omega) (by omega)).mono ?_);rintro _ h ⟨q,t,rfl,hq0,S2⟩)<;>(replace S:=S2;clear S2;refine mv ?_;refine vl ?_;refine vl ?_;refine mv ?_;refine mv ?_;refine qf ?_)
 refine XY (σ:=Nat×Int×List Di) (fun (q,t,m3) h'=>Hs h0 h' (.sl v 50 3 jb m3 :: rs)∧(a1≤q∧q<b1)∧Sw a1 b1 m2 m3) (fun (q,t,m3)=>[(0,v),(1,.int .i64 a1),(2,.int .i64 b1),(3,.int .i64 lim),(4,ZX),(10,.bool wb),(11,.bool wp),(12,.int .i64 (b1 - a1:Nat)),(13,.int .i64 q),(14,.int .i64 t)]) ?_ ?_
 ·all_goals (repeat' (first|refine qg ?_|refine qh rfl ?_|refine qi ?_|(refine qc 11 ?_;refine mv ?_;(first|(refine cS ?_ ?_<;>intro hc))<;>(refine qf ?_))|(refine qc 12 ?_;(iterate 4 refine mv ?_);skip)))
  ·(refine qw rfl rfl rfl rfl rfl ((qiz a1 b1 S (by omega) (by omega) (by omega)).mono ?_);rintro _ h ⟨l2,k1,S2⟩)<;>(replace S:=S2;clear S2;refine qf ?_)
   all_goals (repeat' (first|refine qg ?_|(refine qc 13 ?_;refine mv ?_;refine sb ?_;refine mv ?_;refine mv ?_;refine sb ?_;refine sb ?_;refine mv ?_;refine qf ?_)|(refine qc 14 ?_;refine mv ?_;refine qf ?_)))
   exact ⟨(b1 - 1 - (q - a1),1,l2),⟨S,by show a1≤b1 - 1 - (q - a1)∧b1 - 1 - (q - a1)<b1;omega,k1⟩,(qx)⟩
  ·exact ⟨(q,t,m2),⟨S,hq0,.refl _⟩,(qx)⟩
 clear S hq0;rintro ⟨q,t,m3⟩ h ⟨S,hq0,g2⟩;have g13:=g1.trans g2;have D3:=D.sw g13 h1.1 h1.2.2;have low3:=low m3 g13;have s3:=h2.trans (g13.mono h1.1 h1.2.2 (by omega));have hm3:=g13.len;refine XY (σ:=List Di) (fun m3 h'=>Hs h0 h' (.sl v 50 3 jb m3 :: rs)∧Sw a1 b1 m m3) (fun _=>[(0,v),(1,.int .i64 a1),(2,.int .i64 b1),(3,.int .i64 lim),(4,ZX),(10,.bool wb),(11,.bool wp),(12,.int .i64 (b1 - a1:Nat)),(13,.int .i64 q)]) ?_ ?_
 ·cases wb
  ·all_goals (repeat' (first|refine qg ?_|refine qh rfl ?_|refine qi ?_|(refine qc 15 ?_;refine mv ?_;refine mv ?_;refine off ?_;refine vl ?_;refine mv ?_;refine off ?_;(refine off ?_)<;>(refine vl ?_;refine qf ?_))))
   exact ⟨m3,⟨S,g13⟩,(qx)⟩
  cases wp
  ·all_goals (repeat' (first|refine qg ?_|refine qh rfl ?_|refine qi ?_|(refine qc 15 ?_;(iterate 3 refine mv ?_);refine vl ?_;refine mv ?_;refine off ?_;(refine off ?_)<;>(refine vl ?_;refine qf ?_))))
   exact ⟨m3,⟨S,g13⟩,(qx)⟩
  all_goals (repeat' (first|refine qg ?_|refine qh rfl ?_|refine qi ?_|(refine qc 15 ?_;(iterate 3 refine mv ?_);refine vl ?_;refine mv ?_;refine mv ?_;(first|(first|(refine cS ?_ ?_<;>intro hc)))<;>(refine vl ?_;refine qf ?_))|(refine qc 16 ?_;(iterate 4 refine mv ?_);skip)))
  ·(refine qw rfl rfl rfl rfl rfl ((qhd a1 b1 S hbig2 (by omega) (by omega) low3).mono ?_);rintro _ h ⟨m4,gp,⟨rfl,hs⟩|rfl,S2⟩)<;>(replace S:=S2;clear S2;refine qf ?_)
   ·all_goals (repeat' (refine qh rfl ?_))
    refine qo ⟨_,rfl,?_⟩;exact ⟨m4,s3.trans (gp.mono h1.1 h1.2.2 (by omega)),(D3.sw gp h1.1 h1.2.2).finish hs,S⟩
   ·all_goals (repeat' (first|refine qh rfl ?_|refine qi ?_))
    exact ⟨m4,⟨S,g13.trans gp⟩,(qx)⟩
  ·exact ⟨m3,⟨S,g13⟩,(qx)⟩
 clear S D3 low3 s3 hm3 g13 g2;rintro m3 h ⟨S,g13⟩;have D3:=D.sw g13 h1.1 h1.2.2;have low3:=low m3 g13;have s3:=h2.trans (g13.mono h1.1 h1.2.2 (by omega));have hm3:=g13.len;refine XY (σ:=Unit) (fun _ h'=>Hs h0 h' (.sl v 50 3 jb m3 :: rs)) (fun _=>[(0,v),(1,.int .i64 a1),(2,.int .i64 b1),(3,.int .i64 lim),(4,ZX),(10,.bool wb),(11,.bool wp),(12,.int .i64 (b1 - a1:Nat)),(13,.int .i64 q)]) ?_ ?_
 ·all_goals (repeat' (first|refine qg ?_|refine qh rfl ?_|refine qi ?_|(refine qM 17 ?_;refine mv ?_;(first|(refine cS ?_ ?_<;>intro hc))<;>(refine mv ?_;(first|refine off ?_|refine mv ?_);(first|refine off ?_|refine mv ?_);(first|refine off ?_|refine mv ?_);(first|refine off ?_|(refine sb ?_));(first|refine off ?_|(refine qO S rfl rfl ?_));(first|refine off ?_|(refine zk S rfl rfl ?_));(first|refine off ?_|refine mv ?_);(first|refine off ?_|refine mv ?_);(first|refine off ?_|(refine qO S rfl rfl ?_));(first|refine off ?_|(refine zk S rfl rfl ?_));(first|(refine off ?_;(refine off ?_)<;>((refine off ?_);refine vl ?_;refine qf ?_))|skip)))))
  ·simp only [qN,qR,qW,zA0];(refine zK rfl rfl rfl rfl ((Qd S.wf _ _).mono ?_);rintro _ h ⟨d,rfl,⟨hd,hq⟩|⟨hd,hq⟩,x⟩)<;>(replace S:=S.qE x;clear x;(first|(first|refine cT ?_|refine cF ?_))<;>((refine vl ?_);refine vl ?_;refine qf ?_))
   ·all_goals (repeat' (first|refine qh rfl ?_|refine qi ?_))
    exact ⟨(),S,(qx)⟩
   ·all_goals (repeat' (first|refine qg ?_|refine qh rfl ?_|(refine qc 18 ?_;(iterate 5 refine mv ?_);skip)))
    (refine qw rfl rfl rfl rfl rfl ((qiE a1 b1 q S hq0 (by omega) (by omega)).mono ?_);rintro _ h ⟨e,m4,rfl,e1,e2,e3,e4,S2⟩)<;>(replace S:=S2;clear S2;refine mv ?_;refine qf ?_)
    all_goals (repeat' (first|refine qg ?_|refine qC ?_|(refine qc 19 ?_;refine mv ?_;refine mv ?_;refine qf ?_)))
    refine ⟨(e,b1,lim,wb,wp,m4),?_,?_,qx⟩
    ·show b1 - e<b1 - a1;omega
    ·have s4:=low m4 (g13.trans e2) (by omega);refine ⟨S,by (try dsimp only);omega,hlim,s3.trans (e2.mono h1.1 h1.2.2 (by omega)),(D3.sw e2 h1.1 h1.2.2).eq_ W (x:=m3.getD q default) (show a1≤e∧e≤b1 by omega) e3 e4 fun k q1 q2=>?_⟩;have:=s4 k q1 q2;rw [e2.out (k:=a1 - 1) (.inl (by omega))] at this;exact W.ntr hq this
  ·exact ⟨(),S,(qx)⟩
 clear S;rintro - h S;all_goals (repeat' (first|refine qg ?_|(refine qc 20 ?_;(iterate 5 refine mv ?_);skip)))
 (refine qw rfl rfl rfl rfl rfl ((qhf a1 b1 q S hq0 (by omega) (by omega)).mono ?_);rintro _ h ⟨e,f,m4,rfl,e1,e2,e3,S2⟩)<;>(replace S:=S2;clear S2;refine mv ?_;refine vl ?_;refine vl ?_;refine mv ?_;refine mv ?_;refine qf ?_)
 have D4:=D3.sw e2 h1.1 h1.2.2;have s4:=s3.trans (e2.mono h1.1 h1.2.2 (by omega));have hm4:=e2.len;have low4:=low m4 (g13.trans e2);have ee:(e:Int)+1=((e+1:Nat):Int):=by omega
 all_goals (repeat' (first|refine qg ?_|refine qh rfl ?_|(refine qc 21 ?_;refine mv ?_;refine mv ?_;refine qf ?_)|(refine qc 22 ?_;refine mv ?_;refine mv ?_;refine sb ?_;refine mv ?_;refine mv ?_;refine sb ?_;refine mv ?_;refine mv ?_;refine qf ?_)|(refine qc 23 ?_;refine mv ?_;refine qu ?_;refine mv ?_;refine qf ?_)|(refine qc 24 ?_;refine mv ?_;refine mv ?_;(first|(refine cS ?_ ?_<;>intro hc))<;>(refine qf ?_))|(refine qc 25 ?_;refine mv ?_;refine mv ?_;(first|(refine cS ?_ ?_<;>intro hc))<;>(refine mv ?_;refine qf ?_))|(refine qc 26 ?_;(iterate 5 refine mv ?_);skip)|(refine qc 28 ?_;refine mv ?_;refine mv ?_;(first|(refine cS ?_ ?_<;>intro hc))<;>(refine mv ?_;refine qf ?_))))
 ·(refine qw rfl rfl rfl rfl rfl ((ih (e - a1) (by omega) a1 e lim S rfl (by omega) (by omega) (by omega) (by omega) hlim (fun z k q1 q2=>low4 z k q1 (by omega))).mono ?_);rintro _ h ⟨m5,k1,k2,S2⟩)<;>(replace S:=S2;clear S2;refine qf ?_)
  all_goals (repeat' (first|(refine qc 27 ?_;refine mv ?_;refine ad ?_;refine mv ?_;refine qf ?_)))
  refine ⟨(e+1,b1,lim,true,f,m5),?_,?_,qx⟩
  ·show b1 - (e+1)<b1 - a1;omega
  ·exact ⟨S,by (try dsimp only);omega,hlim,s4.trans (k1.mono h1.1 (by omega) (by omega)),D4.left W e3 (by omega) ⟨h1.1,h1.2.2⟩ k1 k2 (by omega)⟩
 ·(refine qw rfl rfl rfl rfl rfl ((ih (e - a1) (by omega) a1 e lim S rfl (by omega) (by omega) (by omega) (by omega) hlim (fun z k q1 q2=>low4 z k q1 (by omega))).mono ?_);rintro _ h ⟨m5,k1,k2,S2⟩)<;>(replace S:=S2;clear S2;refine qf ?_)
  all_goals (repeat' (first|(refine qc 27 ?_;refine mv ?_;refine ad ?_;refine mv ?_;refine qf ?_)))
  refine ⟨(e+1,b1,lim,false,f,m5),?_,?_,qx⟩
  ·show b1 - (e+1)<b1 - a1;omega
  ·exact ⟨S,by (try dsimp only);omega,hlim,s4.trans (k1.mono h1.1 (by omega) (by omega)),D4.left W e3 (by omega) ⟨h1.1,h1.2.2⟩ k1 k2 (by omega)⟩
 ·refine qc 29 ?_;(refine mv ?_;refine mv ?_;refine ad ?_;(iterate 3 refine mv ?_);skip);simp only [ee];(refine qw rfl rfl rfl rfl rfl ((ih (b1 - (e+1)) (by omega) (e+1) b1 lim S rfl (by omega) (by omega) (by omega) (by omega) hlim (fun z k q1 q2=>e3.2 k (by omega) q2)).mono ?_);rintro _ h ⟨m5,k1,k2,S2⟩)<;>(replace S:=S2;clear S2;refine qf ?_)
  all_goals (repeat' (first|(refine qc 30 ?_;refine mv ?_;refine mv ?_;refine qf ?_)))
  refine ⟨(a1,e,lim,true,f,m5),?_,?_,qx⟩
  ·show e - a1<b1 - a1;omega
  ·exact ⟨S,by (try dsimp only);omega,hlim,s4.trans (k1.mono (by omega) h1.2.2 (by omega)),D4.right W e3 (by omega) ⟨h1.1,h1.2.2⟩ k1 k2 (by omega)⟩
 ·refine qc 29 ?_;(refine mv ?_;refine mv ?_;refine ad ?_;(iterate 3 refine mv ?_);skip);simp only [ee];(refine qw rfl rfl rfl rfl rfl ((ih (b1 - (e+1)) (by omega) (e+1) b1 lim S rfl (by omega) (by omega) (by omega) (by omega) hlim (fun z k q1 q2=>e3.2 k (by omega) q2)).mono ?_);rintro _ h ⟨m5,k1,k2,S2⟩)<;>(replace S:=S2;clear S2;refine qf ?_)
  all_goals (repeat' (first|(refine qc 30 ?_;refine mv ?_;refine mv ?_;refine qf ?_)))
  refine ⟨(a1,e,lim,false,f,m5),?_,?_,qx⟩
  ·show e - a1<b1 - a1;omega
  ·exact ⟨S,by (try dsimp only);omega,hlim,s4.trans (k1.mono (by omega) h1.2.2 (by omega)),D4.right W e3 (by omega) ⟨h1.1,h1.2.2⟩ k1 k2 (by omega)⟩
theorem qg3 {h0 h:AH} {rs:List Rs} {v:Value} {l:List Di} (S:Hs h0 h (.sl v 50 3 jb l :: rs)) (hl:l.length<260) :
 Fn Tryz.prog Xh 59 [v,ZX] h (fun _ h'=>∃ l',Sw 0 l.length l l'∧Srt jl 0 l.length l'∧Hs h0 h' (.sl v 50 3 jb l' :: rs)):=by
 have hk:=qfI l.length (by omega);refine qL (by first|rfl) Tryz.func59 rfl rfl ?_;all_goals (repeat' (first|refine qg ?_|(refine qc 0 ?_;refine mv ?_;refine xe S rfl rfl ?_;refine mv ?_;refine qf ?_)|(refine qc 1 ?_;(iterate 3 refine mv ?_);refine cW ?_)))
 (refine qw rfl rfl rfl rfl rfl ((qbP S.wf l.length (by omega)).mono ?_);rintro _ h ⟨rfl,x⟩)<;>(replace S:=S.qE x;clear x;refine mv ?_)
 (refine qw rfl rfl rfl rfl rfl ((qiF l.length 0 l.length (yw l.length) S rfl (zB0 _) (zA3 _) (by omega) (by omega) (by omega) (fun z=>by omega)).mono ?_);rintro _ h ⟨l2,g1,g2,S2⟩)<;>(replace S:=S2;clear S2;refine qf ?_)
 all_goals (repeat' (fail))
 refine ⟨_,rfl,?_⟩;exact ⟨l2,g1,g2,S⟩
end Go.Proofs.Xx
namespace Go.Proofs.Xx
open Go Go.Proofs
variable {Xh:Extern} [KX Xh]
def nx (a k:Int):Int:=if k+1=a then 0 else k+1
def spX (a b k:Int):Int:=if k<a then k else if 0<b∧k=a then a else if k - a - (if 0<b then 1 else 0)<a then a - 1 - (k - a - (if 0<b then 1 else 0)) else -1
def spY (a b k:Int):Int:=if k<a then 0 else if 0<b∧k=a then 1 else if k - a - (if 0<b then 1 else 0)<a then 2 else 1
structure TabS (t:Tab):Prop where
 b:qhX t
 pos:0<zl t
theorem TabS.of (t:Tab) (h:0<zl t):TabS t:=by
 refine ⟨?_,h⟩;unfold zl zW Q9 ZV ZP ZB at h;unfold qhX;repeat' split at h
 all_goals omega
theorem TabS.s1 {t:Tab} (h:TabS t) (q:t.shape=1):1≤t.A∧t.A≤24∧t.B=0∧zl t=t.A:=by
 have:=h.pos;unfold zl zW Q9 at this ⊢;rw [if_pos q] at this ⊢;split at this<;>simp_all
theorem TabS.s2 {t:Tab} (h:TabS t) (q:t.shape=2):1≤t.A∧t.A≤11∧0≤t.B∧t.B≤2∧zl t=2*t.A+t.B:=by
 have:=h.pos;unfold zl zW ZV at this ⊢;rw [if_neg (by omega),if_pos q] at this ⊢;split at this<;>simp_all
theorem TabS.s3 {t:Tab} (h:TabS t) (q:t.shape=3):1≤t.A∧t.A≤8∧1≤t.B∧t.B≤8∧zl t=t.A+2*t.B:=by
 have:=h.pos;unfold zl zW ZP at this ⊢;rw [if_neg (by omega),if_neg (by omega),if_pos q] at this ⊢;split at this<;>simp_all
theorem TabS.s4 {t:Tab} (h:TabS t) (q:t.shape=4):1≤t.A∧t.A≤24∧0≤t.B∧t.B≤t.A∧zl t=t.A:=by
 have:=h.pos;unfold zl zW ZB at this ⊢;rw [if_neg (by omega),if_neg (by omega),if_neg (by omega),if_pos q] at this ⊢;split at this<;>simp_all
theorem TabS.shape {t:Tab} (h:TabS t):t.shape=1∨t.shape=2∨t.shape=3∨t.shape=4:=by have:=h.b;unfold qhX at this;omega
section
variable {t:Tab} {p q:Int}
end
end Go.Proofs.Xx
namespace Go.Proofs.Xx
open Go Go.Proofs
theorem WhereI.sz {l:List Tab} {s:Int} {i k:Nat} (h:WhereI l s i k):TabS (tb l i):=TabS.of _ (by have:=h.2.2.1;omega)
def qkI (l:List Tab) (a b:Int) (t:Tab) (x y:Int) (f:Bool):Prop:=(f=true∧∃ i k m:Nat,t=tb l i∧x=k∧y=m∧WhereI l a i k∧WhereI l b i m)∨(f=false∧t=default∧x=0∧y=0∧∀ i k m,WhereI l a i k→¬ WhereI l b i m)
def qjT (P:Tab→Int→Int→Prop) (l:List Tab) (a b:Int):Prop:=∃ i k m:Nat,WhereI l a i k∧WhereI l b i m∧P (tb l i) k m
open Classical in
noncomputable def qhl (N:Int→Int→Prop) (k a:Int):Nat→List Int
 | 0=>[]
 | m+1=>if N k m then qhl N k a m ++ [a - k+m] else qhl N k a m
def NbR (l:List Tab) (a:Int) (out:List Int):Prop:=(∃ i k:Nat,WhereI l a i k∧out=qhl (qiV (tb l i)) k a (zl (tb l i)).toNat)∨(out=[]∧∀ i k,¬ WhereI l a i k)
def qd8 (l:List Tab) (i k:Nat):List UInt8:=(tb l i).name ++ [32] ++ dgs k
variable [Flag]
end Go.Proofs.Xx
namespace Go.Proofs.Xx
open Go Go.Proofs
variable [Flag]
end Go.Proofs.Xx
namespace Go.Proofs.Xx
open Go Go.Proofs
variable [Flag]
end Go.Proofs.Xx
namespace Go.Proofs.Xx
open Go Go.Proofs
variable [Flag]
end Go.Proofs.Xx
namespace Go.Proofs.Xx
open Go Go.Proofs
variable [Flag]
end Go.Proofs.Xx
namespace Go.Proofs.Xx
open Go Go.Proofs
end Go.Proofs.Xx
namespace Go.Proofs.Xx
open Go Go.Proofs
def qid:List UInt8:=[114,97,110,107]
def qdx:List UInt8:=[116,97,98,108,101]
def qig:List UInt8:=[100,105,101,116]
def qfo:List UInt8:=[98,101,115,105,100,101]
def qgW (q:List Int) (y:Int):Nat:=q.findIdx fun x=>decide (x=y)
def qaI (q:List Int) (y:Int):Prop:=∃ i,i<q.length∧q.getD i default=y
def qko (l:List Tab) (q:List Int) (s y:Int):Prop:=qaI q y∧qjT qcb l s y
open Classical in
noncomputable def flP (P:Int→Prop) (l:List Int):List Int:=l.filter fun y=>decide (P y)
noncomputable def qkn (l:List Tab) (q:List Int) (s:Int):List Int:=flP (qko l q s) (upI (sumT l l.length).toNat)
def nmS (us:List Gu) (q:List Int) (y:Int):List UInt8:=(us.getD (qgW q y) default).name
noncomputable def qjv (p:Pb) (q:List Int) (s:Int):List (List UInt8):=(qkn p.tabs q s).map (nmS p.us q)
noncomputable def qdS (l:List Tab) (s:Int):Nat:=(tOf l s).toNat
noncomputable def qgt (l:List Tab) (s:Int):Nat:=(s - sumT l (qdS l s)).toNat
noncomputable def qjo (p:Pb) (q:List Int) (g:Nat):List UInt8 :=
 (qdy ++ [32] ++ (p.us.getD g default).name ++ [10]) ++ (if (p.us.getD g default).rank=[] then [] else qid ++ [32] ++ (p.us.getD g default).rank ++ [10]) ++
 (qdx ++ [32] ++ qd8 p.tabs (qdS p.tabs (q.getD g default)) (qgt p.tabs (q.getD g default)) ++ [10]) ++ (if (p.us.getD g default).diet=[] then [] else qig ++ [32] ++ (p.us.getD g default).diet ++ [10])
noncomputable def qgO (p:Pb) (q:List Int) (g:Nat):List UInt8 :=
 qjo p q g ++ (if qjv p q (q.getD g default)=[] then [] else qfo ++ [32] ++ jnW (qjv p q (q.getD g default)) ++ [10])
theorem PO.gst {pv:PbV} {p:Pb} {h:AH} (hP:PO p) (H:PbOk h pv p) {g:Nat} (hg:g<p.us.length):(pv.gs.getD g default).toGu=p.us.getD g default∧Qx (p.us.getD g default).name∧(p.us.getD g default).rank.length≤12∧(p.us.getD g default).diet.length≤12:=by
 have e:pv.gs.map (·.toGu)=p.us:=H.rol.us;have hl:pv.gs.length=p.us.length:=H.rol.len;have c:=qb8 (hP.rl.chk _ (qQ hg));have sm:∀ {s:List UInt8},Yp s→s.length≤12:=fun {s} z=>by
  rcases z with rfl|z
  ·exact zB0 _
  ·exact z.2.1
 refine ⟨?_,c.1.1,sm c.1.2.1,sm c.1.2.2.2⟩;have:(pv.gs.map (·.toGu)).getD g default=(pv.gs.getD g default).toGu:=jc (f:=fun x:Z5=>x.toGu) (show g<pv.gs.length by omega);rw [← this,e]
variable [Flag]
end Go.Proofs.Xx
namespace Go.Proofs.Xx
open Go Go.Proofs
variable [Flag]
end Go.Proofs.Xx
namespace Go.Proofs.Xx
open Go Go.Proofs
theorem PR {lt:Int→Int→Prop} (asym:∀ x y,lt x y→¬ lt y x):∀ {a b:List Int},a.Pairwise lt→b.Pairwise lt→(∀ x,x∈a↔x∈b)→a=b
 | [],[],_,_,_=>rfl
 | [],y :: b,_,_,h=>by have:=(h y).2 (by simp);cases this
 | x :: a,[],_,_,h=>by have:=(h x).1 (by simp);cases this
 | x :: a,y :: b,h1,h2,h=>by
  rw [zH5] at h1 h2;have e:x=y:=by
   rcases zE7.1 ((h x).1 (by simp)) with q|q
   ·exact q
   ·rcases zE7.1 ((h y).2 (by simp)) with r|r
    ·exact r.symm
    ·exact absurd (h1.1 y r) (asym _ _ (h2.1 x q))
  subst e;have irr:∀ z,lt z z→False:=fun z q=>asym z z q q;rw [PR asym h1.2 h2.2 fun z=>⟨fun hz=>by
   rcases zE7.1 ((h z).1 (List.mem_cons_of_mem _ hz)) with r|r
   ·subst r;exact (irr _ (h1.1 z hz)).elim
   ·exact r,fun hz=>by
   rcases zE7.1 ((h z).2 (List.mem_cons_of_mem _ hz)) with r|r
   ·subst r;exact (irr _ (h2.1 z hz)).elim
   ·exact r⟩]
noncomputable def crd (p:Pb) (q:List Int) (L:List Int):List UInt8:=by classical exact L.flatMap fun x=>if 0≤q.getD x.toNat default then qgO p q x.toNat ++ [45,10] else []
noncomputable def qkl (p:Pb) (q:List Int):List UInt8:=(flP (qaI q) (upI (sumT p.tabs p.tabs.length).toNat)).flatMap fun y=>qgO p q (qgW q y) ++ [45,10]
variable [Flag]
end Go.Proofs.Xx
namespace Go.Proofs.Xx
open Go Go.Proofs
variable [Flag]
end Go.Proofs.Xx
