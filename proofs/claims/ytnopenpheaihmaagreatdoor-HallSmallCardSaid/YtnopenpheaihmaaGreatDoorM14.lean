/-
  Sorting in place,by a function that compares.
-/
import Derived.Test.YtnopenpheaihmaaGreatDoorM10
import Derived.Test.YtnopenpheaihmaaGreatDoorM13
namespace Go.Proofs.Xx
open Go Go.Proofs
set_option linter.unusedSimpArgs false
set_option linter.unusedVariables false
set_option maxRecDepth 100000
abbrev PL:=SlV×List Int
instance:Inhabited SlV:=⟨⟨none,0,0⟩⟩
def eP (x:PL):List Value:=[x.1.val]
def Js (h0:AH) (v:Value) (rs:List Rs) (g:Nat) (cap:List Value) (lt:PL→PL→Prop) (p:PL→Prop):Prop :=
 ∀ h l x y,Hs h0 h (.sl v 23 1 eP l :: rs)→p x→p y→Fn Tryz.prog Xh g (x.1.val :: y.1.val :: cap) h (fun v h'=>∃ d,v = .int .i64 d∧((d<0∧lt x y)∨(0≤d∧¬ lt x y))∧Hs h h' [])
theorem qhi {h0 h:AH} {rs:List Rs} {v:Value} {l:List PL} {g:Nat} {cap:List Value} {lt:PL→PL→Prop} {p:PL→Prop} (a b:Nat) (S:Hs h0 h (.sl v 23 1 eP l :: rs)) (C:Js h0 v rs g cap lt p) (hp:∀ k,k<l.length→p (l.getD k default)) (W:WOrd lt) (hab:a≤b) (hb:b≤l.length) (hl:l.length≤1000000) :
 Fn Tryz.prog Xh 180 [v,.int .i64 a,.int .i64 b,QR g cap] h (fun _ h'=>∃ l',Sw a b l l'∧Srt lt a b l'∧Hs h0 h' (.sl v 23 1 eP l' :: rs)):=by
 refine qF rfl Tryz.func180 rfl rfl ?_
 all_goals (repeat' (first|refine qi ?_|refine qm ?_|(refine qf 0 ?_;refine mv ?_;refine ad ?_;refine mv ?_;refine qg ?_)))
 refine qE (σ:=Nat×List PL) (fun (i,m) h'=>Hs h0 h' (.sl v 23 1 eP m :: rs)∧a<i∧Sw a b l m∧Srt lt a (min i b) m) (fun (i,m)=>b - i) (fun (i,m)=>[(0,v),(1,.int .i64 a),(2,.int .i64 b),(3,QR g cap),(8,.int .i64 i)]) (a+1,l) (by repeat (first|exact Ks.le_nil _|refine Ks.qh rfl ?_)) ?_ ?_
 ·exact ⟨S,by omega,.refl _,fun i j q1 q2 q3=>by omega⟩
 clear S
 rintro ⟨i,m⟩ h ⟨S,h1,h2,h3⟩
 have hml:=h2.len
 all_goals (repeat' (first|refine qi ?_|refine ql rfl ?_|refine qo ?_|refine qA ?_|refine qm ?_|(refine qf 1 ?_;refine mv ?_;refine mv ?_;(first|(refine cS ?_ ?_<;>intro hc))<;>(refine qg ?_))|(refine qf 3 ?_;refine mv ?_;refine mv ?_;refine qg ?_)))
 ·have hib:i<b:=by omega
  rw [Nat.min_eq_left (by omega)] at h3
  refine qE (σ:=Nat×List PL) (fun (j,n) h'=>Hs h0 h' (.sl v 23 1 eP n :: rs)∧a≤j∧j≤i∧Sw a b l n∧InsI lt a i j n) (fun (j,n)=>j) (fun (j,n)=>[(0,v),(1,.int .i64 a),(2,.int .i64 b),(3,QR g cap),(8,.int .i64 i),(9,.int .i64 j)]) (i,m) (by repeat (first|exact Ks.le_nil _|refine Ks.qh rfl ?_)) ?_ ?_
  ·exact ⟨S,by omega,Nat.le_refl _,h2,InsI.start h3⟩
  clear S h2 h3 hml
  rintro ⟨j,n⟩ h ⟨S,k1,k2,k3,k4⟩
  have hnl:=k3.len
  have hpn:=k3.lift hp hb
  all_goals (repeat' (first|refine qi ?_|refine ql rfl ?_|refine qA ?_|(refine qf 2 ?_;refine mv ?_;refine ad ?_;refine mv ?_;refine qg ?_)|(refine qO 4 ?_;refine mv ?_;refine mv ?_;(first|(refine cS ?_ ?_<;>intro hc))<;>(refine mv ?_;(first|refine off ?_|refine mv ?_);(first|refine off ?_|refine mv ?_);(first|refine off ?_|refine mv ?_);(first|refine off ?_|(refine qH S rfl rfl ?_));(first|refine off ?_|(refine qI S rfl rfl ?_));(first|refine off ?_|refine mv ?_);(first|refine off ?_|refine mv ?_);(first|refine off ?_|(refine sb ?_));(first|refine off ?_|(refine qH S rfl rfl ?_));(first|refine off ?_|(refine qI S rfl rfl ?_));(first|(refine off ?_;(refine off ?_)<;>(refine vl ?_;refine qg ?_))|skip)))))
  ·(try (try simp only [qP,qX,zg,Int.toNat_natCast]))
   (refine qN rfl rfl rfl rfl ((C _ _ _ _ S (hpn j (by omega)) (hpn (j - 1) (by omega))).mono ?_);rintro _ h ⟨d,rfl,⟨hd,hq⟩|⟨hd,hq⟩,x⟩)<;>(replace S:=S.qy x;clear x;(first|(first|refine cT ?_|refine cF ?_))<;>(refine vl ?_;refine qg ?_))
   ·all_goals (repeat' (first|refine qi ?_|refine ql rfl ?_|refine qo ?_|refine qm ?_|(refine qf 5 ?_;refine mv ?_;refine sb ?_;refine mv ?_;refine qg ?_)|(refine qO 6 ?_;(iterate 4 refine mv ?_);refine sb ?_;refine mv ?_;refine mv ?_;refine sb ?_;refine qH S rfl rfl ?_;refine qI S rfl rfl ?_;refine mv ?_;refine mv ?_;refine qH S rfl rfl ?_;refine qI S rfl rfl ?_;refine qH S rfl rfl ?_;(first|(refine ZK S rfl rfl ?_;clear S;intro h S));refine qH S rfl rfl ?_;(first|(refine ZK S rfl rfl ?_;clear S;intro h S));refine qg ?_)))
    (try simp only [qP,qX,zg,Int.toNat_natCast] at S)
    refine ⟨(j - 1,swp n j (j - 1)),?_,?_,(by repeat (first|exact Ks.le_nil _|refine Ks.qh rfl ?_|refine Ks.zf ?_))⟩
    ·show j - 1<j;omega
    ·exact ⟨S,by omega,by omega,k3.step j (j - 1) ⟨by omega,by omega⟩ ⟨by omega,by omega⟩ (by omega),k4.next W (by omega) k2 (by omega) hq⟩
   ·all_goals (repeat' (first|refine ql rfl ?_|refine qA ?_|(refine qf 2 ?_;refine mv ?_;refine ad ?_;refine mv ?_;refine qg ?_)))
    refine ⟨(i+1,n),?_,?_,(by repeat (first|exact Ks.le_nil _|refine Ks.qh rfl ?_))⟩
    ·show b - (i+1)<b - i;omega
    ·simp only [Nat.min_eq_left (show i+1≤b by omega)]
     exact ⟨S,by omega,k3,k4.done W (.inr hq)⟩
  ·refine ⟨(i+1,n),?_,?_,(by repeat (first|exact Ks.le_nil _|refine Ks.qh rfl ?_))⟩
   ·show b - (i+1)<b - i;omega
   ·simp only [Nat.min_eq_left (show i+1≤b by omega)]
    exact ⟨S,by omega,k3,k4.done W (.inl (by omega))⟩
 ·rw [Nat.min_eq_right (by omega)] at h3
  refine ⟨_,rfl,?_⟩
  exact ⟨m,h2,h3,S⟩
theorem qdD {h0 h:AH} {rs:List Rs} {v:Value} {l:List PL} {g:Nat} {cap:List Value} {lt:PL→PL→Prop} {p:PL→Prop} (lo hi f:Nat) (S:Hs h0 h (.sl v 23 1 eP l :: rs)) (C:Js h0 v rs g cap lt p) (hp:∀ k,k<l.length→p (l.getD k default)) (W:WOrd lt) (hlo:lo≤hi) (hb:f+hi≤l.length) (hl:l.length≤1000000) (hh:Heap lt f (lo+1) hi l) :
 Fn Tryz.prog Xh 218 [v,.int .i64 lo,.int .i64 hi,.int .i64 f,QR g cap] h (fun _ h'=>∃ l',Sw f (f+hi) l l'∧Heap lt f lo hi l'∧Hs h0 h' (.sl v 23 1 eP l' :: rs)):=by
 refine qF rfl Tryz.func218 rfl rfl ?_
 all_goals (repeat' (first|refine qi ?_|refine qm ?_|(refine qf 0 ?_;refine mv ?_;refine mv ?_;refine qg ?_)))
 refine qE (σ:=Nat×List PL) (fun (root,m) h'=>Hs h0 h' (.sl v 23 1 eP m :: rs)∧(lo≤root∧root≤hi)∧Sw f (f+hi) l m∧SiftI lt f lo hi root m) (fun (root,m)=>hi - root) (fun (root,m)=>[(0,v),(1,.int .i64 lo),(2,.int .i64 hi),(3,.int .i64 f),(4,QR g cap),(10,.int .i64 root)]) (lo,l) (by repeat (first|exact Ks.le_nil _|refine Ks.qh rfl ?_)) ?_ ?_
 ·exact ⟨S,⟨Nat.le_refl _,hlo⟩,.refl _,.start hh⟩
 clear S
 rintro ⟨root,m⟩ h ⟨S,h1,h2,h3⟩
 have hml:=h2.len
 have hpn:=h2.lift hp hb
 by_cases hc0:2*root+1<hi
 rotate_left
 ·all_goals (repeat' (first|refine qi ?_|refine ql rfl ?_|refine qA ?_|refine qm ?_|(refine qf 1 ?_;refine mv ?_;refine ml ?_;refine ad ?_;refine mv ?_;refine qg ?_)|(refine qf 2 ?_;refine mv ?_;refine mv ?_;(refine cT ?_)<;>(refine qg ?_))))
  refine ⟨_,rfl,?_⟩
  exact ⟨m,h2,h3.done ⟨fun q=>by omega,fun q=>by omega⟩,S⟩
 have e1:(2:Int)*(root:Int)+1=((2*root+1:Nat):Int):=by omega
 have e2:((f:Int)+((2*root+1:Nat):Int)).toNat=f+(2*root+1):=by omega
 have e3:((f:Int)+((2*root+1:Nat):Int)+1).toNat=f+(2*root+2):=by omega
 have e4:((2*root+1:Nat):Int)+1=((2*root+2:Nat):Int):=by omega
 have e5:((f:Int)+((2*root+2:Nat):Int)).toNat=f+(2*root+2):=by omega
 have fin:∀ c:Nat,(c=2*root+1∨c=2*root+2)→c<hi→lt (m.getD (f+root) default) (m.getD (f+c) default)→(∀ d,(d=2*root+1∨d=2*root+2)→d<hi→¬ lt (m.getD (f+c) default) (m.getD (f+d) default))→SiftI lt f lo hi c (swp m (f+root) (f+c)):=fun c g1 g2 g3 g4=>h3.next W h1.1 g1 g2 (by omega) g4 g3
 have stop:∀ c:Nat,(c=2*root+1∨c=2*root+2)→c<hi→¬ lt (m.getD (f+root) default) (m.getD (f+c) default)→(∀ d,(d=2*root+1∨d=2*root+2)→d<hi→¬ lt (m.getD (f+c) default) (m.getD (f+d) default))→Heap lt f lo hi m:=fun c g1 g2 g3 g4 =>
  h3.done ⟨fun q=>W.ntr (g4 _ (.inl rfl) q) g3,fun q=>W.ntr (g4 _ (.inr rfl) q) g3⟩
 refine qm ?_
 (repeat (refine qi ?_));refine qf 1 ?_;refine mv ?_;refine ml ?_;refine ad ?_;refine mv ?_;refine qg ?_
 simp only [e1]
 (repeat (refine qi ?_));refine qf 2 ?_;refine mv ?_;refine mv ?_;(refine cF ?_)<;>(refine qg ?_)
 refine ql rfl ?_;refine qo ?_
 refine QG (σ:=Nat) (fun c h'=>Hs h0 h' (.sl v 23 1 eP m :: rs)∧(c=2*root+1∨c=2*root+2)∧c<hi∧∀ d,(d=2*root+1∨d=2*root+2)→d<hi→¬ lt (m.getD (f+c) default) (m.getD (f+d) default)) (fun c=>[(0,v),(1,.int .i64 lo),(2,.int .i64 hi),(3,.int .i64 f),(4,QR g cap),(10,.int .i64 root),(11,.int .i64 c)]) ?_ ?_
 ·all_goals (repeat' (first|refine qi ?_|refine ql rfl ?_|refine qo ?_|(refine qO 3 ?_;refine mv ?_;refine ad ?_;refine mv ?_;(first|(refine cS ?_ ?_<;>intro hc))<;>(refine mv ?_;(first|refine off ?_|refine mv ?_);(first|refine off ?_|refine mv ?_);(first|refine off ?_|refine mv ?_);(first|refine off ?_|refine mv ?_);(first|refine off ?_|(refine ad ?_));(first|refine off ?_|(refine qH S rfl rfl ?_));(first|refine off ?_|(refine qI S rfl rfl ?_));(first|refine off ?_|refine mv ?_);(first|refine off ?_|refine mv ?_);(first|refine off ?_|refine mv ?_);(first|refine off ?_|(refine ad ?_));(first|refine off ?_|(refine ad ?_));(first|refine off ?_|(refine qH S rfl rfl ?_));(first|refine off ?_|(refine qI S rfl rfl ?_));(first|(refine off ?_;(refine off ?_)<;>(refine vl ?_;refine qg ?_))|skip)))))
  ·(try simp only [e2,e3])
   (refine qN rfl rfl rfl rfl ((C _ _ _ _ S (hpn (f+(2*root+1)) (by omega)) (hpn (f+(2*root+2)) (by omega))).mono ?_);rintro _ h ⟨d,rfl,⟨hd,hq⟩|⟨hd,hq⟩,x⟩)<;>(replace S:=S.qy x;clear x;(first|(first|refine cT ?_|refine cF ?_))<;>(refine vl ?_;refine qg ?_))
   ·all_goals (repeat' (first|refine ql rfl ?_|(refine qf 4 ?_;refine mv ?_;refine ad ?_;refine mv ?_;refine qg ?_)))
    exact ⟨2*root+2,⟨S,.inr rfl,by omega,fun d q1 q2=>by rcases q1 with rfl|rfl;exact W.asym hq;exact W.irr _⟩,((by repeat (first|exact Ks.le_nil _|refine Ks.qh rfl ?_)))⟩
   ·all_goals (repeat' (first|refine ql rfl ?_|refine qo ?_))
    exact ⟨2*root+1,⟨S,.inl rfl,by omega,fun d q1 q2=>by rcases q1 with rfl|rfl;exact W.irr _;exact hq⟩,((by repeat (first|exact Ks.le_nil _|refine Ks.qh rfl ?_)))⟩
  ·exact ⟨2*root+1,⟨S,.inl rfl,by omega,fun d q1 q2=>by rcases q1 with rfl|rfl;exact W.irr _;omega⟩,((by repeat (first|exact Ks.le_nil _|refine Ks.qh rfl ?_)))⟩
 clear S
 rintro c h ⟨S,g1,g2,g3⟩
 skip
 all_goals (repeat' (first|refine qi ?_|(refine qO 5 ?_;(iterate 4 refine mv ?_);refine ad ?_;refine qH S rfl rfl ?_;refine qI S rfl rfl ?_;(iterate 3 refine mv ?_);refine ad ?_;refine qH S rfl rfl ?_;refine qI S rfl rfl ?_)))
 (try simp only [qP,qX,zg,Int.toNat_natCast])
 (refine qN rfl rfl rfl rfl ((C _ _ _ _ S (hpn (f+root) (by omega)) (hpn (f+c) (by omega))).mono ?_);rintro _ h ⟨d,rfl,⟨hd,hq⟩|⟨hd,hq⟩,x⟩)<;>(replace S:=S.qy x;clear x;(first|refine cT ?_|refine cF ?_)<;>(refine vl ?_;refine qg ?_))
 ·all_goals (repeat' (first|refine qi ?_|refine ql rfl ?_|refine qo ?_|(refine qO 6 ?_;(iterate 3 refine mv ?_);refine ad ?_;(iterate 3 refine mv ?_);refine ad ?_;(iterate 3 refine mv ?_);refine ad ?_;refine qH S rfl rfl ?_;refine qI S rfl rfl ?_;(iterate 3 refine mv ?_);refine ad ?_;refine qH S rfl rfl ?_;refine qI S rfl rfl ?_;refine qH S rfl rfl ?_;(first|(refine ZK S rfl rfl ?_;clear S;intro h S));refine qH S rfl rfl ?_;(first|(refine ZK S rfl rfl ?_;clear S;intro h S));refine qg ?_)|(refine qf 7 ?_;refine mv ?_;refine mv ?_;refine qg ?_)))
  (try simp only [qP,qX,zg,Int.toNat_natCast] at S)
  refine ⟨(c,swp m (f+root) (f+c)),?_,?_,(by repeat (first|exact Ks.le_nil _|refine Ks.qh rfl ?_))⟩
  ·show hi - c<hi - root;omega
  ·exact ⟨S,⟨by omega,by omega⟩,h2.step _ _ ⟨by omega,by omega⟩ ⟨by omega,by omega⟩ (by omega),fin c g1 g2 hq g3⟩
 ·all_goals (repeat' (refine ql rfl ?_))
  refine qx ⟨_,rfl,?_⟩
  exact ⟨m,h2,stop c g1 g2 hq g3,S⟩
theorem qgm {h0 h:AH} {rs:List Rs} {v:Value} {l:List PL} {g:Nat} {cap:List Value} {lt:PL→PL→Prop} {p:PL→Prop} (a b:Nat) (S:Hs h0 h (.sl v 23 1 eP l :: rs)) (C:Js h0 v rs g cap lt p) (hp:∀ k,k<l.length→p (l.getD k default)) (W:WOrd lt) (hab:a<b) (hb:b≤l.length) (hl:l.length≤1000000) :
 Fn Tryz.prog Xh 181 [v,.int .i64 a,.int .i64 b,QR g cap] h (fun _ h'=>∃ l',Sw a b l l'∧Srt lt a b l'∧Hs h0 h' (.sl v 23 1 eP l' :: rs)):=by
 refine qF rfl Tryz.func181 rfl rfl ?_
 all_goals (repeat' (first|refine qi ?_|refine qm ?_|(refine qf 0 ?_;refine mv ?_;refine mv ?_;refine qg ?_)|(refine qf 1 ?_;refine mv ?_;refine qg ?_)|(refine qf 2 ?_;refine mv ?_;refine mv ?_;refine sb ?_;refine mv ?_;refine qg ?_)|(refine qf 3 ?_;refine mv ?_;refine sb ?_;refine qu ?_;refine mv ?_;refine qg ?_)))
 have e1:((b:Int) - (a:Int) - 1) / 2=(((b - a - 1) / 2:Nat):Int):=by omega
 refine qE (σ:=Nat×List PL) (fun (i,m) h'=>Hs h0 h' (.sl v 23 1 eP m :: rs)∧i≤b - a∧Sw a b l m∧Heap lt a i (b - a) m) (fun (i,m)=>i) (fun (i,m)=>[(0,v),(1,.int .i64 a),(2,.int .i64 b),(3,QR g cap),(8,.int .i64 a),(9,.int .i64 0),(10,.int .i64 (b - a:Nat)),(11,.int .i64 ((i:Int) - 1))]) ((b - a - 1) / 2+1,l) (by repeat (first|exact Ks.le_nil _|refine Ks.qh rfl ?_|refine Ks.zf ?_)) ?_ ?_
 ·exact ⟨S,by omega,.refl _,fun k hk=>⟨fun q=>by omega,fun q=>by omega⟩⟩
 clear S
 rintro ⟨i,m⟩ h ⟨S,h1,h2,h3⟩
 have hml:=h2.len
 have hpn:=h2.lift hp hb
 all_goals (repeat' (first|refine qi ?_|refine ql rfl ?_|refine qo ?_|refine qA ?_|refine qm ?_|(refine qf 4 ?_;refine mv ?_;(first|(refine cS ?_ ?_<;>intro hc))<;>(refine qg ?_))))
 ·have e2:(i:Int) - 1=((i - 1:Nat):Int):=by omega
  have h4:Heap lt a (i - 1+1) (b - a) m:=by rw [Nat.sub_add_cancel (by omega)];exact h3
  refine qf 6 ?_
  ((iterate 5 refine mv ?_);skip)
  simp only [e2]
  (refine qw rfl rfl rfl rfl rfl ((qdD (i - 1) (b - a) a S C hpn W (by omega) (by omega) (by omega) h4).mono ?_);rintro _ h ⟨l2,g1,g2,S2⟩)<;>(replace S:=S2;clear S2;refine qg ?_)
  rw [show a+(b - a)=b by omega] at g1
  all_goals (repeat' (first|(refine qf 5 ?_;refine mv ?_;refine sb ?_;refine mv ?_;refine qg ?_)))
  refine ⟨(i - 1,l2),?_,?_,(by repeat (first|exact Ks.le_nil _|refine Ks.qh rfl ?_))⟩
  ·show i - 1<i;omega
  ·exact ⟨S,by omega,h2.trans g1,g2⟩
 obtain rfl:i=0:=by omega
 all_goals (repeat' (first|refine qm ?_|(refine qf 7 ?_;refine mv ?_;refine sb ?_;refine mv ?_;refine qg ?_)))
 refine qE (σ:=Nat×List PL) (fun (i,m) h'=>Hs h0 h' (.sl v 23 1 eP m :: rs)∧i≤b - a∧Sw a b l m∧HeapI lt a i (b - a) m) (fun (i,m)=>i) (fun (i,m)=>[(0,v),(1,.int .i64 a),(2,.int .i64 b),(3,QR g cap),(8,.int .i64 a),(9,.int .i64 0),(10,.int .i64 (b - a:Nat)),(12,.int .i64 ((i:Int) - 1))]) (b - a,m) (by repeat (first|exact Ks.le_nil _|refine Ks.qh rfl ?_)) ?_ ?_
 ·exact ⟨S,Nat.le_refl _,h2,h3,fun p q q1 q2 q3=>by omega⟩
 clear S h1 h2 h3 hml
 rintro ⟨i,m⟩ h ⟨S,h1,h2,h3⟩
 have hml:=h2.len
 have hpn:=h2.lift hp hb
 all_goals (repeat' (first|refine qi ?_|refine ql rfl ?_|refine qo ?_|refine qA ?_|refine qm ?_|(refine qf 8 ?_;refine mv ?_;(first|(refine cS ?_ ?_<;>intro hc))<;>(refine qg ?_))))
 ·have e2:(i:Int) - 1=((i - 1:Nat):Int):=by omega
  obtain ⟨k,rfl⟩:∃ k,i=k+1:=⟨i - 1,by omega⟩
  all_goals (repeat' (first|(refine qO 10 ?_;(iterate 5 refine mv ?_);refine ad ?_;(iterate 3 refine mv ?_);refine ad ?_;refine qH S rfl rfl ?_;refine qI S rfl rfl ?_;refine mv ?_;refine mv ?_;refine qH S rfl rfl ?_;refine qI S rfl rfl ?_;refine qH S rfl rfl ?_;(first|(refine ZK S rfl rfl ?_;clear S;intro h S));refine qH S rfl rfl ?_;(first|(refine ZK S rfl rfl ?_;clear S;intro h S));refine qg ?_)))
  refine qf 11 ?_
  ((iterate 5 refine mv ?_);skip)
  simp only [Nat.add_sub_cancel] at e2
  simp only [e2,zg,Int.toNat_natCast] at S ⊢
  replace S:Hs h0 h (.sl v 23 1 eP (swp m a (a+k)) :: rs):=S
  have s1:Sw a b l (swp m a (a+k)):=h2.step _ _ ⟨by omega,by omega⟩ ⟨by omega,by omega⟩ (by omega)
  have hsl:=s1.len
  have hp2:=s1.lift hp hb
  (refine qw rfl rfl rfl rfl rfl ((qdD 0 k a S C hp2 W (by omega) (by omega) (by omega) (h3.1.pop (by omega))).mono ?_);rintro _ h ⟨l2,g1,g2,S2⟩)<;>(replace S:=S2;clear S2;refine qg ?_)
  all_goals (repeat' (first|(refine qf 9 ?_;refine mv ?_;refine sb ?_;refine mv ?_;refine qg ?_)))
  refine ⟨(k,l2),?_,?_,(by repeat (first|exact Ks.le_nil _|refine Ks.qh rfl ?_))⟩
  ·show k<k+1;omega
  ·exact ⟨S,by omega,s1.trans (g1.mono (Nat.le_refl _) (by omega) (by omega)),h3.pop W (by omega) (by omega) g1 g2⟩
 obtain rfl:i=0:=by omega
 refine ⟨_,rfl,?_⟩
 exact ⟨m,h2,h3.done (by omega),S⟩
theorem qgW {h0 h:AH} {rs:List Rs} {v:Value} {l:List PL} {g:Nat} {cap:List Value} {lt:PL→PL→Prop} {p:PL→Prop} (a b:Nat) (S:Hs h0 h (.sl v 23 1 eP l :: rs)) (C:Js h0 v rs g cap lt p) (hp:∀ k,k<l.length→p (l.getD k default)) (W:WOrd lt) (hab:a<b) (hb:b≤l.length) (hl:l.length≤1000000) :
 Fn Tryz.prog Xh 184 [v,.int .i64 a,.int .i64 b,QR g cap] h (fun _ h'=>∃ l',Sw a b l l'∧Hs h0 h' (.sl v 23 1 eP l' :: rs)):=by
 refine qF rfl Tryz.func184 rfl rfl ?_
 all_goals (repeat' (first|refine qi ?_|refine qm ?_|(refine qf 0 ?_;refine mv ?_;refine mv ?_;refine qg ?_)|(refine qf 1 ?_;refine mv ?_;refine sb ?_;refine mv ?_;refine qg ?_)))
 refine qE (σ:=Nat×Nat×List PL) (fun (i,j,m) h'=>Hs h0 h' (.sl v 23 1 eP m :: rs)∧a≤i∧j<b∧Sw a b l m) (fun (i,j,m)=>j - i) (fun (i,j,m)=>[(0,v),(1,.int .i64 a),(2,.int .i64 b),(3,QR g cap),(8,.int .i64 i),(9,.int .i64 j)]) (a,b - 1,l) (by repeat (first|exact Ks.le_nil _|refine Ks.qh rfl ?_|refine Ks.zf ?_)) ?_ ?_
 ·exact ⟨S,Nat.le_refl _,by omega,.refl _⟩
 clear S
 rintro ⟨i,j,m⟩ h ⟨S,h1,h2,h3⟩
 have hml:=h3.len
 all_goals (repeat' (first|refine qi ?_|refine ql rfl ?_|refine qo ?_|refine qA ?_|refine qm ?_|(refine qf 2 ?_;refine mv ?_;refine mv ?_;(first|(refine cS ?_ ?_<;>intro hc))<;>(refine qg ?_))|(refine qO 3 ?_;(iterate 6 refine mv ?_);refine qH S rfl rfl ?_;refine qI S rfl rfl ?_;refine mv ?_;refine mv ?_;refine qH S rfl rfl ?_;refine qI S rfl rfl ?_;refine qH S rfl rfl ?_;(first|(refine ZK S rfl rfl ?_;clear S;intro h S));refine qH S rfl rfl ?_;(first|(refine ZK S rfl rfl ?_;clear S;intro h S));refine qg ?_)|(refine qf 4 ?_;refine mv ?_;refine ad ?_;refine mv ?_;refine qg ?_)|(refine qf 5 ?_;refine mv ?_;refine sb ?_;refine mv ?_;refine qg ?_)))
 ·(try simp only [qP,qX,zg,Int.toNat_natCast] at S)
  refine ⟨(i+1,j - 1,swp m i j),?_,?_,(by repeat (first|exact Ks.le_nil _|refine Ks.qh rfl ?_|refine Ks.zf ?_))⟩
  ·show j - 1 - (i+1)<j - i;omega
  ·exact ⟨S,by omega,by omega,h3.step _ _ ⟨by omega,by omega⟩ ⟨by omega,by omega⟩ (by omega)⟩
 ·refine ⟨_,rfl,?_⟩
  exact ⟨m,h3,S⟩
theorem qaX {h0 h:AH} {rs:List Rs} {v:Value} {l:List PL} {g:Nat} {cap:List Value} {lt:PL→PL→Prop} {p:PL→Prop} {bs:Nat} {s:Int} (x y:Nat) (S:Hs h0 h (.blk bs [.int .i64 s] 3 :: .sl v 23 1 eP l :: rs)) (C:Js h0 v rs g cap lt p) (hp:∀ k,k<l.length→p (l.getD k default)) (W:WOrd lt) (hx:x<l.length) (hy:y<l.length) (hl:l.length≤1000000) (hs:0≤s∧s≤100) :
 Fn Tryz.prog Xh 234 [v,.int .i64 x,.int .i64 y,.pointer (some ⟨bs,0,none⟩),QR g cap] h (fun r h'=>∃ (p q:Nat) (s':Int),r = .tuple #[.int .i64 p,.int .i64 q]∧((p=x∧q=y)∨(p=y∧q=x))∧(0≤s'∧s'≤s+1)∧Hs h0 h' (.blk bs [.int .i64 s'] 3 :: .sl v 23 1 eP l :: rs)):=by
 refine qF rfl Tryz.func234 rfl rfl ?_
 all_goals (repeat' (first|refine qi ?_|(refine qf 0 ?_;refine mv ?_;refine mv ?_;refine qg ?_)|(refine qO 1 ?_;(iterate 3 refine mv ?_);refine qH S rfl rfl ?_;refine qI S rfl rfl ?_;refine mv ?_;refine mv ?_;refine qH S rfl rfl ?_;refine qI S rfl rfl ?_)))
 (try (try simp only [qP,qX,zg,Int.toNat_natCast]))
 (refine qN rfl rfl rfl rfl ((C _ _ _ _ S.tail (hp y (by omega)) (hp x (by omega))).mono ?_);rintro _ h ⟨d,rfl,⟨hd,hq⟩|⟨hd,hq⟩,x⟩)<;>(replace S:=S.qy x;clear x;(first|refine cT ?_|refine cF ?_)<;>(refine qg ?_))
 ·all_goals (repeat' (first|refine qi ?_|refine ql rfl ?_|(refine qf 2 ?_;refine mv ?_;refine vl ?_;refine lB S rfl rfl ?_;refine ad ?_;refine vl ?_;(first|(refine sB S rfl rfl ?_;clear S;intro h S));refine qg ?_)|(refine qf 3 ?_;(iterate 4 refine mv ?_);refine qg ?_)))
  refine qx ⟨_,rfl,?_⟩
  exact ⟨y,x,s+1,rfl,.inr ⟨rfl,rfl⟩,by omega,S⟩
 ·all_goals (repeat' (first|refine qi ?_|refine ql rfl ?_|refine qo ?_|(refine qf 4 ?_;(iterate 4 refine mv ?_);refine qg ?_)))
  refine qx ⟨_,rfl,?_⟩
  exact ⟨x,y,s,rfl,.inl ⟨rfl,rfl⟩,by omega,S⟩
theorem qg6 {h0 h:AH} {rs:List Rs} {v:Value} {l:List PL} {g:Nat} {cap:List Value} {lt:PL→PL→Prop} {p:PL→Prop} {bs:Nat} {s:Int} (x y z:Nat) (S:Hs h0 h (.blk bs [.int .i64 s] 3 :: .sl v 23 1 eP l :: rs)) (C:Js h0 v rs g cap lt p) (hp:∀ k,k<l.length→p (l.getD k default)) (W:WOrd lt) (hx:x<l.length) (hy:y<l.length) (hz:z<l.length) (hl:l.length≤1000000) (hs:0≤s∧s≤90) :
 Fn Tryz.prog Xh 222 [v,.int .i64 x,.int .i64 y,.int .i64 z,.pointer (some ⟨bs,0,none⟩),QR g cap] h (fun r h'=>∃ (p:Nat) (s':Int),r = .int .i64 p∧(p=x∨p=y∨p=z)∧(0≤s'∧s'≤s+3)∧Hs h0 h' (.blk bs [.int .i64 s'] 3 :: .sl v 23 1 eP l :: rs)):=by
 refine qF rfl Tryz.func222 rfl rfl ?_
 all_goals (repeat' (first|refine qi ?_|(refine qf 0 ?_;refine mv ?_;refine qg ?_)|(refine qf 1 ?_;(iterate 5 refine mv ?_);skip)))
 (refine qw rfl rfl rfl rfl rfl ((qaX x y S C hp W hx hy hl (by omega)).mono ?_);rintro _ h ⟨p1,q1,s1,rfl,e1,e2,S2⟩)<;>(replace S:=S2;clear S2;refine mv ?_;refine vl ?_;refine vl ?_;refine mv ?_;refine mv ?_;refine qg ?_)
 all_goals (repeat' (first|refine qi ?_|(refine qf 2 ?_;(iterate 5 refine mv ?_);skip)))
 have b1:p1<l.length∧q1<l.length:=by omega
 (refine qw rfl rfl rfl rfl rfl ((qaX q1 z S C hp W b1.2 hz hl (by omega)).mono ?_);rintro _ h ⟨p2,q2,s2,rfl,e3,e4,S2⟩)<;>(replace S:=S2;clear S2;refine mv ?_;refine vl ?_;refine vl ?_;refine mv ?_;refine mv ?_;refine qg ?_)
 all_goals (repeat' (first|refine qi ?_|(refine qf 3 ?_;(iterate 5 refine mv ?_);skip)))
 have b2:p2<l.length:=by omega
 (refine qw rfl rfl rfl rfl rfl ((qaX p1 p2 S C hp W b1.1 b2 hl (by omega)).mono ?_);rintro _ h ⟨p3,q3,s3,rfl,e5,e6,S2⟩)<;>(replace S:=S2;clear S2;refine mv ?_;refine vl ?_;refine vl ?_;refine mv ?_;refine mv ?_;refine qg ?_)
 all_goals (repeat' (first|refine qi ?_|(refine qf 4 ?_;refine mv ?_;refine mv ?_;refine qg ?_)))
 refine qx ⟨_,rfl,?_⟩
 exact ⟨q3,s3,rfl,by omega,by omega,S⟩
theorem qgY {h0 h:AH} {rs:List Rs} {v:Value} {l:List PL} {g:Nat} {cap:List Value} {lt:PL→PL→Prop} {p:PL→Prop} (a b:Nat) (S:Hs h0 h (.sl v 23 1 eP l :: rs)) (C:Js h0 v rs g cap lt p) (hp:∀ k,k<l.length→p (l.getD k default)) (W:WOrd lt) (hab:12<b - a∧b - a<50) (hb:b≤l.length) (hl:l.length≤1000000) :
 Fn Tryz.prog Xh 183 [v,.int .i64 a,.int .i64 b,QR g cap] h (fun r h'=>∃ (q:Nat) (t:Int),r = .tuple #[.int .i64 q,.int .i64 t]∧(a≤q∧q<b)∧Hs h0 h' (.sl v 23 1 eP l :: rs)):=by
 refine qF rfl Tryz.func183 rfl rfl ?_
 all_goals (repeat' (first|refine qi ?_|refine ql rfl ?_|refine qo ?_|(refine qf 0 ?_;refine mv ?_;refine mv ?_;refine qg ?_)|(refine qf 1 ?_;refine mv ?_;refine mv ?_;refine sb ?_;refine mv ?_;refine qg ?_)|(refine qf 2 ?_;(refine al S ?_;clear S;intro b h S);refine qg ?_)|(refine qf 3 ?_;refine mv ?_;refine mv ?_;refine qu ?_;refine ml ?_;refine ad ?_;refine mv ?_;refine qg ?_)|(refine qf 4 ?_;refine mv ?_;refine mv ?_;refine qu ?_;refine ml ?_;refine ad ?_;refine mv ?_;refine qg ?_)|(refine qf 5 ?_;refine mv ?_;refine mv ?_;refine qu ?_;refine ml ?_;refine ad ?_;refine mv ?_;refine qg ?_)|(refine qf 6 ?_;refine mv ?_;(refine cT ?_)<;>(refine qg ?_))|(refine qf 7 ?_;refine mv ?_;(refine cF ?_)<;>(refine qg ?_))|(refine qf 11 ?_;(iterate 5 refine mv ?_);skip)))
 obtain ⟨bs,hnm⟩:∃ x,x=b:=⟨_,rfl⟩;subst hnm
 have e1:(a:Int)+((b:Int) - (a:Int)) / 4*1=((a+(b - a) / 4*1:Nat):Int):=by omega
 have e2:(a:Int)+((b:Int) - (a:Int)) / 4*2=((a+(b - a) / 4*2:Nat):Int):=by omega
 have e3:(a:Int)+((b:Int) - (a:Int)) / 4*3=((a+(b - a) / 4*3:Nat):Int):=by omega
 simp only [e1,e2,e3]
 (refine qw rfl rfl rfl rfl rfl ((qg6 _ _ _ S C hp W (by omega) (by omega) (by omega) hl (by omega)).mono ?_);rintro _ h ⟨q,s,rfl,g1,g2,S2⟩)<;>(replace S:=S2;clear S2;refine mv ?_;refine qg ?_)
 all_goals (repeat' (first|refine qi ?_|refine ql rfl ?_|refine qm ?_|(refine qf 12 ?_;refine lB S rfl rfl ?_;refine qg ?_)|(refine qf 13 ?_;(iterate 3 refine mv ?_);refine qg ?_)|(refine qf 14 ?_;(first|(refine cS ?_ ?_<;>intro hc))<;>(refine mv ?_;refine qg ?_))|(refine qf 15 ?_;(iterate 3 refine mv ?_);refine qg ?_)|(refine qf 16 ?_;(refine cF ?_)<;>(refine mv ?_;refine qg ?_))))
 all_goals (refine qx ⟨_,rfl,?_⟩)
 all_goals exact ⟨q,_,rfl,by omega,S.tail⟩
theorem qhj {h0 h:AH} {rs:List Rs} {v:Value} {l:List PL} {g:Nat} {cap:List Value} {lt:PL→PL→Prop} {p:PL→Prop} (a b:Nat) (S:Hs h0 h (.sl v 23 1 eP l :: rs)) (C:Js h0 v rs g cap lt p) (hp:∀ k,k<l.length→p (l.getD k default)) (W:WOrd lt) (hab:12<b - a∧b - a<50) (hb:b≤l.length) (hl:l.length≤1000000) :
 Fn Tryz.prog Xh 182 [v,.int .i64 a,.int .i64 b,QR g cap] h (fun _ h'=>∃ l',Sw a b l l'∧Hs h0 h' (.sl v 23 1 eP l' :: rs)):=by
 have e1:(b:Int) - (a:Int)=((b - a:Nat):Int):=by omega
 refine qF rfl Tryz.func182 rfl rfl ?_
 all_goals (repeat' (first|refine qi ?_|refine ql rfl ?_|(refine qf 0 ?_;refine mv ?_;refine mv ?_;refine sb ?_;refine mv ?_;refine qg ?_)|(refine qf 1 ?_;refine mv ?_;(refine cT ?_)<;>(refine qg ?_))|(refine qf 2 ?_;refine mv ?_;refine cW ?_;(refine al S ?_;clear S;intro b h S);(first|(refine sB S rfl rfl ?_;clear S;intro h S));refine qg ?_)|(refine qf 3 ?_;refine mv ?_)))
 obtain ⟨bs,hnm⟩:∃ x,x=b:=⟨_,rfl⟩;subst hnm
 simp only [e1]
 (refine qw rfl rfl rfl rfl rfl ((qeY S.wf (b - a) (by omega)).mono ?_);rintro _ h ⟨P,rfl,hP1,hP2,x⟩)<;>(replace S:=S.qy x;clear x;refine mv ?_;refine qg ?_)
 all_goals (repeat' (first|refine qi ?_|refine qm ?_|(refine qf 4 ?_;refine mv ?_;refine mv ?_;refine qu ?_;refine ml ?_;refine ad ?_;refine sb ?_;refine mv ?_;refine qg ?_)))
 obtain ⟨w0,hw0⟩:∃ w0:Int,w0=(b:Int) - (a:Int):=⟨_,rfl⟩
 refine qE (σ:=Nat×Int×List PL) (fun (i,z,m) h'=>Hs h0 h' (.blk bs [.int .u64 z] 188 :: .sl v 23 1 eP m :: rs)∧(0≤z∧z≤18446744073709551615)∧a+(b - a) / 4*2 - 1≤i∧i≤a+(b - a) / 4*2+2∧Sw a b l m) (fun (i,z,m)=>a+(b - a) / 4*2+2 - i) (fun (i,z,m)=>[(0,v),(1,.int .i64 a),(2,.int .i64 b),(3,QR g cap),(8,.int .i64 (b - a:Nat)),(9,.pointer (some ⟨bs,0,none⟩)),(10,.int .u64 P),(11,.int .i64 i)]) (a+(b - a) / 4*2 - 1,w0,l) (by repeat (first|exact Ks.le_nil _|refine Ks.qh rfl ?_|refine Ks.zf ?_)) ?_ ?_
 ·exact ⟨by rw [hw0];exact S,by omega,by omega,by omega,.refl _⟩
 clear S
 rintro ⟨i,z,m⟩ h ⟨S,h1,h2,h3,h4⟩
 have hml:=h4.len
 all_goals (repeat' (first|refine qi ?_|refine ql rfl ?_|refine qo ?_|refine qA ?_|refine qm ?_|(refine qf 5 ?_;(iterate 3 refine mv ?_);refine qu ?_;refine ml ?_;refine ad ?_;refine ad ?_;(first|(refine cS ?_ ?_<;>intro hc))<;>(refine qg ?_))|(refine qf 7 ?_;skip)))
 ·(refine qw rfl rfl rfl rfl rfl ((qdj S h1).mono ?_);rintro _ h ⟨y,rfl,hy,S2⟩)<;>(replace S:=S2;clear S2;refine mv ?_;refine sW ?_;(refine aM ?_;intro r1 hr1 hr2);refine cI ?_;refine mv ?_;refine qg ?_)
  obtain ⟨k,rfl⟩:=Int.eq_ofNat_of_zero_le hr1
  all_goals (repeat' (first|refine qi ?_|refine ql rfl ?_|refine qo ?_|(refine qf 8 ?_;refine mv ?_;refine mv ?_;(first|(refine cS ?_ ?_<;>intro hc))<;>(refine qg ?_))|(refine qf 9 ?_;refine mv ?_;refine mv ?_;refine sb ?_;refine mv ?_;refine qg ?_)))
  ·have e5:(k:Int) - ((b - a:Nat):Int)=((k - (b - a):Nat):Int):=by omega
   simp only [e5]
   skip
   all_goals (repeat' (first|(refine qf 6 ?_;refine mv ?_;refine ad ?_;refine mv ?_;refine qg ?_)|(refine qO 10 ?_;(iterate 5 refine mv ?_);refine ad ?_;(iterate 3 refine mv ?_);refine ad ?_;refine qH S rfl rfl ?_;refine qI S rfl rfl ?_;refine mv ?_;refine mv ?_;refine qH S rfl rfl ?_;refine qI S rfl rfl ?_;refine qH S rfl rfl ?_;(first|(refine ZK S rfl rfl ?_;clear S;intro h S));refine qH S rfl rfl ?_;(first|(refine ZK S rfl rfl ?_;clear S;intro h S));refine qg ?_)))
   (try simp only [qP,qX,zg,Int.toNat_natCast] at S)
   refine ⟨(i+1,y,swp m i (a+(k - (b - a)))),?_,?_,(by repeat (first|exact Ks.le_nil _|refine Ks.qh rfl ?_))⟩
   ·show a+(b - a) / 4*2+2 - (i+1)<a+(b - a) / 4*2+2 - i;omega
   ·exact ⟨S,hy,by omega,by omega,h4.step _ _ ⟨by omega,by omega⟩ ⟨by omega,by omega⟩ (by omega)⟩
  ·skip
   all_goals (repeat' (first|(refine qf 6 ?_;refine mv ?_;refine ad ?_;refine mv ?_;refine qg ?_)|(refine qO 10 ?_;(iterate 5 refine mv ?_);refine ad ?_;(iterate 3 refine mv ?_);refine ad ?_;refine qH S rfl rfl ?_;refine qI S rfl rfl ?_;refine mv ?_;refine mv ?_;refine qH S rfl rfl ?_;refine qI S rfl rfl ?_;refine qH S rfl rfl ?_;(first|(refine ZK S rfl rfl ?_;clear S;intro h S));refine qH S rfl rfl ?_;(first|(refine ZK S rfl rfl ?_;clear S;intro h S));refine qg ?_)))
   (try simp only [qP,qX,zg,Int.toNat_natCast] at S)
   refine ⟨(i+1,y,swp m i (a+k)),?_,?_,(by repeat (first|exact Ks.le_nil _|refine Ks.qh rfl ?_))⟩
   ·show a+(b - a) / 4*2+2 - (i+1)<a+(b - a) / 4*2+2 - i;omega
   ·exact ⟨S,hy,by omega,by omega,h4.step _ _ ⟨by omega,by omega⟩ ⟨by omega,by omega⟩ (by omega)⟩
 ·refine ⟨_,rfl,?_⟩
  exact ⟨m,h4,S.tail⟩
theorem qf9 {h0 h:AH} {rs:List Rs} {v:Value} {l:List PL} {g:Nat} {cap:List Value} {lt:PL→PL→Prop} {p:PL→Prop} (a b:Nat) (S:Hs h0 h (.sl v 23 1 eP l :: rs)) (C:Js h0 v rs g cap lt p) (hp:∀ k,k<l.length→p (l.getD k default)) (W:WOrd lt) (hab:12<b - a∧b - a<50) (hb:b≤l.length) (hl:l.length≤1000000) :
 Fn Tryz.prog Xh 185 [v,.int .i64 a,.int .i64 b,QR g cap] h (fun r h'=>BoolIs r (Srt lt a b l)∧Hs h0 h' (.sl v 23 1 eP l :: rs)):=by
 refine qF rfl Tryz.func185 rfl rfl ?_
 all_goals (repeat' (first|refine qi ?_|refine qm ?_|(refine qf 0 ?_;refine mv ?_;refine qg ?_)|(refine qf 1 ?_;refine mv ?_;refine ad ?_;refine mv ?_;refine qg ?_)|(refine qf 2 ?_;refine mv ?_;refine qg ?_)))
 refine qE (σ:=Unit) (fun _ h'=>Hs h0 h' (.sl v 23 1 eP l :: rs)) (fun _=>0) (fun _=>[(0,v),(1,.int .i64 a),(2,.int .i64 b),(3,QR g cap),(9,.int .i64 (a+1:Nat)),(10,.int .i64 0)]) () (by repeat (first|exact Ks.le_nil _|refine Ks.qh rfl ?_)) ?_ ?_
 ·exact S
 clear S
 rintro - h S
 all_goals (repeat' (first|refine qi ?_|refine ql rfl ?_|refine qo ?_|refine qm ?_|(refine qf 3 ?_;refine mv ?_;(refine cT ?_)<;>(refine qg ?_))))
 refine qE (σ:=Nat) (fun i h'=>Hs h0 h' (.sl v 23 1 eP l :: rs)∧a<i∧i≤b∧Srt lt a i l) (fun i=>b - i) (fun i=>[(0,v),(1,.int .i64 a),(2,.int .i64 b),(3,QR g cap),(9,.int .i64 i),(10,.int .i64 0)]) (a+1) (by repeat (first|exact Ks.le_nil _|refine Ks.qh rfl ?_)) ?_ ?_
 ·exact ⟨S,by omega,by omega,fun i j q1 q2 q3=>by omega⟩
 clear S
 rintro i h ⟨S,h1,h2,h3⟩
 all_goals (repeat' (first|refine qi ?_|refine ql rfl ?_|refine qA ?_|(refine qO 5 ?_;refine mv ?_;refine mv ?_;(first|(refine cS ?_ ?_<;>intro hc))<;>(refine mv ?_;(first|refine off ?_|refine mv ?_);(first|refine off ?_|refine mv ?_);(first|refine off ?_|refine mv ?_);(first|refine off ?_|(refine qH S rfl rfl ?_));(first|refine off ?_|(refine qI S rfl rfl ?_));(first|refine off ?_|refine mv ?_);(first|refine off ?_|refine mv ?_);(first|refine off ?_|(refine sb ?_));(first|refine off ?_|(refine qH S rfl rfl ?_));(first|refine off ?_|(refine qI S rfl rfl ?_));(first|(refine off ?_;(refine off ?_)<;>((refine off ?_);refine vl ?_;refine qg ?_))|skip)))))
 ·(try simp only [qP,qX,zg,Int.toNat_natCast])
  (refine qN rfl rfl rfl rfl ((C _ _ _ _ S (hp i (by omega)) (hp (i - 1) (by omega))).mono ?_);rintro _ h ⟨d,rfl,⟨hd,hq⟩|⟨hd,hq⟩,x⟩)<;>(replace S:=S.qy x;clear x;(first|(first|refine cT ?_|refine cF ?_))<;>((refine vl ?_);refine vl ?_;refine qg ?_))
  ·all_goals (repeat' (first|refine qi ?_|refine ql rfl ?_|refine qo ?_|refine qA ?_|(refine qf 7 ?_;refine mv ?_;refine mv ?_;(refine cF ?_)<;>(refine qg ?_))|(refine qf 9 ?_;refine mv ?_;refine mv ?_;refine sb ?_;(refine cT ?_)<;>(refine qg ?_))|(refine qf 10 ?_;refine mv ?_;refine qg ?_)))
   refine qx ⟨_,rfl,?_⟩
   refine ⟨.inr ⟨rfl,fun q=>q (i - 1) i (by omega) (by omega) (by omega) hq⟩,S⟩
  ·all_goals (repeat' (first|refine ql rfl ?_|refine qo ?_|refine qm ?_|(refine qf 6 ?_;refine mv ?_;refine ad ?_;refine mv ?_;refine qg ?_)))
   refine ⟨i+1,?_,?_,(by repeat (first|exact Ks.le_nil _|refine Ks.qh rfl ?_))⟩
   ·show b - (i+1)<b - i;omega
   ·refine ⟨S,by omega,by omega,Srt.adj W fun k q1 q2=>?_⟩
    rcases Nat.lt_or_ge (k+1) i with q|q
    ·exact h3 k (k+1) q1 (by omega) q
    ·obtain rfl:i=k+1:=by omega
     exact hq
 ·obtain rfl:i=b:=by omega
  all_goals (repeat' (first|refine qi ?_|refine ql rfl ?_|(refine qf 7 ?_;refine mv ?_;refine mv ?_;(refine cT ?_)<;>(refine qg ?_))|(refine qf 8 ?_;refine mv ?_;refine qg ?_)))
  refine qx ⟨_,rfl,?_⟩
  exact ⟨.inl ⟨rfl,h3⟩,S⟩
theorem qgZ {h0 h:AH} {rs:List Rs} {v:Value} {l:List PL} {g:Nat} {cap:List Value} {lt:PL→PL→Prop} {p:PL→Prop} (a b q:Nat) (S:Hs h0 h (.sl v 23 1 eP l :: rs)) (C:Js h0 v rs g cap lt p) (hp:∀ k,k<l.length→p (l.getD k default)) (W:WOrd lt) (hab:a≤q∧q<b) (hb:b≤l.length) (hl:l.length≤1000000) :
 Fn Tryz.prog Xh 186 [v,.int .i64 a,.int .i64 b,.int .i64 q,QR g cap] h (fun r h'=>∃ (e:Nat) (l':List PL),r = .int .i64 e∧(a<e∧e≤b)∧Sw a b l l'∧(∀ k,a≤k→k<e→¬ lt (l.getD q default) (l'.getD k default))∧(∀ k,e≤k→k<b→lt (l.getD q default) (l'.getD k default))∧Hs h0 h' (.sl v 23 1 eP l' :: rs)):=by
 obtain ⟨x,hx⟩:∃ x,x=l.getD q default:=⟨_,rfl⟩
 rw [← hx]
 refine qF rfl Tryz.func186 rfl rfl ?_
 all_goals (repeat' (first|refine qi ?_|refine qm ?_|(refine qf 0 ?_;refine mv ?_;refine qg ?_)|(refine qO 1 ?_;(iterate 6 refine mv ?_);refine qH S rfl rfl ?_;refine qI S rfl rfl ?_;refine mv ?_;refine mv ?_;refine qH S rfl rfl ?_;refine qI S rfl rfl ?_;refine qH S rfl rfl ?_;(first|(refine ZK S rfl rfl ?_;clear S;intro h S));refine qH S rfl rfl ?_;(first|(refine ZK S rfl rfl ?_;clear S;intro h S));refine qg ?_)|(refine qf 2 ?_;refine mv ?_;refine ad ?_;refine mv ?_;refine sb ?_;refine mv ?_;refine mv ?_;refine qg ?_)))
 (try simp only [qP,qX,zg,Int.toNat_natCast] at S)
 have s1:Sw a b l (swp l a q):=.one _ _ ⟨by omega,by omega⟩ ⟨by omega,by omega⟩ hb
 have x1:(swp l a q).getD a default=x:=by
  rw [swp_get (by omega) (by omega),hx]
  split
  ·rename_i e;rw [e]
  ·rw [if_pos rfl]
 refine qE (σ:=Nat×Nat×List PL) (fun (i,j,m) h'=>Hs h0 h' (.sl v 23 1 eP m :: rs)∧Sw a b l m∧EqI lt a b x i j m) (fun (i,j,m)=>j+1 - i) (fun (i,j,m)=>[(0,v),(1,.int .i64 a),(2,.int .i64 b),(3,.int .i64 q),(4,QR g cap),(11,.int .i64 i),(12,.int .i64 j)]) (a+1,b - 1,swp l a q) (by repeat (first|exact Ks.le_nil _|refine Ks.qh rfl ?_|refine Ks.zf ?_)) ?_ ?_
 ·exact ⟨S,s1,⟨by omega,fun k q1 q2=>by omega,fun k q1 q2=>by omega,x1⟩⟩
 clear S s1 x1
 rintro ⟨i0,j0,m⟩ h ⟨S,s1,E⟩
 have hml:=s1.len
 have hpn:=s1.lift hp hb
 have hbi:=E.bi
 have ex:=E.x
 refine qm ?_
 refine QG (σ:=Nat) (fun i h'=>Hs h0 h' (.sl v 23 1 eP m :: rs)∧EqI lt a b x i j0 m∧i0≤i∧(i≤j0→lt x (m.getD i default))) (fun i=>[(0,v),(1,.int .i64 a),(2,.int .i64 b),(3,.int .i64 q),(4,QR g cap),(11,.int .i64 i),(12,.int .i64 j0)]) ?_ ?_
 ·all_goals (repeat' (refine qm ?_))
  refine qE (σ:=Nat) (fun i h'=>Hs h0 h' (.sl v 23 1 eP m :: rs)∧EqI lt a b x i j0 m∧i0≤i) (fun i=>j0+1 - i) (fun i=>[(0,v),(1,.int .i64 a),(2,.int .i64 b),(3,.int .i64 q),(4,QR g cap),(11,.int .i64 i),(12,.int .i64 j0)]) i0 (by repeat (first|exact Ks.le_nil _|refine Ks.qh rfl ?_)) ?_ ?_
  ·exact ⟨S,E,Nat.le_refl _⟩
  clear S E hbi
  rintro i h ⟨S,E,hi0⟩
  have hbi:=E.bi
  all_goals (repeat' (first|refine qi ?_|refine ql rfl ?_|refine qA ?_|(refine qO 3 ?_;refine mv ?_;refine mv ?_;(first|(refine cS ?_ ?_<;>intro hc))<;>(refine mv ?_;(first|refine off ?_|refine mv ?_);(first|refine off ?_|refine mv ?_);(first|refine off ?_|refine mv ?_);(first|refine off ?_|(refine qH S rfl rfl ?_));(first|refine off ?_|(refine qI S rfl rfl ?_));(first|refine off ?_|refine mv ?_);(first|refine off ?_|refine mv ?_);(first|refine off ?_|(refine qH S rfl rfl ?_));(first|refine off ?_|(refine qI S rfl rfl ?_));(first|(refine off ?_;(refine off ?_)<;>((refine off ?_);refine vl ?_;refine qg ?_))|skip)))))
  ·(try simp only [qP,qX,zg,Int.toNat_natCast])
   (refine qN rfl rfl rfl rfl ((C _ _ _ _ S (hpn a (by omega)) (hpn i (by omega))).mono ?_);rintro _ h ⟨d,rfl,⟨hd,hq⟩|⟨hd,hq⟩,x⟩)<;>(replace S:=S.qy x;clear x;rw [ex] at hq;(first|(first|refine cT ?_|refine cF ?_))<;>((refine vl ?_);refine vl ?_;refine qg ?_))
   ·all_goals (repeat' (first|refine ql rfl ?_|refine qA ?_))
    exact ⟨i,⟨S,E,hi0,fun _=>hq⟩,((by repeat (first|exact Ks.le_nil _|refine Ks.qh rfl ?_)))⟩
   ·all_goals (repeat' (first|refine ql rfl ?_|refine qo ?_|refine qm ?_|(refine qf 4 ?_;refine mv ?_;refine ad ?_;refine mv ?_;refine qg ?_)))
    refine ⟨i+1,?_,?_,(by repeat (first|exact Ks.le_nil _|refine Ks.qh rfl ?_))⟩
    ·show j0+1 - (i+1)<j0+1 - i;omega
    ·refine ⟨S,⟨by omega,fun k q1 q2=>?_,E.hi,ex⟩,by omega⟩
     rcases Nat.lt_or_ge k i with q|q
     ·exact E.lo k q1 q
     ·obtain rfl:k=i:=by omega
      exact hq
  ·exact ⟨i,⟨S,E,hi0,fun q=>by omega⟩,((by repeat (first|exact Ks.le_nil _|refine Ks.qh rfl ?_)))⟩
 clear S E hbi
 rintro i h ⟨S,E,hi0,hi1⟩
 have hbi:=E.bi
 refine QG (σ:=Nat) (fun j h'=>Hs h0 h' (.sl v 23 1 eP m :: rs)∧EqI lt a b x i j m∧j≤j0∧(i≤j→¬ lt x (m.getD j default))) (fun j=>[(0,v),(1,.int .i64 a),(2,.int .i64 b),(3,.int .i64 q),(4,QR g cap),(11,.int .i64 i),(12,.int .i64 j)]) ?_ ?_
 ·all_goals (repeat' (refine qm ?_))
  refine qE (σ:=Nat) (fun j h'=>Hs h0 h' (.sl v 23 1 eP m :: rs)∧EqI lt a b x i j m∧j≤j0) (fun j=>j) (fun j=>[(0,v),(1,.int .i64 a),(2,.int .i64 b),(3,.int .i64 q),(4,QR g cap),(11,.int .i64 i),(12,.int .i64 j)]) j0 (by repeat (first|exact Ks.le_nil _|refine Ks.qh rfl ?_)) ?_ ?_
  ·exact ⟨S,E,Nat.le_refl _⟩
  clear S E hbi
  rintro j h ⟨S,E,hj0⟩
  have hbi:=E.bi
  all_goals (repeat' (first|refine qi ?_|refine ql rfl ?_|refine qA ?_|(refine qO 5 ?_;refine mv ?_;refine mv ?_;(first|(refine cS ?_ ?_<;>intro hc))<;>(refine mv ?_;(first|refine off ?_|refine mv ?_);(first|refine off ?_|refine mv ?_);(first|refine off ?_|refine mv ?_);(first|refine off ?_|(refine qH S rfl rfl ?_));(first|refine off ?_|(refine qI S rfl rfl ?_));(first|refine off ?_|refine mv ?_);(first|refine off ?_|refine mv ?_);(first|refine off ?_|(refine qH S rfl rfl ?_));(first|refine off ?_|(refine qI S rfl rfl ?_));(first|(refine off ?_;(refine off ?_)<;>(refine vl ?_;refine qg ?_))|skip)))))
  ·(try simp only [qP,qX,zg,Int.toNat_natCast])
   (refine qN rfl rfl rfl rfl ((C _ _ _ _ S (hpn a (by omega)) (hpn j (by omega))).mono ?_);rintro _ h ⟨d,rfl,⟨hd,hq⟩|⟨hd,hq⟩,x⟩)<;>(replace S:=S.qy x;clear x;rw [ex] at hq;(first|(first|refine cT ?_|refine cF ?_))<;>(refine vl ?_;refine qg ?_))
   ·all_goals (repeat' (first|refine ql rfl ?_|refine qo ?_|refine qm ?_|(refine qf 6 ?_;refine mv ?_;refine sb ?_;refine mv ?_;refine qg ?_)))
    refine ⟨j - 1,?_,?_,(by repeat (first|exact Ks.le_nil _|refine Ks.qh rfl ?_|refine Ks.zf ?_))⟩
    ·show j - 1<j;omega
    ·refine ⟨S,⟨by omega,E.lo,fun k q1 q2=>?_,ex⟩,by omega⟩
     rcases Nat.lt_or_ge j k with q|q
     ·exact E.hi k q q2
     ·obtain rfl:k=j:=by omega
      exact hq
   ·all_goals (repeat' (first|refine ql rfl ?_|refine qA ?_))
    exact ⟨j,⟨S,E,hj0,fun _=>hq⟩,((by repeat (first|exact Ks.le_nil _|refine Ks.qh rfl ?_)))⟩
  ·exact ⟨j,⟨S,E,hj0,fun q=>by omega⟩,((by repeat (first|exact Ks.le_nil _|refine Ks.qh rfl ?_)))⟩
 clear S E hbi
 rintro j h ⟨S,E,hj0,hj1⟩
 have hbi:=E.bi
 skip
 all_goals (repeat' (first|refine qi ?_|refine ql rfl ?_|refine qo ?_|refine qA ?_|(refine qf 7 ?_;refine mv ?_;refine mv ?_;(first|(refine cS ?_ ?_<;>intro hc))<;>(refine qg ?_))|(refine qO 8 ?_;(iterate 6 refine mv ?_);refine qH S rfl rfl ?_;refine qI S rfl rfl ?_;refine mv ?_;refine mv ?_;refine qH S rfl rfl ?_;refine qI S rfl rfl ?_;refine qH S rfl rfl ?_;(first|(refine ZK S rfl rfl ?_;clear S;intro h S));refine qH S rfl rfl ?_;(first|(refine ZK S rfl rfl ?_;clear S;intro h S));refine qg ?_)|(refine qf 9 ?_;refine mv ?_;refine ad ?_;refine mv ?_;refine qg ?_)|(refine qf 10 ?_;refine mv ?_;refine sb ?_;refine mv ?_;refine qg ?_)|(refine qf 11 ?_;refine mv ?_;refine mv ?_;refine qg ?_)))
 ·refine qx ⟨_,rfl,?_⟩
  refine ⟨i,m,rfl,by omega,s1,fun k q1 q2=>?_,fun k q1 q2=>E.hi k (by omega) q2,S⟩
  rcases Nat.lt_or_ge a k with q|q
  ·exact E.lo k q q2
  ·obtain rfl:k=a:=by omega
   rw [ex];exact W.irr _
 ·(try simp only [qP,qX,zg,Int.toNat_natCast] at S)
  obtain ⟨z1,z2⟩:=E.swap (by omega) (by omega) (hi1 (by omega)) (hj1 (by omega))
  refine ⟨(i+1,j - 1,swp m i j),?_,?_,(by repeat (first|exact Ks.le_nil _|refine Ks.qh rfl ?_|refine Ks.zf ?_))⟩
  ·show j - 1+1 - (i+1)<j0+1 - i0;omega
  ·exact ⟨S,s1.step _ _ ⟨by omega,by omega⟩ ⟨by omega,by omega⟩ (by omega),z2⟩
theorem qga {h0 h:AH} {rs:List Rs} {v:Value} {l:List PL} {g:Nat} {cap:List Value} {lt:PL→PL→Prop} {p:PL→Prop} (a b q:Nat) (S:Hs h0 h (.sl v 23 1 eP l :: rs)) (C:Js h0 v rs g cap lt p) (hp:∀ k,k<l.length→p (l.getD k default)) (W:WOrd lt) (hab:a≤q∧q<b) (hb:b≤l.length) (hl:l.length≤1000000) :
 Fn Tryz.prog Xh 187 [v,.int .i64 a,.int .i64 b,.int .i64 q,QR g cap] h (fun r h'=>∃ (e:Nat) (f:Bool) (l':List PL),r = .tuple #[.int .i64 e,.bool f]∧(a≤e∧e<b)∧Sw a b l l'∧Parted lt a b e l'∧Hs h0 h' (.sl v 23 1 eP l' :: rs)):=by
 obtain ⟨x,hx⟩:∃ x,x=l.getD q default:=⟨_,rfl⟩
 refine qF rfl Tryz.func187 rfl rfl ?_
 all_goals (repeat' (first|refine qi ?_|(refine qf 0 ?_;refine mv ?_;refine mv ?_;refine qg ?_)|(refine qO 1 ?_;(iterate 6 refine mv ?_);refine qH S rfl rfl ?_;refine qI S rfl rfl ?_;refine mv ?_;refine mv ?_;refine qH S rfl rfl ?_;refine qI S rfl rfl ?_;refine qH S rfl rfl ?_;(first|(refine ZK S rfl rfl ?_;clear S;intro h S));refine qH S rfl rfl ?_;(first|(refine ZK S rfl rfl ?_;clear S;intro h S));refine qg ?_)))
 (repeat (refine qi ?_));refine qf 2 ?_;refine mv ?_;refine ad ?_;refine mv ?_;refine sb ?_;refine mv ?_;refine mv ?_;refine qg ?_
 (try simp only [qP,qX,zg,Int.toNat_natCast] at S)
 have s1:Sw a b l (swp l a q):=.one _ _ ⟨by omega,by omega⟩ ⟨by omega,by omega⟩ hb
 have x1:(swp l a q).getD a default=x:=by
  rw [swp_get (by omega) (by omega),hx]
  split
  ·rename_i e;rw [e]
  ·rw [if_pos rfl]
 obtain ⟨m,hm⟩:∃ m,m=swp l a q:=⟨_,rfl⟩
 replace S:Hs h0 h (.sl v 23 1 eP m :: rs):=by rw [hm];exact S
 rw [← hm] at s1 x1
 have hml:=s1.len
 have hpn:=s1.lift hp hb
 have ex:=x1
 have E:PartI lt a b x (a+1) (b - 1) m:=⟨by omega,fun k q1 q2=>by omega,fun k q1 q2=>by omega,x1⟩
 have hbi:=E.bi
 refine QG (σ:=Nat) (fun i h'=>Hs h0 h' (.sl v 23 1 eP m :: rs)∧PartI lt a b x i (b - 1) m∧(a+1)≤i∧(i≤(b - 1)→¬ lt (m.getD i default) x)) (fun i=>[(0,v),(1,.int .i64 a),(2,.int .i64 b),(3,.int .i64 q),(4,QR g cap),(12,.int .i64 i),(13,.int .i64 (b - 1:Nat))]) ?_ ?_
 ·all_goals (repeat' (refine qm ?_))
  refine qE (σ:=Nat) (fun i h'=>Hs h0 h' (.sl v 23 1 eP m :: rs)∧PartI lt a b x i (b - 1) m∧(a+1)≤i) (fun i=>(b - 1)+1 - i) (fun i=>[(0,v),(1,.int .i64 a),(2,.int .i64 b),(3,.int .i64 q),(4,QR g cap),(12,.int .i64 i),(13,.int .i64 (b - 1:Nat))]) (a+1) (by repeat (first|exact Ks.le_nil _|refine Ks.qh rfl ?_|refine Ks.zf ?_)) ?_ ?_
  ·exact ⟨S,E,Nat.le_refl _⟩
  clear S E hbi
  rintro i h ⟨S,E,hi0⟩
  have hbi:=E.bi
  all_goals (repeat' (first|refine qi ?_|refine ql rfl ?_|refine qA ?_|(refine qO 3 ?_;refine mv ?_;refine mv ?_;(first|(refine cS ?_ ?_<;>intro hc))<;>(refine mv ?_;(first|refine off ?_|refine mv ?_);(first|refine off ?_|refine mv ?_);(first|refine off ?_|refine mv ?_);(first|refine off ?_|(refine qH S rfl rfl ?_));(first|refine off ?_|(refine qI S rfl rfl ?_));(first|refine off ?_|refine mv ?_);(first|refine off ?_|refine mv ?_);(first|refine off ?_|(refine qH S rfl rfl ?_));(first|refine off ?_|(refine qI S rfl rfl ?_));(first|(refine off ?_;(refine off ?_)<;>(refine vl ?_;refine qg ?_))|skip)))))
  ·(try simp only [qP,qX,zg,Int.toNat_natCast])
   (refine qN rfl rfl rfl rfl ((C _ _ _ _ S (hpn i (by omega)) (hpn a (by omega))).mono ?_);rintro _ h ⟨d,rfl,⟨hd,hq⟩|⟨hd,hq⟩,x⟩)<;>(replace S:=S.qy x;clear x;rw [ex] at hq;(first|(first|refine cT ?_|refine cF ?_))<;>(refine vl ?_;refine qg ?_))
   ·all_goals (repeat' (first|refine ql rfl ?_|refine qo ?_|refine qm ?_|(refine qf 4 ?_;refine mv ?_;refine ad ?_;refine mv ?_;refine qg ?_)))
    refine ⟨i+1,?_,?_,(by repeat (first|exact Ks.le_nil _|refine Ks.qh rfl ?_))⟩
    ·show (b - 1)+1 - (i+1)<(b - 1)+1 - i;omega
    ·refine ⟨S,⟨by omega,fun k q1 q2=>?_,E.hi,ex⟩,by omega⟩
     rcases Nat.lt_or_ge k i with q|q
     ·exact E.lo k q1 q
     ·obtain rfl:k=i:=by omega
      exact hq
   ·all_goals (repeat' (first|refine ql rfl ?_|refine qA ?_))
    exact ⟨i,⟨S,E,hi0,fun _=>hq⟩,((by repeat (first|exact Ks.le_nil _|refine Ks.qh rfl ?_)))⟩
  ·exact ⟨i,⟨S,E,hi0,fun q=>by omega⟩,((by repeat (first|exact Ks.le_nil _|refine Ks.qh rfl ?_)))⟩
 clear S E hbi
 rintro i h ⟨S,E,hi0,hi1⟩
 have hbi:=E.bi
 refine QG (σ:=Nat) (fun j h'=>Hs h0 h' (.sl v 23 1 eP m :: rs)∧PartI lt a b x i j m∧j≤(b - 1)∧(i≤j→lt (m.getD j default) x)) (fun j=>[(0,v),(1,.int .i64 a),(2,.int .i64 b),(3,.int .i64 q),(4,QR g cap),(12,.int .i64 i),(13,.int .i64 j)]) ?_ ?_
 ·all_goals (repeat' (refine qm ?_))
  refine qE (σ:=Nat) (fun j h'=>Hs h0 h' (.sl v 23 1 eP m :: rs)∧PartI lt a b x i j m∧j≤(b - 1)) (fun j=>j) (fun j=>[(0,v),(1,.int .i64 a),(2,.int .i64 b),(3,.int .i64 q),(4,QR g cap),(12,.int .i64 i),(13,.int .i64 j)]) (b - 1) (by repeat (first|exact Ks.le_nil _|refine Ks.qh rfl ?_)) ?_ ?_
  ·exact ⟨S,E,Nat.le_refl _⟩
  clear S E hbi
  rintro j h ⟨S,E,hj0⟩
  have hbi:=E.bi
  all_goals (repeat' (first|refine qi ?_|refine ql rfl ?_|refine qA ?_|(refine qO 5 ?_;refine mv ?_;refine mv ?_;(first|(refine cS ?_ ?_<;>intro hc))<;>(refine mv ?_;(first|refine off ?_|refine mv ?_);(first|refine off ?_|refine mv ?_);(first|refine off ?_|refine mv ?_);(first|refine off ?_|(refine qH S rfl rfl ?_));(first|refine off ?_|(refine qI S rfl rfl ?_));(first|refine off ?_|refine mv ?_);(first|refine off ?_|refine mv ?_);(first|refine off ?_|(refine qH S rfl rfl ?_));(first|refine off ?_|(refine qI S rfl rfl ?_));(first|(refine off ?_;(refine off ?_)<;>((refine off ?_);refine vl ?_;refine qg ?_))|skip)))))
  ·(try simp only [qP,qX,zg,Int.toNat_natCast])
   (refine qN rfl rfl rfl rfl ((C _ _ _ _ S (hpn j (by omega)) (hpn a (by omega))).mono ?_);rintro _ h ⟨d,rfl,⟨hd,hq⟩|⟨hd,hq⟩,x⟩)<;>(replace S:=S.qy x;clear x;rw [ex] at hq;(first|(first|refine cT ?_|refine cF ?_))<;>((refine vl ?_);refine vl ?_;refine qg ?_))
   ·all_goals (repeat' (first|refine ql rfl ?_|refine qA ?_))
    exact ⟨j,⟨S,E,hj0,fun _=>hq⟩,((by repeat (first|exact Ks.le_nil _|refine Ks.qh rfl ?_)))⟩
   ·all_goals (repeat' (first|refine ql rfl ?_|refine qo ?_|refine qm ?_|(refine qf 6 ?_;refine mv ?_;refine sb ?_;refine mv ?_;refine qg ?_)))
    refine ⟨j - 1,?_,?_,(by repeat (first|exact Ks.le_nil _|refine Ks.qh rfl ?_|refine Ks.zf ?_))⟩
    ·show j - 1<j;omega
    ·refine ⟨S,⟨by omega,E.lo,fun k q1 q2=>?_,ex⟩,by omega⟩
     rcases Nat.lt_or_ge j k with q|q
     ·exact E.hi k q q2
     ·obtain rfl:k=j:=by omega
      exact hq
  ·exact ⟨j,⟨S,E,hj0,fun q=>by omega⟩,((by repeat (first|exact Ks.le_nil _|refine Ks.qh rfl ?_)))⟩
 clear S E hbi
 rintro j h ⟨S,E,hj0,hj1⟩
 have hbi:=E.bi
 skip
 all_goals (repeat' (first|refine qi ?_|refine ql rfl ?_|refine qo ?_|refine qm ?_|(refine qf 7 ?_;refine mv ?_;refine mv ?_;(first|(refine cS ?_ ?_<;>intro hc))<;>(refine qg ?_))|(refine qO 8 ?_;(iterate 6 refine mv ?_);refine qH S rfl rfl ?_;refine qI S rfl rfl ?_;refine mv ?_;refine mv ?_;refine qH S rfl rfl ?_;refine qI S rfl rfl ?_;refine qH S rfl rfl ?_;(first|(refine ZK S rfl rfl ?_;clear S;intro h S));refine qH S rfl rfl ?_;(first|(refine ZK S rfl rfl ?_;clear S;intro h S));refine qg ?_)|(refine qf 9 ?_;(iterate 3 refine mv ?_);refine qg ?_)|(refine qO 10 ?_;(iterate 6 refine mv ?_);refine qH S rfl rfl ?_;refine qI S rfl rfl ?_;refine mv ?_;refine mv ?_;refine qH S rfl rfl ?_;refine qI S rfl rfl ?_;refine qH S rfl rfl ?_;(first|(refine ZK S rfl rfl ?_;clear S;intro h S));refine qH S rfl rfl ?_;(first|(refine ZK S rfl rfl ?_;clear S;intro h S));refine qg ?_)|(refine qf 11 ?_;refine mv ?_;refine ad ?_;refine mv ?_;refine qg ?_)|(refine qf 12 ?_;refine mv ?_;refine sb ?_;refine mv ?_;refine qg ?_)))
 ·(try simp only [qP,qX,zg,Int.toNat_natCast] at S)
  refine qx ⟨_,rfl,?_⟩
  exact ⟨j,true,swp m j a,rfl,by omega,s1.step _ _ ⟨by omega,by omega⟩ ⟨by omega,by omega⟩ (by omega),E.done W (by omega) (by omega),S⟩
 (try simp only [qP,qX,zg,Int.toNat_natCast] at S)
 obtain ⟨z1,z2⟩:=E.swap (by omega) (by omega) (hi1 (by omega)) (hj1 (by omega))
 refine qE (σ:=Nat×Nat×List PL) (fun (i,j,m) h'=>Hs h0 h' (.sl v 23 1 eP m :: rs)∧Sw a b l m∧PartI lt a b x i j m) (fun (i,j,m)=>j+1 - i) (fun (i,j,m)=>[(0,v),(1,.int .i64 a),(2,.int .i64 b),(3,.int .i64 q),(4,QR g cap),(12,.int .i64 i),(13,.int .i64 j)]) (i+1,j - 1,swp m i j) (by repeat (first|exact Ks.le_nil _|refine Ks.qh rfl ?_|refine Ks.zf ?_)) ?_ ?_
 ·exact ⟨S,s1.step _ _ ⟨by omega,by omega⟩ ⟨by omega,by omega⟩ (by omega),z2⟩
 clear S s1 x1 E hbi hi0 hi1 hj0 hj1 z1 z2 hml ex hm
 clear hpn
 rintro ⟨i0,j0,m⟩ h ⟨S,s1,E⟩
 have hml:=s1.len
 have hpn:=s1.lift hp hb
 have hbi:=E.bi
 have ex:=E.x
 refine qm ?_
 refine QG (σ:=Nat) (fun i h'=>Hs h0 h' (.sl v 23 1 eP m :: rs)∧PartI lt a b x i j0 m∧i0≤i∧(i≤j0→¬ lt (m.getD i default) x)) (fun i=>[(0,v),(1,.int .i64 a),(2,.int .i64 b),(3,.int .i64 q),(4,QR g cap),(12,.int .i64 i),(13,.int .i64 j0)]) ?_ ?_
 ·all_goals (repeat' (refine qm ?_))
  refine qE (σ:=Nat) (fun i h'=>Hs h0 h' (.sl v 23 1 eP m :: rs)∧PartI lt a b x i j0 m∧i0≤i) (fun i=>j0+1 - i) (fun i=>[(0,v),(1,.int .i64 a),(2,.int .i64 b),(3,.int .i64 q),(4,QR g cap),(12,.int .i64 i),(13,.int .i64 j0)]) i0 (by repeat (first|exact Ks.le_nil _|refine Ks.qh rfl ?_)) ?_ ?_
  ·exact ⟨S,E,Nat.le_refl _⟩
  clear S E hbi
  rintro i h ⟨S,E,hi0⟩
  have hbi:=E.bi
  all_goals (repeat' (first|refine qi ?_|refine ql rfl ?_|refine qA ?_|(refine qO 13 ?_;refine mv ?_;refine mv ?_;(first|(refine cS ?_ ?_<;>intro hc))<;>(refine mv ?_;(first|refine off ?_|refine mv ?_);(first|refine off ?_|refine mv ?_);(first|refine off ?_|refine mv ?_);(first|refine off ?_|(refine qH S rfl rfl ?_));(first|refine off ?_|(refine qI S rfl rfl ?_));(first|refine off ?_|refine mv ?_);(first|refine off ?_|refine mv ?_);(first|refine off ?_|(refine qH S rfl rfl ?_));(first|refine off ?_|(refine qI S rfl rfl ?_));(first|(refine off ?_;(refine off ?_)<;>(refine vl ?_;refine qg ?_))|skip)))))
  ·(try simp only [qP,qX,zg,Int.toNat_natCast])
   (refine qN rfl rfl rfl rfl ((C _ _ _ _ S (hpn i (by omega)) (hpn a (by omega))).mono ?_);rintro _ h ⟨d,rfl,⟨hd,hq⟩|⟨hd,hq⟩,x⟩)<;>(replace S:=S.qy x;clear x;rw [ex] at hq;(first|(first|refine cT ?_|refine cF ?_))<;>(refine vl ?_;refine qg ?_))
   ·all_goals (repeat' (first|refine ql rfl ?_|refine qo ?_|refine qm ?_|(refine qf 14 ?_;refine mv ?_;refine ad ?_;refine mv ?_;refine qg ?_)))
    refine ⟨i+1,?_,?_,(by repeat (first|exact Ks.le_nil _|refine Ks.qh rfl ?_))⟩
    ·show j0+1 - (i+1)<j0+1 - i;omega
    ·refine ⟨S,⟨by omega,fun k q1 q2=>?_,E.hi,ex⟩,by omega⟩
     rcases Nat.lt_or_ge k i with q|q
     ·exact E.lo k q1 q
     ·obtain rfl:k=i:=by omega
      exact hq
   ·all_goals (repeat' (first|refine ql rfl ?_|refine qA ?_))
    exact ⟨i,⟨S,E,hi0,fun _=>hq⟩,((by repeat (first|exact Ks.le_nil _|refine Ks.qh rfl ?_)))⟩
  ·exact ⟨i,⟨S,E,hi0,fun q=>by omega⟩,((by repeat (first|exact Ks.le_nil _|refine Ks.qh rfl ?_)))⟩
 clear S E hbi
 rintro i h ⟨S,E,hi0,hi1⟩
 have hbi:=E.bi
 refine QG (σ:=Nat) (fun j h'=>Hs h0 h' (.sl v 23 1 eP m :: rs)∧PartI lt a b x i j m∧j≤j0∧(i≤j→lt (m.getD j default) x)) (fun j=>[(0,v),(1,.int .i64 a),(2,.int .i64 b),(3,.int .i64 q),(4,QR g cap),(12,.int .i64 i),(13,.int .i64 j)]) ?_ ?_
 ·all_goals (repeat' (refine qm ?_))
  refine qE (σ:=Nat) (fun j h'=>Hs h0 h' (.sl v 23 1 eP m :: rs)∧PartI lt a b x i j m∧j≤j0) (fun j=>j) (fun j=>[(0,v),(1,.int .i64 a),(2,.int .i64 b),(3,.int .i64 q),(4,QR g cap),(12,.int .i64 i),(13,.int .i64 j)]) j0 (by repeat (first|exact Ks.le_nil _|refine Ks.qh rfl ?_)) ?_ ?_
  ·exact ⟨S,E,Nat.le_refl _⟩
  clear S E hbi
  rintro j h ⟨S,E,hj0⟩
  have hbi:=E.bi
  all_goals (repeat' (first|refine qi ?_|refine ql rfl ?_|refine qA ?_|(refine qO 15 ?_;refine mv ?_;refine mv ?_;(first|(refine cS ?_ ?_<;>intro hc))<;>(refine mv ?_;(first|refine off ?_|refine mv ?_);(first|refine off ?_|refine mv ?_);(first|refine off ?_|refine mv ?_);(first|refine off ?_|(refine qH S rfl rfl ?_));(first|refine off ?_|(refine qI S rfl rfl ?_));(first|refine off ?_|refine mv ?_);(first|refine off ?_|refine mv ?_);(first|refine off ?_|(refine qH S rfl rfl ?_));(first|refine off ?_|(refine qI S rfl rfl ?_));(first|(refine off ?_;(refine off ?_)<;>((refine off ?_);refine vl ?_;refine qg ?_))|skip)))))
  ·(try simp only [qP,qX,zg,Int.toNat_natCast])
   (refine qN rfl rfl rfl rfl ((C _ _ _ _ S (hpn j (by omega)) (hpn a (by omega))).mono ?_);rintro _ h ⟨d,rfl,⟨hd,hq⟩|⟨hd,hq⟩,x⟩)<;>(replace S:=S.qy x;clear x;rw [ex] at hq;(first|(first|refine cT ?_|refine cF ?_))<;>((refine vl ?_);refine vl ?_;refine qg ?_))
   ·all_goals (repeat' (first|refine ql rfl ?_|refine qA ?_))
    exact ⟨j,⟨S,E,hj0,fun _=>hq⟩,((by repeat (first|exact Ks.le_nil _|refine Ks.qh rfl ?_)))⟩
   ·all_goals (repeat' (first|refine ql rfl ?_|refine qo ?_|refine qm ?_|(refine qf 16 ?_;refine mv ?_;refine sb ?_;refine mv ?_;refine qg ?_)))
    refine ⟨j - 1,?_,?_,(by repeat (first|exact Ks.le_nil _|refine Ks.qh rfl ?_|refine Ks.zf ?_))⟩
    ·show j - 1<j;omega
    ·refine ⟨S,⟨by omega,E.lo,fun k q1 q2=>?_,ex⟩,by omega⟩
     rcases Nat.lt_or_ge j k with q|q
     ·exact E.hi k q q2
     ·obtain rfl:k=j:=by omega
      exact hq
  ·exact ⟨j,⟨S,E,hj0,fun q=>by omega⟩,((by repeat (first|exact Ks.le_nil _|refine Ks.qh rfl ?_)))⟩
 clear S E hbi
 rintro j h ⟨S,E,hj0,hj1⟩
 have hbi:=E.bi
 skip
 all_goals (repeat' (first|refine qi ?_|refine ql rfl ?_|refine qo ?_|refine qA ?_|(refine qf 17 ?_;refine mv ?_;refine mv ?_;(first|(refine cS ?_ ?_<;>intro hc))<;>(refine qg ?_))|(refine qO 18 ?_;(iterate 6 refine mv ?_);refine qH S rfl rfl ?_;refine qI S rfl rfl ?_;refine mv ?_;refine mv ?_;refine qH S rfl rfl ?_;refine qI S rfl rfl ?_;refine qH S rfl rfl ?_;(first|(refine ZK S rfl rfl ?_;clear S;intro h S));refine qH S rfl rfl ?_;(first|(refine ZK S rfl rfl ?_;clear S;intro h S));refine qg ?_)|(refine qf 19 ?_;refine mv ?_;refine ad ?_;refine mv ?_;refine qg ?_)|(refine qf 20 ?_;refine mv ?_;refine sb ?_;refine mv ?_;refine qg ?_)|(refine qO 21 ?_;(iterate 6 refine mv ?_);refine qH S rfl rfl ?_;refine qI S rfl rfl ?_;refine mv ?_;refine mv ?_;refine qH S rfl rfl ?_;refine qI S rfl rfl ?_;refine qH S rfl rfl ?_;(first|(refine ZK S rfl rfl ?_;clear S;intro h S));refine qH S rfl rfl ?_;(first|(refine ZK S rfl rfl ?_;clear S;intro h S));refine qg ?_)|(refine qf 22 ?_;(iterate 3 refine mv ?_);refine qg ?_)))
 ·(try simp only [qP,qX,zg,Int.toNat_natCast] at S)
  refine qx ⟨_,rfl,?_⟩
  exact ⟨j,false,swp m j a,rfl,by omega,s1.step _ _ ⟨by omega,by omega⟩ ⟨by omega,by omega⟩ (by omega),E.done W (by omega) (by omega),S⟩
 ·(try simp only [qP,qX,zg,Int.toNat_natCast] at S)
  obtain ⟨z1,z2⟩:=E.swap (by omega) (by omega) (hi1 (by omega)) (hj1 (by omega))
  refine ⟨(i+1,j - 1,swp m i j),?_,?_,(by repeat (first|exact Ks.le_nil _|refine Ks.qh rfl ?_|refine Ks.zf ?_))⟩
  ·show j - 1+1 - (i+1)<j0+1 - i0;omega
  ·exact ⟨S,s1.step _ _ ⟨by omega,by omega⟩ ⟨by omega,by omega⟩ (by omega),z2⟩
theorem qg0 {h0:AH} {rs:List Rs} {v:Value} {g:Nat} {cap:List Value} {lt:PL→PL→Prop} {p:PL→Prop} (C:Js h0 v rs g cap lt p) (W:WOrd lt):∀ (n:Nat) {h:AH} {l:List PL} (a b lim:Nat) (S:Hs h0 h (.sl v 23 1 eP l :: rs)) (hp:∀ k,k<l.length→p (l.getD k default)) (hn:b - a=n) (hab:a≤b) (hb:b≤l.length) (hl:l.length≤1000000) (hbig:b - a<50) (hlim:lim≤1000) (hlow:0<a→∀ k,a≤k→k<b→¬ lt (l.getD k default) (l.getD (a - 1) default)),
 Fn Tryz.prog Xh 140 [v,.int .i64 a,.int .i64 b,.int .i64 lim,QR g cap] h (fun _ h'=>∃ l',Sw a b l l'∧Srt lt a b l'∧Hs h0 h' (.sl v 23 1 eP l' :: rs)):=by
 intro n
 induction n using Nat.strongRecOn with
 | _ n ih =>
 intro h l a b lim S hp hn hab hb hl hbig hlim hlow
 refine qF rfl Tryz.func140 rfl rfl ?_
 all_goals (repeat' (first|refine qi ?_|refine qm ?_|(refine qf 0 ?_;refine mv ?_;refine qg ?_)|(refine qf 1 ?_;refine mv ?_;refine qg ?_)))
 refine qE (σ:=Nat×Nat×Nat×Bool×Bool×List PL) (fun (a1,b1,lim,wb,wp,m) h'=>Hs h0 h' (.sl v 23 1 eP m :: rs)∧(a≤a1∧a1≤b1∧b1≤b)∧lim≤1000∧Sw a b l m∧DoneI lt a b a1 b1 m) (fun (a1,b1,lim,wb,wp,m)=>b1 - a1) (fun (a1,b1,lim,wb,wp,m)=>[(0,v),(1,.int .i64 a1),(2,.int .i64 b1),(3,.int .i64 lim),(4,QR g cap),(10,.bool wb),(11,.bool wp)]) (a,b,lim,true,true,l) (by repeat (first|exact Ks.le_nil _|refine Ks.qh rfl ?_)) ?_ ?_
 ·exact ⟨S,by omega,hlim,.refl _,.start⟩
 clear S hlim
 rintro ⟨a1,b1,lim,wb,wp,m⟩ h ⟨S,h1,hlim,h2,D⟩
 have hml:=h2.len
 have hpm:=h2.lift hp hb
 have low:∀ m',Sw a1 b1 m m'→0<a1→∀ k,a1≤k→k<b1→¬ lt (m'.getD k default) (m'.getD (a1 - 1) default):=fun m' s q1 k q2 q3=>by
  rcases Nat.lt_or_ge a a1 with q|q
  ·exact (D.sw s h1.1 h1.2.2).low q h1.2.2 k q2 q3
  ·obtain rfl:a=a1:=by omega
   have s2:=h2.trans (s.mono (Nat.le_refl _) h1.2.2 (by omega))
   rw [s2.out (k:=a - 1) (.inl (by omega))]
   exact s2.all (p:=fun y=>¬ lt y (l.getD (a - 1) default)) (hlow q1) k q2 (by omega)
 have e0:(b1:Int) - (a1:Int)=((b1 - a1:Nat):Int):=by omega
 refine qm ?_
 (repeat (refine qi ?_));refine qf 2 ?_;refine mv ?_;refine mv ?_;refine sb ?_;refine mv ?_;refine qg ?_
 simp only [e0]
 (repeat (refine qi ?_));refine qf 3 ?_;refine mv ?_;(first|(refine cS ?_ ?_<;>intro hc))<;>(refine qg ?_)
 ·refine ql rfl ?_
  all_goals (repeat' (first|refine qi ?_|(refine qf 4 ?_;(iterate 4 refine mv ?_);skip)))
  (refine qw rfl rfl rfl rfl rfl ((qhi a1 b1 S C hpm W h1.2.1 (by omega) (by omega)).mono ?_);rintro _ h ⟨l2,g1,g2,S2⟩)<;>(replace S:=S2;clear S2;refine qg ?_)
  all_goals (repeat' (fail))
  refine qx ⟨_,rfl,?_⟩
  exact ⟨l2,h2.trans (g1.mono h1.1 h1.2.2 (by omega)),(D.sw g1 h1.1 h1.2.2).finish g2,S⟩
 have hbig2:12<b1 - a1∧b1 - a1<50:=by omega
 refine ql rfl ?_;refine qo ?_
 (repeat (refine qi ?_));refine qf 5 ?_;refine mv ?_;(first|(refine cS ?_ ?_<;>intro hc))<;>(refine qg ?_)
 ·refine ql rfl ?_
  all_goals (repeat' (first|refine qi ?_|(refine qf 6 ?_;(iterate 4 refine mv ?_);skip)))
  (refine qw rfl rfl rfl rfl rfl ((qgm a1 b1 S C hpm W (by omega) (by omega) (by omega)).mono ?_);rintro _ h ⟨l2,g1,g2,S2⟩)<;>(replace S:=S2;clear S2;refine qg ?_)
  all_goals (repeat' (fail))
  refine qx ⟨_,rfl,?_⟩
  exact ⟨l2,h2.trans (g1.mono h1.1 h1.2.2 (by omega)),(D.sw g1 h1.1 h1.2.2).finish g2,S⟩
 refine ql rfl ?_;refine qo ?_
 refine QG (σ:=Nat×List PL) (fun (lim,m2) h'=>Hs h0 h' (.sl v 23 1 eP m2 :: rs)∧lim≤1000∧Sw a1 b1 m m2) (fun (lim,m2)=>[(0,v),(1,.int .i64 a1),(2,.int .i64 b1),(3,.int .i64 lim),(4,QR g cap),(10,.bool wb),(11,.bool wp),(12,.int .i64 (b1 - a1:Nat))]) ?_ ?_
 ·cases wb
  ·all_goals (repeat' (first|refine qi ?_|refine ql rfl ?_|(refine qf 7 ?_;refine mv ?_;refine vl ?_;refine qg ?_)|(refine qf 8 ?_;(iterate 4 refine mv ?_);skip)))
   (refine qw rfl rfl rfl rfl rfl ((qhj a1 b1 S C hpm W hbig2 (by omega) (by omega)).mono ?_);rintro _ h ⟨l2,g1,S2⟩)<;>(replace S:=S2;clear S2;refine qg ?_)
   all_goals (repeat' (first|(refine qf 9 ?_;refine mv ?_;refine sb ?_;refine mv ?_;refine qg ?_)))
   exact ⟨(lim - 1,l2),⟨S,by show lim - 1≤1000;omega,g1⟩,((by repeat (first|exact Ks.le_nil _|refine Ks.qh rfl ?_|refine Ks.zf ?_)))⟩
  ·all_goals (repeat' (first|refine qi ?_|refine ql rfl ?_|refine qo ?_|(refine qf 7 ?_;refine mv ?_;refine vl ?_;refine qg ?_)))
   exact ⟨(lim,m),⟨S,hlim,.refl _⟩,((by repeat (first|exact Ks.le_nil _|refine Ks.qh rfl ?_)))⟩
 clear S hlim
 rintro ⟨lim,m2⟩ h ⟨S,hlim,g1⟩
 have hm2:=g1.len
 have hpm2:=(g1.mono h1.1 h1.2.2 (by omega)).lift hpm (by omega)
 (repeat (refine qi ?_));refine qf 10 ?_
 (iterate 4 refine mv ?_);skip
 (refine qw rfl rfl rfl rfl rfl ((qgY a1 b1 S C hpm2 W hbig2 (by omega) (by omega)).mono ?_);rintro _ h ⟨q,t,rfl,hq0,S2⟩)<;>(replace S:=S2;clear S2;refine mv ?_;refine vl ?_;refine vl ?_;refine mv ?_;refine mv ?_;refine qg ?_)
 refine QG (σ:=Nat×Int×List PL) (fun (q,t,m3) h'=>Hs h0 h' (.sl v 23 1 eP m3 :: rs)∧(a1≤q∧q<b1)∧Sw a1 b1 m2 m3) (fun (q,t,m3)=>[(0,v),(1,.int .i64 a1),(2,.int .i64 b1),(3,.int .i64 lim),(4,QR g cap),(10,.bool wb),(11,.bool wp),(12,.int .i64 (b1 - a1:Nat)),(13,.int .i64 q),(14,.int .i64 t)]) ?_ ?_
 ·all_goals (repeat' (first|refine qi ?_|refine ql rfl ?_|refine qo ?_|(refine qf 11 ?_;refine mv ?_;(first|(refine cS ?_ ?_<;>intro hc))<;>(refine qg ?_))|(refine qf 12 ?_;(iterate 4 refine mv ?_);skip)))
  ·(refine qw rfl rfl rfl rfl rfl ((qgW a1 b1 S C hpm2 W (by omega) (by omega) (by omega)).mono ?_);rintro _ h ⟨l2,k1,S2⟩)<;>(replace S:=S2;clear S2;refine qg ?_)
   all_goals (repeat' (first|refine qi ?_|(refine qf 13 ?_;refine mv ?_;refine sb ?_;refine mv ?_;refine mv ?_;refine sb ?_;refine sb ?_;refine mv ?_;refine qg ?_)|(refine qf 14 ?_;refine mv ?_;refine qg ?_)))
   exact ⟨(b1 - 1 - (q - a1),1,l2),⟨S,by show a1≤b1 - 1 - (q - a1)∧b1 - 1 - (q - a1)<b1;omega,k1⟩,((by repeat (first|exact Ks.le_nil _|refine Ks.qh rfl ?_|refine Ks.zf ?_)))⟩
  ·exact ⟨(q,t,m2),⟨S,hq0,.refl _⟩,((by repeat (first|exact Ks.le_nil _|refine Ks.qh rfl ?_)))⟩
 clear S hq0
 rintro ⟨q,t,m3⟩ h ⟨S,hq0,g2⟩
 have g13:=g1.trans g2
 have D3:=D.sw g13 h1.1 h1.2.2
 have low3:=low m3 g13
 have s3:=h2.trans (g13.mono h1.1 h1.2.2 (by omega))
 have hm3:=g13.len
 have hpm3:=s3.lift hp hb
 refine QG (σ:=Unit) (fun _ h'=>Hs h0 h' (.sl v 23 1 eP m3 :: rs)) (fun _=>[(0,v),(1,.int .i64 a1),(2,.int .i64 b1),(3,.int .i64 lim),(4,QR g cap),(10,.bool wb),(11,.bool wp),(12,.int .i64 (b1 - a1:Nat)),(13,.int .i64 q)]) ?_ ?_
 ·cases wb
  ·all_goals (repeat' (first|refine qi ?_|refine ql rfl ?_|refine qo ?_|(refine qf 15 ?_;refine mv ?_;refine mv ?_;refine off ?_;refine vl ?_;refine mv ?_;refine off ?_;(refine off ?_)<;>(refine vl ?_;refine qg ?_))))
   exact ⟨(),S,((by repeat (first|exact Ks.le_nil _|refine Ks.qh rfl ?_)))⟩
  cases wp
  ·all_goals (repeat' (first|refine qi ?_|refine ql rfl ?_|refine qo ?_|(refine qf 15 ?_;(iterate 3 refine mv ?_);refine vl ?_;refine mv ?_;refine off ?_;(refine off ?_)<;>(refine vl ?_;refine qg ?_))))
   exact ⟨(),S,((by repeat (first|exact Ks.le_nil _|refine Ks.qh rfl ?_)))⟩
  all_goals (repeat' (first|refine qi ?_|refine ql rfl ?_|refine qo ?_|(refine qf 15 ?_;(iterate 3 refine mv ?_);refine vl ?_;refine mv ?_;refine mv ?_;(first|(first|(refine cS ?_ ?_<;>intro hc)))<;>(refine vl ?_;refine qg ?_))|(refine qf 16 ?_;(iterate 4 refine mv ?_);skip)))
  ·(refine qw rfl rfl rfl rfl rfl ((qf9 a1 b1 S C hpm3 W hbig2 (by omega) (by omega)).mono ?_);rintro _ h ⟨⟨rfl,hs⟩|⟨rfl,hs⟩,S2⟩)<;>(replace S:=S2;clear S2;refine qg ?_)
   ·all_goals (repeat' (refine ql rfl ?_))
    refine qx ⟨_,rfl,?_⟩
    exact ⟨m3,s3,D3.finish hs,S⟩
   ·all_goals (repeat' (first|refine ql rfl ?_|refine qo ?_))
    exact ⟨(),S,((by repeat (first|exact Ks.le_nil _|refine Ks.qh rfl ?_)))⟩
  ·exact ⟨(),S,((by repeat (first|exact Ks.le_nil _|refine Ks.qh rfl ?_)))⟩
 clear S
 rintro - h S
 refine QG (σ:=Unit) (fun _ h'=>Hs h0 h' (.sl v 23 1 eP m3 :: rs)) (fun _=>[(0,v),(1,.int .i64 a1),(2,.int .i64 b1),(3,.int .i64 lim),(4,QR g cap),(10,.bool wb),(11,.bool wp),(12,.int .i64 (b1 - a1:Nat)),(13,.int .i64 q)]) ?_ ?_
 ·all_goals (repeat' (first|refine qi ?_|refine ql rfl ?_|refine qo ?_|(refine qO 17 ?_;refine mv ?_;(first|(refine cS ?_ ?_<;>intro hc))<;>(refine mv ?_;(first|refine off ?_|refine mv ?_);(first|refine off ?_|refine mv ?_);(first|refine off ?_|refine mv ?_);(first|refine off ?_|(refine sb ?_));(first|refine off ?_|(refine qH S rfl rfl ?_));(first|refine off ?_|(refine qI S rfl rfl ?_));(first|refine off ?_|refine mv ?_);(first|refine off ?_|refine mv ?_);(first|refine off ?_|(refine qH S rfl rfl ?_));(first|refine off ?_|(refine qI S rfl rfl ?_));(first|(refine off ?_;(refine off ?_)<;>((refine off ?_);refine vl ?_;refine qg ?_))|skip)))))
  ·(try simp only [qP,qX,zg,Int.toNat_natCast])
   (refine qN rfl rfl rfl rfl ((C _ _ _ _ S (hpm3 (a1 - 1) (by omega)) (hpm3 q (by omega))).mono ?_);rintro _ h ⟨d,rfl,⟨hd,hq⟩|⟨hd,hq⟩,x⟩)<;>(replace S:=S.qy x;clear x;(first|(first|refine cT ?_|refine cF ?_))<;>((refine vl ?_);refine vl ?_;refine qg ?_))
   ·all_goals (repeat' (first|refine ql rfl ?_|refine qo ?_))
    exact ⟨(),S,((by repeat (first|exact Ks.le_nil _|refine Ks.qh rfl ?_)))⟩
   ·all_goals (repeat' (first|refine qi ?_|refine ql rfl ?_|(refine qf 18 ?_;(iterate 5 refine mv ?_);skip)))
    (refine qw rfl rfl rfl rfl rfl ((qgZ a1 b1 q S C hpm3 W hq0 (by omega) (by omega)).mono ?_);rintro _ h ⟨e,m4,rfl,e1,e2,e3,e4,S2⟩)<;>(replace S:=S2;clear S2;refine mv ?_;refine qg ?_)
    all_goals (repeat' (first|refine qi ?_|refine qA ?_|(refine qf 19 ?_;refine mv ?_;refine mv ?_;refine qg ?_)))
    refine ⟨(e,b1,lim,wb,wp,m4),?_,?_,(by repeat (first|exact Ks.le_nil _|refine Ks.qh rfl ?_))⟩
    ·show b1 - e<b1 - a1;omega
    ·have s4:=low m4 (g13.trans e2) (by omega)
     refine ⟨S,by (try dsimp only);omega,hlim,s3.trans (e2.mono h1.1 h1.2.2 (by omega)),(D3.sw e2 h1.1 h1.2.2).eq_ W (x:=m3.getD q default) (show a1≤e∧e≤b1 by omega) e3 e4 fun k q1 q2=>?_⟩
     have:=s4 k q1 q2
     rw [e2.out (k:=a1 - 1) (.inl (by omega))] at this
     exact W.ntr hq this
  ·exact ⟨(),S,((by repeat (first|exact Ks.le_nil _|refine Ks.qh rfl ?_)))⟩
 clear S
 rintro - h S
 skip
 all_goals (repeat' (first|refine qi ?_|(refine qf 20 ?_;(iterate 5 refine mv ?_);skip)))
 (refine qw rfl rfl rfl rfl rfl ((qga a1 b1 q S C hpm3 W hq0 (by omega) (by omega)).mono ?_);rintro _ h ⟨e,f,m4,rfl,e1,e2,e3,S2⟩)<;>(replace S:=S2;clear S2;refine mv ?_;refine vl ?_;refine vl ?_;refine mv ?_;refine mv ?_;refine qg ?_)
 have D4:=D3.sw e2 h1.1 h1.2.2
 have s4:=s3.trans (e2.mono h1.1 h1.2.2 (by omega))
 have hm4:=e2.len
 have low4:=low m4 (g13.trans e2)
 have hpm4:=s4.lift hp hb
 have ee:(e:Int)+1=((e+1:Nat):Int):=by omega
 all_goals (repeat' (first|refine qi ?_|refine ql rfl ?_|(refine qf 21 ?_;refine mv ?_;refine mv ?_;refine qg ?_)|(refine qf 22 ?_;refine mv ?_;refine mv ?_;refine sb ?_;refine mv ?_;refine mv ?_;refine sb ?_;refine mv ?_;refine mv ?_;refine qg ?_)|(refine qf 23 ?_;refine mv ?_;refine qu ?_;refine mv ?_;refine qg ?_)|(refine qf 24 ?_;refine mv ?_;refine mv ?_;(first|(refine cS ?_ ?_<;>intro hc))<;>(refine qg ?_))|(refine qf 25 ?_;refine mv ?_;refine mv ?_;(first|(refine cS ?_ ?_<;>intro hc))<;>(refine mv ?_;refine qg ?_))|(refine qf 26 ?_;(iterate 5 refine mv ?_);skip)|(refine qf 28 ?_;refine mv ?_;refine mv ?_;(first|(refine cS ?_ ?_<;>intro hc))<;>(refine mv ?_;refine qg ?_))))
 ·(refine qw rfl rfl rfl rfl rfl ((ih (e - a1) (by omega) a1 e lim S hpm4 rfl (by omega) (by omega) (by omega) (by omega) hlim (fun z k q1 q2=>low4 z k q1 (by omega))).mono ?_);rintro _ h ⟨m5,k1,k2,S2⟩)<;>(replace S:=S2;clear S2;refine qg ?_)
  all_goals (repeat' (first|(refine qf 27 ?_;refine mv ?_;refine ad ?_;refine mv ?_;refine qg ?_)))
  refine ⟨(e+1,b1,lim,true,f,m5),?_,?_,(by repeat (first|exact Ks.le_nil _|refine Ks.qh rfl ?_))⟩
  ·show b1 - (e+1)<b1 - a1;omega
  ·exact ⟨S,by (try dsimp only);omega,hlim,s4.trans (k1.mono h1.1 (by omega) (by omega)),D4.left W e3 (by omega) ⟨h1.1,h1.2.2⟩ k1 k2 (by omega)⟩
 ·(refine qw rfl rfl rfl rfl rfl ((ih (e - a1) (by omega) a1 e lim S hpm4 rfl (by omega) (by omega) (by omega) (by omega) hlim (fun z k q1 q2=>low4 z k q1 (by omega))).mono ?_);rintro _ h ⟨m5,k1,k2,S2⟩)<;>(replace S:=S2;clear S2;refine qg ?_)
  all_goals (repeat' (first|(refine qf 27 ?_;refine mv ?_;refine ad ?_;refine mv ?_;refine qg ?_)))
  refine ⟨(e+1,b1,lim,false,f,m5),?_,?_,(by repeat (first|exact Ks.le_nil _|refine Ks.qh rfl ?_))⟩
  ·show b1 - (e+1)<b1 - a1;omega
  ·exact ⟨S,by (try dsimp only);omega,hlim,s4.trans (k1.mono h1.1 (by omega) (by omega)),D4.left W e3 (by omega) ⟨h1.1,h1.2.2⟩ k1 k2 (by omega)⟩
 ·refine qf 29 ?_
  (refine mv ?_;refine mv ?_;refine ad ?_;(iterate 3 refine mv ?_);skip)
  simp only [ee]
  (refine qw rfl rfl rfl rfl rfl ((ih (b1 - (e+1)) (by omega) (e+1) b1 lim S hpm4 rfl (by omega) (by omega) (by omega) (by omega) hlim (fun z k q1 q2=>e3.2 k (by omega) q2)).mono ?_);rintro _ h ⟨m5,k1,k2,S2⟩)<;>(replace S:=S2;clear S2;refine qg ?_)
  all_goals (repeat' (first|(refine qf 30 ?_;refine mv ?_;refine mv ?_;refine qg ?_)))
  refine ⟨(a1,e,lim,true,f,m5),?_,?_,(by repeat (first|exact Ks.le_nil _|refine Ks.qh rfl ?_))⟩
  ·show e - a1<b1 - a1;omega
  ·exact ⟨S,by (try dsimp only);omega,hlim,s4.trans (k1.mono (by omega) h1.2.2 (by omega)),D4.right W e3 (by omega) ⟨h1.1,h1.2.2⟩ k1 k2 (by omega)⟩
 ·refine qf 29 ?_
  (refine mv ?_;refine mv ?_;refine ad ?_;(iterate 3 refine mv ?_);skip)
  simp only [ee]
  (refine qw rfl rfl rfl rfl rfl ((ih (b1 - (e+1)) (by omega) (e+1) b1 lim S hpm4 rfl (by omega) (by omega) (by omega) (by omega) hlim (fun z k q1 q2=>e3.2 k (by omega) q2)).mono ?_);rintro _ h ⟨m5,k1,k2,S2⟩)<;>(replace S:=S2;clear S2;refine qg ?_)
  all_goals (repeat' (first|(refine qf 30 ?_;refine mv ?_;refine mv ?_;refine qg ?_)))
  refine ⟨(a1,e,lim,false,f,m5),?_,?_,(by repeat (first|exact Ks.le_nil _|refine Ks.qh rfl ?_))⟩
  ·show e - a1<b1 - a1;omega
  ·exact ⟨S,by (try dsimp only);omega,hlim,s4.trans (k1.mono (by omega) h1.2.2 (by omega)),D4.right W e3 (by omega) ⟨h1.1,h1.2.2⟩ k1 k2 (by omega)⟩
theorem sort_c {h0 h:AH} {rs:List Rs} {v:Value} {l:List PL} {g:Nat} {cap:List Value} {lt:PL→PL→Prop} {p:PL→Prop} (S:Hs h0 h (.sl v 23 1 eP l :: rs)) (C:Js h0 v rs g cap lt p) (hp:∀ k,k<l.length→p (l.getD k default)) (W:WOrd lt) (hl:l.length<50) :
 Fn Tryz.prog Xh 98 [v,QR g cap] h (fun _ h'=>∃ l',Sw 0 l.length l l'∧Srt lt 0 l.length l'∧Hs h0 h' (.sl v 23 1 eP l' :: rs)):=by
 have hk:(lenTab.getD l.length 0).toNat<256:=UInt8.toNat_lt _
 refine qF rfl Tryz.func98 rfl rfl ?_
 all_goals (repeat' (first|refine qi ?_|(refine qf 0 ?_;refine mv ?_;refine ZC S rfl rfl ?_;refine mv ?_;refine qg ?_)|(refine qf 1 ?_;(iterate 3 refine mv ?_);refine cW ?_)))
 (refine qw rfl rfl rfl rfl rfl ((qd3 S.wf l.length (by omega)).mono ?_);rintro _ h ⟨rfl,x⟩)<;>(replace S:=S.qy x;clear x;refine mv ?_)
 (refine qw rfl rfl rfl rfl rfl ((qg0 C W l.length 0 l.length (lenTab.getD l.length 0).toNat S hp rfl (Nat.zero_le _) (Nat.le_refl _) (by omega) (by omega) (by omega) (fun z=>by omega)).mono ?_);rintro _ h ⟨l2,g1,g2,S2⟩)<;>(replace S:=S2;clear S2;refine qg ?_)
 all_goals (repeat' (fail))
 refine ⟨_,rfl,?_⟩
 exact ⟨l2,g1,g2,S⟩
def Gx (l:List PL):Prop:=∀ i,0<i→i<l.length→Jl (l.getD (i - 1) default).2 (l.getD i default).2
def qh2 (l:List PL):Prop:=∀ i j,i≤j→j<l.length→¬ Jl (l.getD j default).2 (l.getD i default).2
def qhC (l m:List PL):Prop:=∀ i,i<l.length→∃ j,j<m.length∧l.getD i default=m.getD j default
def qhJ (l m:List PL):Prop:=∀ j,j<m.length→∃ i,i<l.length∧(l.getD i default).2=(m.getD j default).2
def qhI (h0:AH) (v:Value) (rs:List Rs) (p:PL→Prop):Prop :=
 ∀ h m x y,Hs h0 h (.sl v 23 1 eP m :: rs)→p x→p y→Fn Tryz.prog Xh 59 [x.1.val,y.1.val] h (fun r h'=>BoolIs r (x.2=y.2)∧Hs h h' [])
theorem qdC {h0 h:AH} {rs:List Rs} {v:Value} {e:TypeId} {l:List PL} (S:Hs h0 h (.sl v e 1 eP l :: rs)):Hs h0 h (.rd v 1 eP l :: rs) :=
 S.same .here fun fp k=>by
  rcases k with ⟨rfl,rfl⟩|⟨b,o,cc,slk,g1,g2,g3,g4,g5⟩
  ·exact .inl ⟨rfl,rfl⟩
  ·exact .inr ⟨b,o,_,cc,e,slk,false,g1,g2,g3,g4⟩
theorem qcN (l:List PL) {i:Nat} (x:PL) (h:i<l.length) (j:Nat):(l.set i x).getD j default=if j=i then x else l.getD j default:=by
 simp only [List.getD_eq_getElem?_getD,List.getElem?_set]
 by_cases q:i=j
 ·subst q;simp [h]
 ·rw [if_neg q,if_neg (fun z=>q z.symm)]
theorem J3 (l:List PL) {k i:Nat} (h:i<k):(l.take k).getD i default=l.getD i default:=by
 simp only [List.getD_eq_getElem?_getD,List.getElem?_take,if_pos h]
theorem qas {h0 h:AH} {rs:List Rs} {v:Value} {l:List PL} {p:PL→Prop} (S:Hs h0 h (.sl v 23 1 eP l :: rs)) (hl:l.length≤1000000) (E:qhI h0 v rs p) (hp:∀ k,k<l.length→p (l.getD k default)) (hs:qh2 l) :
 Fn Tryz.prog Xh 99 [v,.func (.func 59) #[] #[]] h (fun r h'=>∃ out,Gx out∧qhC out l∧qhJ out l∧out.length≤l.length∧Hs h0 h' (.rd r 1 eP out :: rs)):=by
 have hlt:∀ i j,i≤j→j<l.length→(l.getD j default).2≠(l.getD i default).2→Jl (l.getD i default).2 (l.getD j default).2:=fun i j q1 q2 q3=>by
  rcases KG (l.getD i default).2 (l.getD j default).2 with z|z|z
  ·exact z
  ·exact absurd z.symm q3
  ·exact absurd z (hs i j q1 q2)
 refine qF rfl Tryz.func99 rfl rfl ?_
 all_goals (repeat' (first|refine qi ?_|refine ql rfl ?_|refine qo ?_|refine qm ?_|(refine qf 0 ?_;refine mv ?_;refine qg ?_)|(refine qf 1 ?_;refine mv ?_;refine ZC S rfl rfl ?_;(first|(refine cS ?_ ?_<;>intro hc))<;>(refine qg ?_))|(refine qf 2 ?_;refine mv ?_;refine mv ?_;refine qg ?_)|(refine qf 3 ?_;refine mv ?_;refine qg ?_)))
 ·refine qx ⟨_,rfl,?_⟩
  exact ⟨l,fun i q1 q2=>by omega,fun i hi=>⟨i,hi,rfl⟩,fun i hi=>⟨i,hi,rfl⟩,Nat.le_refl _,qdC S⟩
 have hn:2≤l.length:=by omega
 refine qE (σ:=Nat) (fun k h'=>Hs h0 h' (.sl v 23 1 eP l :: rs)∧(1≤k∧k≤l.length)∧∀ i,0<i→i<k→Jl (l.getD (i - 1) default).2 (l.getD i default).2) (fun k=>l.length - k) (fun k=>[(0,v),(1,.func (.func 59) #[] #[]),(5,.int .i64 k)]) 1 (by repeat (first|exact Ks.le_nil _|refine Ks.qh rfl ?_)) ?_ ?_
 ·exact ⟨S,by omega,fun i q1 q2=>by omega⟩
 clear S
 rintro K h ⟨S,h1,h2⟩
 all_goals (repeat' (first|refine qi ?_|refine ql rfl ?_|refine qo ?_|refine qA ?_|refine qm ?_|(refine qf 4 ?_;refine mv ?_;refine mv ?_;refine ZC S rfl rfl ?_;(first|(refine cS ?_ ?_<;>intro hc))<;>(refine qg ?_))|(refine qO 6 ?_;(iterate 3 refine mv ?_);refine qH S rfl rfl ?_;refine qI S rfl rfl ?_;refine mv ?_;refine mv ?_;refine sb ?_;refine qH S rfl rfl ?_;refine qI S rfl rfl ?_)))
 ·have hK:K<l.length:=by omega
  simp only [qP,Int.toNat_natCast]
  (refine qN rfl rfl rfl rfl ((E _ _ (l.getD K default) (l.getD (K - 1) default) S (hp K hK) (hp (K - 1) (by omega))).mono ?_);rintro _ h ⟨⟨rfl,hq⟩|⟨rfl,hq⟩,x⟩)<;>(replace S:=S.qy x;clear x;refine qg ?_)
  ·skip
   (repeat (refine qi ?_));refine ql rfl ?_
   (repeat (refine qi ?_))
   refine qf 7 ?_
   refine mv ?_;refine mv ?_
   refine dv S rfl rfl ?_
   intro v2 V
   rw [Int.toNat_natCast] at V
   refine mv ?_
   refine qg ?_
   all_goals (repeat' (first|refine qi ?_|refine qm ?_|(refine qf 8 ?_;refine mv ?_;refine qg ?_)))
   refine qE (σ:=Nat×Nat×List PL) (fun (k,j,m) h'=>Hs h0 h' (.sl v 23 1 eP m :: rs)∧(K≤k∧k+1≤K+j∧1≤j∧j≤l.length - K)∧m.length=l.length∧(∀ i,k≤i→m.getD i default=l.getD i default)∧(m.getD (k - 1) default).2=(l.getD (K+j - 1) default).2∧(∀ i,0<i→i<k→Jl (m.getD (i - 1) default).2 (m.getD i default).2)∧(∀ i,i<k→∃ x,x<l.length∧m.getD i default=l.getD x default)∧(∀ x,x<K+j→∃ i,i<k∧(m.getD i default).2=(l.getD x default).2)) (fun (k,j,m)=>l.length - j) (fun (k,j,m)=>[(0,v),(1,.func (.func 59) #[] #[]),(5,.int .i64 k),(6,v2),(7,.int .i64 j)]) (K,1,l) (by repeat (first|exact Ks.le_nil _|refine Ks.qh rfl ?_)) ?_ ?_
   ·refine ⟨S,by omega,rfl,fun i _=>rfl,by rw [Nat.add_sub_cancel];exact hq.symm,h2,fun i hi=>⟨i,by omega,rfl⟩,fun x hx=>?_⟩
    rcases Nat.lt_or_ge x K with q|q
    ·exact ⟨x,q,rfl⟩
    ·obtain rfl:x=K:=by omega
     exact ⟨x - 1,by omega,hq.symm⟩
   clear S h2 hq
   rintro ⟨k,j,m⟩ h ⟨S,k1,k2,k3,k4,k5,k6,k7⟩
   have V:=V
   rw [← k2] at V
   have rv:=V.rd (Rd.zo S .here) (fun _=>rfl) (by omega)
   have rvl:(m.drop K).length=l.length - K:=by rw [List.length_drop,k2]
   (repeat (refine qi ?_));refine qf 9 ?_
   refine mv ?_;refine mv ?_
   refine qbQ rfl rfl rfl rfl rv rfl ?_
   rw [rvl]
   (first|(refine cS ?_ ?_<;>intro hc))<;>(refine qg ?_)
   all_goals (repeat' (first|refine qi ?_|refine ql rfl ?_|refine qo ?_|refine qA ?_|refine qm ?_))
   ·have hj:j<l.length - K:=by omega
    refine qO 11 ?_
    refine mv ?_;refine mv ?_;refine mv ?_
    refine yw (z:=1) rfl rfl rfl rfl rfl rv (by omega) rfl ?_
    rw [V.el]
    refine qI S rfl rfl ?_
    refine mv ?_;refine mv ?_;refine sb ?_
    refine yw (z:=1) rfl rfl rfl rfl rfl rv (by omega) rfl ?_
    rw [V.el]
    refine qI S rfl rfl ?_
    rw [qP,Int.toNat_natCast,k3 (K+j) (by omega)]
    rw [k3 (K+(j - 1)) (by omega),show K+(j - 1)=K+j - 1 by omega]
    (refine qN rfl rfl rfl rfl ((E _ _ (l.getD (K+j) default) (l.getD (K+j - 1) default) S (hp _ (by omega)) (hp _ (by omega))).mono ?_);rintro _ h ⟨⟨rfl,hq⟩|⟨rfl,hq⟩,x⟩)<;>(replace S:=S.qy x;clear x;refine vl ?_;refine qg ?_)
    ·all_goals (repeat' (first|refine ql rfl ?_|refine qo ?_|(refine qf 10 ?_;refine mv ?_;refine ad ?_;refine mv ?_;refine qg ?_)))
     refine ⟨(k,j+1,m),?_,?_,(by repeat (first|exact Ks.le_nil _|refine Ks.qh rfl ?_))⟩
     ·show l.length - (j+1)<l.length - j;omega
     ·refine ⟨S,by omega,k2,k3,by rw [k4,show K+(j+1) - 1=K+j by omega];exact hq.symm,k5,k6,fun x hx=>?_⟩
      rcases Nat.lt_or_ge x (K+j) with q|q
      ·exact k7 x q
      ·obtain rfl:x=K+j:=by omega
       exact ⟨k - 1,by omega,k4.trans hq.symm⟩
    ·have rv:=V.rd (Rd.zo S .here) (fun _=>rfl) (by omega)
     (repeat (refine qi ?_));refine ql rfl ?_
     (repeat (refine qi ?_))
     refine qf 12 ?_
     (iterate 3 refine mv ?_);refine mv ?_
     refine yw (z:=1) rfl rfl rfl rfl rfl rv (by omega) rfl ?_
     rw [V.el]
     refine qI S rfl rfl ?_
     rw [Int.toNat_natCast,k3 (K+j) (by omega)]
     (refine qH S rfl rfl ?_);(first|(refine ZK S rfl rfl ?_;clear S;intro h S));refine qg ?_
     rw [Int.toNat_natCast] at S
     all_goals (repeat' (first|(refine qf 10 ?_;refine mv ?_;refine ad ?_;refine mv ?_;refine qg ?_)|(refine qf 13 ?_;refine mv ?_;refine ad ?_;refine mv ?_;refine qg ?_)))
     have hlt':=hlt (K+j - 1) (K+j) (by omega) (by omega) hq
     have g:=fun i=>qcN m (i:=k) (l.getD (K+j) default) (by omega) i
     refine ⟨(k+1,j+1,m.set k (l.getD (K+j) default)),?_,?_,(by repeat (first|exact Ks.le_nil _|refine Ks.qh rfl ?_))⟩
     ·show l.length - (j+1)<l.length - j;omega
     ·refine ⟨S,by omega,by simpa using k2,fun i q=>?_,?_,fun i q1 q2=>?_,fun i q=>?_,fun x hx=>?_⟩
      ·rw [g,if_neg (by omega)];exact k3 i (by omega)
      ·rw [g,if_pos (by omega)];rfl
      ·rw [g,g,if_neg (by omega)]
       split
       ·rename_i e;subst e;rw [k4];exact hlt'
       ·exact k5 i q1 (by omega)
      ·rw [g]
       split
       ·exact ⟨K+j,by omega,rfl⟩
       ·exact k6 i (by omega)
      ·rcases Nat.lt_or_ge x (K+j) with q|q
       ·obtain ⟨i,i1,i2⟩:=k7 x q
        exact ⟨i,by omega,by rw [g,if_neg (by omega)];exact i2⟩
       ·obtain rfl:x=K+j:=by omega
        exact ⟨k,by omega,by rw [g,if_pos rfl]⟩
   ·have hkl:k<m.length:=by omega
    have hjl:j=l.length - K:=by omega
    refine qf 14 ?_
    refine mv ?_;refine mv ?_
    refine dv S rfl rfl ?_
    intro v3 V3
    rw [Int.toNat_natCast] at V3
    refine cl (default:PL) S V3 rfl rfl ?_
    clear S
    intro h S
    refine qg ?_
    (repeat (refine qi ?_));refine qf 15 ?_
    refine mv ?_;refine mv ?_
    refine th k S rfl rfl ?_
    clear S
    intro v4 S
    refine mv ?_;refine qg ?_
    all_goals (repeat' (fail))
    refine qx ⟨_,rfl,?_⟩
    have el:((m.take k ++ List.replicate (m.length - k) default).take k)=m.take k:=by rw [List.take_left' (by simp;omega)]
    rw [el] at S
    have ll:(m.take k).length=k:=by simp;omega
    refine ⟨m.take k,fun i q1 q2=>?_,fun i hi=>?_,fun x hx=>?_,by omega,S⟩
    ·rw [J3 _ (by omega),J3 _ (by omega)];exact k5 i q1 (by omega)
    ·rw [J3 _ (by omega)];exact k6 i (by omega)
    ·obtain ⟨i,i1,i2⟩:=k7 x (by omega)
     exact ⟨i,by omega,by rw [J3 _ (by omega)];exact i2⟩
  ·all_goals (repeat' (first|refine ql rfl ?_|refine qo ?_|(refine qf 5 ?_;refine mv ?_;refine ad ?_;refine mv ?_;refine qg ?_)))
   refine ⟨K+1,?_,?_,(by repeat (first|exact Ks.le_nil _|refine Ks.qh rfl ?_))⟩
   ·show l.length - (K+1)<l.length - K;omega
   ·refine ⟨S,by omega,fun i q1 q2=>?_⟩
    rcases Nat.lt_or_ge i K with q|q
    ·exact h2 i q1 q
    ·obtain rfl:i=K:=by omega
     exact hlt (i - 1) i (by omega) (by omega) hq
 ·obtain rfl:K=l.length:=by omega
  all_goals (repeat' (first|(refine qf 16 ?_;refine mv ?_;refine mv ?_;refine qg ?_)))
  refine qx ⟨_,rfl,?_⟩
  exact ⟨l,h2,fun i hi=>⟨i,hi,rfl⟩,fun i hi=>⟨i,hi,rfl⟩,Nat.le_refl _,qdC S⟩
end Go.Proofs.Xx
namespace Go.Proofs.Xx
set_option linter.unusedSimpArgs false
set_option linter.unusedVariables false
theorem wR {α:Type} {lt:α→α→Prop} (irr:∀ a,¬ lt a a) (tr:∀ a b c,lt a b→lt b c→lt a c):∀ {a b:List α},a.Pairwise lt→b.Pairwise lt→(∀ x,x∈a↔x∈b)→a=b
 | [],[],_,_,_=>rfl
 | [],y :: b,_,_,h=>absurd ((h y).2 (.head _)) (List.not_mem_nil)
 | x :: a,[],_,_,h=>absurd ((h x).1 (.head _)) (List.not_mem_nil)
 | x :: a,y :: b,ha,hb,h=>by
  rw [List.pairwise_cons] at ha hb
  have hxy:x=y:=by
   rcases List.mem_cons.1 ((h x).1 (.head _)) with q|q
   ·exact q
   ·rcases List.mem_cons.1 ((h y).2 (.head _)) with k|k
    ·exact k.symm
    ·exact absurd (tr _ _ _ (ha.1 y k) (hb.1 x q)) (irr x)
  subst hxy
  rw [wR irr tr ha.2 hb.2 fun z=>?_]
  constructor
  ·intro q
   rcases List.mem_cons.1 ((h z).1 (.tail _ q)) with k|k
   ·subst k;exact absurd (ha.1 z q) (irr z)
   ·exact k
  ·intro q
   rcases List.mem_cons.1 ((h z).2 (.tail _ q)) with k|k
   ·subst k;exact absurd (hb.1 z q) (irr z)
   ·exact k
theorem qdG {α:Type} {lt:α→α→Prop} (irr:∀ a,¬ lt a a) {a:List α} (h:a.Pairwise lt):a.Nodup:=h.imp fun q e=>by subst e;exact irr _ q
theorem wW {α:Type} [DecidableEq α]:∀ {l m:List α},l.Nodup→(∀ x,x∈l→x∈m)→l.length≤m.length
 | [],_,_,_=>Nat.zero_le _
 | x :: l,m,h,s=>by
  rw [List.nodup_cons] at h
  have hm:x∈m:=s x (.head _)
  have:=wW (l:=l) (m:=m.erase x) h.2 fun y hy=>(List.mem_erase_of_ne (fun e:y=x=>h.1 (by subst e;exact hy))).2 (s y (.tail _ hy))
  rw [List.length_erase_of_mem hm] at this
  have h0:0<m.length:=List.length_pos_of_mem hm
  simp only [List.length_cons]
  omega
theorem wV {α β:Type} {f:α→β}:∀ {l:List α},l.Nodup→(∀ x y,x∈l→y∈l→f x=f y→x=y)→(l.map f).Nodup
 | [],_,_=>List.nodup_nil
 | x :: l,h,inj=>by
  rw [List.nodup_cons] at h
  rw [List.map_cons,List.nodup_cons]
  refine ⟨fun q=>?_,wV h.2 fun a b ha hb=>inj a b (.tail _ ha) (.tail _ hb)⟩
  obtain ⟨y,hy,e⟩:=List.mem_map.1 q
  have:=inj y x (.tail _ hy) (.head _) e
  subst this
  exact h.1 hy
def qhP:Nat→(Nat→Nat)→Nat
 | 0,_=>0
 | n+1,f=>qhP n f+f n
end Go.Proofs.Xx
namespace Go.Proofs.Xx
set_option linter.unusedSimpArgs false
set_option linter.unusedVariables false
theorem emA {A x:Int} (h:0≤x) (h2:x<2*A):(x<A∧x % A=x)∨(A≤x∧x % A=x - A):=by
 by_cases q:x<A
 ·exact .inl ⟨q,Int.emod_eq_of_lt h q⟩
 ·refine .inr ⟨by omega,?_⟩
  rw [← Int.sub_emod_right x A]
  exact Int.emod_eq_of_lt (by omega) (by omega)
theorem jb {A:Int} {r:Nat} {k:Int} (hr:(r:Int)<A) (hk:0≤k∧k<A):xQ A (2*r) k=if k+r<A then k+r else k+r - A:=by
 unfold xQ
 rw [if_pos (by omega),show 2*r / 2=r by omega]
 rcases emA (A:=A) (x:=k+r) (by omega) (by omega) with ⟨q,e⟩|⟨q,e⟩
 ·rw [e,if_pos q]
 ·rw [e,if_neg (by omega)]
theorem jK {A:Int} {r:Nat} {k:Int} (hr:(r:Int)<A) (hk:0≤k∧k<A):xQ A (2*r+1) k=if r<k then r - k+A else r - k:=by
 unfold xQ
 rw [if_neg (by omega),show (2*r+1) / 2=r by omega]
 rcases emA (A:=A) (x:=r - k+A) (by omega) (by omega) with ⟨q,e⟩|⟨q,e⟩
 ·rw [e,if_pos (by omega)]
 ·rw [e,if_neg (by omega)];omega
theorem XU {A:Int} {j:Nat} (hj:j<(2*A).toNat):∃ r:Nat,(r:Int)<A∧(j=2*r∨j=2*r+1):=⟨j / 2,by omega,by omega⟩
theorem JH {A:Int} {j:Nat} {k:Int} (hj:j<(2*A).toNat) (hk:0≤k∧k<A):0≤xQ A j k∧xQ A j k<A:=by
 obtain ⟨r,hr,rfl|rfl⟩:=XU hj
 ·rw [jb hr hk];split<;>omega
 ·rw [jK hr hk];split<;>omega
theorem qeS {A:Int} {i j:Nat} (hi:i<(2*A).toNat) (hj:j<(2*A).toNat):∃ m,m<(2*A).toNat∧∀ k,0≤k→k<A→xQ A i (xQ A j k)=xQ A m k:=by
 obtain ⟨r,hr,rfl|rfl⟩:=XU hi<;>obtain ⟨s,hs,rfl|rfl⟩:=XU hj
 ·by_cases q:(r:Int)+s<A
  ·refine ⟨2*(r+s),by omega,fun k k1 k2=>?_⟩
   rw [jb hr (JH hj ⟨k1,k2⟩),jb hs ⟨k1,k2⟩,jb (r:=r+s) (by omega) ⟨k1,k2⟩]
   repeat' split
   all_goals omega
  ·refine ⟨2*((r:Int)+s - A).toNat,by omega,fun k k1 k2=>?_⟩
   rw [jb hr (JH hj ⟨k1,k2⟩),jb hs ⟨k1,k2⟩,jb (r:=((r:Int)+s - A).toNat) (by omega) ⟨k1,k2⟩]
   repeat' split
   all_goals omega
 ·by_cases q:(r:Int)+s<A
  ·refine ⟨2*(r+s)+1,by omega,fun k k1 k2=>?_⟩
   rw [jb hr (JH hj ⟨k1,k2⟩),jK hs ⟨k1,k2⟩,jK (r:=r+s) (by omega) ⟨k1,k2⟩]
   repeat' split
   all_goals omega
  ·refine ⟨2*((r:Int)+s - A).toNat+1,by omega,fun k k1 k2=>?_⟩
   rw [jb hr (JH hj ⟨k1,k2⟩),jK hs ⟨k1,k2⟩,jK (r:=((r:Int)+s - A).toNat) (by omega) ⟨k1,k2⟩]
   repeat' split
   all_goals omega
 ·by_cases q:s≤r
  ·refine ⟨2*(r - s)+1,by omega,fun k k1 k2=>?_⟩
   rw [jK hr (JH hj ⟨k1,k2⟩),jb hs ⟨k1,k2⟩,jK (r:=r - s) (by omega) ⟨k1,k2⟩]
   repeat' split
   all_goals omega
  ·refine ⟨2*((r:Int) - s+A).toNat+1,by omega,fun k k1 k2=>?_⟩
   rw [jK hr (JH hj ⟨k1,k2⟩),jb hs ⟨k1,k2⟩,jK (r:=((r:Int) - s+A).toNat) (by omega) ⟨k1,k2⟩]
   repeat' split
   all_goals omega
 ·by_cases q:s≤r
  ·refine ⟨2*(r - s),by omega,fun k k1 k2=>?_⟩
   rw [jK hr (JH hj ⟨k1,k2⟩),jK hs ⟨k1,k2⟩,jb (r:=r - s) (by omega) ⟨k1,k2⟩]
   repeat' split
   all_goals omega
  ·refine ⟨2*((r:Int) - s+A).toNat,by omega,fun k k1 k2=>?_⟩
   rw [jK hr (JH hj ⟨k1,k2⟩),jK hs ⟨k1,k2⟩,jb (r:=((r:Int) - s+A).toNat) (by omega) ⟨k1,k2⟩]
   repeat' split
   all_goals omega
theorem qeT {A:Int} {i:Nat} (hi:i<(2*A).toNat):∃ m,m<(2*A).toNat∧∀ k,0≤k→k<A→xQ A i (xQ A m k)=k∧xQ A m (xQ A i k)=k:=by
 obtain ⟨r,hr,rfl|rfl⟩:=XU hi
 ·by_cases q:r=0
  ·refine ⟨2*r,hi,fun k k1 k2=>?_⟩
   rw [jb hr (JH hi ⟨k1,k2⟩),jb hr ⟨k1,k2⟩]
   constructor<;>(repeat' split)<;>omega
  ·have hm:2*(A - r).toNat<(2*A).toNat:=by omega
   refine ⟨2*(A - r).toNat,hm,fun k k1 k2=>?_⟩
   rw [jb hr (JH hm ⟨k1,k2⟩),jb (r:=(A - r).toNat) (by omega) ⟨k1,k2⟩,jb (r:=(A - r).toNat) (by omega) (JH hi ⟨k1,k2⟩),jb hr ⟨k1,k2⟩]
   constructor<;>(repeat' split)<;>omega
 ·refine ⟨2*r+1,hi,fun k k1 k2=>?_⟩
  rw [jK hr (JH hi ⟨k1,k2⟩),jK hr ⟨k1,k2⟩]
  constructor<;>(repeat' split)<;>omega
theorem qeR {A k:Int} (hk:0≤k∧k<A):xQ A 0 k=k:=by
 have:=jb (A:=A) (r:=0) (k:=k) (by omega) hk
 rw [show 2*0=0 from rfl] at this
 rw [this,if_pos (by omega)];omega
theorem wK {a b k:Int} (ha:1≤a) (hb:0≤b∧b≤2) (hk:0≤k∧k<2*a+b):Xr a b (Xr a b k)=k∧0≤Xr a b k∧Xr a b k<2*a+b:=by
 unfold Xr yE
 repeat' split
 all_goals omega
theorem sd0 (a k:Int):Xr a 0 k=2*a - 1 - k:=by
 unfold Xr;rw [if_neg (by unfold yE;omega)];omega
theorem en0 (a k:Int):Jp a 0 k=if k<a then a - 1 - k else 3*a - 1 - k:=by
 unfold Jp;rw [if_neg (by unfold yE;omega)];split<;>omega
theorem sd2 (a k:Int):Xr a 2 k=if k=a∨k=2*a+1 then k else 2*a - k:=by
 unfold Xr
 by_cases q:k=a∨k=2*a+1
 ·rw [if_pos (by unfold yE;omega),if_pos q]
 ·rw [if_neg (by unfold yE;omega),if_neg q];omega
theorem en2 {a:Int} (ha:1≤a) (k:Int):Jp a 2 k=if k<a then a - 1 - k else 3*a+1 - k:=by
 unfold Jp
 by_cases q:k=a∨k=2*a+1
 ·rw [if_pos (by unfold yE;omega),if_neg (by omega)]
 ·rw [if_neg (by unfold yE;omega)];split<;>omega
theorem Vm {a b k:Int} (ha:1≤a) (hb:b=0∨b=2) (hk:0≤k∧k<2*a+b):Jp a b (Jp a b k)=k∧0≤Jp a b k∧Jp a b k<2*a+b:=by
 rcases hb with rfl|rfl
 ·by_cases q:k<a
  ·rw [en0 a k,if_pos q,en0,if_pos (by omega)];omega
  ·rw [en0 a k,if_neg q,en0,if_neg (by omega)];omega
 ·by_cases q:k<a
  ·rw [en2 ha k,if_pos q,en2 ha,if_pos (by omega)];omega
  ·rw [en2 ha k,if_neg q,en2 ha,if_neg (by omega)];omega
theorem qfR {a b k:Int} (ha:1≤a) (hb:b=0∨b=2) (hk:0≤k∧k<2*a+b):Jp a b (Xr a b k)=Xr a b (Jp a b k):=by
 rcases hb with rfl|rfl
 ·rw [sd0,sd0,en0,en0]
  repeat' split
  all_goals omega
 ·rw [sd2,sd2,en2 ha,en2]
  repeat' split
  all_goals omega
end Go.Proofs.Xx
