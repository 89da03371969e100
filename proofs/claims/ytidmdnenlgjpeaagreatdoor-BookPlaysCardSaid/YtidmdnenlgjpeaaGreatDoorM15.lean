/-
  Sorting by a comparing function (Ti).
-/
import Derived.Test.YtidmdnenlgjpeaaGreatDoorM14
import Derived.Test.YtidmdnenlgjpeaaGreatDoorM13
import Derived.Test.YtidmdnenlgjpeaaGreatDoorM12
import Derived.Test.YtidmdnenlgjpeaaGreatDoorM9
set_option linter.unusedSimpArgs false
set_option linter.unusedVariables false
set_option linter.unusedSectionVars false
set_option maxRecDepth 100000
set_option maxHeartbeats 4000000
namespace Go.Proofs.Xx
open Go Go.Proofs
variable [Flag]
theorem qfo {h0:AH} {v:Value}:∀ (n:Nat) {h:AH} {rs:List Rs} {l:List Ti} (a b lim:Nat) (S:Hs h0 h (.sl v 111 3 zh l :: rs)) (hn:b - a=n) (hab:a≤b) (hb:b≤l.length) (hl:l.length≤1000000) (hbig:b - a<260) (hlim:lim≤1000) (hlow:0<a→∀ k,a≤k→k<b→¬ zW (l.getD k default) (l.getD (a - 1) default)),
 Fn Tryz.prog Xh 138 [v,.int .i64 a,.int .i64 b,.int .i64 lim,Js] h (fun _ h'=>∃ l',Sw a b l l'∧Srt zW a b l'∧Hs h0 h' (.sl v 111 3 zh l' :: rs)):=by
 intro n;induction n using Nat.strongRecOn with
 | _ n ih =>
 intro h rs l a b lim S hn hab hb hl hbig hlim hlow;have W:WOrd zW:=QS;refine qZ rfl Tryz.func138 rfl rfl ?_;all_goals (repeat' (first|refine qg ?_|refine qi ?_|(refine qc 0 ?_;refine qK ?_)|(refine qc 1 ?_;refine qK ?_)))
 refine qH (σ:=Nat×Nat×Nat×Bool×Bool×List Ti) (fun (a1,b1,lim,wb,wp,m) h'=>Hs h0 h' (.sl v 111 3 zh m :: rs)∧(a≤a1∧a1≤b1∧b1≤b)∧lim≤1000∧Sw a b l m∧DoneI zW a b a1 b1 m) (fun (a1,b1,lim,wb,wp,m)=>b1 - a1) (fun (a1,b1,lim,wb,wp,m)=>[(0,v),(1,.int .i64 a1),(2,.int .i64 b1),(3,.int .i64 lim),(4,Js),(10,.bool wb),(11,.bool wp)]) (a,b,lim,true,true,l) qo ?_ ?_
 ·exact ⟨S,by omega,hlim,.refl _,.start⟩
 clear S hlim;rintro ⟨a1,b1,lim,wb,wp,m⟩ h ⟨S,h1,hlim,h2,D⟩;have hml:=h2.len;have low:∀ m',Sw a1 b1 m m'→0<a1→∀ k,a1≤k→k<b1→¬ zW (m'.getD k default) (m'.getD (a1 - 1) default):=fun m' s q1 k q2 q3=>by
  rcases zA7 a a1 with q|q
  ·exact (D.sw s h1.1 h1.2.2).low q h1.2.2 k q2 q3
  ·obtain rfl:a=a1:=by omega
   have s2:=h2.trans (s.mono (zA3 _) h1.2.2 (by omega));rw [s2.out (k:=a - 1) (.inl (by omega))];exact s2.all (p:=fun y=>¬ zW y (l.getD (a - 1) default)) (hlow q1) k q2 (by omega)
 have e0:(b1:Int) - (a1:Int)=((b1 - a1:Nat):Int):=by omega
 refine qi ?_;(repeat (refine qg ?_));refine qc 2 ?_;refine QW ?_;simp only [e0];(repeat (refine qg ?_));refine qc 3 ?_;refine mv ?_;(first|(refine cS ?_ ?_<;>intro hc))<;>(refine qf ?_)
 ·refine qh rfl ?_;all_goals (repeat' (first|refine qg ?_|(refine qc 4 ?_;refine qE ?_;refine qE ?_;skip)))
  (refine qx rfl rfl rfl rfl rfl ((qfF a1 b1 S h1.2.1 (by omega) (by omega)).mono ?_);rintro _ h ⟨l2,g1,g2,S2⟩)<;>(replace S:=S2;clear S2;refine qf ?_)
  all_goals (repeat' (fail))
  refine qC ⟨_,rfl,?_⟩;exact ⟨l2,h2.trans (g1.mono h1.1 h1.2.2 (by omega)),(D.sw g1 h1.1 h1.2.2).finish g2,S⟩
 have hbig2:12<b1 - a1∧b1 - a1<260:=by omega
 refine qh rfl ?_;refine qj ?_;(repeat (refine qg ?_));refine qc 5 ?_;refine mv ?_;(first|(refine cS ?_ ?_<;>intro hc))<;>(refine qf ?_)
 ·refine qh rfl ?_;all_goals (repeat' (first|refine qg ?_|(refine qc 6 ?_;refine qE ?_;refine qE ?_;skip)))
  (refine qx rfl rfl rfl rfl rfl ((qeA a1 b1 S (by omega) (by omega) (by omega)).mono ?_);rintro _ h ⟨l2,g1,g2,S2⟩)<;>(replace S:=S2;clear S2;refine qf ?_)
  all_goals (repeat' (fail))
  refine qC ⟨_,rfl,?_⟩;exact ⟨l2,h2.trans (g1.mono h1.1 h1.2.2 (by omega)),(D.sw g1 h1.1 h1.2.2).finish g2,S⟩
 refine qh rfl ?_;refine qj ?_;refine jh (σ:=Nat×List Ti) (fun (lim,m2) h'=>Hs h0 h' (.sl v 111 3 zh m2 :: rs)∧lim≤1000∧Sw a1 b1 m m2) (fun (lim,m2)=>[(0,v),(1,.int .i64 a1),(2,.int .i64 b1),(3,.int .i64 lim),(4,Js),(10,.bool wb),(11,.bool wp),(12,.int .i64 (b1 - a1:Nat))]) ?_ ?_
 ·cases wb
  ·all_goals (repeat' (first|refine qg ?_|refine qh rfl ?_|(refine qc 7 ?_;refine ZU ?_)|(refine qc 8 ?_;refine qE ?_;refine qE ?_;skip)))
   (refine qx rfl rfl rfl rfl rfl ((qfJ a1 b1 S hbig2 (by omega) (by omega)).mono ?_);rintro _ h ⟨l2,g1,S2⟩)<;>(replace S:=S2;clear S2;refine qf ?_)
   all_goals (repeat' (first|(refine qc 9 ?_;refine zO ?_)))
   exact ⟨(lim - 1,l2),⟨S,by show lim - 1≤1000;omega,g1⟩,(qo)⟩
  ·all_goals (repeat' (first|refine qg ?_|refine qh rfl ?_|refine qj ?_|(refine qc 7 ?_;refine ZU ?_)))
   exact ⟨(lim,m),⟨S,hlim,.refl _⟩,(qo)⟩
 clear S hlim;rintro ⟨lim,m2⟩ h ⟨S,hlim,g1⟩;have hm2:=g1.len;(repeat (refine qg ?_));refine qc 10 ?_;refine qE ?_;refine qE ?_;skip
 (refine qx rfl rfl rfl rfl rfl ((qfi a1 b1 S hbig2 (by omega) (by omega)).mono ?_);rintro _ h ⟨q,t,rfl,hq0,S2⟩)<;>(replace S:=S2;clear S2;refine zk ?_)
 refine jh (σ:=Nat×Int×List Ti) (fun (q,t,m3) h'=>Hs h0 h' (.sl v 111 3 zh m3 :: rs)∧(a1≤q∧q<b1)∧Sw a1 b1 m2 m3) (fun (q,t,m3)=>[(0,v),(1,.int .i64 a1),(2,.int .i64 b1),(3,.int .i64 lim),(4,Js),(10,.bool wb),(11,.bool wp),(12,.int .i64 (b1 - a1:Nat)),(13,.int .i64 q),(14,.int .i64 t)]) ?_ ?_
 ·all_goals (repeat' (first|refine qg ?_|refine qh rfl ?_|refine qj ?_|(refine qc 11 ?_;refine mv ?_;(first|(refine cS ?_ ?_<;>intro hc))<;>(refine qf ?_))|(refine qc 12 ?_;refine qE ?_;refine qE ?_;skip)))
  ·(refine qx rfl rfl rfl rfl rfl ((qff a1 b1 S (by omega) (by omega) (by omega)).mono ?_);rintro _ h ⟨l2,k1,S2⟩)<;>(replace S:=S2;clear S2;refine qf ?_)
   all_goals (repeat' (first|refine qg ?_|(refine qc 13 ?_;refine mv ?_;refine sb ?_;refine qE ?_;refine sb ?_;refine sb ?_;refine qK ?_)|(refine qc 14 ?_;refine qK ?_)))
   exact ⟨(b1 - 1 - (q - a1),1,l2),⟨S,by show a1≤b1 - 1 - (q - a1)∧b1 - 1 - (q - a1)<b1;omega,k1⟩,(qo)⟩
  ·exact ⟨(q,t,m2),⟨S,hq0,.refl _⟩,(qo)⟩
 clear S hq0;rintro ⟨q,t,m3⟩ h ⟨S,hq0,g2⟩;have g13:=g1.trans g2;have D3:=D.sw g13 h1.1 h1.2.2;have low3:=low m3 g13;have s3:=h2.trans (g13.mono h1.1 h1.2.2 (by omega));have hm3:=g13.len;refine jh (σ:=List Ti) (fun m3 h'=>Hs h0 h' (.sl v 111 3 zh m3 :: rs)∧Sw a1 b1 m m3) (fun _=>[(0,v),(1,.int .i64 a1),(2,.int .i64 b1),(3,.int .i64 lim),(4,Js),(10,.bool wb),(11,.bool wp),(12,.int .i64 (b1 - a1:Nat)),(13,.int .i64 q)]) ?_ ?_
 ·cases wb
  ·all_goals (repeat' (first|refine qg ?_|refine qh rfl ?_|refine qj ?_|(refine qc 15 ?_;refine qE ?_;refine off ?_;refine vl ?_;refine mv ?_;refine off ?_;(refine off ?_)<;>(refine zU ?_))))
   exact ⟨m3,⟨S,g13⟩,(qo)⟩
  cases wp
  ·all_goals (repeat' (first|refine qg ?_|refine qh rfl ?_|refine qj ?_|(refine qc 15 ?_;refine qE ?_;refine mv ?_;refine vl ?_;refine mv ?_;refine off ?_;(refine off ?_)<;>(refine zU ?_))))
   exact ⟨m3,⟨S,g13⟩,(qo)⟩
  all_goals (repeat' (first|refine qg ?_|refine qh rfl ?_|refine qj ?_|(refine qc 15 ?_;refine qE ?_;refine mv ?_;refine vl ?_;refine qE ?_;(first|(first|(refine cS ?_ ?_<;>intro hc)))<;>(refine zU ?_))|(refine qc 16 ?_;refine qE ?_;refine qE ?_;skip)))
  ·(refine qx rfl rfl rfl rfl rfl ((qek a1 b1 S hbig2 (by omega) (by omega) low3).mono ?_);rintro _ h ⟨m4,gp,⟨rfl,hs⟩|rfl,S2⟩)<;>(replace S:=S2;clear S2;refine qf ?_)
   ·all_goals (repeat' (refine qh rfl ?_))
    refine qC ⟨_,rfl,?_⟩;exact ⟨m4,s3.trans (gp.mono h1.1 h1.2.2 (by omega)),(D3.sw gp h1.1 h1.2.2).finish hs,S⟩
   ·all_goals (repeat' (first|refine qh rfl ?_|refine qj ?_))
    exact ⟨m4,⟨S,g13.trans gp⟩,(qo)⟩
  ·exact ⟨m3,⟨S,g13⟩,(qo)⟩
 clear S D3 low3 s3 hm3 g13 g2;rintro m3 h ⟨S,g13⟩;have D3:=D.sw g13 h1.1 h1.2.2;have low3:=low m3 g13;have s3:=h2.trans (g13.mono h1.1 h1.2.2 (by omega));have hm3:=g13.len;refine jh (σ:=Unit) (fun _ h'=>Hs h0 h' (.sl v 111 3 zh m3 :: rs)) (fun _=>[(0,v),(1,.int .i64 a1),(2,.int .i64 b1),(3,.int .i64 lim),(4,Js),(10,.bool wb),(11,.bool wp),(12,.int .i64 (b1 - a1:Nat)),(13,.int .i64 q)]) ?_ ?_
 ·all_goals (repeat' (first|refine qg ?_|refine qh rfl ?_|refine qj ?_|(refine qJ 17 ?_;refine mv ?_;(first|(refine cS ?_ ?_<;>intro hc))<;>(refine mv ?_;(first|refine off ?_|refine mv ?_);(first|refine off ?_|refine mv ?_);(first|refine off ?_|refine mv ?_);(first|refine off ?_|(refine sb ?_));(first|refine off ?_|(refine qy S rfl rfl ?_));(first|refine off ?_|(refine qI S rfl rfl ?_));(first|refine off ?_|refine mv ?_);(first|refine off ?_|refine mv ?_);(first|refine off ?_|(refine qy S rfl rfl ?_));(first|refine off ?_|(refine qI S rfl rfl ?_));(first|(refine off ?_;(refine off ?_)<;>((refine off ?_);refine zU ?_))|skip)))))
  ·simp only [qB,qA,qG,zA0];(refine zx rfl rfl rfl rfl ((Qr S.wf _ _).mono ?_);rintro _ h ⟨d,rfl,⟨hd,hq⟩|⟨hd,hq⟩,x⟩)<;>(replace S:=S.qN x;clear x;(first|(first|refine cT ?_|refine cF ?_))<;>((refine vl ?_);refine zU ?_))
   ·all_goals (repeat' (first|refine qh rfl ?_|refine qj ?_))
    exact ⟨(),S,(qo)⟩
   ·all_goals (repeat' (first|refine qg ?_|refine qh rfl ?_|(refine qc 18 ?_;refine qE ?_;refine qE ?_;refine mv ?_;skip)))
    (refine qx rfl rfl rfl rfl rfl ((qfl a1 b1 q S hq0 (by omega) (by omega)).mono ?_);rintro _ h ⟨e,m4,rfl,e1,e2,e3,e4,S2⟩)<;>(replace S:=S2;clear S2;refine qK ?_)
    all_goals (repeat' (first|refine qg ?_|refine qw ?_|(refine qc 19 ?_;refine qX ?_)))
    refine ⟨(e,b1,lim,wb,wp,m4),?_,?_,qo⟩
    ·show b1 - e<b1 - a1;omega
    ·have s4:=low m4 (g13.trans e2) (by omega);refine ⟨S,by (try dsimp only);omega,hlim,s3.trans (e2.mono h1.1 h1.2.2 (by omega)),(D3.sw e2 h1.1 h1.2.2).eq_ W (x:=m3.getD q default) (show a1≤e∧e≤b1 by omega) e3 e4 fun k q1 q2=>?_⟩;have:=s4 k q1 q2;rw [e2.out (k:=a1 - 1) (.inl (by omega))] at this;exact W.ntr hq this
  ·exact ⟨(),S,(qo)⟩
 clear S;rintro - h S;all_goals (repeat' (first|refine qg ?_|(refine qc 20 ?_;refine qE ?_;refine qE ?_;refine mv ?_;skip)))
 (refine qx rfl rfl rfl rfl rfl ((qen a1 b1 q S hq0 (by omega) (by omega)).mono ?_);rintro _ h ⟨e,f,m4,rfl,e1,e2,e3,S2⟩)<;>(replace S:=S2;clear S2;refine zk ?_)
 have D4:=D3.sw e2 h1.1 h1.2.2;have s4:=s3.trans (e2.mono h1.1 h1.2.2 (by omega));have hm4:=e2.len;have low4:=low m4 (g13.trans e2);have ee:(e:Int)+1=((e+1:Nat):Int):=by omega
 all_goals (repeat' (first|refine qg ?_|refine qh rfl ?_|(refine qc 21 ?_;refine qX ?_)|(refine qc 22 ?_;refine qE ?_;refine sb ?_;refine qE ?_;refine sb ?_;refine qX ?_)|(refine qc 23 ?_;refine mv ?_;refine qu ?_;refine qK ?_)|(refine qc 24 ?_;refine qE ?_;(first|(refine cS ?_ ?_<;>intro hc))<;>(refine qf ?_))|(refine qc 25 ?_;refine qE ?_;(first|(refine cS ?_ ?_<;>intro hc))<;>(refine qK ?_))|(refine qc 26 ?_;refine qE ?_;refine qE ?_;refine mv ?_;skip)|(refine qc 28 ?_;refine qE ?_;(first|(refine cS ?_ ?_<;>intro hc))<;>(refine qK ?_))))
 ·(refine qx rfl rfl rfl rfl rfl ((ih (e - a1) (by omega) a1 e lim S rfl (by omega) (by omega) (by omega) (by omega) hlim (fun z k q1 q2=>low4 z k q1 (by omega))).mono ?_);rintro _ h ⟨m5,k1,k2,S2⟩)<;>(replace S:=S2;clear S2;refine qf ?_)
  all_goals (repeat' (first|(refine qc 27 ?_;refine qO ?_)))
  refine ⟨(e+1,b1,lim,true,f,m5),?_,?_,qo⟩
  ·show b1 - (e+1)<b1 - a1;omega
  ·exact ⟨S,by (try dsimp only);omega,hlim,s4.trans (k1.mono h1.1 (by omega) (by omega)),D4.left W e3 (by omega) ⟨h1.1,h1.2.2⟩ k1 k2 (by omega)⟩
 ·(refine qx rfl rfl rfl rfl rfl ((ih (e - a1) (by omega) a1 e lim S rfl (by omega) (by omega) (by omega) (by omega) hlim (fun z k q1 q2=>low4 z k q1 (by omega))).mono ?_);rintro _ h ⟨m5,k1,k2,S2⟩)<;>(replace S:=S2;clear S2;refine qf ?_)
  all_goals (repeat' (first|(refine qc 27 ?_;refine qO ?_)))
  refine ⟨(e+1,b1,lim,false,f,m5),?_,?_,qo⟩
  ·show b1 - (e+1)<b1 - a1;omega
  ·exact ⟨S,by (try dsimp only);omega,hlim,s4.trans (k1.mono h1.1 (by omega) (by omega)),D4.left W e3 (by omega) ⟨h1.1,h1.2.2⟩ k1 k2 (by omega)⟩
 ·refine qc 29 ?_;(refine qE ?_;refine ad ?_;refine qE ?_;refine mv ?_;skip);simp only [ee];(refine qx rfl rfl rfl rfl rfl ((ih (b1 - (e+1)) (by omega) (e+1) b1 lim S rfl (by omega) (by omega) (by omega) (by omega) hlim (fun z k q1 q2=>e3.2 k (by omega) q2)).mono ?_);rintro _ h ⟨m5,k1,k2,S2⟩)<;>(replace S:=S2;clear S2;refine qf ?_)
  all_goals (repeat' (first|(refine qc 30 ?_;refine qX ?_)))
  refine ⟨(a1,e,lim,true,f,m5),?_,?_,qo⟩
  ·show e - a1<b1 - a1;omega
  ·exact ⟨S,by (try dsimp only);omega,hlim,s4.trans (k1.mono (by omega) h1.2.2 (by omega)),D4.right W e3 (by omega) ⟨h1.1,h1.2.2⟩ k1 k2 (by omega)⟩
 ·refine qc 29 ?_;(refine qE ?_;refine ad ?_;refine qE ?_;refine mv ?_;skip);simp only [ee];(refine qx rfl rfl rfl rfl rfl ((ih (b1 - (e+1)) (by omega) (e+1) b1 lim S rfl (by omega) (by omega) (by omega) (by omega) hlim (fun z k q1 q2=>e3.2 k (by omega) q2)).mono ?_);rintro _ h ⟨m5,k1,k2,S2⟩)<;>(replace S:=S2;clear S2;refine qf ?_)
  all_goals (repeat' (first|(refine qc 30 ?_;refine qX ?_)))
  refine ⟨(a1,e,lim,false,f,m5),?_,?_,qo⟩
  ·show e - a1<b1 - a1;omega
  ·exact ⟨S,by (try dsimp only);omega,hlim,s4.trans (k1.mono (by omega) h1.2.2 (by omega)),D4.right W e3 (by omega) ⟨h1.1,h1.2.2⟩ k1 k2 (by omega)⟩
theorem qeb {h0 h:AH} {rs:List Rs} {v:Value} {l:List Ti} (S:Hs h0 h (.sl v 111 3 zh l :: rs)) (hl:l.length<260) :
 Fn Tryz.prog Xh 95 [v,Js] h (fun _ h'=>∃ l',Sw 0 l.length l l'∧Srt zW 0 l.length l'∧Hs h0 h' (.sl v 111 3 zh l' :: rs)):=by
 have hk:=qaj l.length (by omega);refine qZ rfl Tryz.func95 rfl rfl ?_;all_goals (repeat' (first|refine qg ?_|(refine qc 0 ?_;refine mv ?_;refine ZJ S rfl rfl ?_;refine qK ?_)|(refine qc 1 ?_;refine qE ?_;refine mv ?_;refine cW ?_)))
 (refine qx rfl rfl rfl rfl rfl ((kX S.wf l.length (by omega)).mono ?_);rintro _ h ⟨rfl,x⟩)<;>(replace S:=S.qN x;clear x;refine mv ?_)
 (refine qx rfl rfl rfl rfl rfl ((qfo l.length 0 l.length (WB l.length) S rfl (zB0 _) (zA3 _) (by omega) (by omega) (by omega) (fun z=>by omega)).mono ?_);rintro _ h ⟨l2,g1,g2,S2⟩)<;>(replace S:=S2;clear S2;refine qf ?_)
 all_goals (repeat' (fail))
 refine ⟨_,rfl,?_⟩;exact ⟨l2,g1,g2,S⟩
end Go.Proofs.Xx
namespace Go.Proofs.Xx
structure RingOk (r:Rl) (R:List (List UInt8)):Prop where
 odd:R.length % 2=1
 three:3≤R.length
 nd:∀ i j,i<j→j<R.length→R.getD i default≠R.getD j default
 adj:∀ i,i<R.length→adj r 2 (R.getD i default) (R.getD ((i+1) % R.length) default)
structure Tree (r:Rl) (fr:List UInt8→List UInt8) (dep:List UInt8→Nat) (met:List UInt8→Prop):Prop where
 up:∀ x,met x→0<dep x→met (fr x)∧dep (fr x)+1=dep x∧Xx.adj r 2 (fr x) x
def anc (fr:List UInt8→List UInt8) (x:List UInt8):Nat→List UInt8
 | 0=>x
 | k+1=>fr (anc fr x k)
theorem YM {r:Rl} {fr:List UInt8→List UInt8} {dep:List UInt8→Nat} {met:List UInt8→Prop} (T:Tree r fr dep met) {x:List UInt8} (hx:met x):∀ {k:Nat},k≤dep x→met (anc fr x k)∧dep (anc fr x k)+k=dep x
 | 0,_=>⟨hx,rfl⟩
 | k+1,h=>by
  obtain ⟨h1,h2⟩:=YM T hx (k:=k) (by omega);obtain ⟨g1,g2,-⟩:=T.up _ h1 (by omega);exact ⟨g1,by show dep (fr (anc fr x k))+(k+1)=dep x;omega⟩
theorem gU {r:Rl} {fr:List UInt8→List UInt8} {dep:List UInt8→Nat} {met:List UInt8→Prop} (T:Tree r fr dep met) {x:List UInt8} (hx:met x) {k:Nat} (h:k<dep x):Xx.adj r 2 (anc fr x k) (anc fr x (k+1)):=by
 obtain ⟨h1,h2⟩:=YM T hx (k:=k) (by omega);exact (T.up _ h1 (by omega)).2.2.symm
def vW (fr:List UInt8→List UInt8) (x y:List UInt8) (n:Nat):List (List UInt8):=(List.range n).map (anc fr x) ++ [anc fr x n] ++ ((List.range n).map (anc fr y)).reverse
theorem vV (fr:List UInt8→List UInt8) (x y:List UInt8) (n:Nat):(vW fr x y n).length=2*n+1:=by simp [vW];omega
theorem Jf {fr:List UInt8→List UInt8} {x y:List UInt8} {n k:Nat} (he:anc fr x n=anc fr y n) (hk:k<2*n+1):(vW fr x y n).getD k default=if k<n then anc fr x k else anc fr y (2*n - k):=by
 unfold vW;rw [zA2];split
 ·rename_i h
  rw [zF3,zH9 (by simpa using h)];simp [h]
 ·rename_i h
  by_cases h2:k=n
  ·subst h2;rw [zH9 (by simp),List.getElem?_append_right (by simp)];simp
   rw [he];congr 1;omega
  ·rw [List.getElem?_append_right (by simp;omega),List.getElem?_reverse (by simp;omega)];simp only [zB2,zC5,List.length_range,zD5,zI1];rw [List.getElem?_range (by omega)];show anc fr y _=_
   congr 1;omega
theorem Pj {r:Rl} {fr:List UInt8→List UInt8} {dep:List UInt8→Nat} {met:List UInt8→Prop} (T:Tree r fr dep met) {x y:List UInt8} (hx:met x) (hy:met y) (hd:dep x=dep y) (ha:adj r 2 x y) (hxy:x≠y) {n:Nat} (hn:n≤dep x) (hne:∀ i,i<n→anc fr x i≠anc fr y i) (he:anc fr x n=anc fr y n):RingOk r (vW fr x y n):=by
 have hn0:0<n:=by
  rcases zF5 n with q|q
  ·subst q;exact absurd he hxy
  ·exact q
 have hlen:=vV fr x y n;have dx:∀ k,k≤n→dep (anc fr x k)+k=dep x:=fun k hk=>(YM T hx (by omega)).2;have dy:∀ k,k≤n→dep (anc fr y k)+k=dep x:=fun k hk=>by rw [hd];exact (YM T hy (by omega)).2
 refine ⟨by omega,by omega,fun i j hij hj q=>?_,fun i hi=>?_⟩
 ·rw [hlen] at hj;rw [Jf he (by omega),Jf he hj] at q;split at q
  ·rename_i h1
   split at q
   ·rename_i h2
    have a:=dx i (by omega);have b:=dx j (by omega);rw [q] at a;omega
   ·rename_i h2
    have a:=dx i (by omega);have b:=dy (2*n - j) (by omega);rw [q] at a;have e:2*n - j=i:=by omega
    rw [e] at q;exact hne i h1 q
  ·rename_i h1
   rw [if_neg (by omega)] at q;have a:=dy (2*n - i) (by omega);have b:=dy (2*n - j) (by omega);rw [q] at a;omega
 ·rw [hlen] at hi ⊢;by_cases hl:i=2*n
  ·subst hl;rw [Nat.mod_self,Jf he (by omega),Jf he (by omega),if_neg (by omega),if_pos hn0,zG7];exact ha.symm
  ·rw [Nat.mod_eq_of_lt (by omega),Jf he (by omega),Jf he (by omega)];by_cases h1:i+1<n
   ·rw [if_pos (by omega),if_pos h1];exact gU T hx (by omega)
   ·by_cases h2:i<n
    ·rw [if_pos h2,if_neg h1];have e:2*n - (i+1)=n:=by omega
     have e2:i+1=n:=by omega
     rw [e,← he,← e2];exact gU T hx (by omega)
    ·rw [if_neg h2,if_neg h1];have:=(gU T hy (k:=2*n - (i+1)) (by omega)).symm;rwa [show 2*n - (i+1)+1=2*n - i by omega] at this
def eSp (x:Int×List UInt8):Value:=.agg #[.int .i64 x.1,str x.2]
abbrev Zp:=List (List UInt8×(Int×List UInt8))
def Yn (mp:Zp) (x:List UInt8):List UInt8:=match zK mp x with|some p=>p.2|none=>[]
def XH (mp:Zp) (x:List UInt8):Int:=match zK mp x with|some p=>p.1|none=>0
theorem GN {mp:Zp} {x:List UInt8} {p:Int×List UInt8} (h:zK mp x=some p):Yn mp x=p.2:=by unfold Yn;rw [h]
theorem Xb {mp:Zp} {x:List UInt8} {p:Int×List UInt8} (h:zK mp x=some p):XH mp x=p.1:=by unfold XH;rw [h]
variable [Flag]
theorem qcP {h0:AH} (w:WfH h0) {m:Nat} {mp:Zp} (B:MpRd h0 m eSp mp) {r:Rl} {dep:List UInt8→Nat} (T:Tree r (Yn mp) dep (fun x=>zK mp x≠none)) {x y:List UInt8} (hx:zK mp x≠none) (hy:zK mp y≠none) (hd:dep x=dep y) (ha:adj r 2 x y) (hxy:x≠y) (hr:anc (Yn mp) x (dep x)=anc (Yn mp) y (dep x)) (h64:dep x≤64) :
 Fn Tryz.prog Xh 96 [.map (some m),str x,str y] h0 (fun u h'=>∃ R,Hs h0 h' [.sl u 9 1 eS R]∧RingOk r R∧R.length≤200):=by
 have S:=Hs.start w;refine qZ rfl Tryz.func96 rfl rfl ?_;all_goals (repeat' (first|refine qg ?_|refine qh rfl ?_|refine qj ?_|refine qw ?_|refine qi ?_|refine zo ?_|refine zq ?_|(refine qc 0 ?_;refine qK ?_)|(refine qc 1 ?_;refine qX ?_)))
 have S:=(S.Qb (e:=9) (z:=1) (enc:=eS)).Qb (e:=9) (z:=1) (enc:=eS);refine qH (σ:=Nat×Value×Value) (fun (i,v7,v8) h'=>Hs h0 h' [.sl v7 9 1 eS ((List.range i).map (anc (Yn mp) x)),.sl v8 9 1 eS ((List.range i).map (anc (Yn mp) y))]∧i≤dep x∧(∀ k,k<i→anc (Yn mp) x k≠anc (Yn mp) y k)) (fun (i,_,_)=>dep x - i) (fun (i,v7,v8)=>[(0,.map (some m)),(1,str (anc (Yn mp) x i)),(2,str (anc (Yn mp) y i)),(7,v7),(8,v8)]) (0,.slice none 0 0,.slice none 0 0) qo ?_ ?_
 ·exact ⟨S,zB0 _,fun j hj=>absurd hj (zB7 _)⟩
 clear S;rintro ⟨i,v7,v8⟩ h ⟨S,g1,g2⟩;have hll:∀ (z:List UInt8) (i:Nat),((List.range i).map (anc (Yn mp) z)).length=i:=fun z i=>by simp
 have hlx:=hll x i;have hly:=hll y i;all_goals (repeat' (first|refine qg ?_|refine qh rfl ?_|refine qj ?_|refine qw ?_|refine zo ?_|refine zq ?_|(refine qc 2 ?_;refine qE ?_;(refine tS ?_ ?_<;>intro hc)<;>(refine qf ?_))))
 ·skip
  all_goals (repeat' (first|refine qg ?_|refine qh rfl ?_|refine qj ?_|refine qw ?_|refine qi ?_|refine zo ?_|refine zq ?_))
  have S:=(show Hs h0 h [.sl v8 9 1 eS ((List.range i).map (anc (Yn mp) y)),.sl v7 9 1 eS ((List.range i).map (anc (Yn mp) x))] from S.pick)
  all_goals (repeat' (first|refine qg ?_|refine qh rfl ?_|refine qj ?_|refine qw ?_|refine qi ?_|refine zo ?_|refine zq ?_|(refine qc 6 ?_;refine mv ?_)))
  (refine qx rfl rfl rfl rfl rfl ((xB S (by omega)).mono ?_);rintro _ h S)<;>(refine qf ?_)
  all_goals (repeat' (first|refine qg ?_|refine qh rfl ?_|refine qj ?_|refine qw ?_|refine qi ?_|refine zo ?_|refine zq ?_|(refine qc 7 ?_;refine qE ?_;(refine one 1 S ?_;clear S;intro u h S))))
  refine app (y0:=anc (Yn mp) x i) S rfl rfl ?_;clear S;intro v7 h S;(refine mv ?_);refine apd S rfl rfl (Rd.jm S (.there .here)) ?_;clear S;intro v9 h S;(refine qK ?_);all_goals (repeat' (first|refine qg ?_|refine qh rfl ?_|refine qj ?_|refine qw ?_|refine qi ?_|refine zo ?_|refine zq ?_))
  refine qC ⟨_,rfl,?_⟩;refine ⟨vW (Yn mp) x y i,S.only .here,Pj T hx hy hd ha hxy g1 g2 hc,by rw [vV];omega⟩
 ·have hi:i<dep x:=by
   rcases zA7 i (dep x) with q|q
   ·exact q
   ·have e:i=dep x:=by omega
    rw [e] at hc;exact absurd hr hc
  all_goals (repeat' (first|refine qg ?_|refine qh rfl ?_|refine qj ?_|refine qw ?_|refine qi ?_|refine zo ?_|refine zq ?_|(refine qc 3 ?_;refine qE ?_;(refine one 1 S ?_;clear S;intro u h S))))
  refine app (y0:=anc (Yn mp) x i) S rfl rfl ?_;clear S;intro v7 h S;(refine qK ?_);all_goals (repeat' (first|refine qg ?_|refine qh rfl ?_|refine qj ?_|refine qw ?_|refine qi ?_|refine zo ?_|refine zq ?_|(refine qc 4 ?_;refine qE ?_;(refine one 1 S ?_;clear S;intro u h S))))
  refine app (y0:=anc (Yn mp) y i) S rfl rfl ?_;clear S;intro v8 h S;(refine qK ?_);all_goals (repeat' (first|refine qg ?_|refine qh rfl ?_|refine qj ?_|refine qw ?_|refine qi ?_|refine zo ?_|refine zq ?_|(refine qJ 5 ?_;refine qE ?_)))
  have hBx:=B.ext w S.ext;have m1:=(YM T hx (k:=i) (by omega)).1;have m2:=(YM T hy (k:=i) (by omega)).1;refine lkR hBx (fun z1 hz1=>?_) (fun q=>absurd q m1);simp only [okV];(refine vl ?_;refine qE ?_);refine lkR hBx (fun z2 hz2=>?_) (fun q=>absurd q m2);simp only [okV];(refine vl ?_;refine qX ?_);rw [← GN hz1,← GN hz2];refine ⟨(i+1,v7,v8),?_,?_,qo⟩
  ·show dep x - (i+1)<dep x - i;omega
  ·have e1:∀ z:List UInt8,(List.range (i+1)).map (anc (Yn mp) z)=(List.range i).map (anc (Yn mp) z) ++ [anc (Yn mp) z i]:=fun z=>by rw [List.range_succ,zC9];rfl
   refine ⟨?_,by (try dsimp only);omega,Ze g2 hc⟩;dsimp only;rw [e1,e1];exact S.pick
end Go.Proofs.Xx
namespace Go.Proofs.Xx
open Go Go.Proofs
theorem gy {mp:Zp} {f:List UInt8} {p:Int×List UInt8} (x:List UInt8):Yn (Ql mp f p) x=if x=f then p.2 else Yn mp x:=by
 unfold Yn;rw [J5];by_cases e:x=f
 ·rw [if_pos e,if_pos e]
 ·rw [if_neg e,if_neg e]
theorem QR {mp:Zp} {f:List UInt8} {p:Int×List UInt8} (x:List UInt8):XH (Ql mp f p) x=if x=f then p.1 else XH mp x:=by
 unfold XH;rw [J5];by_cases e:x=f
 ·rw [if_pos e,if_pos e]
 ·rw [if_neg e,if_neg e]
theorem jq {mp:Zp} {f:List UInt8} {p:Int×List UInt8} (x:List UInt8):zK (Ql mp f p) x≠none↔(x=f∨zK mp x≠none):=by
 rw [J5];by_cases e:x=f<;>simp [e]
theorem Y0 {mp:Zp} {f:List UInt8} {p:Int×List UInt8} (h:zK mp f=none):Ql mp f p=mp ++ [(f,p)]:=by
 unfold Ql;rw [X8 h]
theorem xX {α:Type} {k:List UInt8}:∀ {l:List (List UInt8×α)} {i:Nat},QM k l i≠none↔k∈l.map (·.1)
 | [],i=>by simp [QM]
 | p :: r,i=>by
  unfold QM;by_cases e:p.1=k
  ·simp [e]
  ·rw [if_neg e,xX (l:=r)];rw [List.map_cons,zE8];exact ⟨.inr,fun q=>q.resolve_left fun z=>e z.symm⟩
theorem kQ {mp:Zp} {x:List UInt8}:zK mp x≠none↔x∈mp.map (·.1):=by
 rw [← xX (l:=mp) (i:=0)];unfold zK;cases QM x mp 0<;>simp
structure CI (r:Rl) (mp:Zp) (dep:List UInt8→Nat):Prop where
 tree:Tree r (Yn mp) dep (fun x=>zK mp x≠none)
 camp:∀ x,zK mp x≠none→XH mp x=((dep x % 2:Nat):Int)
 kn:∀ x,zK mp x≠none→gat r.us x≠none
 nd:(mp.map (·.1)).Nodup
 dl:∀ x,zK mp x≠none→dep x<mp.length
def WE (dep:List UInt8→Nat) (f:List UInt8) (d:Nat):List UInt8→Nat:=fun x=>if x=f then d else dep x
theorem CI.len {r:Rl} (H:RO r) {mp:Zp} {dep:List UInt8→Nat} (I:CI r mp dep):mp.length≤64:=by
 have:=jw I.nd (m:=r.us.map (·.name)) fun x hx=>ZL (I.kn x (kQ.2 hx));have:=H.l64;simp at *;omega
theorem CI.put {r:Rl} {mp:Zp} {dep:List UInt8→Nat} (I:CI r mp dep) {f n:List UInt8} {c:Int} {d:Nat} (hf:zK mp f=none) (hk:gat r.us f≠none) (h:(d=0∧c=0)∨(zK mp n≠none∧d=dep n+1∧adj r 2 n f∧c=1 - XH mp n)):CI r (Ql mp f (c,n)) (WE dep f d):=by
 refine ⟨⟨fun x hx h0=>?_⟩,fun x hx=>?_,fun x hx=>?_,?_,fun x hx=>?_⟩
 ·rw [jq] at hx;rw [jq,gy];unfold WE at h0 ⊢;by_cases e:x=f
  ·subst e;rw [if_pos rfl] at h0;rw [if_pos rfl,if_pos rfl];rcases h with ⟨h1,h2⟩|⟨h1,h2,h3,h4⟩
   ·omega
   ·have hn:n≠x:=fun q=>h1 (q ▸ hf);exact ⟨.inr h1,by rw [if_neg hn];exact h2.symm,h3⟩
  ·rw [if_neg e] at h0;rw [if_neg e,if_neg e];obtain ⟨g1,g2,g3⟩:=I.tree.up x (hx.resolve_left e) h0;have hn:Yn mp x≠f:=fun q=>g1 (q ▸ hf);exact ⟨.inr g1,by rw [if_neg hn];exact g2,g3⟩
 ·rw [jq] at hx;rw [QR];unfold WE;by_cases e:x=f
  ·rw [if_pos e,if_pos e];rcases h with ⟨h1,h2⟩|⟨h1,h2,h3,h4⟩
   ·rw [h1];exact h2
   ·show c=_
    rw [h4,I.camp n h1,h2];omega
  ·rw [if_neg e,if_neg e];exact I.camp x (hx.resolve_left e)
 ·rw [jq] at hx;rcases hx with e|e
  ·rw [e];exact hk
  ·exact I.kn x e
 ·rw [Y0 hf,zC9,zG5];refine ⟨I.nd,by simp,fun a ha b hb e=>?_⟩;simp only [List.map_cons,List.map_nil,zB5] at hb;exact kQ.2 ha (e ▸ hb ▸ hf)
 ·rw [jq] at hx;unfold WE;rw [Y0 hf,zB2,zD5];by_cases e:x=f
  ·rw [if_pos e];rcases h with ⟨h1,h2⟩|⟨h1,h2,h3,h4⟩
   ·omega
   ·have:=I.dl n h1;omega
  ·rw [if_neg e];have:=I.dl x (hx.resolve_left e);omega
theorem G7 (fr:List UInt8→List UInt8) (x:List UInt8):∀ k,anc fr x (k+1)=anc fr (fr x) k
 | 0=>rfl
 | k+1=>congrArg fr (G7 fr x k)
theorem CI.anc {r:Rl} {mp:Zp} {dep:List UInt8→Nat} (I:CI r mp dep) {f:List UInt8} {p:Int×List UInt8} (hf:zK mp f=none) {x:List UInt8} (hx:zK mp x≠none):∀ {k:Nat},k≤dep x→Xx.anc (Yn (Ql mp f p)) x k=Xx.anc (Yn mp) x k
 | 0,_=>rfl
 | k+1,h=>by
  show Yn _ (Xx.anc _ x k)=Yn _ (Xx.anc _ x k)
  rw [I.anc hf hx (by omega),gy,if_neg];intro q;have:=(YM I.tree hx (k:=k) (by omega)).1;exact this (q ▸ hf)
def Qv (r:Rl) (j:Nat):List UInt8:=(r.us.getD j default).name
structure OI (r:Rl) (i:Nat) (mp:Zp) (dep:List UInt8→Nat):Prop where
 ci:CI r mp dep
 cl:∀ x,zK mp x≠none→∀ y,adj r 2 x y→zK mp y≠none∧XH mp y≠XH mp x
 gm:∀ j,j<i→zK mp (Qv r j)≠none
 z:∀ j,j<i→XH mp (Qv r j)=0∨∃ k,k<j∧Rch r 2 (Qv r k) (Qv r j)
 rc:∀ x,zK mp x≠none→∃ k,k<i∧Rch r 2 (Qv r k) x
structure SI (r:Rl) (i:Nat) (O:List UInt8→Prop) (mp:Zp) (dep:List UInt8→Nat) (q:List (List UInt8)):Prop where
 ci:CI r mp dep
 om:∀ x,O x→zK mp x≠none
 oc:∀ x,O x→∀ y,adj r 2 x y→O y∧XH mp y≠XH mp x
 gm:∀ j,j≤i→zK mp (Qv r j)≠none
 z:∀ j,j≤i→XH mp (Qv r j)=0∨∃ k,k<j∧Rch r 2 (Qv r k) (Qv r j)
 orc:∀ x,O x→∃ k,k<i∧Rch r 2 (Qv r k) x
 rt:∀ x,zK mp x≠none→¬ O x→Xx.anc (Yn mp) x (dep x)=Qv r i∧Rch r 2 (Qv r i) x
 qm:∀ x∈q,zK mp x≠none∧¬ O x
 qs:∀ a b,a<b→b<q.length→dep (q.getD a default)≤dep (q.getD b default)
 qd:∀ x∈q,dep x≤dep (q.getD 0 default)+1
 dn:∀ x,zK mp x≠none→¬ O x→x ∉ q→(q≠[]→dep x≤dep (q.getD 0 default))∧∀ y,adj r 2 x y→zK mp y≠none∧XH mp y≠XH mp x
 ql:q.length≤mp.length
theorem OI.root {r:Rl} {i:Nat} {mp:Zp} {dep:List UInt8→Nat} (I:OI r i mp dep) (hs:zK mp (Qv r i)=none) (hk:gat r.us (Qv r i)≠none):SI r i (fun x=>zK mp x≠none) (Ql mp (Qv r i) (0,[])) (WE dep (Qv r i) 0) [Qv r i]:=by
 have nm:∀ {x},zK mp x≠none→x≠Qv r i:=fun hx q=>hx (q ▸ hs);refine ⟨I.ci.put hs hk (.inl ⟨rfl,rfl⟩),fun x hx=>(jq x).2 (.inr hx),fun x hx y a=>?_,fun j hj=>?_,fun j hj=>?_,I.rc,fun x hx hn=>?_,fun x hx=>?_,fun a b h1 h2=>?_,fun x hx=>?_,fun x hx h1 h2=>?_,?_⟩
 ·obtain ⟨h1,h2⟩:=I.cl x hx y a;rw [QR,QR,if_neg (nm h1),if_neg (nm hx)];exact ⟨h1,h2⟩
 ·rw [jq];rcases zA7 j i with q|q
  ·exact .inr (I.gm j q)
  ·obtain rfl:j=i:=by omega
   exact .inl rfl
 ·rw [QR];rcases zA7 j i with q|q
  ·rw [if_neg (nm (I.gm j q))];exact I.z j q
  ·obtain rfl:j=i:=by omega
   exact .inl (if_pos rfl)
 ·have e:=((jq x).1 hx).resolve_right hn;subst e;have:WE dep (Qv r i) 0 (Qv r i)=0:=if_pos rfl;rw [this];exact ⟨rfl,.refl⟩
 ·rw [zB5] at hx;subst hx;exact ⟨(jq _).2 (.inl rfl),fun q=>q hs⟩
 ·rw [zD5] at h2;omega
 ·rw [zB5] at hx;subst hx;exact Nat.le_succ _
 ·exact absurd (zB5.2 (((jq x).1 hx).resolve_right h1)) h2
 ·rw [Y0 hs];simp
theorem VI {l:List (List UInt8)} {x:List UInt8} (h:l≠[]):(l ++ [x]).getD 0 default=l.getD 0 default:=by
 cases l with
 | nil=>exact absurd rfl h
 | cons y l=>rfl
theorem SI.add {r:Rl} {i:Nat} {O:List UInt8→Prop} {mp:Zp} {dep:List UInt8→Nat} {q:List (List UInt8)} (I:SI r i O mp dep q) (hq:q≠[]) {n f:List UInt8} (hn:q.getD 0 default=n) (hf:zK mp f=none) (hk:gat r.us f≠none) (ha:adj r 2 n f):SI r i O (Ql mp f (1 - XH mp n,n)) (WE dep f (dep n+1)) (q ++ [f]):=by
 have hn2:n∈q:=by
  rw [← hn];exact qM (List.length_pos_iff.2 hq)
 obtain ⟨nm,no⟩:=I.qm n hn2;have ne:∀ {x},zK mp x≠none→x≠f:=fun hx e=>hx (e ▸ hf);have du:∀ {x},zK mp x≠none→WE dep f (dep n+1) x=dep x:=fun hx=>if_neg (ne hx);have duf:WE dep f (dep n+1) f=dep n+1:=if_pos rfl;have fO:¬ O f:=fun h=>I.om f h hf;refine ⟨I.ci.put hf hk (.inr ⟨nm,rfl,ha,rfl⟩),fun x hx=>(jq x).2 (.inr (I.om x hx)),fun x hx y a=>?_,fun j hj=>(jq _).2 (.inr (I.gm j hj)),fun j hj=>?_,I.orc,fun x hx hn=>?_,fun x hx=>?_,fun a b h1 h2=>?_,fun x hx=>?_,fun x hx h1 h2=>?_,?_⟩
 ·obtain ⟨h1,h2⟩:=I.oc x hx y a;rw [QR,QR,if_neg (ne (I.om _ h1)),if_neg (ne (I.om _ hx))];exact ⟨h1,h2⟩
 ·rw [QR,if_neg (ne (I.gm j hj))];exact I.z j hj
 ·rw [jq] at hx;by_cases e:x=f
  ·subst e;rw [duf,G7,gy,if_pos rfl];show Xx.anc _ n (dep n)=_∧_
   rw [I.ci.anc hf nm (zA3 _)];obtain ⟨h1,h2⟩:=I.rt n nm no;exact ⟨h1,h2.step ha⟩
  ·have hx:=hx.resolve_left e;rw [du hx,I.ci.anc hf hx (zA3 _)];exact I.rt x hx hn
 ·rw [jq];rcases zB8.1 hx with h|h
  ·exact ⟨.inr (I.qm x h).1,(I.qm x h).2⟩
  ·rw [zB5] at h;exact ⟨.inl h,h ▸ fO⟩
 ·rw [zB2,zD5] at h2;rw [Ym (show a<q.length by omega),du (I.qm _ (qM (show a<q.length by omega))).1];rcases zA7 b q.length with h|h
  ·rw [Ym h,du (I.qm _ (qM h)).1];exact I.qs a b h1 h
  ·rw [KF h,show b - q.length=0 by omega];show _≤WE _ _ _ f
   rw [duf];have:=I.qd _ (qM (show a<q.length by omega));rw [hn] at this;exact this
 ·rw [VI hq,hn,du nm];rcases zB8.1 hx with h|h
  ·rw [du (I.qm x h).1,← hn];exact I.qd x h
  ·rw [zB5.1 h,duf];exact zA3 _
 ·rw [zB8,zB5,not_or] at h2;have hx:=((jq x).1 hx).resolve_left h2.2;obtain ⟨g1,g2⟩:=I.dn x hx h1 h2.1;rw [VI hq,hn,du nm,du hx,← hn];refine ⟨fun _=>g1 hq,fun y a=>?_⟩;obtain ⟨k1,k2⟩:=g2 y a;rw [QR,QR,if_neg (ne k1),if_neg (ne hx)];exact ⟨(jq y).2 (.inr k1),k2⟩
 ·have:=I.ql;rw [Y0 hf];simp;exact this
theorem SI.pop {r:Rl} {i:Nat} {O:List UInt8→Prop} {mp:Zp} {dep:List UInt8→Nat} {n:List UInt8} {q:List (List UInt8)} (I:SI r i O mp dep (n :: q)) (hd:∀ y,adj r 2 n y→zK mp y≠none∧XH mp y≠XH mp n):SI r i O mp dep q:=by
 have hq0:q≠[]→dep n≤dep (q.getD 0 default):=fun hq=>by
  have:=I.qs 0 1 (by omega) (by have:=List.length_pos_iff.2 hq;simp;omega);exact this
 refine ⟨I.ci,I.om,I.oc,I.gm,I.z,I.orc,I.rt,fun x hx=>I.qm x (.tail _ hx),fun a b h1 h2=>I.qs (a+1) (b+1) (by omega) (by simp;omega),fun x hx=>?_,fun x hx h1 h2=>?_,by have:=I.ql;simp at this;omega⟩
 ·have h1:dep x≤dep n+1:=I.qd x (.tail _ hx);have h2:=hq0 (List.ne_nil_of_mem hx);omega
 ·by_cases e:x=n
  ·subst e;exact ⟨hq0,hd⟩
  ·obtain ⟨g1,g2⟩:=I.dn x hx h1 (by simp [e,h2]);refine ⟨fun hq=>?_,g2⟩;have h3:dep x≤dep n:=g1 (by simp);have:=hq0 hq;omega
theorem SI.fin {r:Rl} {i:Nat} {O:List UInt8→Prop} {mp:Zp} {dep:List UInt8→Nat} (I:SI r i O mp dep []):OI r (i+1) mp dep:=by
 refine ⟨I.ci,fun x hx y a=>?_,fun j hj=>I.gm j (by omega),fun j hj=>I.z j (by omega),fun x hx=>?_⟩
 ·by_cases h:O x
  ·obtain ⟨h1,h2⟩:=I.oc x h y a;exact ⟨I.om y h1,h2⟩
  ·exact (I.dn x hx h (by simp)).2 y a
 ·by_cases h:O x
  ·obtain ⟨k,h1,h2⟩:=I.orc x h;exact ⟨k,by omega,h2⟩
  ·exact ⟨i,by omega,(I.rt x hx h).2⟩
theorem OI.skip {r:Rl} {i:Nat} {mp:Zp} {dep:List UInt8→Nat} (I:OI r i mp dep) (h:zK mp (Qv r i)≠none):OI r (i+1) mp dep:=by
 refine ⟨I.ci,I.cl,fun j hj=>?_,fun j hj=>?_,fun x hx=>?_⟩
 ·rcases zA7 j i with q|q
  ·exact I.gm j q
  ·obtain rfl:j=i:=by omega
   exact h
 ·rcases zA7 j i with q|q
  ·exact I.z j q
  ·obtain rfl:j=i:=by omega
   exact .inr (I.rc _ h)
 ·obtain ⟨k,h1,h2⟩:=I.rc x hx;exact ⟨k,by omega,h2⟩
theorem SI.clash {r:Rl} (H:RO r) {i:Nat} {O:List UInt8→Prop} {mp:Zp} {dep:List UInt8→Nat} {q:List (List UInt8)} (I:SI r i O mp dep q) (hq:q≠[]) {n f:List UInt8} (hn:q.getD 0 default=n) (hf:zK mp f≠none) (ha:adj r 2 n f) (hc:XH mp f=XH mp n):zK mp n≠none∧dep n=dep f∧n≠f∧Xx.anc (Yn mp) n (dep n)=Xx.anc (Yn mp) f (dep n)∧dep n≤64:=by
 have hn2:n∈q:=by
  rw [← hn];exact qM (List.length_pos_iff.2 hq)
 obtain ⟨nm,no⟩:=I.qm n hn2;have fO:¬ O f:=fun h=>no (I.oc f h n ha.symm).1;have fq:f∈q:=by
  apply zG9
  intro h;exact ((I.dn f hf fO h).2 n ha.symm).2 hc.symm
 have h1:=I.qd f fq;have h2:dep (q.getD 0 default)≤dep f:=by
  obtain ⟨j,j1,j2⟩:=qL.1 fq;rcases zF5 j with e|e
  ·subst e;rw [j2];exact zA3 _
  ·have:=I.qs 0 j e j1;rw [j2] at this;exact this
 rw [hn] at h1 h2;have h3:=I.ci.camp f hf;have h4:=I.ci.camp n nm;rw [hc,h4] at h3;have hd:dep n=dep f:=by omega
 have hl:=I.ci.len H;have:=I.ci.dl n nm;refine ⟨nm,hd,(QJ H ha).2.2,?_,by omega⟩;rw [(I.rt n nm no).1,hd,(I.rt f hf fO).1]
structure JP (r:Rl) (cs:List Int):Prop where
 len:cs.length=r.us.length
 b:∀ i,i<cs.length→cs.getD i default=0∨cs.getD i default=1
 ne:∀ i j,i<cs.length→j<cs.length→adj r 2 (Qv r i) (Qv r j)→cs.getD i default≠cs.getD j default
 z:∀ j,j<cs.length→cs.getD j default=0∨∃ k,k<j∧Rch r 2 (Qv r k) (Qv r j)
theorem OI.qfH {r:Rl} {mp:Zp} {dep:List UInt8→Nat} (I:OI r r.us.length mp dep):JP r ((List.range r.us.length).map fun i=>XH mp (Qv r i)):=by
 have g:∀ i,i<r.us.length→((List.range r.us.length).map fun i=>XH mp (Qv r i)).getD i default=XH mp (Qv r i):=fun i hi=>by
  rw [zA2];simp [hi]
 refine ⟨by simp,fun i hi=>?_,fun i j hi hj a=>?_,fun j hj=>?_⟩
 ·simp at hi;rw [g i hi,I.ci.camp _ (I.gm i hi)];omega
 ·simp at hi hj;rw [g i hi,g j hj];exact fun q=>(I.cl _ (I.gm i hi) _ a).2 q.symm
 ·simp at hj;rw [g j hj];exact I.z j hj
theorem Hs.qer {α:Type} {h0 h:AH} {u:Value} {e:TypeId} {z:Nat} {enc:α→List Value} {x:α} {rs:List Rs} (S:Hs h0 h (.sl u e z Yo [enc x] :: rs)):Hs h0 h (.sl u e z enc [x] :: rs):=by
 obtain ⟨fp,k1,k2,k3⟩:=S.sep;refine ⟨S.ext,fp,?_,k2,k3⟩;rcases k1 with ⟨q1,q2⟩|⟨b,o,cc,slk,cap,h1,h2,h3,h4,h5⟩
 ·cases q2
 ·exact .inr ⟨b,o,cc,slk,cap,h1,h2,h3,(by simpa [Yo] using h4),h5⟩
theorem qcC {r:Rl} {mp:Zp} {f:List UInt8} {p:Int×List UInt8} (hf:zK mp f=none) (hk:gat r.us f≠none):KJ r ((Ql mp f p).map (·.1))<KJ r (mp.map (·.1)):=by
 rw [Y0 hf,zC9];exact qbn hk fun q=>kQ.2 q hf
variable [Flag]
theorem qci {h0:AH} (w:WfH h0) {p:Nat} {r:Rl} (B:BkRd h0 p r) (H:RO r):Fn Tryz.prog Xh 41 [.pointer (some ⟨p,0,none⟩)] h0 (fun u h'=>(∃ vr R,u = .tuple #[.slice none 0 0,vr]∧Hs h0 h' [.sl vr 9 1 eS R]∧RingOk r R∧R.length≤200)∨(∃ vi cs,u = .tuple #[vi,.slice none 0 0]∧Hs h0 h' [.sl vi 3 1 eI cs]∧JP r cs)):=by
 have S:=Hs.start w;have B0:=B;obtain ⟨s,B⟩:=B;have hb:=B.bk;have h64:=H.l64;have hrg:=B.rg;have hgl:=B.len;refine qZ rfl Tryz.func41 rfl rfl ?_;all_goals (repeat' (first|refine qg ?_|(refine qc 0 ?_;refine qX ?_)|(refine qc 1 ?_;refine mv ?_)))
 (refine qx rfl rfl rfl rfl rfl ((jD S.wf (S.ext.get w hb)).mono ?_);rintro _ h ⟨rfl,x⟩)<;>(replace S:=S.qN x;clear x;refine qf ?_)
 all_goals (repeat' (first|refine qg ?_|refine qh rfl ?_|refine qj ?_))
 (repeat (refine qg ?_));refine qc 3 ?_;refine mkm (α:=Int×List UInt8) eSp S ?_;clear S;intro m h S;(refine qK ?_);all_goals (repeat' (first|refine qg ?_|refine qi ?_|(refine qc 4 ?_;refine Qz ?_;refine lH S ?_;refine Zx S ?_;refine qK ?_)))
 refine qH (σ:=Nat×Zp×(List UInt8→Nat)) (fun (i,mp,dep) h'=>Hs h0 h' [.mp m eSp mp]∧i≤r.us.length∧OI r i mp dep) (fun (i,mp,dep)=>r.us.length - i) (fun (i,mp,dep)=>[(0,.pointer (some ⟨p,0,none⟩)),(4,.map (some m)),(25,s.vg.val),(26,.int .i64 s.gs.length),(27,.int .i64 i)]) (0,[],fun _=>0) qo ?_ ?_
 ·exact ⟨S,zB0 _,⟨⟨⟨fun x hx=>absurd rfl hx⟩,fun x hx=>absurd rfl hx,fun x hx=>absurd rfl hx,by simp,fun x hx=>absurd rfl hx⟩,fun x hx=>absurd rfl hx,fun j hj=>absurd hj (zB7 _),fun j hj=>absurd hj (zB7 _),fun x hx=>absurd rfl hx⟩⟩
 clear S;rintro ⟨i,mp,dep⟩ h ⟨S,g1,I⟩;all_goals (repeat' (first|refine qg ?_|refine qh rfl ?_|refine qj ?_|refine qw ?_|(refine qc 5 ?_;(first|(refine cS ?_ ?_<;>intro hc))<;>(refine qf ?_))))
 ·have hil:i<s.gs.length:=by omega
  have hg:=B.g hil;simp only [zA0] at *;have hgn:(s.gs.getD i default).name=Qv r i:=by unfold Qv;rw [← hg]
  have hgk:gat r.us (Qv r i)≠none:=Je.2 ⟨_,qM (show i<r.us.length by omega),rfl⟩;(repeat (refine qg ?_));first|refine ZG (σ:=Zp×(List UInt8→Nat)) (fun (mp,dep) h'=>Hs h0 h' [.mp m eSp mp]∧OI r (i+1) mp dep) (fun (mp,dep)=>[(0,.pointer (some ⟨p,0,none⟩)),(4,.map (some m)),(25,s.vg.val),(26,.int .i64 s.gs.length),(27,.int .i64 i)]) ?_ ?_
  ·all_goals (repeat' (first|refine qg ?_|refine qi ?_|(refine qc 6 ?_;refine QN S ?_;refine jQ S ?_;(refine al S ?_;clear S;intro b h S);(first|(refine sB S rfl rfl ?_;clear S;intro h S));refine qf ?_)|(refine qc 7 ?_;refine mv ?_;refine vl ?_;refine lB S rfl rfl ?_)))
   refine lk S (.there .here) (fun y hy=>?_) (fun hy=>?_)
   ·simp only [okV];(refine Jc ?_;(refine al S ?_;clear S;intro b h S);(first|(refine sB S rfl rfl ?_;clear S;intro h S));refine qK ?_);all_goals (repeat' (first|refine qg ?_|refine qh rfl ?_|refine qw ?_|(refine qc 8 ?_;refine qK ?_)))
    rw [zA0,hgn] at hy;exact ⟨(mp,dep),⟨S.pick,I.skip (by rw [hy];simp)⟩,(qo)⟩
   ·rw [zA0,hgn] at hy;simp only [okV];(refine Jc ?_;(refine al S ?_;clear S;intro b h S);(first|(refine sB S rfl rfl ?_;clear S;intro h S));refine qK ?_);all_goals (repeat' (first|refine qg ?_|refine qh rfl ?_|refine qj ?_|(refine qc 8 ?_;refine qK ?_)|(refine qc 9 ?_;refine mv ?_;refine vl ?_;refine lB S rfl rfl ?_;refine vl ?_)))
    simp only [zA0,hgn];refine up (x:=((0:Int),([]:List UInt8))) (key:=Qv r i) S (.there (.there .here)) (.there (.there .here)) (fun h S=>?_) (.inl rfl);have I0:=I.root hy hgk;generalize hO:(fun x=>zK mp x≠none)=O at I0
    (refine qf ?_)
    all_goals (repeat' (first|refine qg ?_|refine qi ?_|(refine qc 10 ?_;refine vl ?_;refine lB S rfl rfl ?_;(refine one 1 S ?_;clear S;intro u h S);refine qK ?_)))
    simp only [zA0,hgn] at S;have S:=S.qer (enc:=eS) (x:=Qv r i);have S:=(show Hs h0 h [.sl u 9 1 eS [Qv r i],.mp m eSp (Ql mp (Qv r i) (0,[]))] from S.pick)
    refine qH (σ:=Zp×(List UInt8→Nat)×List (List UInt8)×Value) (fun (mp,dep,q,v9) h'=>Hs h0 h' [.sl v9 9 1 eS q,.mp m eSp mp]∧SI r i O mp dep q) (fun (mp,dep,q,v9)=>2*KJ r (mp.map (·.1))+q.length) (fun (mp,dep,q,v9)=>[(0,.pointer (some ⟨p,0,none⟩)),(4,.map (some m)),(9,v9),(25,s.vg.val),(26,.int .i64 s.gs.length),(27,.int .i64 i)]) (Ql mp (Qv r i) (0,[]),WE dep (Qv r i) 0,[Qv r i],u) qo ?_ ?_
    ·exact ⟨S,I0⟩
    clear S I0 hy;rintro ⟨mp,dep,q,v9⟩ h ⟨S,I⟩;have hql:=I.ql;have hml:=I.ci.len H;all_goals (repeat' (first|refine qg ?_|refine qh rfl ?_|refine qj ?_|refine qw ?_|refine qi ?_|(refine qc 11 ?_;refine mv ?_;refine ZJ S rfl rfl ?_;(first|(refine cS ?_ ?_<;>intro hc))<;>(refine qf ?_))))
    ·have hq:q≠[]:=fun e=>by rw [e] at hc;simp at hc
     all_goals (repeat' (first|refine qg ?_|(refine qc 13 ?_;refine mv ?_;refine qy S rfl rfl ?_;refine qI S rfl rfl ?_;refine qK ?_)|(refine qc 14 ?_;refine qE ?_)))
     obtain ⟨n,hn⟩:∃ n,q.getD 0 default=n:=⟨_,rfl⟩
     have hn2:n∈q:=by
      rw [← hn];exact qM (List.length_pos_iff.2 hq)
     have hnm:=(I.qm n hn2).1;simp only [Int.toNat_zero,hn];(refine qx rfl rfl rfl rfl rfl ((wV S.wf (B0.ext w S.ext) H n 2).mono ?_);rintro ul h ⟨l,x,l1,l2,l3⟩)<;>(replace S:=S.zQ x;clear x;refine ZJ S rfl rfl ?_;refine qK ?_)
     all_goals (repeat' (refine qi ?_))
     obtain ⟨M,hM⟩:∃ M,2*KJ r (mp.map (·.1))+q.length=M:=⟨_,rfl⟩
     refine qH (σ:=Nat×Zp×(List UInt8→Nat)×List (List UInt8)×Value) (fun (j,mp,dep,q,v9) h'=>Hs h0 h' [.sl ul 9 1 eS l,.sl v9 9 1 eS q,.mp m eSp mp]∧j≤l.length∧SI r i O mp dep q∧q≠[]∧q.getD 0 default=n∧(∀ k,k<j→zK mp (l.getD k default)≠none∧XH mp (l.getD k default)≠XH mp n)∧2*KJ r (mp.map (·.1))+q.length≤M) (fun (j,mp,dep,q,v9)=>l.length - j) (fun (j,mp,dep,q,v9)=>[(0,.pointer (some ⟨p,0,none⟩)),(4,.map (some m)),(9,v9),(10,str n),(25,s.vg.val),(26,.int .i64 s.gs.length),(27,.int .i64 i),(56,ul),(57,.int .i64 l.length),(58,.int .i64 j)]) (0,mp,dep,q,v9) qo ?_ ?_
     ·exact ⟨S,zB0 _,I,hq,hn,fun k hk=>absurd hk (zB7 _),Nat.le_of_eq hM⟩
     clear S I hq hn hn2 hnm hql;rintro ⟨j,mp,dep,q,v9⟩ h ⟨S,k1,I,hq,hn,k2,k3⟩;have hql:=I.ql;have hml:=I.ci.len H;have hn2:n∈q:=by
      rw [← hn];exact qM (List.length_pos_iff.2 hq)
     have hnm:=(I.qm n hn2).1;all_goals (repeat' (first|refine qg ?_|refine qh rfl ?_|refine qj ?_|refine qw ?_|refine qi ?_|(refine qc 15 ?_;(first|(refine cS ?_ ?_<;>intro hc))<;>(refine qf ?_))))
     ·have hjl:j<l.length:=by omega
      have hf:=(l2 _).1 (qM hjl);obtain ⟨f,hfe⟩:∃ f,l.getD j default=f:=⟨_,rfl⟩
      rw [hfe] at hf;all_goals (repeat' (first|refine qg ?_|(refine qc 16 ?_;refine qy S rfl rfl ?_;refine qI S rfl rfl ?_;refine qK ?_)|(refine qc 17 ?_;refine qE ?_)))
      simp only [zA0,hfe];refine lk S (.there (.there .here)) (fun y hy=>?_) (fun hy=>?_)
      ·simp only [okV];(refine Jc ?_;(refine al S ?_;clear S;intro b h S);(first|(refine sB S rfl rfl ?_;clear S;intro h S));refine qK ?_);all_goals (repeat' (first|refine qg ?_|refine qh rfl ?_|refine qi ?_|(refine qc 18 ?_;refine mv ?_;refine Jb ?_)|(refine qc 21 ?_;refine vl ?_;refine lB S rfl rfl ?_;refine qE ?_)))
       refine lk S (.there (.there (.there .here))) (fun z hz=>?_) (fun hz=>absurd hz hnm);simp only [okV];(refine vl ?_;(first|(refine cS ?_ ?_<;>intro hc))<;>(refine qK ?_));all_goals (repeat' (first|refine qg ?_|refine qh rfl ?_|refine qj ?_))
       ·have hcc:XH mp f=XH mp n:=by rw [Xb hy,Xb hz];exact hc
        have hfm:zK mp f≠none:=by rw [hy];simp
        obtain ⟨r1,r2,r3,r4,r5⟩:=I.clash H hq hn hfm hf hcc;have hMp:MpRd h m eSp mp:=by
         obtain ⟨es,clock,m1,m2,-⟩:=xU S (.there (.there (.there .here)));exact ⟨es,clock,m1,m2⟩
        all_goals (repeat' (first|(refine qc 22 ?_;refine qE ?_;refine mv ?_;skip)))
        (refine qx rfl rfl rfl rfl rfl ((qcP S.wf hMp I.ci.tree r1 hfm r2 hf r3 r4 r5).mono ?_);rintro vr h ⟨R,x,R1,R2⟩)<;>(replace S:=S.zQ x;clear x;refine qX ?_)
        all_goals (repeat' (fail))
        refine qC ⟨_,rfl,?_⟩;exact .inl ⟨vr,R,rfl,S.only .here,R1,R2⟩
       ·have hcc:XH mp f≠XH mp n:=by rw [Xb hy,Xb hz];exact hc
        all_goals (repeat' (first|(refine qc 23 ?_;refine jR ?_)))
        refine ⟨(j+1,mp,dep,q,v9),?_,?_,qo⟩
        ·show l.length - (j+1)<l.length - j;omega
        ·refine ⟨S.pick,by (try dsimp only);omega,I,hq,hn,Ze k2 ?_,k3⟩;rw [hfe];exact ⟨by rw [hy];simp,hcc⟩
      ·simp only [okV];(refine Jc ?_;(refine al S ?_;clear S;intro b h S);(first|(refine sB S rfl rfl ?_;clear S;intro h S));refine qK ?_);all_goals (repeat' (first|refine qg ?_|refine qh rfl ?_|refine qi ?_|(refine qc 18 ?_;refine mv ?_;refine Jb ?_)|(refine qc 19 ?_;refine qE ?_;refine qE ?_;skip)))
       refine lk S (.there (.there (.there .here))) (fun z hz=>?_) (fun hz=>absurd hz hnm);simp only [okV];have ez:XH mp n=z.1:=Xb hz;have hzb:0≤z.1∧z.1≤1:=by
        have:=I.ci.camp n hnm;rw [ez] at this;omega
       (refine vl ?_;refine sb ?_;refine mv ?_;refine vl ?_)
       have hfk:=(QJ H hf).2.1;have hu:=qcC (p:=(1 - z.1,n)) hy hfk;have I2:=I.add hq hn hy hfk hf;rw [ez] at I2;refine up (x:=(1 - z.1,n)) (key:=f) S (.there (.there (.there .here))) (.there (.there (.there .here))) (fun h S=>?_) (.inl rfl);(refine qf ?_);all_goals (repeat' (first|(refine qc 20 ?_;refine qE ?_;(refine one 1 S ?_;clear S;intro u h S))))
       refine app (y0:=f) S rfl rfl ?_;clear S;intro v9 h S;(refine qK ?_);all_goals (repeat' (first|(refine qc 23 ?_;refine jR ?_)))
       have nmf:∀ {w:List UInt8},zK mp w≠none→w≠f:=fun hw e=>by rw [e] at hw;exact hw hy
       refine ⟨(j+1,Ql mp f (1 - z.1,n),WE dep f (dep n+1),q ++ [f],v9),?_,?_,qo⟩
       ·show l.length - (j+1)<l.length - j;omega
       ·have hz1:XH (Ql mp f (1 - z.1,n)) n=XH mp n:=by rw [QR,if_neg (nmf hnm)]
        refine ⟨S.pick,by (try dsimp only);omega,I2,by simp,by rw [VI hq];exact hn,Ze (fun k hk=>?_) ?_,?_⟩
        ·obtain ⟨g1,g2⟩:=k2 k hk;rw [hz1,QR,if_neg (nmf g1)];exact ⟨(jq _).2 (.inr g1),g2⟩
        ·rw [hfe,hz1,QR,if_pos rfl,ez];refine ⟨(jq _).2 (.inl rfl),?_⟩;show 1 - z.1≠z.1
         omega
        ·show 2*KJ r ((Ql mp f (1 - z.1,n)).map (·.1))+(q ++ [f]).length≤M
         rw [zB2,zD5];omega
     ·obtain rfl:j=l.length:=by omega
      obtain ⟨n0,q',rfl⟩:∃ n0 q',q=n0 :: q':=by
       cases q with
       | nil=>exact absurd rfl hq
       | cons a b=>exact ⟨a,b,rfl⟩
      have en:n0=n:=hn;subst en;have I2:=I.pop fun z hz=>by
       obtain ⟨k,k1,k2'⟩:=qL.1 ((l2 z).2 hz);have:=k2 k k1;rw [k2'] at this;exact this
      all_goals (repeat' (first|(refine qc 12 ?_;refine mv ?_;(refine dr S rfl rfl ?_;clear S;intro vq S);refine qK ?_)))
      refine ⟨(mp,dep,q',vq),?_,?_,qo⟩
      ·(try dsimp only)
       rw [hM];simp at k3;omega
      ·exact ⟨(show Hs h0 h [.sl vq 9 1 eS q',.mp m eSp mp] from S.tail),I2⟩
    ·have hq:q=[]:=by cases q with|nil=>rfl|cons a b=>simp at hc
     subst hq;exact ⟨(mp,dep),⟨S.only (.there .here),I.fin⟩,(qo)⟩
  ·clear S;rintro ⟨mp2,dep2⟩ h ⟨S,I2⟩;all_goals (repeat' (first|(refine qc 24 ?_;refine jR ?_)))
   refine ⟨(i+1,mp2,dep2),?_,?_,qo⟩
   ·show r.us.length - (i+1)<r.us.length - i;omega
   ·exact ⟨S,by (try dsimp only);omega,I2⟩
 ·obtain rfl:i=r.us.length:=by omega
  have CO:=I.qfH;all_goals (repeat' (first|refine qg ?_|(refine qc 25 ?_;refine qK ?_)))
  have S:=S.Qb (e:=3) (z:=1) (enc:=eI);have S:=(show Hs h0 h [.sl (.slice none 0 0) 3 1 eI ((List.range 0).map fun i=>XH mp (Qv r i)),.mp m eSp mp] from S)
  all_goals (repeat' (first|refine qi ?_|(refine qc 26 ?_;refine Qz ?_;refine lH S ?_;refine Zx S ?_;refine qK ?_)))
  refine qH (σ:=Nat×Value) (fun (j,v15) h'=>Hs h0 h' [.sl v15 3 1 eI ((List.range j).map fun i=>XH mp (Qv r i)),.mp m eSp mp]∧j≤r.us.length) (fun (j,v15)=>r.us.length - j) (fun (j,v15)=>[(4,.map (some m)),(15,v15),(102,s.vg.val),(103,.int .i64 s.gs.length),(104,.int .i64 j)]) (0,.slice none 0 0) qo ?_ ?_
  ·exact ⟨S,zB0 _⟩
  clear S;rintro ⟨j,v15⟩ h ⟨S,g2⟩;have hjl2:((List.range j).map fun i=>XH mp (Qv r i)).length=j:=by simp
  all_goals (repeat' (first|refine qg ?_|refine qh rfl ?_|refine qj ?_|refine qw ?_|refine qi ?_|(refine qc 27 ?_;(first|(refine cS ?_ ?_<;>intro hc))<;>(refine qf ?_))))
  ·have hil:j<s.gs.length:=by omega
   have hg:=B.g hil;have hgn:(s.gs.getD j default).name=Qv r j:=by unfold Qv;rw [← hg]
   have hme:=I.gm j (by omega);all_goals (repeat' (first|(refine qc 28 ?_;refine QN S ?_;refine jQ S ?_;(refine al S ?_;clear S;intro b h S);(first|(refine sB S rfl rfl ?_;clear S;intro h S));refine qf ?_)|(refine qc 29 ?_;refine qE ?_;refine vl ?_;refine lB S rfl rfl ?_)))
   simp only [zA0,hgn];refine lk S (.there (.there .here)) (fun y hy=>?_) (fun hy=>absurd hy hme);simp only [okV];(refine vl ?_;(refine one 1 S ?_;clear S;intro u h S));refine app (y0:=y.1) S rfl rfl ?_;clear S;intro v15 h S;(refine qK ?_);all_goals (repeat' (first|(refine qc 30 ?_;refine jR ?_)))
   refine ⟨(j+1,v15),?_,?_,qo⟩
   ·show r.us.length - (j+1)<r.us.length - j;omega
   ·have e1:(List.range (j+1)).map (fun i=>XH mp (Qv r i))=(List.range j).map (fun i=>XH mp (Qv r i)) ++ [y.1]:=by
     rw [List.range_succ,zC9,List.map_cons,Xb hy];rfl
    refine ⟨?_,by (try dsimp only);omega⟩;dsimp only;rw [e1];exact S.pick
  ·obtain rfl:j=r.us.length:=by omega
   all_goals (repeat' (first|(refine qc 31 ?_;refine mv ?_;refine qX ?_)))
   refine qC ⟨_,rfl,?_⟩;exact .inr ⟨v15,_,rfl,S.only .here,CO⟩
end Go.Proofs.Xx
namespace Go.Proofs.Xx
open Go Go.Proofs
theorem VJ {mp:ZX} {h:Nat}:((mp.map (·.1)).drop h).getD 0 default=Zn mp h:=by
 unfold Zn;rw [zA2,zA2,zC3,zI1,Nat.add_zero];cases mp[h]?<;>rfl
theorem Gy {α:Type} {mp:List (List UInt8×α)} {x:List UInt8}:zK mp x≠none↔x∈mp.map (·.1):=by
 rw [← xX (l:=mp) (i:=0)];unfold zK;cases QM x mp 0<;>simp
theorem qbO {α:Type} {mp:List (List UInt8×α)} {f:List UInt8} {p:α} (h:zK mp f=none):Ql mp f p=mp ++ [(f,p)]:=by
 unfold Ql;rw [X8 h]
theorem qeD {r:Rl} (H:RO r) {n:List UInt8} (h:gat r.us n≠none):n≠[]:=by
 obtain ⟨g,h1,h2⟩:=Je.1 h;have:=(QI (H.chk g h1)).1.1;rw [h2] at this;intro e;rw [e] at this;exact absurd this.1 (by decide)
variable [Flag]
theorem qcg {h0:AH} (w:WfH h0) {p:Nat} {r:Rl} (B:BkRd h0 p r) (H:RO r) (a b:List UInt8):Fn Tryz.prog Xh 29 [.pointer (some ⟨p,0,none⟩),str a,str b] h0 (fun u h'=>(∃ v P,u = .tuple #[v,.bool true]∧Hs h0 h' [.sl v 9 1 eS P]∧gat r.us a≠none∧gat r.us b≠none∧ChainOk r a b P∧P.length≤64)∨(u = .tuple #[.slice none 0 0,.bool false]∧(gat r.us a≠none→gat r.us b≠none→∀ Q,¬ Pth r a Q b)∧Hs h0 h' [])):=by
 have S:=Hs.start w;have B0:=B;obtain ⟨s,B⟩:=B;have hb:=B.bk;have h64:=H.l64;have hmp:=B.mp;refine qZ rfl Tryz.func29 rfl rfl ?_;all_goals (repeat' (first|refine qg ?_|(refine qc 0 ?_;refine qX ?_)|(refine qc 1 ?_;refine mv ?_)))
 (refine qx rfl rfl rfl rfl rfl ((jD S.wf (S.ext.get w hb)).mono ?_);rintro _ h ⟨rfl,x⟩)<;>(replace S:=S.qN x;clear x;refine qf ?_)
 all_goals (repeat' (first|refine qg ?_|refine qh rfl ?_|refine qj ?_|(refine qc 3 ?_;refine Jc ?_;refine lH S ?_;refine mv ?_)))
 have hmp1:=hmp.ext w S.ext;refine lkR hmp1 (fun i hi=>?_) (fun hi=>?_);all_goals rw [B.at_ a] at hi
 all_goals simp only [okV]
 all_goals (refine zk ?_)
 all_goals (all_goals (repeat' (first|refine qg ?_|(refine qc 4 ?_;refine Jc ?_;refine lH S ?_;refine mv ?_))))
 all_goals (refine lkR hmp1 (fun j hj=>?_) (fun hj=>?_))
 all_goals rw [B.at_ b] at hj
 all_goals simp only [okV]
 all_goals (refine zk ?_)
 all_goals (skip)
 all_goals (all_goals (repeat' (first|refine qg ?_|refine qh rfl ?_|refine qj ?_|(refine qc 5 ?_;refine mv ?_;refine vl ?_;refine mv ?_;(first|refine off ?_|refine mv ?_);(first|refine off ?_|refine vl ?_);refine zU ?_)|(refine qc 6 ?_;refine qX ?_))))
 rotate_left
 ·refine qC ⟨_,rfl,?_⟩;exact .inr ⟨rfl,fun _ q=>absurd (by cases hq:gat r.us b with|none=>rfl|some i=>rw [hq] at hj;cases hj) q,S.drop⟩
 ·refine qC ⟨_,rfl,?_⟩;exact .inr ⟨rfl,fun q _=>absurd (by cases hq:gat r.us a with|none=>rfl|some i=>rw [hq] at hi;cases hi) q,S.drop⟩
 ·refine qC ⟨_,rfl,?_⟩;exact .inr ⟨rfl,fun q _=>absurd (by cases hq:gat r.us a with|none=>rfl|some i=>rw [hq] at hi;cases hi) q,S.drop⟩
 have hak:gat r.us a≠none:=fun q=>by rw [q] at hi;cases hi
 have hbk:gat r.us b≠none:=fun q=>by rw [q] at hj;cases hj
 clear hi hj;all_goals (repeat' (first|(refine qc 7 ?_;refine mv ?_)))
 (refine qx rfl rfl rfl rfl rfl ((wQ S.wf (B0.ext w S.ext) H).mono ?_);rintro un h ⟨ns,x,n1,n2,n3⟩)<;>(replace S:=S.zQ x;clear x;refine qK ?_)
 all_goals (repeat' (first|refine qg ?_|(refine qc 8 ?_;skip)))
 refine mkm (α:=List UInt8) str S ?_;clear S;intro m h S;(refine mv ?_);refine up (x:=([]:List UInt8)) (key:=a) S .here .here (fun h S=>?_) (.inr rfl);(refine qX ?_);all_goals (repeat' (first|refine qg ?_|refine qi ?_|(refine qc 9 ?_;refine mv ?_;(refine one 1 S ?_;clear S;intro u h S);refine qK ?_)))
 have S:=S.qer (enc:=eS) (x:=a);have S:=(show Hs h0 h [.sl u 9 1 eS [a],.mp m str [(a,[])],.sl un 9 1 eS ns] from S)
 refine qH (σ:=Nat×ZX×(Nat→Nat)×Value) (fun (k,mp,pa,v14) h'=>Hs h0 h' [.sl v14 9 1 eS ((mp.map (·.1)).drop k),.mp m str mp,.sl un 9 1 eS ns]∧BI r a mp pa k∧(∀ i,i<k→Zn mp i≠b)) (fun (k,mp,pa,v14)=>65 - k) (fun (k,mp,pa,v14)=>[(0,.pointer (some ⟨p,0,none⟩)),(2,str b),(12,un),(13,.map (some m)),(14,v14)]) (0,[(a,[])],(fun _=>0),u) qo ?_ ?_
 ·exact ⟨S,BI.one hak,fun i hi=>absurd hi (zB7 _)⟩
 clear S;rintro ⟨k,mp,pa,v14⟩ h ⟨S,I,hno⟩;have hml:=I.c.len H;have hle:=I.le;have hdl:((mp.map (·.1)).drop k).length=mp.length - k:=by simp
 all_goals (repeat' (first|refine qg ?_|refine qh rfl ?_|refine qj ?_|refine qw ?_|(refine qc 10 ?_;refine mv ?_;refine ZJ S rfl rfl ?_;(first|(refine cS ?_ ?_<;>intro hc))<;>(refine qf ?_))))
 ·have hk:k<mp.length:=by omega
  (repeat (refine qg ?_));first|refine ZG (σ:=ZX×(Nat→Nat)×Value) (fun (mp,pa,v14) h'=>Hs h0 h' [.sl v14 9 1 eS ((mp.map (·.1)).drop k),.mp m str mp,.sl un 9 1 eS ns]∧BI r a mp pa (k+1)∧(∀ i,i<k+1→Zn mp i≠b)) (fun (mp,pa,v14)=>[(0,.pointer (some ⟨p,0,none⟩)),(2,str b),(12,un),(13,.map (some m)),(14,v14)]) ?_ ?_
  ·all_goals (repeat' (first|refine qg ?_|refine qi ?_))
   all_goals (repeat' (first|refine qg ?_|refine qh rfl ?_|refine qj ?_|(refine qc 12 ?_;refine mv ?_;refine qy S rfl rfl ?_;refine qI S rfl rfl ?_;refine mv ?_;(refine tS ?_ ?_<;>intro hc)<;>(refine qf ?_))))
   all_goals (simp only [Int.toNat_zero,VJ] at *)
   ·all_goals (repeat' (first|refine qg ?_|(refine qc 13 ?_;refine qK ?_)))
    have S:=S.Qb (e:=9) (z:=1) (enc:=eS);have S:=(show Hs h0 h [.sl (.slice none 0 0) 9 1 eS [],.mp m str mp] from S.pick)
    all_goals (repeat' (first|refine qi ?_|(refine qc 14 ?_;refine qX ?_)))
    refine qH (σ:=Value×List (List UInt8)×List (List UInt8)×List UInt8) (fun (v15,L,T,n) h'=>Hs h0 h' [.sl v15 9 1 eS L,.mp m str mp]∧Q7 mp pa k=T ++ L.reverse∧((T=[]∧n=[])∨∃ j,j<mp.length∧T=Q7 mp pa j∧n=Zn mp j)) (fun (v15,L,T,n)=>T.length) (fun (v15,L,T,n)=>[(13,.map (some m)),(15,v15),(16,str n)]) (.slice none 0 0,[],Q7 mp pa k,b) qo ?_ ?_
    ·exact ⟨S,by simp,.inr ⟨k,hk,rfl,hc.symm⟩⟩
    clear S;rintro ⟨v15,L,T,n⟩ h ⟨S,e1,e2⟩;have htl:=qbp mp pa k;have hLl:L.length≤65:=by
     have:=congrArg List.length e1;simp at this;omega
    all_goals (repeat' (first|refine qg ?_|refine qh rfl ?_|refine qj ?_|refine qw ?_|refine qi ?_|(refine qc 15 ?_;refine mv ?_;(refine tS ?_ ?_<;>intro hc)<;>(refine qf ?_))))
    ·have hT:T=[]:=by
      rcases e2 with ⟨h1,h2⟩|⟨j,j1,j2,j3⟩
      ·exact h1
      ·exact absurd (j3.symm.trans (by assumption)) (qeD H (I.c.kn j j1))
     rw [hT,zC0] at e1;all_goals (repeat' (first|(refine qc 18 ?_;refine mv ?_)))
     (refine qx rfl rfl rfl rfl rfl ((xB S (by omega)).mono ?_);rintro _ h S)<;>(refine qf ?_)
     all_goals (repeat' (first|refine qg ?_|(refine qc 19 ?_;refine mv ?_;refine qX ?_)))
     refine qC ⟨_,rfl,?_⟩;have hf:=I.found hk;rw [‹Zn mp k=b›,e1] at hf;exact .inl ⟨v15,_,rfl,S.only .here,hak,hbk,hf,by rw [← e1];omega⟩
    ·obtain ⟨j,j1,j2,j3⟩:=e2.resolve_left (fun q=>absurd q.2 (by assumption));all_goals (repeat' (first|(refine qc 17 ?_;refine qE ?_;(refine one 1 S ?_;clear S;intro u h S))))
     refine app (y0:=n) S rfl rfl ?_;clear S;intro v15 h S;(refine qK ?_);all_goals (repeat' (first|(refine qc 16 ?_;refine qE ?_)))
     have hg:=qcY I.c.nd j1;rw [← j3] at hg;refine lk S (.there .here) (fun y hy=>?_) (fun hy=>by rw [hg] at hy;cases hy);rw [hg] at hy;cases hy
     simp only [okV];(refine qK ?_);rcases zF5 j with z|z
     ·subst z;rw [vI] at j2;rw [I.c.f0];refine ⟨(v15,L ++ [n],[],[]),?_,?_,qo⟩
      ·show ([]:List (List UInt8)).length<T.length
       rw [j2];simp
      ·refine ⟨S,?_,.inl ⟨rfl,rfl⟩⟩;rw [e1,j2,j3];simp
     ·have hp:=(I.c.fr j z j1).1;rw [I.c.step z j1] at j2;rw [hp];refine ⟨(v15,L ++ [n],Q7 mp pa (pa j),Zn mp (pa j)),?_,?_,qo⟩
      ·show (Q7 mp pa (pa j)).length<T.length
       rw [j2];simp
      ·have:=I.c.lt j z j1;refine ⟨S,?_,.inr ⟨pa j,by omega,rfl,rfl⟩⟩;rw [e1,j2,j3];simp
   ·have J0':=I.start (ns:=ns) hk;all_goals (repeat' (first|refine qi ?_|(refine qc 20 ?_;refine mv ?_;refine ZJ S rfl rfl ?_;refine qK ?_)))
    refine qH (σ:=Nat×ZX×(Nat→Nat)×Value) (fun (i,mp,pa,v14) h'=>Hs h0 h' [.sl v14 9 1 eS ((mp.map (·.1)).drop k),.mp m str mp,.sl un 9 1 eS ns]∧i≤ns.length∧BJ r ns a mp pa k i∧(∀ i,i<k+1→Zn mp i≠b)) (fun (i,mp,pa,v14)=>ns.length - i) (fun (i,mp,pa,v14)=>[(0,.pointer (some ⟨p,0,none⟩)),(2,str b),(12,un),(13,.map (some m)),(14,v14),(77,un),(78,.int .i64 ns.length),(79,.int .i64 i)]) (0,mp,pa,v14) qo ?_ ?_
    ·exact ⟨S,zB0 _,J0',Ze hno hc⟩
    clear S I hno hml hle hdl hc J0' hk;rintro ⟨i,mp,pa,v14⟩ h ⟨S,i1,J,hno⟩;have hml:=J.c.len H;have hk:=J.lt;have hdl:((mp.map (·.1)).drop k).length=mp.length - k:=by simp
    all_goals (repeat' (first|refine qg ?_|refine qh rfl ?_|refine qj ?_|refine qw ?_|refine qi ?_|(refine qc 21 ?_;(first|(refine cS ?_ ?_<;>intro hc))<;>(refine qf ?_))))
    ·have hil:i<ns.length:=by omega
     obtain ⟨n,hn⟩:∃ n,ns.getD i default=n:=⟨_,rfl⟩
     all_goals (repeat' (first|refine qg ?_|(refine qc 22 ?_;refine qy S rfl rfl ?_;refine qI S rfl rfl ?_;refine qK ?_)|(refine qc 23 ?_;refine qE ?_)))
     simp only [zA0,hn];refine lk S (.there .here) (fun y hy=>?_) (fun hy=>?_)
     ·simp only [okV];(refine zk ?_);all_goals (repeat' (first|refine qg ?_|refine qh rfl ?_|refine qj ?_|(refine qc 24 ?_;refine mv ?_;refine vl ?_;refine mv ?_;refine off ?_;refine off ?_;refine off ?_;refine off ?_;refine off ?_;(first|(refine off ?_;refine off ?_;(refine off ?_)<;>(refine zU ?_))))))
      all_goals (repeat' (first|(refine qc 27 ?_;refine jR ?_)))
      refine ⟨(i+1,mp,pa,v14),?_,?_,qo⟩
      ·show ns.length - (i+1)<ns.length - i;omega
      ·have hnm:zK mp n≠none:=by rw [hy];simp
       exact ⟨S,hil,J.skip (.inl (by rw [hn];exact hnm)) (fun _=>by rw [hn];exact Gy.1 hnm),hno⟩
     ·simp only [okV];(refine zk ?_);all_goals (repeat' (first|refine qg ?_|(refine qc 24 ?_;refine mv ?_;refine vl ?_;refine qE ?_;refine mv ?_;(first|(refine qy S rfl rfl ?_));(first|(refine qI S rfl rfl ?_));refine mv ?_;(skip))))
      simp only [Int.toNat_zero,VJ] at *;(refine qx rfl rfl rfl rfl rfl ((wP S.wf (B0.ext w S.ext) H (Zn mp k) n).mono ?_);rintro uc h ⟨lc,x,c1,c2⟩)<;>(replace S:=S.zQ x;clear x;(first|(refine ZJ S rfl rfl ?_));(first|(first|(refine cS ?_ ?_<;>intro hc)))<;>(refine zU ?_))
      all_goals (repeat' (first|refine qg ?_|refine qh rfl ?_|refine qj ?_))
      ·have hsp:spk r (Zn mp k) n:=J9.1 (by rw [← c1];omega);all_goals (repeat' (first|(refine qc 25 ?_;refine qE ?_;refine mv ?_;refine qy S rfl rfl ?_;refine qI S rfl rfl ?_)))
       simp only [Int.toNat_zero,VJ];refine up (x:=Zn mp k) (key:=n) S (.there (.there .here)) (.there (.there .here)) (fun h S=>?_) (.inl rfl);(refine qf ?_);all_goals (repeat' (first|(refine qc 26 ?_;refine qE ?_;(refine one 1 S ?_;clear S;intro u h S))))
       refine app (y0:=n) S rfl rfl ?_;clear S;intro v14 h S;(refine qK ?_);all_goals (repeat' (first|(refine qc 27 ?_;refine jR ?_)))
       rw [qbO hy] at S;have J2:=J.add n1 hil (by rw [hn];exact fun q=>Gy.2 q hy) (by rw [hn];exact hsp);rw [hn] at J2;refine ⟨(i+1,mp ++ [(n,Zn mp k)],paU pa mp.length k,v14),?_,?_,qo⟩
       ·show ns.length - (i+1)<ns.length - i;omega
       ·refine ⟨?_,hil,J2,fun z hz=>?_⟩
        ·have ed:((mp ++ [(n,Zn mp k)]).map (·.1)).drop k=(mp.map (·.1)).drop k ++ [n]:=by
          rw [zC9,List.drop_append_of_le_length (by simp;omega)];rfl
         show Hs h0 h [.sl v14 9 1 eS (((mp ++ [(n,Zn mp k)]).map (·.1)).drop k),.mp m str (mp ++ [(n,Zn mp k)]),.sl un 9 1 eS ns]
         rw [ed];exact S.pick
        ·have:Zn (mp ++ [(n,Zn mp k)]) z=Zn mp z:=by unfold Zn;rw [Ym (by omega)]
         dsimp only;rw [this];exact hno z hz
      ·have hsp:¬ spk r (Zn mp k) n:=fun q=>by
        have:=J9.2 q;rw [← c1] at this;omega
       all_goals (repeat' (first|(refine qc 27 ?_;refine jR ?_)))
       refine ⟨(i+1,mp,pa,v14),?_,?_,qo⟩
       ·show ns.length - (i+1)<ns.length - i;omega
       ·exact ⟨S.pick,hil,J.skip (.inr (by rw [hn];exact hsp)) (fun q=>by rw [hn] at q;exact absurd hy q),hno⟩
    ·obtain rfl:i=ns.length:=by omega
     exact ⟨(mp,pa,v14),⟨S.pick,J.fin fun y hy=>(n2 y).2 hy,hno⟩,(qo)⟩
  ·clear S I hno hml hle hdl hk;rintro ⟨mp,pa,v14⟩ h ⟨S,I,hno⟩;have hml:=I.c.len H;have hle:=I.le;all_goals (repeat' (first|(refine qc 11 ?_;refine mv ?_;(refine dr S rfl rfl ?_;clear S;intro vq S);refine qK ?_)))
   refine ⟨(k+1,mp,pa,vq),?_,?_,qo⟩
   ·show 65 - (k+1)<65 - k;omega
   ·refine ⟨?_,I,hno⟩;(try dsimp only);rw [show ((mp.map (·.1)).drop (k+1))=((mp.map (·.1)).drop k).drop (Int.toNat 1) from by rw [List.drop_drop];rfl];exact S.pick
 ·have hk:k=mp.length:=by omega
  subst hk;all_goals (repeat' (first|(refine qc 28 ?_;refine qX ?_)))
  refine qC ⟨_,rfl,?_⟩;exact .inr ⟨rfl,fun _ _=>I.lost hno,S.drop⟩
end Go.Proofs.Xx
namespace Go.Proofs.Xx
open Go Go.Proofs
def mmT (f t:List UInt8) (ts:List Ti) (j:Nat):List Ti:=(ts.take j).map (Q8 f t) ++ ts.drop j
theorem qcV (f t:List UInt8) (ts:List Ti) (j:Nat) (hj:j≤ts.length):(mmT f t ts j).length=ts.length:=by simp [mmT];omega
theorem qcW (f t:List UInt8) (ts:List Ti) (j:Nat) (hj:j<ts.length):(mmT f t ts j).getD j default=ts.getD j default:=by
 unfold mmT;rw [KF (by simp;omega),zC5,zA9,zE5 (by omega),zG7,zA2,zA2,zC3];rfl
theorem qcU (f t:List UInt8) (ts:List Ti) (j:Nat) (hj:j<ts.length):(mmT f t ts j).set j (Q8 f t (ts.getD j default))=mmT f t ts (j+1):=by
 unfold mmT;rw [List.set_append_right _ _ (by simp;omega),qQ hj,zC9,zF3];congr 1
 rw [zC5,zA9,zE5 (by omega),zG7,zG8 hj,List.set_cons_zero];rfl
theorem Hs.qe6 {h0 h:AH} {rs:List Rs} {gs:List Qi} {i:Nat} {t:List UInt8} (S:Hs h0 h (X5 gs :: rs)) (hi:i<gs.length):Hs h0 h (X5 (gs.set i { gs.getD i default with name:=t }) :: rs):=S.conv fun fp k h' q g hg=>by
 rcases List.mem_or_eq_of_mem_set hg with z|z
 ·exact k h' q g z
 ·subst z;exact k h' q (gs.getD i default) (qM hi)
theorem vX {r:Rl} {f t:List UInt8} (H:RO r) (ht:gat r.us t=none):((r.ts.map (Q8 f t)).map fun x=>(x.a,x.b)).Nodup:=by
 rw [List.map_map,List.Nodup,List.pairwise_map];refine List.Pairwise.imp_of_mem ?_ H.ts;intro x y hx hy hb e;obtain ⟨x1,-,x3,x4⟩:=H.tt x hx;obtain ⟨y1,-,y3,y4⟩:=H.tt y hy;have xa:x.a≠t:=fun q=>x3 (q ▸ ht);have xb:x.b≠t:=fun q=>x4 (q ▸ ht);have ya:y.a≠t:=fun q=>y3 (q ▸ ht);have yb:y.b≠t:=fun q=>y4 (q ▸ ht);have e1:(Q8 f t x).a=(Q8 f t y).a:=congrArg Prod.fst e;have e2:(Q8 f t x).b=(Q8 f t y).b:=congrArg Prod.snd e;have key:(x.a=y.a∧x.b=y.b)∨(x.a=y.b∧x.b=y.a):=by
  unfold Q8 at e1 e2;rcases JU (jb f t x.a) (jb f t x.b) x.k with ⟨p1,p2⟩|⟨p1,p2⟩<;>rcases JU (jb f t y.a) (jb f t y.b) y.k with ⟨g1,g2⟩|⟨g1,g2⟩<;>rw [p1,g1] at e1<;>rw [p2,g2] at e2
  ·exact .inl ⟨je xa ya e1,je xb yb e2⟩
  ·exact .inr ⟨je xa yb e1,je xb ya e2⟩
  ·exact .inr ⟨je xa yb e2,je xb ya e1⟩
  ·exact .inl ⟨je xa ya e2,je xb yb e1⟩
 rcases key with ⟨k1,k2⟩|⟨k1,k2⟩
 ·rcases hb with q|q
  ·rw [k1] at q;exact zA _ q
  ·rw [k2] at q;exact zA _ q.2
 ·rw [k1,k2] at x1;exact zZ x1 y1
theorem qf0 {m:List Ti} (s:Srt zW 0 m.length m) (hn:(m.map fun x=>(x.a,x.b)).Nodup):TS m:=by
 unfold TS;rw [zD2];intro i j hi hj hij;have h1:=s i j (zB0 _) hij hj;rw [zA2,zA2,zA4 hj,zA4 hi] at h1;rcases Ye m[i] m[j] with q|q|q
 ·exact q
 ·exfalso
  have:=zD2.1 hn i j (by simpa using hi) (by simpa using hj) hij;simp only [List.getElem_map] at this;exact this (by rw [q.1,q.2])
 ·exact absurd q h1
variable [Flag]
theorem qaO {h0 h:AH} {rs:List Rs} {p:Nat} {r:Rl} (S:Hs h0 h (zN p r :: rs)) (H:RO r) (f t:List UInt8) :
 Fn Tryz.prog Xh 40 [.pointer (some ⟨p,0,none⟩),str f,str t] h (fun v h'=>(gat r.us f=none∧v = .int .i64 6∧Hs h0 h' (zN p r :: rs))∨(gat r.us f≠none∧¬ Jo t∧v = .int .i64 4∧Hs h0 h' (zN p r :: rs))∨(gat r.us f≠none∧Jo t∧gat r.us t≠none∧v = .int .i64 5∧Hs h0 h' (zN p r :: rs))∨(∃ i r',gat r.us f=some i∧Jo t∧gat r.us t=none∧Ren r r' i t∧v = .int .i64 0∧Hs h0 h' (zN p r' :: rs))):=by
 obtain ⟨⟨vg,vt,m,mp,gs⟩,⟨q1,q2⟩,S⟩:=S.unpack;have e1:gs.length=r.us.length:=by rw [← q1];simp
 have h64:=H.l64;have h256:=H.l256;dsimp only [bkL,List.cons_append,List.nil_append] at q1 q2 S;refine qZ rfl Tryz.func40 rfl rfl ?_;all_goals (repeat' (first|refine qg ?_|(refine qc 0 ?_;refine qK ?_)|(refine qc 1 ?_;refine mv ?_)))
 (refine qx rfl rfl rfl rfl rfl ((jD S.wf (jV S .here)).mono ?_);rintro _ h ⟨rfl,x⟩)<;>(replace S:=S.qN x;clear x;refine qf ?_)
 all_goals (repeat' (first|refine qg ?_|refine qh rfl ?_|refine qj ?_|(refine qc 3 ?_;refine Jc ?_;refine lB S rfl rfl ?_;refine mv ?_)))
 refine lk S (.there (.there (.there .here))) (fun y hy=>?_) (fun hy=>?_);all_goals rw [q2] at hy
 rotate_left
 ·simp only [okV];(refine zk ?_);all_goals (repeat' (first|refine qg ?_|refine qh rfl ?_|(refine qc 4 ?_;refine ZU ?_)|(refine qc 5 ?_;refine qK ?_)))
  refine qC ⟨_,rfl,?_⟩;refine .inl ⟨?_,rfl,S.bk vg vt m mp gs q1 q2⟩;cases hq:gat r.us f with
  | none=>rfl
  | some z=>rw [hq] at hy;cases hy
 simp only [okV];(refine zk ?_);cases hq:gat r.us f with
 | none=>rw [hq] at hy;cases hy
 | some i =>
 rw [hq] at hy;cases hy
 obtain ⟨z1,z2,z3⟩:=jo hq;have hil:i<gs.length:=by omega
 all_goals (repeat' (first|refine qg ?_|refine qh rfl ?_|refine qj ?_|(refine qc 4 ?_;refine ZU ?_)|(refine qc 6 ?_;refine mv ?_)))
 (refine qx rfl rfl rfl rfl rfl ((WT t).mono ?_);rintro _ _ ⟨⟨rfl,hn⟩|⟨rfl,hn⟩,rfl⟩)<;>(refine zU ?_)
 rotate_left
 ·all_goals (repeat' (first|refine qg ?_|refine qh rfl ?_|(refine qc 7 ?_;refine qK ?_)))
  refine qC ⟨_,rfl,?_⟩;exact .inr (.inl ⟨by simp,hn,rfl,S.bk vg vt m mp gs q1 q2⟩)
 all_goals (repeat' (first|refine qg ?_|refine qh rfl ?_|refine qj ?_|(refine qc 8 ?_;refine Jc ?_;refine lB S rfl rfl ?_;refine mv ?_)))
 refine lk S (.there (.there (.there .here))) (fun y hy=>?_) (fun hy=>?_);all_goals rw [q2] at hy
 ·simp only [okV];(refine zk ?_);all_goals (repeat' (first|refine qg ?_|refine qh rfl ?_|(refine qc 9 ?_;refine qK ?_)|(refine qc 10 ?_;refine qK ?_)))
  refine qC ⟨_,rfl,?_⟩;refine .inr (.inr (.inl ⟨by simp,hn,fun q=>?_,rfl,S.bk vg vt m mp gs q1 q2⟩));rw [q] at hy;cases hy
 have ht:gat r.us t=none:=by
  cases hq:gat r.us t with
  | none=>rfl
  | some z=>rw [hq] at hy;cases hy
 simp only [okV];(refine zk ?_);all_goals (repeat' (first|refine qg ?_|refine qh rfl ?_|refine qj ?_|(refine qc 9 ?_;refine qK ?_)))
 (repeat (refine qg ?_));refine qc 11 ?_;refine Qz ?_;refine lB S rfl rfl ?_;refine qE ?_;refine qy S rfl rfl ?_;refine fS S rfl rfl ?_;refine zY (y:={ gs.getD (Int.ofNat i).toNat default with name:=t }) S rfl rfl ?_;clear S;intro h S;(refine qf ?_);obtain ⟨gs',hgs'⟩:∃ gs',gs'=gs.set i { gs.getD i default with name:=t }:=⟨_,rfl⟩
 replace S:Hs h0 h (.blk p [vg.val,vt.val,.map (some m)] 86 :: .sl vg.val 24 9 eG gs' :: .sl vt.val 111 3 zh r.ts :: .mp m (.int .i64) mp :: X5 gs :: rs):=by rw [hgs'];exact S
 have hgl':gs'.length=gs.length:=by rw [hgs'];simp
 have hus:gs'.map (·.toGu)=Yl r.us i t:=by
  rw [hgs',List.map_set,q1];unfold Yl;congr 1
  rw [← q1,zf (f:=fun g:Qi=>g.toGu) hil]
 all_goals (repeat' (first|refine qg ?_|refine qi ?_|(refine qc 12 ?_;refine Qz ?_;refine lB S rfl rfl ?_;refine ZJ S rfl rfl ?_;refine qK ?_)))
 replace S:Hs h0 h (.blk p [vg.val,vt.val,.map (some m)] 86 :: .sl vg.val 24 9 eG gs' :: .sl vt.val 111 3 zh (mmT f t r.ts 0) :: .mp m (.int .i64) mp :: X5 gs :: rs):=S;refine qH (σ:=Nat) (fun j h'=>Hs h0 h' (.blk p [vg.val,vt.val,.map (some m)] 86 :: .sl vg.val 24 9 eG gs' :: .sl vt.val 111 3 zh (mmT f t r.ts j) :: .mp m (.int .i64) mp :: X5 gs :: rs)∧j≤r.ts.length) (fun j=>r.ts.length - j) (fun j=>[(0,.pointer (some ⟨p,0,none⟩)),(1,str f),(2,str t),(52,vt.val),(53,.int .i64 r.ts.length),(54,.int .i64 j)]) 0 qo ?_ ?_
 ·exact ⟨S,zB0 _⟩
 clear S;rintro j h ⟨S,k1⟩;have hml:=qcV f t r.ts j k1;all_goals (repeat' (first|refine qg ?_|refine qh rfl ?_|refine qj ?_|refine qw ?_|refine qi ?_|(refine qc 13 ?_;(first|(refine cS ?_ ?_<;>intro hc))<;>(refine qf ?_))))
 ·have hjl:j<r.ts.length:=by omega
  have hmg:=qcW f t r.ts j hjl;have hms:=qcU f t r.ts j hjl;all_goals (repeat' (first|refine qg ?_|(refine qc 14 ?_;refine mv ?_;refine qy S rfl rfl ?_;refine qI S rfl rfl ?_;(refine al S ?_;clear S;intro b h S);refine mv ?_;(first|(refine sB S rfl rfl ?_;clear S;intro h S));refine qf ?_)))
  obtain ⟨b12,hnm⟩:∃ x,x=b:=⟨_,rfl⟩;subst hnm;simp only [zA0,hmg] at S;generalize r.ts.getD j default=tx at S hms
  replace S:Hs h0 h (.blk b12 [str tx.a,str tx.b,.int .u8 tx.k] 111 :: .blk p [vg.val,vt.val,.map (some m)] 86 :: .sl vg.val 24 9 eG gs' :: .sl vt.val 111 3 zh (mmT f t r.ts j) :: .mp m (.int .i64) mp :: X5 gs :: rs):=S;(repeat (refine qg ?_));first|refine QD (σ:=Unit) (fun _ h'=>Hs h0 h' (.blk b12 [str (jb f t tx.a),str tx.b,.int .u8 tx.k] 111 :: .blk p [vg.val,vt.val,.map (some m)] 86 :: .sl vg.val 24 9 eG gs' :: .sl vt.val 111 3 zh (mmT f t r.ts j) :: .mp m (.int .i64) mp :: X5 gs :: rs)) (fun _=>[(0,.pointer (some ⟨p,0,none⟩)),(1,str f),(2,str t),(11,.int .i64 j),(12,.pointer (some ⟨b12,0,none⟩)),(52,vt.val),(53,.int .i64 r.ts.length),(54,.int .i64 j)]) ?_ ?_
  ·all_goals (repeat' (first|refine qh rfl ?_|refine qj ?_|(refine qc 15 ?_;refine vl ?_;refine lB S rfl rfl ?_;refine mv ?_;(refine tS ?_ ?_<;>intro hc)<;>(refine qf ?_))|(refine qc 16 ?_;refine mv ?_;refine vl ?_;(first|(refine sB S rfl rfl ?_;clear S;intro h S));refine qf ?_)))
   ·refine ⟨(),?_,(qo)⟩;rw [hc,xE];exact S
   ·refine ⟨(),?_,(qo)⟩;rw [Xp hc];exact S
  clear S;rintro - h S;(repeat (refine qg ?_));first|refine QD (σ:=Unit) (fun _ h'=>Hs h0 h' (.blk b12 [str (jb f t tx.a),str (jb f t tx.b),.int .u8 tx.k] 111 :: .blk p [vg.val,vt.val,.map (some m)] 86 :: .sl vg.val 24 9 eG gs' :: .sl vt.val 111 3 zh (mmT f t r.ts j) :: .mp m (.int .i64) mp :: X5 gs :: rs)) (fun _=>[(0,.pointer (some ⟨p,0,none⟩)),(1,str f),(2,str t),(11,.int .i64 j),(12,.pointer (some ⟨b12,0,none⟩)),(52,vt.val),(53,.int .i64 r.ts.length),(54,.int .i64 j)]) ?_ ?_
  ·all_goals (repeat' (first|refine qh rfl ?_|refine qj ?_|(refine qc 17 ?_;refine vl ?_;refine lB S rfl rfl ?_;refine mv ?_;(refine tS ?_ ?_<;>intro hc)<;>(refine qf ?_))|(refine qc 18 ?_;refine mv ?_;refine vl ?_;(first|(refine sB S rfl rfl ?_;clear S;intro h S));refine qf ?_)))
   ·refine ⟨(),?_,(qo)⟩;rw [hc,xE];exact S
   ·refine ⟨(),?_,(qo)⟩;rw [Xp hc];exact S
  clear S;rintro - h S;(repeat (refine qg ?_));refine Qu (id:=19) [(4,(0,1))] [some (p)] ?_;refine qp ?_;(first|(refine mv ?_<;>refine qf ⟨⟨by (first|exact True.intro),rfl⟩,?_⟩));refine qp ?_;(first|(refine vl ?_<;>refine qf ⟨⟨by (first|exact True.intro),rfl⟩,?_⟩));refine qp ?_;(first|(refine vl ?_<;>refine qf ⟨⟨by (first|exact True.intro),rfl⟩,?_⟩));refine qp ?_;(first|(refine vl ?_<;>refine qf ⟨⟨by (first|exact True.intro),rfl⟩,?_⟩));refine qp ?_;(first|(refine lB S rfl rfl ?_<;>refine qf ⟨⟨by (first|exact Or.inr rfl),rfl⟩,?_⟩));refine qp ?_;(first|(refine mv ?_<;>refine qf ⟨⟨by (first|exact True.intro),rfl⟩,?_⟩));refine qp ?_;(first|(refine vl ?_<;>refine qf ⟨⟨by (first|exact True.intro),rfl⟩,?_⟩));refine qp ?_;(first|(refine lB S rfl rfl ?_<;>refine qf ⟨⟨by (first|exact True.intro),rfl⟩,?_⟩));refine qp ?_;(first|(refine vl ?_<;>refine qf ⟨⟨by (first|exact True.intro),rfl⟩,?_⟩));refine qp ?_;(first|(refine lB S rfl rfl ?_<;>refine qf ⟨⟨by (first|exact True.intro),rfl⟩,?_⟩));refine qp ?_;(first|(refine vl ?_<;>refine qf ⟨⟨by (first|exact True.intro),rfl⟩,?_⟩));refine qp ?_;(first|(refine lB S rfl rfl ?_<;>refine qf ⟨⟨by (first|exact True.intro),rfl⟩,?_⟩));((refine qp ?_;first|refine qx rfl rfl rfl rfl rfl ((kN S.wf (jb f t tx.a) (jb f t tx.b) tx.k).mono ?_));rintro _ h ⟨rfl,x⟩)<;>((refine qf ⟨⟨True.intro,?_⟩,?_⟩;(focus ((show keepsX _ _ _ _ _;simp only [keepsX];(repeat' (first|exact True.intro|refine And.intro ?_ ?_));all_goals (intro hw;first|exact x.ext.old _ S.bB)))));replace S:=S.qN x;clear x;refine qp ?_;(first|(refine qy S rfl rfl ?_<;>refine qf ⟨⟨by (first|exact True.intro),rfl⟩,?_⟩));refine qp ?_;(first|((refine zY S rfl rfl ?_;have S0:=S;clear S;intro h S);refine qf ⟨⟨True.intro,?_⟩,?_⟩;(focus ((show keepsX _ _ _ _ _;simp only [keepsX];(repeat' (first|exact True.intro|refine And.intro ?_ ?_));all_goals (intro hw;first|exact (S.gB).trans (S0.gB).symm))));clear S0));refine QL ?_)
  simp only [zA0] at S;all_goals (repeat' (first|(refine qc 20 ?_;refine jR ?_)))
  refine ⟨j+1,?_,?_,qo⟩
  ·show r.ts.length - (j+1)<r.ts.length - j;omega
  ·refine ⟨?_,by omega⟩;(try dsimp only);rw [← hms];exact S.tail
 ·obtain rfl:j=r.ts.length:=by omega
  have em:mmT f t r.ts r.ts.length=r.ts.map (Q8 f t):=by unfold mmT;simp
  rw [em] at S;all_goals (repeat' (first|(refine qc 21 ?_;refine Qz ?_;refine lB S rfl rfl ?_)))
  have S:=(show Hs h0 h (.sl vt.val 111 3 zh (r.ts.map (Q8 f t)) :: .blk p [vg.val,vt.val,.map (some m)] 86 :: .sl vg.val 24 9 eG gs' :: .mp m (.int .i64) mp :: X5 gs :: rs) from S.pick)
  have hlr:(r.ts.map (Q8 f t)).length<260:=by rw [zC5];omega
  (refine qx rfl rfl rfl rfl rfl ((qeb S hlr).mono ?_);rintro _ h ⟨ts',s1,s2,S⟩)<;>(refine qf ?_)
  all_goals (repeat' (first|refine qg ?_|(refine qc 22 ?_;refine mv ?_)))
  have S:=(show Hs h0 h (.mp m (.int .i64) mp :: .blk p [vg.val,vt.val,.map (some m)] 86 :: .sl vg.val 24 9 eG gs' :: .sl vt.val 111 3 zh ts' :: X5 gs :: rs) from S.pick)
  have hnd:∀ a b,a<b→b<gs'.length→(gs'.getD a default).name≠(gs'.getD b default).name:=fun a b hab hb=>by
   have g:∀ k,k<gs'.length→(gs'.getD k default).name=((Yl r.us i t).getD k default).name:=fun k hk=>by rw [← hus,zf (f:=fun g:Qi=>g.toGu) hk]
   rw [g a (by omega),g b hb];exact kK H z1 ht a b hab (by rw [Jm];omega)
  have hl64:gs'.length≤64:=by omega
  (refine qx rfl rfl rfl rfl rfl ((GK S hl64 hnd).mono ?_);rintro _ h ⟨mp',a1,S⟩)<;>(refine qf ?_)
  all_goals (repeat' (first|refine qg ?_|(refine qc 23 ?_;refine qK ?_)))
  refine qC ⟨_,rfl,?_⟩;have sp:=s1.perm;have R:Ren r ⟨Yl r.us i t,ts'⟩ i t:=by
   refine ⟨rfl,by rw [z2];exact sp,?_⟩;refine qf0 (by rw [sp.length_eq];exact s2) ?_;exact (sp.map _).nodup_iff.2 (vX H ht)
  rw [hus] at a1;have S:=(show Hs h0 h (X5 gs :: .mp m (.int .i64) mp' :: .blk p [vg.val,vt.val,.map (some m)] 86 :: .sl vg.val 24 9 eG gs' :: .sl vt.val 111 3 zh ts' :: rs) from S.pick)
  have S:=S.qe6 (t:=t) hil;rw [← hgs'] at S;exact .inr (.inr (.inr ⟨i,_,rfl,hn,ht,R,rfl,S.bk (r:=⟨Yl r.us i t,ts'⟩) vg vt m mp' gs' hus a1⟩))
end Go.Proofs.Xx
namespace Go.Proofs.Xx
open Go Go.Proofs
def e16 (x:Nat):List Value:=[.int .u16 x]
def MdG (g:Gu) (i:Nat):Prop:=g.name=num (25*i)∧YW g.rank∧YW g.court∧YW g.diet∧(0≤g.since∧g.since≤9999)∧(0≤g.side∧g.side≤2)
def MdT (l:List (List UInt8)) (k:Nat):Prop:=l.length≤k∧(∀ j,j<l.length→∃ m,m<k∧l.getD j default=num m)∧∀ j,j+1<l.length→zG (l.getD j default) (l.getD (j+1) default)
theorem MdT.next {l:List (List UInt8)} {k:Nat} (h:MdT l k):MdT l (k+1):=⟨by have:=h.1;omega,fun j hj=>by obtain ⟨m,h1,h2⟩:=h.2.1 j hj;exact ⟨m,by omega,h2⟩,h.2.2⟩
theorem MdT.app {l:List (List UInt8)} {k:Nat} (h:MdT l k) (hk:k<4):MdT (l ++ [num k]) (k+1):=by
 refine ⟨by simp;exact h.1,fun j hj=>?_,fun j hj=>?_⟩
 ·simp at hj;rcases zA7 j l.length with q|q
  ·rw [Ym q];exact h.next.2.1 j q
  ·obtain rfl:j=l.length:=by omega
   rw [KF (zA3 _),zG7];exact ⟨k,by omega,rfl⟩
 ·simp at hj;rw [Ym (show j<l.length by omega)];rcases zA7 (j+1) l.length with q|q
  ·rw [Ym q];exact h.2.2 j q
  ·rw [KF q,show j+1 - l.length=0 by omega];obtain ⟨m,h1,h2⟩:=h.2.1 j (by omega);rw [h2];exact (xQ (by omega) (by omega)).2 h1
abbrev MdR (q q4:Nat) (gs:List Qi) (vg:SlV):List Rs:=[X5 gs,.sl vg.val 24 9 eG gs,.blk q [vg.val,.slice none 0 0] 32,.blk q4 [.slice none 0 0,.slice none 0 0] 32]
abbrev MdI (h0:AH) (q q4:Nat) (la:List Nat) (gs:List Qi) (vg:SlV) (h:AH):Prop:=Hs h0 h (MdR q q4 gs vg)∧gs.length≤12∧gs.length≤la.length∧∀ i,i<gs.length→MdG (gs.getD i default).toGu i∧MdT (gs.getD i default).tg 4
abbrev MdJ (h0:AH) (q q4:Nat) (gs:List Qi) (vg:SlV) (k:Nat) (b:Nat) (g:Qi) (h:AH):Prop:=Hs h0 h (.blk b (eG g) 24 :: .sl g.tv.val 9 1 eS g.tg :: MdR q q4 gs vg)∧MdG g.toGu gs.length∧MdT g.tg k
def TI (us:List Gu) (ts:List Ti) (i k:Nat):Prop:=TS ts∧(∀ t∈ts,zG t.a t.b∧(t.k=1∨t.k=2)∧gat us t.a≠none∧gat us t.b≠none)∧(∀ t∈ts,zG t.a (num i)∨(t.a=num i∧zG t.b (num k)))∧ts.length≤13*((i+24) / 25)+(if i % 25=0 then (k+24) / 25 else 0)
def TIo (us:List Gu) (ts:List Ti) (i:Nat):Prop:=TS ts∧(∀ t∈ts,zG t.a t.b∧(t.k=1∨t.k=2)∧gat us t.a≠none∧gat us t.b≠none)∧(∀ t∈ts,zG t.a (num i))∧ts.length≤13*((i+24) / 25)
theorem TI.out {us:List Gu} {ts:List Ti} {i k:Nat} (h:TI us ts i k) (hi:i<312) (hk:k≤312):TIo us ts (i+1):=by
 refine ⟨h.1,h.2.1,fun t ht=>?_,?_⟩
 ·have:=(xQ (i:=i) (j:=i+1) (by omega) (by omega)).2 (by omega);rcases h.2.2.1 t ht with q|q
  ·exact jv q this
  ·rw [q.1];exact this
 ·have:=h.2.2.2;split at this<;>omega
theorem TI.next {us:List Gu} {ts:List Ti} {i k:Nat} (h:TI us ts i k) (hk:k<312):TI us ts i (k+1):=by
 refine ⟨h.1,h.2.1,fun t ht=>?_,?_⟩
 ·rcases h.2.2.1 t ht with q|q
  ·exact .inl q
  ·exact .inr ⟨q.1,jv q.2 ((xQ (by omega) (by omega)).2 (by omega))⟩
 ·have:=h.2.2.2;split at this<;>split<;>omega
theorem TI.app {us:List Gu} {ts:List Ti} {i k:Nat} {z:Int} (h:TI us ts i k) (hik:i<k) (hk:k<312) (hz:z=1∨z=2) (hi2:i % 25=0) (hk2:k % 25=0) (g1:gat us (num i)≠none) (g2:gat us (num k)≠none):TI us (ts ++ [⟨num i,num k,z⟩]) i (k+1):=by
 refine ⟨h.1.app fun j hj=>?_,fun t ht=>?_,fun t ht=>?_,?_⟩
 ·exact h.2.2.1 _ (qM hj)
 ·rcases zB8.1 ht with q|q
  ·exact h.2.1 t q
  ·obtain rfl:=zB5.1 q;exact ⟨(xQ (by omega) (by omega)).2 hik,hz,g1,g2⟩
 ·rcases zB8.1 ht with q|q
  ·exact (h.next hk).2.2.1 t q
  ·obtain rfl:=zB5.1 q;exact .inr ⟨rfl,(xQ (by omega) (by omega)).2 (by omega)⟩
 ·have:=h.2.2.2;rw [if_pos hi2] at this ⊢;simp;omega
abbrev MdQ (q q4:Nat) (gs:List Qi) (vg:SlV) (ts:List Ti) (vt:SlV):List Rs:=[.sl vg.val 24 9 eG gs,.blk q4 [.slice none 0 0,.slice none 0 0] 32,X5 gs,.blk q [vg.val,vt.val] 32,.sl vt.val 111 3 zh ts]
variable [Flag]
end Go.Proofs.Xx
