/-
  Sorting by a key,in place: merging.
-/
import Derived.Test.YtnopenpheaihmaaGreatDoorM9
import Derived.Test.YtnopenpheaihmaaGreatDoorM8
import Derived.Test.YtnopenpheaihmaaGreatDoorM11
import Derived.Test.YtnopenpheaihmaaGreatDoorM10
namespace Go.Proofs.Xx
open Go Go.Proofs
set_option linter.unusedSimpArgs false
set_option linter.unusedVariables false
set_option maxRecDepth 100000
theorem Vf (i j:Nat):((i:Int)+(j:Int)) / 2=(((i+j) / 2:Nat):Int):=by omega
theorem IsRot.none {a b:Nat} {l:List Int}:IsRot a b b l l:=fun k=>by
 congr 1;unfold rot;split
 ·rfl
 ·split
  ·omega
  ·split
   ·omega
   ·rfl
theorem IsRot.qg1 {a b:Nat} {l:List Int}:IsRot a a b l l:=fun k=>by
 congr 1;unfold rot;split
 ·rfl
 ·split
  ·omega
  ·split
   ·omega
   ·rfl
set_option maxHeartbeats 2000000 in
theorem qeK {h0:AH} {v:Value} {g:Nat} {cap:List Value} {key:Int→Int} {p:Int→Prop} (C:qaC h0 g cap key p):∀ (n:Nat) {h:AH} {rs:List Rs} {l:List Int} (a m b:Nat) (S:Hs h0 h (.sl v 3 1 eI l :: rs)) (hn:b - a≤n) (hp:∀ k,a≤k→k<b→p (l.getD k default)) (hab:a<m∧m<b) (hb:b≤l.length) (hl:l.length≤1000000) (M:Mrg key a m b l),
 Fn Tryz.prog Xh 179 [v,.int .i64 a,.int .i64 m,.int .i64 b,QR g cap] h (fun _ h'=>∃ l',Sw a b l l'∧Srt (zQ key) a b l'∧Hs h0 h' (.sl v 3 1 eI l' :: rs)):=by
 have W:=Zo key
 intro n
 induction n with
 | zero=>intro h rs l a m b S hn hp hab;omega
 | succ n ih =>
 intro h rs l a m b S hn hp hab hb hl M
 refine qF rfl Tryz.func179 rfl rfl ?_
 all_goals (repeat' (first|refine qi ?_|refine ql rfl ?_|refine qo ?_|refine qm ?_|(refine qf 0 ?_;refine mv ?_;refine mv ?_;refine sb ?_;(first|(refine cS ?_ ?_<;>intro hc))<;>(refine qg ?_))|(refine qf 1 ?_;refine mv ?_;refine mv ?_;refine qg ?_)|(refine qf 2 ?_;refine mv ?_;refine mv ?_;refine qg ?_)|(refine qf 12 ?_;refine mv ?_;refine mv ?_;refine sb ?_;(first|(refine cS ?_ ?_<;>intro hc))<;>(refine qg ?_))|(refine qf 13 ?_;refine mv ?_;refine mv ?_;refine qg ?_)|(refine qf 14 ?_;refine mv ?_;refine mv ?_;refine qg ?_)))
 ·obtain rfl:m=a+1:=by omega
  refine qE (σ:=Nat×Nat) (fun (i,j) h'=>Hs h0 h' (.sl v 3 1 eI l :: rs)∧(a+1≤i∧i≤j∧j≤b)∧(∀ k,a+1≤k→k<i→zQ key (l.getD k default) (l.getD a default))∧∀ k,j≤k→k<b→¬ zQ key (l.getD k default) (l.getD a default)) (fun (i,j)=>j - i) (fun (i,j)=>[(0,v),(1,.int .i64 a),(2,.int .i64 (a+1:Nat)),(3,.int .i64 b),(4,QR g cap),(10,.int .i64 i),(11,.int .i64 j)]) (a+1,b) (by repeat (first|exact Ks.le_nil _|refine Ks.qh rfl ?_)) ?_ ?_
  ·exact ⟨S,by omega,fun k q1 q2=>by omega,fun k q1 q2=>by omega⟩
  clear S
  rintro ⟨i,j⟩ h ⟨S,h1,h2,h3⟩
  all_goals (repeat' (first|refine qi ?_|refine ql rfl ?_|refine qo ?_|refine qA ?_|refine qm ?_|(refine qf 3 ?_;refine mv ?_;refine mv ?_;(first|(refine cS ?_ ?_<;>intro hc))<;>(refine qg ?_))|(refine qf 4 ?_;refine mv ?_;refine mv ?_;refine ad ?_;refine cW ?_;refine sR1 ?_;refine cI ?_;refine mv ?_;refine qg ?_)|(refine qO 5 ?_;(iterate 3 refine mv ?_);refine qH S rfl rfl ?_;refine qI S rfl rfl ?_;refine mv ?_;refine mv ?_;refine qH S rfl rfl ?_;refine qI S rfl rfl ?_)|(refine qf 8 ?_;refine mv ?_;refine mv ?_;refine qg ?_)))
  ·have hc:=Vf i j
   obtain ⟨c,hcc⟩:∃ c,c=(i+j) / 2:=⟨_,rfl⟩
   rw [← hcc] at hc
   simp only [hc,Int.toNat_natCast]
   (refine qN rfl rfl rfl rfl ((C _ _ _ S.ext (hp c (by omega) (by omega)) (hp a (by omega) (by omega))).mono ?_);rintro _ h ⟨d,rfl,hd,x⟩)<;>(replace S:=S.qy x;clear x;have hd:=hd.trans (Vd (M.cr a c (by omega) (by omega) (by omega) (by omega))).symm;(first|(refine cS ?_ ?_<;>intro hc))<;>(refine qg ?_))
   all_goals (repeat' (first|refine ql rfl ?_|(refine qf 6 ?_;refine mv ?_;refine ad ?_;refine mv ?_;refine qg ?_)|(refine qf 7 ?_;refine mv ?_;refine mv ?_;refine qg ?_)))
   ·refine ⟨(c+1,j),?_,?_,(by repeat (first|exact Ks.le_nil _|refine Ks.qh rfl ?_))⟩
    ·show j - (c+1)<j - i;omega
    ·refine ⟨S,by omega,fun k q1 q2=>?_,h3⟩
     have hcl:=hd.1 (by assumption)
     rcases Nat.lt_or_ge k c with q|q
     ·rcases Classical.em (zQ key (l.getD k default) (l.getD a default)) with q3|q3
      ·exact q3
      ·exact absurd hcl (W.ntr q3 (M.sr k c (by omega) q (by omega)))
     ·obtain rfl:k=c:=by omega
      exact hcl
   ·refine ⟨(i,c),?_,?_,(by repeat (first|exact Ks.le_nil _|refine Ks.qh rfl ?_))⟩
    ·show c - i<j - i;omega
    ·refine ⟨S,by omega,h2,fun k q1 q2=>?_⟩
     have hcl:¬ zQ key (l.getD c default) (l.getD a default):=fun q=>absurd (hd.2 q) (by assumption)
     rcases Nat.lt_or_ge c k with q|q
     ·exact W.ntr hcl (M.sr c k (by omega) q (by omega))
     ·obtain rfl:k=c:=by omega
      exact hcl
  ·obtain rfl:i=j:=by omega
   refine qE (σ:=Nat×List Int) (fun (k,c) h'=>Hs h0 h' (.sl v 3 1 eI c :: rs)∧(a≤k∧k≤i - 1)∧Sw a b l c∧IsUp a k l c) (fun (k,c)=>i - k) (fun (k,c)=>[(0,v),(1,.int .i64 a),(2,.int .i64 (a+1:Nat)),(3,.int .i64 b),(4,QR g cap),(10,.int .i64 i),(13,.int .i64 k)]) (a,l) (by repeat (first|exact Ks.le_nil _|refine Ks.qh rfl ?_)) ?_ ?_
   ·exact ⟨S,by omega,.refl _,.start⟩
   clear S
   rintro ⟨k,c⟩ h ⟨S,k1,k2,k3⟩
   have hcl:=k2.len
   all_goals (repeat' (first|refine qi ?_|refine ql rfl ?_|refine qo ?_|refine qA ?_|refine qm ?_|(refine qf 9 ?_;refine mv ?_;refine mv ?_;refine sb ?_;(first|(refine cS ?_ ?_<;>intro hc))<;>(refine qg ?_))|(refine qf 10 ?_;refine mv ?_;refine ad ?_;refine mv ?_;refine qg ?_)|(refine qO 11 ?_;(iterate 4 refine mv ?_);refine ad ?_;refine mv ?_;refine mv ?_;refine ad ?_;refine qH S rfl rfl ?_;refine qI S rfl rfl ?_;refine mv ?_;refine mv ?_;refine qH S rfl rfl ?_;refine qI S rfl rfl ?_;refine qH S rfl rfl ?_;(first|(refine ZK S rfl rfl ?_;clear S;intro h S));refine qH S rfl rfl ?_;(first|(refine ZK S rfl rfl ?_;clear S;intro h S));refine qg ?_)))
   ·simp only [qX,Int.toNat_natCast] at S
    refine ⟨(k+1,swp c k (k+1)),?_,?_,(by repeat (first|exact Ks.le_nil _|refine Ks.qh rfl ?_))⟩
    ·show i - (k+1)<i - k;omega
    ·exact ⟨S,by omega,k2.step _ _ ⟨by omega,by omega⟩ ⟨by omega,by omega⟩ (by omega),k3.next (by omega) (by omega)⟩
   ·obtain rfl:k=i - 1:=by omega
    refine qx ⟨_,rfl,?_⟩
    exact ⟨c,k2,M.up (by omega) h2 h3 k3,S⟩
 ·obtain rfl:b=m+1:=by omega
  refine qE (σ:=Nat×Nat) (fun (i,j) h'=>Hs h0 h' (.sl v 3 1 eI l :: rs)∧(a≤i∧i≤j∧j≤m)∧(∀ k,a≤k→k<i→¬ zQ key (l.getD m default) (l.getD k default))∧∀ k,j≤k→k<m→zQ key (l.getD m default) (l.getD k default)) (fun (i,j)=>j - i) (fun (i,j)=>[(0,v),(1,.int .i64 a),(2,.int .i64 m),(3,.int .i64 (m+1:Nat)),(4,QR g cap),(14,.int .i64 i),(15,.int .i64 j)]) (a,m) (by repeat (first|exact Ks.le_nil _|refine Ks.qh rfl ?_)) ?_ ?_
  ·exact ⟨S,by omega,fun k q1 q2=>by omega,fun k q1 q2=>by omega⟩
  clear S
  rintro ⟨i,j⟩ h ⟨S,h1,h2,h3⟩
  all_goals (repeat' (first|refine qi ?_|refine ql rfl ?_|refine qo ?_|refine qA ?_|refine qm ?_|(refine qf 15 ?_;refine mv ?_;refine mv ?_;(first|(refine cS ?_ ?_<;>intro hc))<;>(refine qg ?_))|(refine qf 16 ?_;refine mv ?_;refine mv ?_;refine ad ?_;refine cW ?_;refine sR1 ?_;refine cI ?_;refine mv ?_;refine qg ?_)|(refine qO 17 ?_;(iterate 3 refine mv ?_);refine qH S rfl rfl ?_;refine qI S rfl rfl ?_;refine mv ?_;refine mv ?_;refine qH S rfl rfl ?_;refine qI S rfl rfl ?_)|(refine qf 20 ?_;refine mv ?_;refine mv ?_;refine qg ?_)))
  ·have hc:=Vf i j
   obtain ⟨c,hcc⟩:∃ c,c=(i+j) / 2:=⟨_,rfl⟩
   rw [← hcc] at hc
   simp only [hc,Int.toNat_natCast]
   (refine qN rfl rfl rfl rfl ((C _ _ _ S.ext (hp m (by omega) (by omega)) (hp c (by omega) (by omega))).mono ?_);rintro _ h ⟨d,rfl,hd,x⟩)<;>(replace S:=S.qy x;clear x;have hd:=hd.trans (Vd (M.cr c m (by omega) (by omega) (by omega) (by omega))).symm;(first|(refine cS ?_ ?_<;>intro hc))<;>(refine vl ?_;refine qg ?_))
   all_goals (repeat' (first|refine ql rfl ?_|(refine qf 18 ?_;refine mv ?_;refine ad ?_;refine mv ?_;refine qg ?_)|(refine qf 19 ?_;refine mv ?_;refine mv ?_;refine qg ?_)))
   ·refine ⟨(i,c),?_,?_,(by repeat (first|exact Ks.le_nil _|refine Ks.qh rfl ?_))⟩
    ·show c - i<j - i;omega
    ·refine ⟨S,by omega,h2,fun k q1 q2=>?_⟩
     have hcl:=hd.1 (by assumption)
     rcases Nat.lt_or_ge c k with q|q
     ·rcases Classical.em (zQ key (l.getD m default) (l.getD k default)) with q3|q3
      ·exact q3
      ·exact absurd hcl (W.ntr (M.sl c k (by omega) q (by omega)) q3)
     ·obtain rfl:k=c:=by omega
      exact hcl
   ·refine ⟨(c+1,j),?_,?_,(by repeat (first|exact Ks.le_nil _|refine Ks.qh rfl ?_))⟩
    ·show j - (c+1)<j - i;omega
    ·refine ⟨S,by omega,fun k q1 q2=>?_,h3⟩
     have hcl:¬ zQ key (l.getD m default) (l.getD c default):=fun q=>absurd (hd.2 q) (by assumption)
     rcases Nat.lt_or_ge k c with q|q
     ·exact W.ntr (M.sl k c (by omega) q (by omega)) hcl
     ·obtain rfl:k=c:=by omega
      exact hcl
  ·obtain rfl:i=j:=by omega
   refine qE (σ:=Nat×List Int) (fun (k,c) h'=>Hs h0 h' (.sl v 3 1 eI c :: rs)∧(i≤k∧k≤m)∧Sw a (m+1) l c∧IsDown m k l c) (fun (k,c)=>k) (fun (k,c)=>[(0,v),(1,.int .i64 a),(2,.int .i64 m),(3,.int .i64 (m+1:Nat)),(4,QR g cap),(14,.int .i64 i),(17,.int .i64 k)]) (m,l) (by repeat (first|exact Ks.le_nil _|refine Ks.qh rfl ?_)) ?_ ?_
   ·exact ⟨S,by omega,.refl _,.start⟩
   clear S
   rintro ⟨k,c⟩ h ⟨S,k1,k2,k3⟩
   have hcl:=k2.len
   all_goals (repeat' (first|refine qi ?_|refine ql rfl ?_|refine qo ?_|refine qA ?_|refine qm ?_|(refine qf 21 ?_;refine mv ?_;refine mv ?_;(first|(refine cS ?_ ?_<;>intro hc))<;>(refine qg ?_))|(refine qf 22 ?_;refine mv ?_;refine sb ?_;refine mv ?_;refine qg ?_)|(refine qO 23 ?_;(iterate 4 refine mv ?_);refine sb ?_;refine mv ?_;refine mv ?_;refine sb ?_;refine qH S rfl rfl ?_;refine qI S rfl rfl ?_;refine mv ?_;refine mv ?_;refine qH S rfl rfl ?_;refine qI S rfl rfl ?_;refine qH S rfl rfl ?_;(first|(refine ZK S rfl rfl ?_;clear S;intro h S));refine qH S rfl rfl ?_;(first|(refine ZK S rfl rfl ?_;clear S;intro h S));refine qg ?_)))
   ·simp only [qP,Int.toNat_natCast] at S
    refine ⟨(k - 1,swp c k (k - 1)),?_,?_,(by repeat (first|exact Ks.le_nil _|refine Ks.qh rfl ?_|refine Ks.zf ?_))⟩
    ·show k - 1<k;omega
    ·exact ⟨S,by omega,k2.step _ _ ⟨by omega,by omega⟩ ⟨by omega,by omega⟩ (by omega),k3.next (by omega) (by omega)⟩
   ·obtain rfl:k=i:=by omega
    refine qx ⟨_,rfl,?_⟩
    exact ⟨c,k2,M.down (by omega) h2 h3 k3,S⟩
 ·obtain ⟨mid,hmid⟩:∃ mid,mid=(a+b) / 2:=⟨_,rfl⟩
  have hc:=Vf a b
  rw [← hmid] at hc
  (repeat (refine qi ?_));refine qf 24 ?_;refine mv ?_;refine mv ?_;refine ad ?_;refine cW ?_;refine sR1 ?_;refine cI ?_;refine mv ?_;refine qg ?_
  simp only [hc]
  (repeat (refine qi ?_));refine qf 25 ?_;refine mv ?_;refine mv ?_;refine ad ?_;refine mv ?_;refine qg ?_
  (repeat (refine qi ?_));refine qf 26 ?_;refine mv ?_;refine mv ?_;refine qg ?_
  refine QG (σ:=Nat×Nat) (fun (s,r) h'=>Hs h0 h' (.sl v 3 1 eI l :: rs)∧s=(if m > mid then mid+m - b else a)∧r=(if m > mid then mid else m)) (fun (s,r)=>[(0,v),(1,.int .i64 a),(2,.int .i64 m),(3,.int .i64 b),(4,QR g cap),(18,.int .i64 mid),(19,.int .i64 (mid+m:Nat)),(20,.int .i64 s),(21,.int .i64 r)]) ?_ ?_
  ·all_goals (repeat' (first|refine qi ?_|refine ql rfl ?_|(refine qf 27 ?_;refine mv ?_;refine mv ?_;(first|(refine cS ?_ ?_<;>intro hc))<;>(refine qg ?_))|(refine qf 28 ?_;refine mv ?_;refine mv ?_;refine sb ?_;refine mv ?_;refine qg ?_)|(refine qf 29 ?_;refine mv ?_;refine mv ?_;refine qg ?_)|(refine qf 30 ?_;refine mv ?_;refine mv ?_;refine qg ?_)|(refine qf 31 ?_;refine mv ?_;refine mv ?_;refine qg ?_)))
   ·refine ⟨(mid+m - b,mid),⟨S,?_,?_⟩,((by repeat (first|exact Ks.le_nil _|refine Ks.qh rfl ?_|refine Ks.zf ?_)))⟩<;>(show _=ite _ _ _;rw [if_pos (by omega)])
   ·refine ⟨(a,m),⟨S,?_,?_⟩,((by repeat (first|exact Ks.le_nil _|refine Ks.qh rfl ?_)))⟩<;>(show _=ite _ _ _;rw [if_neg (by omega)])
  clear S
  rintro ⟨s0,r0⟩ h ⟨S,hs0,hr0⟩
  have hsr:s0≤r0∧a≤s0∧r0≤m∧r0≤mid∧mid+m≤s0+b:=by
   split at hs0<;>split at hr0<;>omega
  skip
  all_goals (repeat' (first|refine qi ?_|refine qm ?_|(refine qf 32 ?_;refine mv ?_;refine sb ?_;refine mv ?_;refine qg ?_)))
  refine qE (σ:=Nat×Nat) (fun (s,r) h'=>Hs h0 h' (.sl v 3 1 eI l :: rs)∧SrI key a m b mid s r l) (fun (s,r)=>r - s) (fun (s,r)=>[(0,v),(1,.int .i64 a),(2,.int .i64 m),(3,.int .i64 b),(4,QR g cap),(18,.int .i64 mid),(19,.int .i64 (mid+m:Nat)),(20,.int .i64 s),(21,.int .i64 r),(22,.int .i64 (mid+m - 1:Nat))]) (s0,r0) (by repeat (first|exact Ks.le_nil _|refine Ks.qh rfl ?_|refine Ks.zf ?_)) ?_ ?_
  ·exact ⟨S,by show ite _ _ _≤s0;rw [← hs0];exact Nat.le_refl _,hsr.1,by show r0≤ite _ _ _;rw [← hr0];exact Nat.le_refl _,by show ite _ _ _<s0→_;rw [← hs0];omega,by show r0<ite _ _ _→_;rw [← hr0];omega⟩
  clear S
  rintro ⟨s,r⟩ h ⟨S,I⟩
  have i1:=I.lo
  have i2:=I.hi
  have i3:=I.sr
  rw [← hs0] at i1
  rw [← hr0] at i2
  all_goals (repeat' (first|refine qi ?_|refine ql rfl ?_|refine qo ?_|refine qA ?_|refine qm ?_|(refine qf 33 ?_;refine mv ?_;refine mv ?_;(first|(refine cS ?_ ?_<;>intro hc))<;>(refine qg ?_))|(refine qf 34 ?_;refine mv ?_;refine mv ?_;refine ad ?_;refine cW ?_;refine sR1 ?_;refine cI ?_;refine mv ?_;refine qg ?_)|(refine qO 35 ?_;(iterate 4 refine mv ?_);refine sb ?_;refine qH S rfl rfl ?_;refine qI S rfl rfl ?_;refine mv ?_;refine mv ?_;refine qH S rfl rfl ?_;refine qI S rfl rfl ?_)))
  ·have hc:=Vf s r
   obtain ⟨c,hcc⟩:∃ c,c=(s+r) / 2:=⟨_,rfl⟩
   rw [← hcc] at hc
   have e1:(((mid+m - 1:Nat):Int) - (c:Int)).toNat=mid+m - 1 - c:=by omega
   simp only [hc,e1,Int.toNat_natCast]
   (refine qN rfl rfl rfl rfl ((C _ _ _ S.ext (hp (mid+m - 1 - c) (by omega) (by omega)) (hp c (by omega) (by omega))).mono ?_);rintro _ h ⟨d,rfl,hd,x⟩)<;>(replace S:=S.qy x;clear x;have hd:=hd.trans (Vd (M.cr c (mid+m - 1 - c) (by omega) (by omega) (by omega) (by omega))).symm;(first|(refine cS ?_ ?_<;>intro hc))<;>(refine vl ?_;refine qg ?_))
   all_goals (repeat' (first|refine ql rfl ?_|(refine qf 36 ?_;refine mv ?_;refine ad ?_;refine mv ?_;refine qg ?_)|(refine qf 37 ?_;refine mv ?_;refine mv ?_;refine qg ?_)))
   ·refine ⟨(s,c),?_,?_,(by repeat (first|exact Ks.le_nil _|refine Ks.qh rfl ?_))⟩
    ·show c - s<r - s;omega
    ·exact ⟨S,I.lo,by omega,by have:=I.hi;omega,I.low,fun _=>hd.1 (by assumption)⟩
   ·refine ⟨(c+1,r),?_,?_,(by repeat (first|exact Ks.le_nil _|refine Ks.qh rfl ?_))⟩
    ·show r - (c+1)<r - s;omega
    ·refine ⟨S,by have:=I.lo;omega,by omega,I.hi,fun _=>?_,I.high⟩
     rw [show mid+m - (c+1)=mid+m - 1 - c by omega,Nat.add_sub_cancel]
     exact fun q=>absurd (hd.2 q) (by assumption)
  ·obtain rfl:s=r:=by omega
   (repeat (refine qi ?_));refine qf 38 ?_;refine mv ?_;refine mv ?_;refine sb ?_;refine mv ?_;refine qg ?_
   refine QG (σ:=List Int) (fun l2 h'=>Hs h0 h' (.sl v 3 1 eI l2 :: rs)∧Sw a b l l2∧IsRot s m (mid+m - s) l l2) (fun l2=>[(0,v),(1,.int .i64 a),(2,.int .i64 m),(3,.int .i64 b),(4,QR g cap),(18,.int .i64 mid),(19,.int .i64 (mid+m:Nat)),(20,.int .i64 s),(24,.int .i64 (mid+m - s:Nat))]) ?_ ?_
   ·all_goals (repeat' (first|refine qi ?_|refine ql rfl ?_|refine qo ?_|(refine qf 39 ?_;refine mv ?_;refine mv ?_;(first|(refine cS ?_ ?_<;>intro hc))<;>(refine mv ?_;(first|refine off ?_|refine mv ?_);(first|refine off ?_|refine mv ?_);(first|refine off ?_|(first|(refine cS ?_ ?_<;>intro hc)))<;>(refine vl ?_;refine qg ?_)))))
    ·have e1:((mid+m:Nat):Int) - (s:Int)=((mid+m - s:Nat):Int):=by omega
     refine qf 40 ?_
     ((iterate 5 refine mv ?_);skip)
     simp only [e1]
     (refine qw rfl rfl rfl rfl rfl ((qf3 s m (mid+m - s) S (by omega) (by omega) (by omega)).mono ?_);rintro _ h ⟨l2,g1,g2,S2⟩)<;>(replace S:=S2;clear S2;refine qg ?_)
     all_goals (repeat' (fail))
     exact ⟨l2,⟨S,g1.mono (by omega) (by omega) hb,g2⟩,((by repeat (first|exact Ks.le_nil _|refine Ks.qh rfl ?_)))⟩
    ·refine ⟨l,⟨S,.refl _,?_⟩,((by repeat (first|exact Ks.le_nil _|refine Ks.qh rfl ?_|refine Ks.zf ?_)))⟩
     obtain e:mid+m - s=m:=by omega
     rw [e];exact .none
    ·refine ⟨l,⟨S,.refl _,?_⟩,((by repeat (first|exact Ks.le_nil _|refine Ks.qh rfl ?_|refine Ks.zf ?_)))⟩
     obtain e:s=m:=by omega
     rw [e];exact .qg1
   clear S
   rintro l2 h ⟨S,g1,g2⟩
   obtain ⟨z1,M1,M2,z2⟩:=M.search hmid hab I g2
   have hl2:=g1.len
   have hp2:=g1.all hp
   skip
   refine QG (σ:=List Int) (fun l3 h'=>Hs h0 h' (.sl v 3 1 eI l3 :: rs)∧Sw a mid l2 l3∧Srt (zQ key) a mid l3) (fun l3=>[(0,v),(1,.int .i64 a),(2,.int .i64 m),(3,.int .i64 b),(4,QR g cap),(18,.int .i64 mid),(24,.int .i64 (mid+m - s:Nat))]) ?_ ?_
   ·all_goals (repeat' (first|refine qi ?_|refine ql rfl ?_|refine qo ?_|(refine qf 41 ?_;refine mv ?_;refine mv ?_;(first|(refine cS ?_ ?_<;>intro hc))<;>(refine mv ?_;(first|refine off ?_|refine mv ?_);(first|refine off ?_|refine mv ?_);(first|refine off ?_|(first|(refine cS ?_ ?_<;>intro hc)))<;>(refine vl ?_;refine qg ?_)))))
    ·refine qf 42 ?_
     ((iterate 5 refine mv ?_);skip)
     (refine qw rfl rfl rfl rfl rfl ((ih a s mid S (by omega) (fun k q1 q2=>hp2 k q1 (by omega)) (by omega) (by omega) (by omega) M1).mono ?_);rintro _ h ⟨l3,g3,g4,S2⟩)<;>(replace S:=S2;clear S2;refine qg ?_)
     all_goals (repeat' (fail))
     exact ⟨l3,⟨S,g3,g4⟩,((by repeat (first|exact Ks.le_nil _|refine Ks.qh rfl ?_)))⟩
    ·refine ⟨l2,⟨S,.refl _,?_⟩,((by repeat (first|exact Ks.le_nil _|refine Ks.qh rfl ?_)))⟩
     obtain e:s=mid:=by omega
     rw [e] at M1;exact M1.sl
    ·refine ⟨l2,⟨S,.refl _,?_⟩,((by repeat (first|exact Ks.le_nil _|refine Ks.qh rfl ?_)))⟩
     obtain e:s=a:=by omega
     rw [e] at M1;exact M1.sr
   clear S
   rintro l3 h ⟨S,g3,g4⟩
   have hl3:=g3.len
   have M3:=M2.qds g3 (by omega)
   have g13:=g1.trans (g3.mono (by omega) (by omega) (by omega))
   have hp3:=g13.all hp
   skip
   all_goals (repeat' (first|refine qi ?_|refine ql rfl ?_|refine qo ?_|(refine qf 43 ?_;refine mv ?_;refine mv ?_;(first|(refine cS ?_ ?_<;>intro hc))<;>(refine mv ?_;(first|refine off ?_|refine mv ?_);(first|refine off ?_|refine mv ?_);(first|refine off ?_|(first|(refine cS ?_ ?_<;>intro hc)))<;>(refine vl ?_;refine qg ?_)))|(refine qf 44 ?_;(iterate 5 refine mv ?_);skip)))
   ·(refine qw rfl rfl rfl rfl rfl ((ih mid (mid+m - s) b S (by omega) (fun k q1 q2=>hp3 k (by omega) q2) (by omega) (by omega) (by omega) M3).mono ?_);rintro _ h ⟨l4,g5,g6,S2⟩)<;>(replace S:=S2;clear S2;refine qg ?_)
    all_goals (repeat' (fail))
    refine ⟨_,rfl,?_⟩
    exact ⟨l4,g13.trans (g5.mono (by omega) (by omega) (by omega)),YE z2 g3 g4 g5 g6 (by omega),S⟩
   ·refine ⟨_,rfl,?_⟩
    obtain e:mid+m - s=b:=by omega
    rw [e] at M3
    exact ⟨l3,g13,YE z2 g3 g4 (.refl _) M3.sl (by omega),S⟩
   ·refine ⟨_,rfl,?_⟩
    obtain e:mid+m - s=mid:=by omega
    rw [e] at M3
    exact ⟨l3,g13,YE z2 g3 g4 (.refl _) M3.sr (by omega),S⟩
theorem qci {h0 h:AH} {rs:List Rs} {v:Value} {l:List Int} {g:Nat} {cap:List Value} {key:Int→Int} {p:Int→Prop} (S:Hs h0 h (.sl v 3 1 eI l :: rs)) (C:qaC h0 g cap key p) (hp:∀ k,0≤k→k<l.length→p (l.getD k default)) (hl:l.length<40) (hi:Inc 0 l.length l) :
 Fn Tryz.prog Xh 138 [v,.int .i64 l.length,QR g cap] h (fun _ h'=>∃ l',Sw 0 l.length l l'∧Srt (zQ key) 0 l.length l'∧Hs h0 h' (.sl v 3 1 eI l' :: rs)):=by
 obtain ⟨n,hn⟩:∃ n,n=l.length:=⟨_,rfl⟩
 rw [← hn] at hi hl hp ⊢
 have M0:∀ {l1 l2:List Int},Sw 0 20 l l1→Srt (zQ key) 0 20 l1→Sw 20 n l1 l2→Srt (zQ key) 20 n l2→20<n→Mrg key 0 20 n l2:=fun {l1 l2} s1 q1 s2 q2 hn2=>by
  refine ⟨fun i j a1 a2 a3=>?_,q2,fun x y a1 a2 a3 a4=>?_⟩
  ·rw [s2.out (.inl a3),s2.out (k:=i) (.inl (by omega))];exact q1 i j a1 a2 a3
  ·rw [s2.out (.inl a2)]
   obtain ⟨i,i1,i2,i3⟩:=s1.in_ a1 a2
   obtain ⟨j,j1,j2,j3⟩:=s2.in_ a3 a4
   rw [i3,j3,s1.out (.inr j1)]
   exact hi i j i1 (by omega) (by omega)
 refine qF rfl Tryz.func138 rfl rfl ?_
 all_goals (repeat' (first|refine qi ?_|refine qm ?_|(refine qf 0 ?_;refine mv ?_;refine qg ?_)|(refine qf 1 ?_;(iterate 3 refine mv ?_);refine qg ?_)))
 refine qE (σ:=Nat×List Int) (fun (a,m) h'=>Hs h0 h' (.sl v 3 1 eI m :: rs)∧((a=0∧m=l)∨(a=20∧20≤n∧Sw 0 20 l m∧Srt (zQ key) 0 20 m))) (fun (a,m)=>100 - a) (fun (a,m)=>[(0,v),(1,.int .i64 n),(2,QR g cap),(6,.int .i64 20),(7,.int .i64 a),(8,.int .i64 (a+20:Nat))]) (0,l) (by repeat (first|exact Ks.le_nil _|refine Ks.qh rfl ?_)) ?_ ?_
 ·exact ⟨S,.inl ⟨rfl,rfl⟩⟩
 clear S
 rintro ⟨a,m⟩ h ⟨S,hm⟩
 all_goals (repeat' (first|refine qi ?_|refine ql rfl ?_|refine qo ?_|refine qA ?_|refine qm ?_|(refine qf 2 ?_;refine mv ?_;refine mv ?_;(first|(refine cS ?_ ?_<;>intro hc))<;>(refine qg ?_))|(refine qf 3 ?_;(iterate 4 refine mv ?_);skip)|(refine qf 6 ?_;(iterate 4 refine mv ?_);skip)))
 ·obtain ⟨rfl,rfl⟩:a=0∧m=l:=by
   rcases hm with hm|hm
   ·exact hm
   ·omega
  (refine qw rfl rfl rfl rfl rfl ((qbW 0 20 S C (fun k q1 q2=>hp k q1 (by omega)) (by omega) (by omega) (by omega) (fun i j q1 q2 q3=>hi i j q1 q2 (by omega))).mono ?_);rintro _ h ⟨l2,g1,g2,S2⟩)<;>(replace S:=S2;clear S2;refine qg ?_)
  all_goals (repeat' (first|refine qi ?_|(refine qf 4 ?_;refine mv ?_;refine mv ?_;refine qg ?_)|(refine qf 5 ?_;refine mv ?_;refine mv ?_;refine ad ?_;refine mv ?_;refine qg ?_)))
  refine ⟨(20,l2),?_,?_,(by repeat (first|exact Ks.le_nil _|refine Ks.qh rfl ?_))⟩
  ·show 100 - 20<100 - 0;omega
  ·exact ⟨S,.inr ⟨rfl,by omega,g1,g2⟩⟩
 have fin:∀ h l2,Hs h0 h (.sl v 3 1 eI l2 :: rs)→Sw 0 n l l2→(n≤20→Srt (zQ key) 0 n l2)→(20<n→Mrg key 0 20 n l2)→∃ l2',l2=l2'∧Sw 0 n l l2'∧(n≤20→Srt (zQ key) 0 n l2')∧(20<n→Mrg key 0 20 n l2'):=fun h l2 _ a b c=>⟨l2,rfl,a,b,c⟩
 have hmp:∀ k,a≤k→k<n→p (m.getD k default):=fun k q1 q2=>by
  rcases hm with ⟨rfl,rfl⟩|⟨rfl,h1,h2,h3⟩
  ·exact hp k q1 q2
  ·rw [h2.out (.inr q1)];exact hp k (by omega) q2
 have hml:m.length=n:=by
  rcases hm with ⟨rfl,rfl⟩|⟨rfl,h1,h2,h3⟩
  ·exact hn.symm
  ·rw [h2.len,hn]
 have hmi:Inc a n m:=fun i j q1 q2 q3=>by
  rcases hm with ⟨rfl,rfl⟩|⟨rfl,h1,h2,h3⟩
  ·exact hi i j q1 q2 q3
  ·rw [h2.out (k:=j) (.inr (by omega)),h2.out (k:=i) (.inr q1)];exact hi i j (by omega) q2 q3
 (refine qw rfl rfl rfl rfl rfl ((qbW a n S C hmp (by omega) (by omega) (by omega) hmi).mono ?_);rintro _ h ⟨l2,g1,g2,S2⟩)<;>(replace S:=S2;clear S2;refine qg ?_)
 have hsw:Sw 0 n l l2:=by
  rcases hm with ⟨rfl,rfl⟩|⟨rfl,h1,h2,h3⟩
  ·exact g1
  ·exact (h2.mono (by omega) h1 (by omega)).trans (g1.mono (by omega) (by omega) (by omega))
 have hs1:n≤20→Srt (zQ key) 0 n l2:=fun q=>by
  rcases hm with ⟨rfl,rfl⟩|⟨rfl,h1,h2,h3⟩
  ·exact g2
  ·obtain rfl:n=20:=by omega
   intro i j a1 a2 a3
   rw [g1.out (.inl a3),g1.out (k:=i) (.inl (by omega))];exact h3 i j a1 a2 a3
 have hs2:20<n→Mrg key 0 20 n l2:=fun q=>by
  rcases hm with ⟨rfl,rfl⟩|⟨rfl,h1,h2,h3⟩
  ·omega
  ·exact M0 h2 h3 g1 g2 q
 clear hm hmp hml hmi g1 g2 fin
 all_goals (repeat' (refine qm ?_))
 refine qE (σ:=Nat×List Int) (fun (bs,m) h'=>Hs h0 h' (.sl v 3 1 eI m :: rs)∧Sw 0 n l m∧((bs=20∧(n≤20→Srt (zQ key) 0 n m)∧(20<n→Mrg key 0 20 n m))∨(bs=40∧Srt (zQ key) 0 n m))) (fun (bs,m)=>100 - bs) (fun (bs,m)=>[(0,v),(1,.int .i64 n),(2,QR g cap),(6,.int .i64 bs)]) (20,l2) (by repeat (first|exact Ks.le_nil _|refine Ks.qh rfl ?_)) ?_ ?_
 ·exact ⟨S,hsw,.inl ⟨rfl,hs1,hs2⟩⟩
 clear S hsw hs1 hs2
 rintro ⟨bs,m⟩ h ⟨S,hsw,hm⟩
 have hml:=hsw.len
 all_goals (repeat' (first|refine qi ?_|refine ql rfl ?_|refine qo ?_|refine qA ?_|refine qm ?_|(refine qf 7 ?_;refine mv ?_;refine mv ?_;(first|(refine cS ?_ ?_<;>intro hc))<;>(refine qg ?_))|(refine qf 8 ?_;refine mv ?_;refine ml ?_;refine mv ?_;refine mv ?_;refine qg ?_)))
 ·obtain ⟨rfl,-,hM⟩:bs=20∧(n≤20→Srt (zQ key) 0 n m)∧(20<n→Mrg key 0 20 n m):=by
   rcases hm with hm|hm
   ·exact hm
   ·omega
  have hM:=hM (by omega)
  refine qE (σ:=Unit) (fun _ h'=>Hs h0 h' (.sl v 3 1 eI m :: rs)) (fun _=>0) (fun _=>[(0,v),(1,.int .i64 n),(2,QR g cap),(6,.int .i64 20),(7,.int .i64 0),(8,.int .i64 40)]) () (by repeat (first|exact Ks.le_nil _|refine Ks.qh rfl ?_)) ?_ ?_
  ·exact S
  clear S
  rintro - h S
  all_goals (repeat' (first|refine qi ?_|refine ql rfl ?_|refine qA ?_|(refine qf 9 ?_;refine mv ?_;refine mv ?_;(refine cF ?_)<;>(refine qg ?_))|(refine qf 13 ?_;refine mv ?_;refine mv ?_;refine ad ?_;refine mv ?_;refine qg ?_)|(refine qf 14 ?_;refine mv ?_;refine mv ?_;(refine cT ?_)<;>(refine qg ?_))|(refine qf 15 ?_;(iterate 5 refine mv ?_);skip)))
  (refine qw rfl rfl rfl rfl rfl ((qeK C n 0 20 n S (by omega) (fun k q1 q2=>hsw.all hp k q1 q2) (by omega) (by omega) (by omega) hM).mono ?_);rintro _ h ⟨l3,g1,g2,S2⟩)<;>(replace S:=S2;clear S2;refine qg ?_)
  all_goals (repeat' (first|(refine qf 16 ?_;refine mv ?_;refine ml ?_;refine mv ?_;refine qg ?_)))
  refine ⟨(40,l3),?_,?_,(by repeat (first|exact Ks.le_nil _|refine Ks.qh rfl ?_))⟩
  ·show 100 - 40<100 - 20;omega
  ·exact ⟨S,hsw.trans g1,.inr ⟨rfl,g2⟩⟩
 ·refine ⟨_,rfl,?_⟩
  refine ⟨m,hsw,?_,S⟩
  rcases hm with ⟨rfl,hm,-⟩|⟨-,hm⟩
  ·exact hm (by omega)
  ·exact hm
theorem vH {h0 h:AH} {rs:List Rs} {v:Value} {l:List Int} {g:Nat} {cap:List Value} {key:Int→Int} {p:Int→Prop} (S:Hs h0 h (.sl v 3 1 eI l :: rs)) (C:qaC h0 g cap key p) (hp:∀ k,0≤k→k<l.length→p (l.getD k default)) (hl:l.length<40) (hi:Inc 0 l.length l) :
 Fn Tryz.prog Xh 89 [v,QR g cap] h (fun _ h'=>∃ l',Sw 0 l.length l l'∧Srt (zQ key) 0 l.length l'∧Hs h0 h' (.sl v 3 1 eI l' :: rs)):=by
 refine qF rfl Tryz.func89 rfl rfl ?_
 all_goals (repeat' (first|(refine qf 0 ?_;refine mv ?_;refine mv ?_;refine ZC S rfl rfl ?_;refine mv ?_)))
 (refine qw rfl rfl rfl rfl rfl ((qci S C hp hl hi).mono ?_);rintro _ h ⟨l2,g1,g2,S2⟩)<;>(replace S:=S2;clear S2;refine qg ?_)
 all_goals (repeat' (fail))
 refine ⟨_,rfl,?_⟩
 exact ⟨l2,g1,g2,S⟩
end Go.Proofs.Xx
namespace Go.Proofs.Xx
set_option linter.unusedVariables false
theorem qbN:∀ (n:Nat) (f:Nat→Nat) (d:Nat),(∀ e,e≤d→f e<n)→(∀ e e',e≤d→e'≤d→f e=f e'→e=e')→d<n
 | 0,f,d,h,_=>absurd (h 0 (Nat.zero_le _)) (Nat.not_lt_zero _)
 | n+1,f,0,h,_=>Nat.succ_pos _
 | n+1,f,d+1,h,k=>by
  refine Nat.succ_lt_succ (qbN n (fun e=>if f e=n then f (d+1) else f e) d (fun e he=>?_) fun e e' he he' q=>?_)
  ·show (if f e=n then f (d+1) else f e)<n
   have h1:=h e (by omega)
   have h2:=h (d+1) (Nat.le_refl _)
   split
   ·rename_i e1
    have:f (d+1)≠n:=fun q=>by have:=k e (d+1) (by omega) (Nat.le_refl _) (e1.trans q.symm);omega
    omega
   ·omega
  ·have q:(if f e=n then f (d+1) else f e)=(if f e'=n then f (d+1) else f e'):=q
   split at q<;>split at q
   ·exact k e e' (by omega) (by omega) (by omega)
   ·have:=k (d+1) e' (Nat.le_refl _) (by omega) q;omega
   ·have:=k e (d+1) (by omega) (Nat.le_refl _) q;omega
   ·exact k e e' (by omega) (by omega) q
section
variable {N:Int→Int→Prop} {n s:Nat}
theorem IsDist.chain {d y:Nat} (h:IsDist N n s d y) (hy:y<n):∀ e,e≤d→∃ x,x<n∧IsDist N n s e x:=by
 induction d generalizing y with
 | zero=>intro e he;exact ⟨y,hy,by rw [Nat.le_zero.1 he];exact h⟩
 | succ d ih =>
  intro e he
  rcases Nat.lt_or_ge e (d+1) with q|q
  ·obtain ⟨x,hx,hw,hn⟩:=h.1
   obtain ⟨e',h1,h2⟩:=hw.least
   have:e'=d:=by
    rcases Nat.lt_or_ge e' d with q1|q1
    ·exact absurd (show Wk N n s (e'+1) y from ⟨x,hx,h2.1,hn⟩) (h.2 (e'+1) (by omega))
    ·omega
   subst this
   exact ih h2 hx e (by omega)
  ·have:e=d+1:=by omega
   subst this;exact ⟨y,hy,h⟩
theorem IsDist.ltS {d y:Nat} (h:IsDist N n s d y) (hy:y<n):d<n:=by
 have ch:∀ e,∃ x,e≤d→x<n∧IsDist N n s e x:=fun e=>by
  by_cases he:e≤d
  ·obtain ⟨x,hx⟩:=h.chain hy e he;exact ⟨x,fun _=>hx⟩
  ·exact ⟨0,fun q=>absurd q he⟩
 obtain ⟨f,hf⟩:=Classical.axiomOfChoice ch
 refine qbN n f d (fun e he=>(hf e he).1) fun e e' he he' q=>?_
 have h1:=(hf e he).2
 have h2:=(hf e' he').2
 rw [q] at h1
 exact h1.unique h2
theorem DistL.bound {l:List Int} (h:DistL N n s l) (y:Nat) (hy:y<n) : -1≤l.getD y default∧l.getD y default<n:=by
 rcases h.2 y hy with ⟨h1,-⟩|⟨d,h1,h2⟩
 ·omega
 ·have:=h2.ltS hy;omega
end
theorem xw {α:Type} {lt:α→α→Prop} (irr:∀ x,¬ lt x x) (tr:∀ {x y z},lt x y→lt y z→lt x z):∀ {l m:List α},l.Pairwise lt→m.Pairwise lt→(∀ x,x∈l↔x∈m)→l=m
 | [],[],_,_,_=>rfl
 | [],y :: m,_,_,h=>by have:=(h y).2 (by simp);simp at this
 | x :: l,[],_,_,h=>by have:=(h x).1 (by simp);simp at this
 | x :: l,y :: m,h1,h2,h=>by
  rw [List.pairwise_cons] at h1 h2
  have e:x=y:=by
   have a:=(h x).1 (by simp)
   have b:=(h y).2 (by simp)
   rw [List.mem_cons] at a b
   rcases a with a|a
   ·exact a
   ·rcases b with b|b
    ·exact b.symm
    ·exact absurd (tr (h1.1 y b) (h2.1 x a)) (irr x)
  subst e
  congr 1
  refine xw irr tr h1.2 h2.2 fun z=>?_
  have hz:=h z
  rw [List.mem_cons,List.mem_cons] at hz
  constructor
  ·intro q
   rcases hz.1 (.inr q) with r|r
   ·subst r;exact absurd (h1.1 z q) (irr z)
   ·exact r
  ·intro q
   rcases hz.2 (.inr q) with r|r
   ·subst r;exact absurd (h2.1 z q) (irr z)
   ·exact r
def HonL (key:Int→Int) (f n:Int) (out:List Int):Prop:=out.Pairwise (zQ key)∧∀ x,x∈out↔f≤x∧x<f+n
theorem HonL.unique {key:Int→Int} {f n:Int} {a b:List Int} (ha:HonL key f n a) (hb:HonL key f n b):a=b :=
 xw (Zo key).irr (Zo key).tr ha.1 hb.1 fun x=>(ha.2 x).trans (hb.2 x).symm
theorem Srt.pairwise {α:Type} [Inhabited α] {lt:α→α→Prop} {l:List α} (h:Srt lt 0 l.length l):l.Pairwise fun x y=>¬ lt y x:=by
 rw [List.pairwise_iff_getElem]
 intro i j hi hj hij
 have:=h i j (Nat.zero_le _) hij hj
 rw [List.getD_eq_getElem?_getD,List.getD_eq_getElem?_getD,List.getElem?_eq_getElem hi,List.getElem?_eq_getElem hj] at this
 exact this
theorem HonL.qcz {key:Int→Int} {f:Int} {n:Nat} {l out:List Int} (hl:l=(List.range n).map fun k:Nat=>f+(k:Int)) (hs:Sw 0 l.length l out) (hq:Srt (zQ key) 0 l.length out):HonL key f n out:=by
 have hlen:l.length=n:=by rw [hl];simp
 have hp:=hs.perm
 have hnd:l.Pairwise (·≠·):=by
  rw [hl,List.pairwise_map]
  exact List.pairwise_lt_range.imp fun h=>by omega
 have hnd2:out.Pairwise (·≠·):=hp.symm.pairwise hnd (fun h=>h.symm)
 refine ⟨?_,fun x=>?_⟩
 ·rw [← hs.len] at hq
  have:=(hq.pairwise).and hnd2
  refine this.imp fun ⟨h1,h2⟩=>?_
  unfold zQ at *
  omega
 ·rw [hp.mem_iff,hl,List.mem_map]
  constructor
  ·rintro ⟨k,hk,rfl⟩
   have:=List.mem_range.1 hk
   omega
  ·intro ⟨h1,h2⟩
   exact ⟨(x - f).toNat,List.mem_range.2 (by omega),by omega⟩
set_option linter.unusedSimpArgs false
set_option maxRecDepth 100000
theorem qcJ {h0:AH} (w:WfH h0) {bA bF:Nat} {vb:Value} {lv:List Int} {f:Int} (hA:h0.get bA=some (.cells [vb] 23 none false)) (hF:h0.get bF=some (.cells [.int .i64 f] 3 none false)) (rb:RdL h0 vb 1 eI lv)
 (hv:∀ i,i<lv.length→0≤lv.getD i default∧lv.getD i default≤1000) (hlv:lv.length≤1000) (hf:0≤f∧f≤1000000) :
 qaC h0 90 [.pointer (some ⟨bA,0,none⟩),.pointer (some ⟨bF,0,none⟩)] (fun x=>lv.getD (x - f).toNat default) (fun x=>f≤x∧x<f+lv.length):=by
 intro h x y ex hx hy
 have hA:=ex.get w hA
 have hF:=ex.get w hF
 have rb:=rb.ext w ex
 have w2:=ex.wf
 clear w ex
 have S:=Hs.start w2
 have b1:=hv (x - f).toNat (by omega)
 have b2:=hv (y - f).toNat (by omega)
 refine qF rfl Tryz.func90 rfl rfl ?_
 all_goals (repeat' (first|refine qi ?_|(refine qf 0 ?_;refine mv ?_;refine qg ?_)|(refine qO 1 ?_;refine lH S ?_;refine mv ?_;refine lH S ?_;refine sb ?_;refine jv S ?_;refine zS S ?_;refine lH S ?_;refine mv ?_;refine lH S ?_;refine sb ?_;refine jv S ?_;refine zS S ?_;refine sb ?_;refine mv ?_;refine qg ?_)))
 refine qx ⟨_,rfl,?_⟩
 exact ⟨_,rfl,by show _↔lv.getD (x - f).toNat default<lv.getD (y - f).toNat default;omega,S⟩
theorem qbR (n:Nat) (l:List Int):(Yj n l).length=l.length:=List.length_map ..
theorem qbS (n:Nat) (l:List Int) (i:Nat) (h:i<l.length):(Yj n l).getD i default=if l.getD i default<0 then (n:Int) else l.getD i default:=by
 simp [Yj,List.getD_eq_getElem?_getD,List.getElem?_map,List.getElem?_eq_getElem h]
theorem VK {N:Int→Int→Prop} {n s:Nat} {l:List Int} (d:DistL N n s l) (i:Nat) (h:i<n):0≤(Yj n l).getD i default∧(Yj n l).getD i default≤n:=by
 have:=d.bound i h
 rw [qbS n l i (by rw [d.1];exact h)]
 split<;>omega
def ups (f:Int) (n:Nat):List Int:=(List.range n).map fun k:Nat=>f+(k:Int)
theorem qby (f:Int) (n:Nat):(ups f n).length=n:=by simp [ups]
theorem WV (f:Int) {n k:Nat} (h:k<n):(ups f n).getD k default=f+k:=by
 simp [ups,List.getD_eq_getElem?_getD,List.getElem?_map,List.getElem?_range h]
def HonR (l:List Tab) (t:Int) (out:List Int):Prop :=
 (∃ (i n:Nat) (ld:List Int),t=i∧i<l.length∧ValidL l∧qC (tb l i)=n∧DistL (zu (tb l i)) n (ZG (tb l i)).toNat ld∧HonL (fun x=>(Yj n ld).getD (x - sumT l i).toNat default) (sumT l i) n out)∨(¬ (0≤t∧t<l.length∧ValidL l)∧out=[])
theorem HonR.unique {l:List Tab} {t:Int} {a b:List Int} (ha:HonR l t a) (hb:HonR l t b):a=b:=by
 rcases ha with ⟨i,n,ld,rfl,h1,h2,h3,h4,h5⟩|⟨h1,rfl⟩<;>rcases hb with ⟨i',n',ld',e,g1,g2,g3,g4,g5⟩|⟨g1,rfl⟩
 ·obtain rfl:i=i':=by omega
  obtain rfl:n=n':=by omega
  obtain rfl:=h4.unique g4
  exact h5.unique g5
 ·exact absurd ⟨by omega,by omega,h2⟩ g1
 ·exact absurd ⟨by omega,by omega,g2⟩ h1
 ·rfl
theorem ValidL.qeJ {l:List Tab} (h:ValidL l) {i:Nat} (hi:i<l.length):TabS (tb l i):=by
 have:=(h.2 i hi).1
 have h2:=qK (tb l i)
 refine TabS.of _ ?_
 unfold chk at this
 split at this
 ·omega
 ·split at this
  ·omega
  ·omega
theorem qcI {h0:AH} (w:WfH h0) (v:Value) (l:List Tab) (H:HallR h0 v l) (t:Int):Fn Tryz.prog Xh 34 [v,.int .i64 t] h0 (fun r h'=>∃ out,HonR l t out∧out.length≤1000∧Hs h0 h' [.sl r 3 1 eI out]):=by
 have S:=Hs.start w
 have hl:=H.len
 have hr:=H.rd
 by_cases ht0:t<0
 ·refine qF rfl Tryz.func34 rfl rfl ?_
  all_goals (repeat' (first|refine qi ?_|refine ql rfl ?_|(refine qf 0 ?_;refine mv ?_;refine qg ?_)|(refine qf 1 ?_;refine mv ?_;(refine cT ?_)<;>(refine mv ?_;refine off ?_;refine off ?_;refine off ?_;(refine off ?_)<;>(refine vl ?_;refine mv ?_;refine off ?_;(first|(refine off ?_;refine off ?_;refine vl ?_;refine qg ?_)))))|(refine qf 2 ?_;refine mv ?_;refine qg ?_)))
  all_goals (try omega)
  refine qx ⟨_,rfl,?_⟩
  exact ⟨[],.inr ⟨by omega,rfl⟩,by simp,S.jP⟩
 obtain ⟨i,rfl⟩:=Int.eq_ofNat_of_zero_le (show 0≤t by omega)
 refine qF rfl Tryz.func34 rfl rfl ?_
 all_goals (repeat' (first|refine qi ?_|refine ql rfl ?_|(refine qf 0 ?_;refine mv ?_;refine qg ?_)|(refine qf 1 ?_;refine mv ?_;(refine cF ?_)<;>((iterate 3 refine mv ?_);(first|(refine QD S ?_));(first|(first|(refine cS ?_ ?_<;>intro hc)))<;>(refine vl ?_;refine mv ?_;(first|refine off ?_|refine mv ?_);(first|(refine off ?_;refine off ?_;refine vl ?_;refine qg ?_)|skip))))|(refine qf 2 ?_;refine mv ?_;refine qg ?_)))
 all_goals (try omega)
 ·refine qx ⟨_,rfl,?_⟩
  exact ⟨[],.inr ⟨by omega,rfl⟩,by simp,S.jP⟩
 ·(refine qw rfl rfl rfl rfl rfl ((Zj S.wf v l H).mono ?_);rintro _ h ⟨⟨rfl,hq⟩|⟨rfl,hq⟩,x⟩)<;>(replace S:=S.qy x;clear x;refine vl ?_;refine vl ?_;refine qg ?_)
  all_goals (repeat' (first|refine qi ?_|refine ql rfl ?_|refine qo ?_|(refine qf 2 ?_;refine mv ?_;refine qg ?_)|(refine qf 3 ?_;refine mv ?_;refine mv ?_;refine jv S ?_;refine zS S ?_)))
  ·have hi:i<l.length:=by omega
   have hts:=hq.qeJ hi
   have t1:=qK (tb l i)
   have t2:=hts.pos
   have b1:=jJ l i
   obtain ⟨n,hn⟩:=Int.eq_ofNat_of_zero_le t1.1
   (try simp only [Int.toNat_natCast] at *)
   (refine qw rfl rfl rfl rfl rfl ((kz S.wf (tb l i) n hts.b hn (by omega) (by omega)).mono ?_);rintro vb h ⟨ld,hd,x⟩)<;>(replace S:=S.jo x;clear x;obtain ⟨sb,rfl⟩:=(Rd.zo S .here).Xq;(refine al S ?_;clear S;intro b h S);(first|(refine sB S rfl rfl ?_;clear S;intro h S));refine qg ?_)
   have hdl:=hd.1
   have hll:=qbR n ld
   all_goals (repeat' (first|refine qi ?_|(refine qf 4 ?_;refine mv ?_;refine mv ?_)))
   obtain ⟨bA,hnm⟩:∃ x,x=b:=⟨_,rfl⟩;subst hnm
   have H2:=H.ext w S.ext
   obtain ⟨f,hf⟩:∃ f,f=sumT l i:=⟨_,rfl⟩
   have ef:zY l i=f:=by unfold zY;rw [if_pos ⟨by omega,by omega,hq⟩,Int.toNat_natCast,hf]
   rw [← hf] at b1
   (refine qw rfl rfl rfl rfl rfl ((Jc S.wf v l H2 i).mono ?_);rintro _ h ⟨rfl,x⟩)<;>(replace S:=S.qy x;clear x;rw [ef];(refine al S ?_;clear S;intro b h S);(first|(refine sB S rfl rfl ?_;clear S;intro h S));refine qg ?_)
   obtain ⟨bF,hnm⟩:∃ x,x=b:=⟨_,rfl⟩;subst hnm
   have w1:=S.wf
   have hA:h.get bA=some (.cells [sb.val] 23 none false):=S.gB (b:=bA)
   have hF:h.get bF=some (.cells [.int .i64 f] 3 none false):=S.gB (b:=bF)
   have rb:RdL h sb.val 1 eI (Yj n ld):=Rd.zo S (.there (.there .here))
   have T:=S
   replace S:=Hs.start w1
   obtain ⟨hB,hnm⟩:∃ x,x=h:=⟨_,rfl⟩;subst hnm
   have hfb:f≤1000000:=by omega
   have hKF:=qcJ w1 hA hF rb (fun j hj=>by have:=VK hd j (by omega);omega) (by omega) ⟨b1.1,hfb⟩
   all_goals (repeat' (first|refine qi ?_|(refine qf 5 ?_;refine lH S ?_;refine QD S ?_)))
   refine VJ (z:=1) (by_:=8) (enc:=eI) (y0:=0) S rfl rfl rfl rfl rfl rfl rfl rfl rfl (by intro _;rfl) (by first|omega) rfl rfl ?_;clear S;intro v h S;refine mv ?_;refine qg ?_
   rw [hll,hdl,Int.toNat_natCast] at S
   obtain ⟨vo,hnm⟩:∃ x,x=v:=⟨_,rfl⟩;subst hnm
   all_goals (repeat' (first|refine qi ?_|refine qm ?_|(refine qf 6 ?_;refine mv ?_;refine ZC S rfl rfl ?_;refine mv ?_;refine qg ?_)))
   refine qE (σ:=Nat×List Int) (fun (k,m) h'=>Hs hB h' [.sl vo 3 1 eI m]∧k≤n∧m.length=n∧∀ j,j<k→m.getD j default=f+j) (fun (k,m)=>n - k) (fun (k,m)=>[(5,.pointer (some ⟨bA,0,none⟩)),(6,.pointer (some ⟨bF,0,none⟩)),(7,vo),(34,.int .i64 n),(35,.int .i64 k)]) (0,List.replicate n 0) (by repeat (first|exact Ks.le_nil _|refine Ks.qh rfl ?_|refine Ks.zf ?_)) ?_ ?_
   ·exact ⟨S,Nat.zero_le _,by simp,fun j hj=>by omega⟩
   clear S
   rintro ⟨k,m⟩ h2 ⟨S,g1,g2,g3⟩
   all_goals (repeat' (first|refine qi ?_|refine ql rfl ?_|refine qo ?_|refine qA ?_|refine qm ?_|(refine qf 7 ?_;(first|(refine cS ?_ ?_<;>intro hc))<;>(refine qg ?_))|(refine qf 8 ?_;refine mv ?_;refine mv ?_;refine qg ?_)|(refine qf 9 ?_;refine mv ?_;refine mv ?_;refine lH S ?_;refine mv ?_;refine ad ?_;refine qH S rfl rfl ?_;(first|(refine ZK S rfl rfl ?_;clear S;intro h S));refine qg ?_)|(refine qf 10 ?_;refine ad ?_;refine mv ?_;refine qg ?_)|(refine qf 11 ?_;refine mv ?_;refine vl ?_)))
   ·(try simp only [Int.toNat_natCast] at *)
    refine ⟨(k+1,m.set k (f+k)),?_,?_,(by repeat (first|exact Ks.le_nil _|refine Ks.qh rfl ?_))⟩
    ·show n - (k+1)<n - k;omega
    ·refine ⟨S,by omega,by simpa using g2,fun j hj=>?_⟩
     rw [Vg _ _ (by omega)]
     split
     ·rename_i e;subst e;rfl
     ·exact g3 j (by omega)
   ·obtain rfl:k=n:=by omega
    obtain rfl:m=ups f k:=qap (by rw [g2,qby]) fun j hj=>by rw [g3 j (by omega),WV f (by omega)]
    have hul:=qby f k
    have hp1:∀ j,0≤j→j<(ups f k).length→f≤(ups f k).getD j default∧(ups f k).getD j default<f+(Yj k ld).length:=fun j _ hj=>by rw [WV f (by omega)];constructor<;>omega
    have hi1:Inc 0 (ups f k).length (ups f k):=fun x y q1 q2 q3=>by rw [WV f (by omega),WV f (by omega)];omega
    (refine qw rfl rfl rfl rfl rfl ((vH S hKF hp1 (by omega) hi1).mono ?_);rintro _ h ⟨out,k1,k2,S2⟩)<;>(replace S:=S2;clear S2;refine qg ?_)
    all_goals (repeat' (first|refine qi ?_|(refine qf 12 ?_;refine mv ?_;refine mv ?_;refine qg ?_)))
    refine qx ⟨_,rfl,?_⟩
    refine ⟨out,.inl ⟨i,k,ld,rfl,hi,hq,hn,hd,?_⟩,by rw [k1.len];omega,T.drop.jo S⟩
    rw [← hf]
    exact HonL.qcz rfl k1 k2
  ·refine qx ⟨_,rfl,?_⟩
   exact ⟨[],.inr ⟨fun q=>hq q.2.2,rfl⟩,by simp,S.jP⟩
def HonPre (key:Int→Int) (f:Int) (n:Nat) (d:Int) (k:Nat) (out:List Int):Prop:=out.Pairwise (zQ key)∧∀ x,x∈out↔∃ j:Nat,j<n∧x=f+j∧(key x<d∨(key x=d∧j<k))
theorem HonPre.take {key:Int→Int} {f:Int} {n:Nat} {d:Int} {k:Nat} {out:List Int} (h:HonPre key f n d k out) (hk:k<n) (hq:key (f+k)=d):HonPre key f n d (k+1) (out ++ [f+k]):=by
 refine ⟨List.pairwise_append.2 ⟨h.1,by simp,fun a ha b hb=>?_⟩,fun x=>?_⟩
 ·obtain ⟨j,h1,h2,h3⟩:=(h.2 a).1 ha
  rw [List.mem_singleton] at hb
  subst hb
  unfold zQ
  omega
 ·rw [List.mem_append,List.mem_singleton,h.2]
  constructor
  ·rintro (⟨j,h1,h2,h3⟩|h1)
   ·exact ⟨j,h1,h2,by omega⟩
   ·exact ⟨k,hk,h1,by rw [h1];omega⟩
  ·rintro ⟨j,h1,h2,h3⟩
   rcases Nat.lt_trichotomy j k with q|q|q
   ·exact .inl ⟨j,h1,h2,by omega⟩
   ·subst q;exact .inr h2
   ·exact .inl ⟨j,h1,h2,by omega⟩
theorem HonPre.pass {key:Int→Int} {f:Int} {n:Nat} {d:Int} {k:Nat} {out:List Int} (h:HonPre key f n d k out) (hq:key (f+k)≠d):HonPre key f n d (k+1) out:=by
 refine ⟨h.1,fun x=>?_⟩
 rw [h.2]
 constructor
 ·rintro ⟨j,h1,h2,h3⟩;exact ⟨j,h1,h2,by omega⟩
 ·rintro ⟨j,h1,h2,h3⟩
  refine ⟨j,h1,h2,?_⟩
  rcases h3 with h3|⟨h3,h4⟩
  ·exact .inl h3
  ·rcases Nat.lt_or_ge j k with q|q
   ·exact .inr ⟨h3,q⟩
   ·obtain rfl:j=k:=by omega
    rw [h2] at h3;exact absurd h3 hq
theorem HonPre.level {key:Int→Int} {f:Int} {n:Nat} {d:Int} {out:List Int} (h:HonPre key f n d n out):HonPre key f n (d+1) 0 out:=by
 refine ⟨h.1,fun x=>?_⟩
 rw [h.2]
 constructor
 ·rintro ⟨j,h1,h2,h3⟩;exact ⟨j,h1,h2,by omega⟩
 ·rintro ⟨j,h1,h2,h3⟩;exact ⟨j,h1,h2,by omega⟩
theorem HonPre.done {key:Int→Int} {f:Int} {n:Nat} {d:Int} {out:List Int} (h:HonPre key f n d 0 out) (hb:∀ j:Nat,j<n→key (f+j)<d):HonL key f n out:=by
 refine ⟨h.1,fun x=>?_⟩
 rw [h.2]
 constructor
 ·rintro ⟨j,h1,h2,h3⟩;omega
 ·intro ⟨h1,h2⟩
  refine ⟨(x - f).toNat,by omega,by omega,.inl ?_⟩
  have:=hb (x - f).toNat (by omega)
  rwa [show f+((x - f).toNat:Int)=x by omega] at this
theorem Ko {h0:AH} (w:WfH h0) (v:Value) (l:List Tab) (H:HallR h0 v l) (hq:ValidL l) (i:Nat) (hi:i<l.length):Fn Tryz.prog Xh 78 [v,.int .i64 i] h0 (fun r h'=>∃ out,HonR l i out∧out.length≤1000∧Hs h0 h' [.sl r 3 1 eI out]):=by
 have S:=Hs.start w
 have hl:=H.len
 have hr:=H.rd
 have hts:=hq.qeJ hi
 have t1:=qK (tb l i)
 have t2:=hts.pos
 have b1:=jJ l i
 obtain ⟨n,hn⟩:=Int.eq_ofNat_of_zero_le t1.1
 refine qF rfl Tryz.func78 rfl rfl ?_
 all_goals (repeat' (first|refine qi ?_|(refine qf 0 ?_;refine mv ?_;refine qg ?_)|(refine qf 1 ?_;refine mv ?_;refine mv ?_;refine jv S ?_;refine zS S ?_)))
 (try simp only [Int.toNat_natCast] at *)
 (refine qw rfl rfl rfl rfl rfl ((Y4 S.wf (tb l i) n hts hn).mono ?_);rintro vb h ⟨ld,hd,x⟩)<;>(replace S:=S.jo x;clear x;refine mv ?_;refine qg ?_)
 have hdl:=hd.1
 have hll:=qbR n ld
 obtain ⟨f,hf⟩:∃ f,f=sumT l i:=⟨_,rfl⟩
 rw [← hf] at b1
 have kb:∀ j:Nat,j<n→((Yj n ld).getD (f+(j:Int) - f).toNat default)<(n:Int)+1:=fun j hj=>by
  rw [show (f+(j:Int) - f).toNat=j by omega]
  have:=(VK hd j hj).2;omega
 all_goals (repeat' (first|refine qi ?_|refine qm ?_|(refine qf 2 ?_;refine mv ?_;refine qg ?_)|(refine qf 3 ?_;refine mv ?_;refine qg ?_)))
 refine qE (σ:=Nat×List Int×Value) (fun (d,out,vo) h'=>Hs h0 h' [.sl vo 3 1 eI out,.sl vb 3 1 eI (Yj n ld)]∧d≤n+1∧out.length≤24*d∧HonPre (fun x=>(Yj n ld).getD (x - f).toNat default) f n d 0 out) (fun (d,out,vo)=>n+1 - d) (fun (d,out,vo)=>[(0,v),(1,.int .i64 i),(5,vb),(6,vo),(7,.int .i64 d)]) (0,[],.slice none 0 0) (by repeat (first|exact Ks.le_nil _|refine Ks.qh rfl ?_)) ?_ ?_
 ·refine ⟨S.jP,Nat.zero_le _,by simp,by simp,fun x=>⟨fun q=>by simp at q,fun ⟨j,q1,q2,q3⟩=>?_⟩⟩
  exfalso
  subst q2
  have e:(f+(j:Int) - f).toNat=j:=by omega
  simp only [e] at q3
  have:=(VK hd j q1).1
  omega
 clear S
 rintro ⟨d,out,vo⟩ h ⟨S,h1,h2,h3⟩
 all_goals (repeat' (first|refine qi ?_|refine ql rfl ?_|refine qo ?_|refine qA ?_|refine qm ?_|(refine qf 4 ?_;refine mv ?_;refine mv ?_;refine ZC S rfl rfl ?_;(first|(refine cS ?_ ?_<;>intro hc))<;>(refine qg ?_))|(refine qf 6 ?_;refine mv ?_;refine qg ?_)|(refine qf 11 ?_;refine mv ?_;refine mv ?_;refine qg ?_)))
 ·have hdn:d≤n:=by omega
  refine qE (σ:=Nat×List Int×Value) (fun (k,o2,vo) h'=>Hs h0 h' [.sl vo 3 1 eI o2,.sl vb 3 1 eI (Yj n ld)]∧k≤n∧o2.length≤24*d+k∧HonPre (fun x=>(Yj n ld).getD (x - f).toNat default) f n d k o2) (fun (k,o2,vo)=>n - k) (fun (k,o2,vo)=>[(0,v),(1,.int .i64 i),(5,vb),(6,vo),(7,.int .i64 d),(8,.int .i64 k)]) (0,out,vo) (by repeat (first|exact Ks.le_nil _|refine Ks.qh rfl ?_)) ?_ ?_
  ·exact ⟨S,Nat.zero_le _,by omega,h3⟩
  clear S
  rintro ⟨k,o2,vo⟩ h ⟨S,g1,g2,g3⟩
  have ek:(f+(k:Int) - f).toNat=k:=by omega
  all_goals (repeat' (first|refine qi ?_|refine ql rfl ?_|refine qo ?_|refine qA ?_|refine qm ?_|(refine qf 5 ?_;refine mv ?_;refine ad ?_;refine mv ?_;refine qg ?_)|(refine qf 7 ?_;refine mv ?_;refine mv ?_;refine ZC S rfl rfl ?_;(first|(refine cS ?_ ?_<;>intro hc))<;>(refine qg ?_))|(refine qf 8 ?_;refine mv ?_;refine ad ?_;refine mv ?_;refine qg ?_)|(refine qf 9 ?_;refine mv ?_;refine mv ?_;refine qH S rfl rfl ?_;refine qI S rfl rfl ?_;refine mv ?_;(first|(refine cS ?_ ?_<;>intro hc))<;>(refine qg ?_))|(refine qf 10 ?_;(iterate 3 refine mv ?_);skip)))
  ·(try simp only [Int.toNat_natCast] at *)
   (refine qw rfl rfl rfl rfl rfl ((Zm S.wf v l (H.ext w S.ext) i (by omega)).mono ?_);rintro _ h ⟨rfl,x⟩)<;>(replace S:=S.qy x;clear x;rw [← hf];refine mv ?_;refine ad ?_;(refine one 1 S ?_;clear S;intro u h S))
   refine app  S rfl rfl ?_;clear S;intro v h S;refine mv ?_;refine qg ?_
   all_goals (repeat' (first|(refine qf 8 ?_;refine mv ?_;refine ad ?_;refine mv ?_;refine qg ?_)))
   refine ⟨(k+1,o2 ++ [f+(k:Int)],v),?_,?_,(by repeat (first|exact Ks.le_nil _|refine Ks.qh rfl ?_))⟩
   ·show n - (k+1)<n - k;omega
   ·refine ⟨S,by omega,by simp only [List.length_append,List.length_cons,List.length_nil];omega,g3.take (by omega) ?_⟩
    show (Yj n ld).getD (f+(k:Int) - f).toNat default=d
    rw [ek];assumption
  ·(try simp only [Int.toNat_natCast] at *)
   refine ⟨(k+1,o2,vo),?_,?_,(by repeat (first|exact Ks.le_nil _|refine Ks.qh rfl ?_))⟩
   ·show n - (k+1)<n - k;omega
   ·refine ⟨S,by omega,by (try dsimp only);omega,g3.pass ?_⟩
    show (Yj n ld).getD (f+(k:Int) - f).toNat default≠d
    rw [ek];assumption
  ·obtain rfl:k=n:=by omega
   refine ⟨(d+1,o2,vo),?_,?_,(by repeat (first|exact Ks.le_nil _|refine Ks.qh rfl ?_))⟩
   ·show k+1 - (d+1)<k+1 - d;omega
   ·exact ⟨S,by omega,by (try dsimp only);omega,g3.level⟩
 ·obtain rfl:d=n+1:=by omega
  refine qx ⟨_,rfl,?_⟩
  refine ⟨out,.inl ⟨i,n,ld,rfl,hi,hq,hn,hd,?_⟩,by omega,S.only .here⟩
  rw [← hf]
  exact h3.done kb
end Go.Proofs.Xx
namespace Go.Proofs.Xx
set_option linter.unusedVariables false
section
variable {N:Int→Int→Prop} {n s:Nat} {ld:List Int}
def lev (n:Nat) (ld:List Int) (k:Nat):Int:=if ld.getD k default<0 then (n:Int) else ld.getD k default
end
section
variable {key:Int→Int} {f:Int} {n:Nat} {out:List Int}
theorem HonL.at_ (h:HonL key f n out) {i j:Nat} (hij:i<j) (hj:j<out.length):zQ key (out.getD i default) (out.getD j default):=by
 have:=List.pairwise_iff_getElem.1 h.1 i j (by omega) hj hij
 rw [List.getD_eq_getElem?_getD,List.getD_eq_getElem?_getD,List.getElem?_eq_getElem hj,List.getElem?_eq_getElem (show i<out.length by omega)]
 exact this
theorem HonL.qe6 (h:HonL key f n out) {i:Nat} (hi:i<out.length):f≤out.getD i default∧out.getD i default<f+n:=by
 refine (h.2 _).1 ?_
 rw [List.getD_eq_getElem?_getD,List.getElem?_eq_getElem hi]
 exact List.getElem_mem hi
theorem HonL.inj (h:HonL key f n out) {i j:Nat} (hi:i<out.length) (hj:j<out.length) (e:out.getD i default=out.getD j default):i=j:=by
 have irr:=(Zo key).irr
 rcases Nat.lt_trichotomy i j with q|q|q
 ·have:=h.at_ q hj;rw [e] at this;exact absurd this (irr _)
 ·exact q
 ·have:=h.at_ q hi;rw [e] at this;exact absurd this (irr _)
theorem HonL.qgX (h:HonL key f n out) {k:Nat} (hk:k<n):∃ i,i<out.length∧out.getD i default=f+k:=by
 have:=(h.2 (f+k)).2 ⟨by omega,by omega⟩
 obtain ⟨i,hi,e⟩:=List.getElem_of_mem this
 refine ⟨i,hi,?_⟩
 rw [List.getD_eq_getElem?_getD,List.getElem?_eq_getElem hi];exact e
theorem HonL.len (h:HonL key f n out):out.length=n:=by
 refine Nat.le_antisymm ?_ ?_
 ·refine xZ n out.length (fun i=>(out.getD i default - f).toNat) (fun k hk=>?_) fun i j hi hj e=>?_
  ·have:=h.qe6 hk;show (out.getD k default - f).toNat<n;omega
  ·have a:=h.qe6 hi
   have b:=h.qe6 hj
   have e:(out.getD i default - f).toNat=(out.getD j default - f).toNat:=e
   exact h.inj hi hj (by omega)
 ·have ch:∀ k,∃ i,k<n→i<out.length∧out.getD i default=f+k:=fun k=>by
   by_cases hk:k<n
   ·obtain ⟨i,hi⟩:=h.qgX hk;exact ⟨i,fun _=>hi⟩
   ·exact ⟨0,fun q=>absurd q hk⟩
  obtain ⟨g,hg⟩:=Classical.axiomOfChoice ch
  refine xZ out.length n g (fun k hk=>(hg k hk).1) fun i j hi hj e=>?_
  have a:=(hg i hi).2
  have b:=(hg j hj).2
  rw [e] at a
  omega
theorem HonL.zero (h:HonL key f n out) {s:Nat} (hs:s<n) (hz:∀ k:Nat,k<n→(key (f+k)=0↔k=s)) (hb:∀ k:Nat,k<n→0≤key (f+k)) {i:Nat} (hi:i<out.length):key (out.getD i default)=0↔i=0:=by
 have at':∀ {i:Nat},i<out.length→∃ k:Nat,k<n∧out.getD i default=f+k:=fun {i} hi=>by
  have:=h.qe6 hi
  exact ⟨(out.getD i default - f).toNat,by omega,by omega⟩
 obtain ⟨j,hj,ej⟩:=h.qgX hs
 have k0:key (out.getD j default)=0:=by rw [ej];exact (hz s hs).2 rfl
 have uniq:∀ {i:Nat},i<out.length→key (out.getD i default)=0→i=j:=fun {i} hi e=>by
  obtain ⟨k,hk,ek⟩:=at' hi
  rw [ek] at e
  have:=(hz k hk).1 e
  subst this
  exact h.inj hi hj (by rw [ek,ej])
 have j0:j=0:=by
  rcases Nat.eq_zero_or_pos j with q|q
  ·exact q
  ·exfalso
   have hl:=h.at_ q hj
   obtain ⟨k,hk,ek⟩:=at' (show 0<out.length by omega)
   have:=hb k hk
   rw [← ek] at this
   unfold zQ at hl
   have e0:key (out.getD 0 default)=0:=by omega
   have:=uniq (show 0<out.length by omega) e0
   omega
 constructor
 ·intro q;rw [uniq hi q,j0]
 ·intro q;rw [q,← j0];exact k0
end
set_option linter.unusedSimpArgs false
set_option maxRecDepth 100000
theorem qe8 {n:Nat} {ld:List Int} {k:Nat} (h:k<ld.length):(Yj n ld).getD k default=lev n ld k:=by rw [qbS n ld k h];rfl
theorem LevR.is {l:List Tab} {a d:Int} {i k n:Nat} {ld:List Int} (h:LevR l a d) (w:WhereI l a i k) (hn:qC (tb l i)=n) (D:DistL (zu (tb l i)) n (ZG (tb l i)).toNat ld):d=lev n ld k:=by
 have hnn:(qC (tb l i)).toNat=n:=by omega
 rcases h with ⟨i',k',ld',w',D',e⟩|⟨-,h⟩
 ·obtain ⟨rfl,rfl⟩:=w.unique w'
  rw [hnn] at D' e
  obtain rfl:=D.unique D'
  rw [e,qe8]
  have:=w.2.2.1
  rw [D.1];omega
 ·exact absurd w (h _ _)
theorem NbR.is {l:List Tab} {a:Int} {i k n:Nat} {out:List Int} (h:NbR l a out) (w:WhereI l a i k) (hn:qC (tb l i)=n):out=Jg (zu (tb l i)) k a n:=by
 have hnn:(qC (tb l i)).toNat=n:=by omega
 rcases h with ⟨i',k',w',e⟩|⟨-,h⟩
 ·obtain ⟨rfl,rfl⟩:=w.unique w'
  rw [e,hnn]
 ·exact absurd w (h _ _)
theorem DistR.is {l:List Tab} {a b d:Int} {f:Bool} {i k m n:Nat} (h:DistR l a b d f) (w1:WhereI l a i k) (w2:WhereI l b i m) (hn:qC (tb l i)=n):f=true↔∃ e,Wk (zu (tb l i)) n k e m:=by
 have hnn:(qC (tb l i)).toNat=n:=by omega
 rcases h with ⟨rfl,i',k',m',e,q1,q2,-,q3⟩|⟨rfl,-,q⟩
 ·obtain ⟨rfl,rfl⟩:=w1.unique q1
  obtain ⟨-,rfl⟩:=w2.unique q2
  rw [hnn] at q3
  exact ⟨fun _=>⟨e,q3.1⟩,fun _=>rfl⟩
 ·refine ⟨fun q=>(by cases q),fun ⟨e,he⟩=>?_⟩
  obtain ⟨e',-,h2⟩:=he.least
  exact absurd (by rw [hnn];exact h2) (q i k m e' w1 w2)
theorem HonR.is {l:List Tab} {i n:Nat} {out:List Int} (h:HonR l i out) (hi:i<l.length) (hv:ValidL l) (hn:qC (tb l i)=n):∃ ld,DistL (zu (tb l i)) n (ZG (tb l i)).toNat ld∧HonL (fun x=>(Yj n ld).getD (x - sumT l i).toNat default) (sumT l i) n out:=by
 rcases h with ⟨i',n',ld,e,h1,h2,h3,h4,h5⟩|⟨h1,-⟩
 ·obtain rfl:i=i':=by omega
  obtain rfl:n=n':=by omega
  exact ⟨ld,h4,h5⟩
 ·exact absurd ⟨by omega,by omega,hv⟩ h1
end Go.Proofs.Xx
namespace Go.Proofs.Xx
set_option linter.unusedVariables false
section
variable {N:Int→Int→Prop} {n:Nat}
def Rch (N:Int→Int→Prop) (n k m:Nat):Prop:=∃ d,Wk N n k d m
theorem Rch.refl (k:Nat):Rch N n k k:=⟨0,rfl⟩
theorem Wk.trans {s y:Nat} {d:Nat} (h:Wk N n s d y):∀ {e z:Nat},Wk N n y e z→Wk N n s (d+e) z
 | 0,z,g=>by
  have:z=y:=g
  subst this;exact h
 | e+1,z,⟨x,hx,g,hn⟩=>⟨x,hx,Wk.trans h g,hn⟩
theorem Wk.symm (hN:∀ x y,N x y→N y x) {s:Nat} (hs:s<n):∀ {d y:Nat},y<n→Wk N n s d y→Wk N n y d s
 | 0,y,hy,h=>Eq.symm (show y=s from h)
 | d+1,y,hy,⟨x,hx,h,hn⟩=>by
  have h1:Wk N n y 1 x:=⟨y,hy,rfl,hN _ _ hn⟩
  have:=Wk.trans h1 (Wk.symm hN hs hx h)
  rwa [Nat.add_comm] at this
theorem Rch.trans {a b c:Nat} (h:Rch N n a b) (g:Rch N n b c):Rch N n a c:=by
 obtain ⟨d,h⟩:=h
 obtain ⟨e,g⟩:=g
 exact ⟨d+e,h.trans g⟩
theorem Rch.symm (hN:∀ x y,N x y→N y x) {a b:Nat} (ha:a<n) (hb:b<n) (h:Rch N n a b):Rch N n b a:=by
 obtain ⟨d,h⟩:=h
 exact ⟨d,h.symm hN ha hb⟩
theorem DistL.rch {s:Nat} {l:List Int} (h:DistL N n s l) {y:Nat} (hy:y<n):0≤l.getD y default↔Rch N n s y:=by
 rcases h.2 y hy with ⟨h1,h2⟩|⟨d,h1,h2⟩
 ·exact ⟨fun q=>by omega,fun ⟨d,q⟩=>absurd q (h2 d)⟩
 ·exact ⟨fun _=>⟨d,h2.1⟩,fun _=>by omega⟩
open Classical in
noncomputable def jD (N:Int→Int→Prop) (n:Nat) (f:Int) (k:Nat):Nat→List Int
 | 0=>[]
 | m+1=>if Rch N n k m then jD N n f k m ++ [f+(m:Int)] else jD N n f k m
theorem Xa (f:Int) (k:Nat):∀ m,(jD N n f k m).length≤m
 | 0=>Nat.le_refl _
 | m+1=>by
  have:=Xa f k m
  unfold jD
  split
  ·simp;omega
  ·omega
def yz (N:Int→Int→Prop) (n k:Nat):Prop:=∀ m,m<n→Rch N n k m→k≤m
open Classical in
noncomputable def zF (N:Int→Int→Prop) (n:Nat) (f:Int):Nat→List (List Int)
 | 0=>[]
 | m+1=>if yz N n m then zF N n f m ++ [jD N n f m n] else zF N n f m
theorem WM (f:Int):∀ m,(zF N n f m).length≤m
 | 0=>Nat.le_refl _
 | m+1=>by
  have:=WM f m
  unfold zF
  split
  ·simp;omega
  ·omega
end
set_option linter.unusedSimpArgs false
set_option maxRecDepth 100000
def LLs (vs:List Value) (ls:List (List Int)) (h:AH) (fp:Fp):Prop:=vs.length=ls.length∧∀ j,j<ls.length→RdL h (vs.getD j default) 1 eI (ls.getD j default)
def RLL (h:AH) (v:Value) (ls:List (List Int)):Prop:=∃ vs,RdL h v 1 eV vs∧vs.length=ls.length∧∀ j,j<ls.length→RdL h (vs.getD j default) 1 eI (ls.getD j default)
theorem RLL.ext {h h':AH} {v:Value} {ls:List (List Int)} (r:RLL h v ls) (w:WfH h) (x:Ext h h'):RLL h' v ls:=by
 obtain ⟨vs,h1,h2,h3⟩:=r
 exact ⟨vs,h1.ext w x,h2,fun j hj=>(h3 j hj).ext w x⟩
theorem RLL.nil {h:AH}:RLL h (.slice none 0 0) []:=⟨[],Rd.none_ h 1,rfl,fun j hj=>absurd hj (Nat.not_lt_zero _)⟩
theorem LLs.nil (h:AH) (fp:Fp):LLs [] [] h fp:=⟨rfl,fun j hj=>absurd hj (Nat.not_lt_zero _)⟩
theorem Hs.qdH {h0 h:AH} {rs:List Rs} {b:Value} {e:TypeId} {l:List Int} {vs:List Value} {ls:List (List Int)} (S:Hs h0 h (.sl b e 1 eI l :: .any (LLs vs ls) :: rs)):Hs h0 h (.any (LLs (vs ++ [b]) (ls ++ [l])) :: rs) :=
 S.merge fun f1 f2 k1 k2 h'' hh=>by
  have k2:=k2 h'' fun b hb=>hh b (.inr hb)
  have k1:=k1.local fun b hb=>hh b (.inl hb)
  refine ⟨by simp [k2.1],fun j hj=>?_⟩
  rw [List.length_append,List.length_cons,List.length_nil] at hj
  rcases Nat.lt_or_ge j ls.length with q|q
  ·rw [jq _ _ (by rw [k2.1];exact q),jq _ _ q];exact k2.2 j q
  ·rw [jC _ _ (by rw [k2.1];omega),jC _ _ (by omega)]
   rcases k1 with ⟨rfl,rfl⟩|⟨b',o,cc,slk,g1,g2,g3,g4,g5⟩
   ·exact Rd.none_ _ 1
   ·exact .inr ⟨b',o,_,cc,e,slk,false,g1,g2,g4⟩
theorem RLL.of {h0 h:AH} {rs:List Rs} {v:Value} {e:TypeId} {vs:List Value} {ls:List (List Int)} (S:Hs h0 h rs) (a:At rs (.sl v e 1 eV vs)) (b:At rs (.any (LLs vs ls))):RLL h v ls:=by
 obtain ⟨fp,k⟩:=S.Xb b
 exact ⟨vs,Rd.zo S a,k.1,k.2⟩
theorem qbc {h0:AH} (w:WfH h0) (v u:Value) (ls ms:List (List Int)) (hv:RLL h0 v ls) (hu:RLL h0 u ms) (hl:ls.length≤1000000) (hm:ms.length≤1000000) (hb1:∀ j,j<ls.length→(ls.getD j default).length≤1000000) (hb2:∀ j,j<ms.length→(ms.getD j default).length≤1000000) :
 Fn Tryz.prog Xh 101 [v,u,.func (.func 59) #[] #[]] h0 (fun r h'=>BoolIs r (ls=ms)∧Hs h0 h' []):=by
 have S:=Hs.start w
 obtain ⟨vs,v1,v2,v3⟩:=hv
 obtain ⟨us,u1,u2,u3⟩:=hu
 refine qF rfl Tryz.func101 rfl rfl ?_
 all_goals (repeat' (first|refine qi ?_|refine ql rfl ?_|refine qo ?_|refine qm ?_|(refine qf 0 ?_;refine mv ?_;refine qg ?_)|(refine qf 1 ?_;refine mv ?_;refine QD S ?_;refine mv ?_;refine QD S ?_;(first|(refine cS ?_ ?_<;>intro hc))<;>(refine qg ?_))|(refine qf 2 ?_;refine mv ?_;refine qg ?_)|(refine qf 3 ?_;refine mv ?_;refine QD S ?_;refine mv ?_;refine qg ?_)))
 ·refine qx ⟨_,rfl,?_⟩
  exact ⟨.inr ⟨rfl,fun q=>hc (by rw [v2,u2,q])⟩,S⟩
 ·refine qE (σ:=Nat) (fun i h'=>Hs h0 h' []∧i≤vs.length∧∀ j,j<i→ls.getD j default=ms.getD j default) (fun i=>vs.length - i) (fun i=>[(1,u),(2,.func (.func 59) #[] #[]),(15,v),(16,.int .i64 vs.length),(17,.int .i64 i)]) 0 (by repeat (first|exact Ks.le_nil _|refine Ks.qh rfl ?_)) ?_ ?_
  ·exact ⟨S,Nat.zero_le _,fun j hj=>absurd hj (Nat.not_lt_zero _)⟩
  clear S
  rintro i h ⟨S,h1,h2⟩
  have hlm:vs.length=us.length:=by omega
  all_goals (repeat' (first|refine qi ?_|refine ql rfl ?_|refine qo ?_|refine qA ?_|refine qm ?_|(refine qf 4 ?_;(first|(refine cS ?_ ?_<;>intro hc))<;>(refine qg ?_))|(refine qf 5 ?_;refine mv ?_;refine jv S ?_;refine zS S ?_;refine mv ?_;refine mv ?_;refine qg ?_)|(refine qf 6 ?_;refine mv ?_;refine mv ?_;refine jv S ?_;refine zS S ?_;refine mv ?_;refine qg ?_)|(refine qf 7 ?_;(iterate 3 refine mv ?_);skip)|(refine qf 10 ?_;refine mv ?_;refine qg ?_)))
  ·(try simp only [Int.toNat_natCast] at *)
   have hi:i<vs.length:=by omega
   (refine qN rfl rfl rfl rfl ((Jd S.wf (vs.getD i default) (us.getD i default) (ls.getD i default) (ms.getD i default) ((v3 i (by omega)).ext w S.ext) ((u3 i (by omega)).ext w S.ext) (hb1 i (by omega)) (hb2 i (by omega))).mono ?_);rintro _ h ⟨⟨rfl,hq⟩|⟨rfl,hq⟩,x⟩)<;>(replace S:=S.qy x;clear x;refine vl ?_;refine qg ?_)
   all_goals (repeat' (first|refine qi ?_|refine ql rfl ?_|refine qo ?_|(refine qf 8 ?_;refine mv ?_;refine qg ?_)|(refine qf 9 ?_;refine ad ?_;refine mv ?_;refine qg ?_)))
   ·refine ⟨i+1,?_,?_,(by repeat (first|exact Ks.le_nil _|refine Ks.qh rfl ?_))⟩
    ·show vs.length - (i+1)<vs.length - i;omega
    ·refine ⟨S.drop,by omega,fun j hj=>?_⟩
     rcases Nat.lt_or_ge j i with q|q
     ·exact h2 j q
     ·obtain rfl:j=i:=by omega
      exact hq
   ·refine qx ⟨_,rfl,?_⟩
    exact ⟨.inr ⟨rfl,fun q=>hq (by rw [q])⟩,S.drop⟩
  ·refine qx ⟨_,rfl,?_⟩
   exact ⟨.inl ⟨rfl,qap (by omega) fun j hj=>h2 j (by omega)⟩,S⟩
theorem ZJ {h0:AH} (w:WfH h0) (v u:Value) (ls ms:List (List Int)) (hv:RLL h0 v ls) (hu:RLL h0 u ms) (hl:ls.length≤1000000) (hm:ms.length≤1000000) (hb1:∀ j,j<ls.length→(ls.getD j default).length≤1000000) (hb2:∀ j,j<ms.length→(ms.getD j default).length≤1000000) :
 Fn Tryz.prog Xh 42 [v,u] h0 (fun r h'=>BoolIs r (ls=ms)∧Hs h0 h' []):=by
 have S:=Hs.start w
 refine qF rfl Tryz.func42 rfl rfl ?_
 all_goals (repeat' (first|refine qi ?_|(refine qf 0 ?_;refine mv ?_;refine qg ?_)|(refine qf 1 ?_;refine mv ?_;refine mv ?_)))
 (refine qw rfl rfl rfl rfl rfl ((qbc S.wf v u ls ms hv hu hl hm hb1 hb2).mono ?_);rintro _ h ⟨hq,x⟩)<;>(replace S:=S.qy x;clear x;refine mv ?_;refine qg ?_)
 all_goals (repeat' (fail))
 refine qx ⟨_,rfl,?_⟩
 exact ⟨hq,S⟩
def BlkR (l:List Tab) (t:Int) (ls:List (List Int)):Prop :=
 (∃ i n:Nat,t=i∧i<l.length∧ValidL l∧qC (tb l i)=n∧ls=zF (zu (tb l i)) n (sumT l i) n)∨(¬ (0≤t∧t<l.length∧ValidL l)∧ls=[])
theorem BlkR.unique {l:List Tab} {t:Int} {a b:List (List Int)} (ha:BlkR l t a) (hb:BlkR l t b):a=b:=by
 rcases ha with ⟨i,n,rfl,h1,h2,h3,rfl⟩|⟨h1,rfl⟩<;>rcases hb with ⟨i',n',e,g1,g2,g3,rfl⟩|⟨g1,rfl⟩
 ·obtain rfl:i=i':=by omega
  obtain rfl:n=n':=by omega
  rfl
 ·exact absurd ⟨by omega,by omega,h2⟩ g1
 ·exact absurd ⟨by omega,by omega,g2⟩ h1
 ·rfl
theorem yX (N:Int→Int→Prop) (n:Nat) (f:Int):∀ (m j:Nat),j<(zF N n f m).length→((zF N n f m).getD j default).length≤n
 | 0,j,h=>by simp [zF] at h
 | m+1,j,h=>by
  have ih:=yX N n f m j
  unfold zF at h ⊢
  split at h
  ·rename_i hq
   rw [if_pos hq]
   rw [List.length_append,List.length_cons,List.length_nil] at h
   rcases Nat.lt_or_ge j (zF N n f m).length with q|q
   ·rw [jq _ _ q];exact ih q
   ·rw [jC _ _ (by omega)];exact Xa f m n
  ·rename_i hq
   rw [if_neg hq];exact ih h
theorem BlkR.bound {l:List Tab} {t:Int} {ls:List (List Int)} (h:BlkR l t ls):ls.length≤24∧∀ j,j<ls.length→(ls.getD j default).length≤24:=by
 rcases h with ⟨i,n,rfl,h1,h2,h3,rfl⟩|⟨h1,rfl⟩
 ·have:=qK (tb l i)
  have b1:=WM (N:=zu (tb l i)) (n:=n) (sumT l i) n
  exact ⟨by omega,fun j hj=>by have:=yX _ _ _ _ _ hj;omega⟩
 ·exact ⟨by simp,fun j hj=>by simp at hj⟩
theorem qa3 (t:Tab) (x y:Int) (h:zu t x y):zu t y x:=by
 rcases h with h|h
 ·exact .inl ((jM t x y).1 h)
 ·exact .inr ((QV t x y).1 h)
theorem qc8 {h0:AH} (w:WfH h0) (v:Value) (l:List Tab) (H:HallR h0 v l) (t:Int):Fn Tryz.prog Xh 46 [v,.int .i64 t] h0 (fun r h'=>∃ ls,BlkR l t ls∧RLL h' r ls∧Hs h0 h' []):=by
 have S:=Hs.start w
 have hl:=H.len
 have hr:=H.rd
 by_cases ht0:t<0
 ·refine qF rfl Tryz.func46 rfl rfl ?_
  all_goals (repeat' (first|refine qi ?_|refine ql rfl ?_|(refine qf 0 ?_;refine mv ?_;refine qg ?_)|(refine qf 1 ?_;refine mv ?_;(refine cT ?_)<;>(refine mv ?_;refine off ?_;refine off ?_;refine off ?_;(refine off ?_)<;>(refine vl ?_;refine mv ?_;refine off ?_;(first|(refine off ?_;refine off ?_;refine vl ?_;refine qg ?_)))))|(refine qf 2 ?_;refine mv ?_;refine qg ?_)))
  all_goals (try omega)
  refine qx ⟨_,rfl,?_⟩
  exact ⟨[],.inr ⟨by omega,rfl⟩,.nil,S⟩
 obtain ⟨i,rfl⟩:=Int.eq_ofNat_of_zero_le (show 0≤t by omega)
 refine qF rfl Tryz.func46 rfl rfl ?_
 all_goals (repeat' (first|refine qi ?_|refine ql rfl ?_|(refine qf 0 ?_;refine mv ?_;refine qg ?_)|(refine qf 1 ?_;refine mv ?_;(refine cF ?_)<;>((iterate 3 refine mv ?_);(first|(refine QD S ?_));(first|(first|(refine cS ?_ ?_<;>intro hc)))<;>(refine vl ?_;refine mv ?_;(first|refine off ?_|refine mv ?_);(first|(refine off ?_;refine off ?_;refine vl ?_;refine qg ?_)|skip))))|(refine qf 2 ?_;refine mv ?_;refine qg ?_)))
 all_goals (try omega)
 ·refine qx ⟨_,rfl,?_⟩
  exact ⟨[],.inr ⟨by omega,rfl⟩,.nil,S⟩
 ·(refine qw rfl rfl rfl rfl rfl ((Zj S.wf v l H).mono ?_);rintro _ h ⟨⟨rfl,hq⟩|⟨rfl,hq⟩,x⟩)<;>(replace S:=S.qy x;clear x;refine vl ?_;refine vl ?_;refine qg ?_)
  all_goals (repeat' (first|refine qi ?_|refine ql rfl ?_|refine qo ?_|(refine qf 2 ?_;refine mv ?_;refine qg ?_)|(refine qf 3 ?_;refine mv ?_;refine mv ?_)))
  ·have hi:i<l.length:=by omega
   have hts:=hq.qeJ hi
   have t1:=qK (tb l i)
   have t2:=hts.pos
   have b1:=jJ l i
   obtain ⟨n,hn⟩:=Int.eq_ofNat_of_zero_le t1.1
   (try simp only [Int.toNat_natCast] at *)
   obtain ⟨f,hf⟩:∃ f,f=sumT l i:=⟨_,rfl⟩
   have ef:zY l i=f:=by unfold zY;rw [if_pos ⟨by omega,by omega,hq⟩,Int.toNat_natCast,hf]
   rw [← hf] at b1
   (refine qw rfl rfl rfl rfl rfl ((Jc S.wf v l (H.ext w S.ext) i).mono ?_);rintro _ h ⟨rfl,x⟩)<;>(replace S:=S.qy x;clear x;rw [ef];refine mv ?_;refine qg ?_)
   all_goals (repeat' (first|refine qi ?_|(refine qf 4 ?_;refine mv ?_;refine mv ?_;refine jv S ?_;refine zS S ?_)))
   (try simp only [Int.toNat_natCast] at *)
   (refine qw rfl rfl rfl rfl rfl ((Ze S.wf (tb l i)).mono ?_);rintro _ h ⟨rfl,x⟩)<;>(replace S:=S.qy x;clear x;rw [hn])
   refine VJ (z:=1) (by_:=1) (enc:=eB) (y0:=false) S rfl rfl rfl rfl rfl rfl rfl rfl rfl (by intro _;rfl) (by first|omega) rfl rfl ?_;clear S;intro v h S;refine mv ?_;refine qg ?_
   simp only [Int.toNat_natCast] at S
   obtain ⟨vd,hnm⟩:∃ x,x=v:=⟨_,rfl⟩;subst hnm
   obtain ⟨N,hN⟩:∃ N,N=zu (tb l i):=⟨_,rfl⟩
   have hsym:∀ x y,N x y→N y x:=by rw [hN];exact qa3 _
   all_goals (repeat' (first|refine qi ?_|refine qm ?_|(refine qf 5 ?_;refine mv ?_;refine qg ?_)|(refine qf 6 ?_;refine mv ?_;refine ZC S rfl rfl ?_;refine mv ?_;refine qg ?_)))
   refine qE (σ:=Nat×List Bool×List Value×Value) (fun (k,dn,vs,vo) h'=>Hs h0 h' [.sl vd 4 1 eB dn,.sl vo 23 1 eV vs,.any (LLs vs (zF N n f k))]∧k≤n∧dn.length=n∧vs.length≤k∧∀ m,m<n→(dn.getD m default=true↔∃ k',k'<k∧Rch N n k' m)) (fun (k,dn,vs,vo)=>n - k) (fun (k,dn,vs,vo)=>[(0,v),(1,.int .i64 i),(5,.int .i64 f),(6,vd),(7,vo),(35,.int .i64 n),(36,.int .i64 k)]) (0,List.replicate n false,[],.slice none 0 0) (by repeat (first|exact Ks.le_nil _|refine Ks.qh rfl ?_|refine Ks.zf ?_)) ?_ ?_
   ·refine ⟨?_,Nat.zero_le _,by simp,by simp,fun m hm=>⟨fun q=>?_,fun ⟨k',q,_⟩=>by omega⟩⟩
    ·have S2:=(S.anyS (p:=LLs [] (zF N n f 0)) fun h'=>LLs.nil h' _).jP (α:=Value) (e:=23) (z:=1) (enc:=eV)
     exact S2.front (.there (.there .here))
    ·exfalso
     simp [List.getD_eq_getElem?_getD,List.getElem?_replicate,hm] at q
   clear S
   rintro ⟨k,dn,vs,vo⟩ h ⟨S,h1,h2,h3,h4⟩
   all_goals (repeat' (first|refine qi ?_|refine ql rfl ?_|refine qo ?_|refine qA ?_|refine qm ?_|(refine qf 7 ?_;(first|(refine cS ?_ ?_<;>intro hc))<;>(refine qg ?_))|(refine qf 8 ?_;refine mv ?_;refine mv ?_;refine qg ?_)))
   ·have hk:k<n:=by omega
    have h4k:=h4 k hk
    (repeat (refine qi ?_));refine qf 9 ?_;refine mv ?_;refine mv ?_;refine qH S rfl rfl ?_;refine qI S rfl rfl ?_;refine qg ?_
    refine qca rfl ?_ ?_<;>intro hb<;>simp only [Int.toNat_natCast] at hb
    rotate_left
    ·rw [hb] at h4k
     have hleast:yz N n k:=fun m hm hr=>Nat.le_of_not_lt fun q=>by
      have:=h4k.2 ⟨m,q,hr.symm hsym hk hm⟩
      cases this
     all_goals (repeat' (first|refine qi ?_|refine qo ?_|(refine qf 10 ?_;refine mv ?_;refine qg ?_)|(refine qf 11 ?_;refine mv ?_;refine mv ?_;refine jv S ?_;refine zS S ?_;refine mv ?_)))
     (refine qw rfl rfl rfl rfl rfl ((xA S.wf (tb l i) k n hts.b hn (by omega) hk).mono ?_);rintro vdi h ⟨dl,hdl,x⟩)<;>(replace S:=S.jo x;clear x;refine ZC S rfl rfl ?_;refine mv ?_;refine qg ?_)
     rw [← hN] at hdl
     have hdlen:=hdl.1
     all_goals (repeat' (refine qm ?_))
     refine qE (σ:=Nat×List Bool×Value) (fun (m,d2,vb) h'=>Hs h0 h' [.sl vb 3 1 eI (jD N n f k m),.sl vdi 3 1 eI dl,.sl vd 4 1 eB d2,.sl vo 23 1 eV vs,.any (LLs vs (zF N n f k))]∧m≤n∧d2.length=n∧∀ y,y<n→(d2.getD y default=true↔dn.getD y default=true∨(y<m∧Rch N n k y))) (fun (m,d2,vb)=>n - m) (fun (m,d2,vb)=>[(0,v),(1,.int .i64 i),(5,.int .i64 f),(6,vd),(7,vo),(8,.int .i64 k),(9,vb),(35,.int .i64 n),(36,.int .i64 k),(48,vdi),(49,.int .i64 n),(50,.int .i64 m)]) (0,dn,.slice none 0 0) (by repeat (first|exact Ks.le_nil _|refine Ks.qh rfl ?_|refine Ks.zf ?_)) ?_ ?_
     ·exact ⟨S.jP,Nat.zero_le _,h2,fun y hy=>⟨.inl,fun q=>q.elim id fun q=>by omega⟩⟩
     clear S
     rintro ⟨m,d2,vb⟩ h ⟨S,g1,g2,g3⟩
     obtain ⟨sb,rfl⟩:=(Rd.zo S .here).Xq
     have hbl:=Xa (N:=N) (n:=n) f k m
     all_goals (repeat' (first|refine qi ?_|refine ql rfl ?_|refine qo ?_|refine qA ?_|refine qm ?_|(refine qf 12 ?_;(first|(refine cS ?_ ?_<;>intro hc))<;>(refine qg ?_))|(refine qf 13 ?_;refine mv ?_;refine qH S rfl rfl ?_;refine qI S rfl rfl ?_;refine mv ?_;refine mv ?_;refine qg ?_)|(refine qf 14 ?_;refine mv ?_;(first|(refine cS ?_ ?_<;>intro hc))<;>(refine qg ?_))|(refine qf 15 ?_;refine mv ?_;refine mv ?_;refine qH S rfl rfl ?_;(first|(refine ZK S rfl rfl ?_;clear S;intro h S));refine qg ?_)|(refine qf 16 ?_;(iterate 3 refine mv ?_);refine ad ?_;(refine one 1 S ?_;clear S;intro u h S))|(refine qf 17 ?_;refine ad ?_;refine mv ?_;refine qg ?_)|(refine qf 18 ?_;refine mv ?_;refine mv ?_;(refine one 1 S ?_;clear S;intro u h S))))
     ·simp only [Int.toNat_natCast] at hc S
      have hm:m<n:=by omega
      have hrc:=(hdl.rch hm).1 (by assumption)
      refine app  S rfl rfl ?_;clear S;intro v h S;refine mv ?_;refine qg ?_
      all_goals (repeat' (first|(refine qf 17 ?_;refine ad ?_;refine mv ?_;refine qg ?_)))
      refine ⟨(m+1,d2.set m true,v),?_,?_,(by repeat (first|exact Ks.le_nil _|refine Ks.qh rfl ?_))⟩
      ·show n - (m+1)<n - m;omega
      ·refine ⟨?_,by omega,by simpa using g2,fun y hy=>?_⟩
       ·have e:jD N n f k (m+1)=jD N n f k m ++ [f+(m:Int)]:=by rw [jD,if_pos hrc]
        rw [e];exact S
       ·rw [Vg _ _ (by omega)]
        split
        ·rename_i e;subst e;exact ⟨fun _=>.inr ⟨by omega,hrc⟩,fun _=>rfl⟩
        ·rw [g3 y hy]
         exact ⟨fun q=>q.imp id fun q=>⟨by omega,q.2⟩,fun q=>q.imp id fun q=>⟨by omega,q.2⟩⟩
     ·(try simp only [Int.toNat_natCast] at hc)
      have hm:m<n:=by omega
      have hrc:¬ Rch N n k m:=fun q=>hc ((hdl.rch hm).2 q)
      refine ⟨(m+1,d2,sb.val),?_,?_,(by repeat (first|exact Ks.le_nil _|refine Ks.qh rfl ?_))⟩
      ·show n - (m+1)<n - m;omega
      ·refine ⟨?_,by omega,g2,fun y hy=>?_⟩
       ·have e:jD N n f k (m+1)=jD N n f k m:=by rw [jD,if_neg hrc]
        rw [e];exact S
       ·rw [g3 y hy]
        refine ⟨fun q=>q.imp id fun q=>⟨by omega,q.2⟩,fun q=>q.imp id fun q=>⟨?_,q.2⟩⟩
        rcases Nat.lt_or_ge y m with a|a
        ·exact a
        ·obtain rfl:y=m:=by omega
         exact absurd q.2 hrc
     ·obtain rfl:m=n:=by omega
      refine app  S rfl rfl ?_;clear S;intro v h S;refine mv ?_;refine qg ?_
      all_goals (repeat' (first|(refine qf 19 ?_;refine ad ?_;refine mv ?_;refine qg ?_)))
      refine ⟨(k+1,d2,vs ++ [sb.val],v),?_,?_,(by repeat (first|exact Ks.le_nil _|refine Ks.qh rfl ?_))⟩
      ·show m - (k+1)<m - k;omega
      ·refine ⟨?_,by omega,g2,by simp;omega,fun y hy=>?_⟩
       ·have e:zF N m f (k+1)=zF N m f k ++ [jD N m f k m]:=by rw [zF,if_pos hleast]
        rw [e]
        have S:=((S.del (.there (.there .here))).front (.there (.there (.there .here)))).front (.there (.there .here))
        exact ((S.qdH).front (.there .here)).front (.there (.there .here))
       ·rw [g3 y hy,h4 y hy]
        constructor
        ·rintro (⟨k',q1,q2⟩|⟨q1,q2⟩)
         ·exact ⟨k',by omega,q2⟩
         ·exact ⟨k,by omega,q2⟩
        ·rintro ⟨k',q1,q2⟩
         rcases Nat.lt_or_ge k' k with a|a
         ·exact .inl ⟨k',a,q2⟩
         ·obtain rfl:k'=k:=by omega
          exact .inr ⟨hy,q2⟩
    ·rw [hb] at h4k
     obtain ⟨k0,q1,q2⟩:=h4k.1 rfl
     have hnl:¬ yz N n k:=fun q=>by have:=q k0 (by omega) (q2.symm hsym (by omega) hk);omega
     all_goals (repeat' (first|refine qA ?_|(refine qf 19 ?_;refine ad ?_;refine mv ?_;refine qg ?_)))
     refine ⟨(k+1,dn,vs,vo),?_,?_,(by repeat (first|exact Ks.le_nil _|refine Ks.qh rfl ?_))⟩
     ·show n - (k+1)<n - k;omega
     ·refine ⟨?_,by omega,h2,by omega,fun y hy=>?_⟩
      ·have e:zF N n f (k+1)=zF N n f k:=by rw [zF,if_neg hnl]
       rw [e];exact S
      ·rw [h4 y hy]
       constructor
       ·rintro ⟨k',a,b⟩;exact ⟨k',by omega,b⟩
       ·rintro ⟨k',a,b⟩
        rcases Nat.lt_or_ge k' k with a2|a2
        ·exact ⟨k',a2,b⟩
        ·obtain rfl:k'=k:=by omega
         exact ⟨k0,q1,q2.trans b⟩
   ·obtain rfl:k=n:=by omega
    all_goals (repeat' (first|(refine qf 20 ?_;refine mv ?_;refine mv ?_;refine qg ?_)))
    refine qx ⟨_,rfl,?_⟩
    exact ⟨_,.inl ⟨i,k,rfl,hi,hq,hn,rfl⟩,by rw [← hf,← hN];exact RLL.of S (.there .here) (.there (.there .here)),S.drop⟩
  ·refine qx ⟨_,rfl,?_⟩
   exact ⟨[],.inr ⟨fun q=>hq q.2.2,rfl⟩,.nil,S⟩
theorem Kt {h0:AH} (w:WfH h0) (v:Value) (l:List Tab) (H:HallR h0 v l) (hq:ValidL l) (i:Nat) (hi:i<l.length):Fn Tryz.prog Xh 79 [v,.int .i64 i] h0 (fun r h'=>∃ ls,BlkR l i ls∧RLL h' r ls∧Hs h0 h' []):=by
 have S:=Hs.start w
 have hl:=H.len
 have hr:=H.rd
 have hts:=hq.qeJ hi
 have t1:=qK (tb l i)
 have t2:=hts.pos
 have b1:=jJ l i
 obtain ⟨n,hn⟩:=Int.eq_ofNat_of_zero_le t1.1
 obtain ⟨f,hf⟩:∃ f,f=sumT l i:=⟨_,rfl⟩
 rw [← hf] at b1
 obtain ⟨N,hN⟩:∃ N,N=zu (tb l i):=⟨_,rfl⟩
 refine qF rfl Tryz.func79 rfl rfl ?_
 all_goals (repeat' (first|refine qi ?_|(refine qf 0 ?_;refine mv ?_;refine qg ?_)|(refine qf 1 ?_;refine mv ?_;refine qg ?_)|(refine qf 2 ?_;refine mv ?_;refine mv ?_;refine jv S ?_;refine zS S ?_)))
 (try simp only [Int.toNat_natCast] at *)
 (refine qw rfl rfl rfl rfl rfl ((jc S.wf (tb l i)).mono ?_);rintro _ h ⟨rfl,x⟩)<;>(replace S:=S.qy x;clear x;refine mv ?_;refine qg ?_)
 rw [hn]
 all_goals (repeat' (first|refine qi ?_|refine qm ?_|(refine qf 3 ?_;refine mv ?_;refine qg ?_)))
 refine qE (σ:=Nat×List Value×Value) (fun (k,vs,vo) h'=>Hs h0 h' [.sl vo 23 1 eV vs,.any (LLs vs (zF N n f k))]∧k≤n∧vs.length≤k) (fun (k,vs,vo)=>n - k) (fun (k,vs,vo)=>[(0,v),(1,.int .i64 i),(5,vo),(6,.int .i64 n),(7,.int .i64 k)]) (0,[],.slice none 0 0) (by repeat (first|exact Ks.le_nil _|refine Ks.qh rfl ?_)) ?_ ?_
 ·exact ⟨(S.anyS fun h'=>LLs.nil h' _).jP,Nat.zero_le _,by simp⟩
 clear S
 rintro ⟨k,vs,vo⟩ h ⟨S,h1,h2⟩
 all_goals (repeat' (first|refine qi ?_|refine ql rfl ?_|refine qo ?_|refine qA ?_|refine qm ?_|(refine qf 4 ?_;refine mv ?_;refine mv ?_;(first|(refine cS ?_ ?_<;>intro hc))<;>(refine qg ?_))|(refine qf 6 ?_;refine mv ?_;refine mv ?_;refine jv S ?_;refine zS S ?_;refine mv ?_)|(refine qf 17 ?_;refine mv ?_;refine mv ?_;refine qg ?_)))
 ·(try simp only [Int.toNat_natCast] at *)
  have hk:k<n:=by omega
  (refine qw rfl rfl rfl rfl rfl ((YG S.wf (tb l i) k n hts hn hk).mono ?_);rintro vdi h ⟨dl,hdl,x⟩)<;>(replace S:=S.jo x;clear x;refine mv ?_;refine qg ?_)
  rw [← hN] at hdl
  have hdlen:=hdl.1
  all_goals (repeat' (first|refine qi ?_|refine qm ?_|(refine qf 7 ?_;refine mv ?_;refine qg ?_)|(refine qf 8 ?_;refine mv ?_;refine qg ?_)|(refine qf 9 ?_;refine mv ?_;refine qg ?_)))
  refine qE (σ:=Nat×Bool×Value) (fun (m,b,vb) h'=>Hs h0 h' [.sl vb 3 1 eI (jD N n f k m),.sl vdi 3 1 eI dl,.sl vo 23 1 eV vs,.any (LLs vs (zF N n f k))]∧m≤n∧(b=true↔∀ y,y<m→Rch N n k y→k≤y)) (fun (m,b,vb)=>n - m) (fun (m,b,vb)=>[(0,v),(1,.int .i64 i),(5,vo),(6,.int .i64 n),(7,.int .i64 k),(8,vdi),(9,vb),(10,.bool b),(11,.int .i64 m)]) (0,true,.slice none 0 0) (by repeat (first|exact Ks.le_nil _|refine Ks.qh rfl ?_)) ?_ ?_
  ·exact ⟨S.jP,Nat.zero_le _,⟨fun _ y hy=>by omega,fun _=>rfl⟩⟩
  clear S
  rintro ⟨m,b,vb⟩ h ⟨S,g1,g2⟩
  obtain ⟨sb,rfl⟩:=(Rd.zo S .here).Xq
  have hbl:=Xa (N:=N) (n:=n) f k m
  have step:m<n→Rch N n k m→jD N n f k (m+1)=jD N n f k m ++ [f+(m:Int)]:=fun _ q=>by rw [jD,if_pos q]
  have skip_:¬ Rch N n k m→jD N n f k (m+1)=jD N n f k m:=fun q=>by rw [jD,if_neg q]
  have end_:∀ y,y<m+1→y<m∨y=m:=fun y hy=>by omega
  cases b
  ·all_goals (repeat' (first|refine qi ?_|refine ql rfl ?_|refine qo ?_|refine qA ?_|refine qm ?_|(refine qf 5 ?_;refine mv ?_;refine ad ?_;refine mv ?_;refine qg ?_)|(refine qf 10 ?_;refine mv ?_;refine mv ?_;(first|(refine cS ?_ ?_<;>intro hc))<;>(refine qg ?_))|(refine qf 11 ?_;refine mv ?_;refine ad ?_;refine mv ?_;refine qg ?_)|(refine qf 12 ?_;refine mv ?_;refine mv ?_;refine qH S rfl rfl ?_;refine qI S rfl rfl ?_;(first|(refine cS ?_ ?_<;>intro hc))<;>(refine qg ?_))|(refine qf 13 ?_;refine mv ?_;refine mv ?_;refine off ?_;refine off ?_;(refine off ?_)<;>(refine vl ?_;refine mv ?_;refine qg ?_))|(refine qf 14 ?_;(iterate 3 refine mv ?_);skip)|(refine qf 15 ?_;refine mv ?_;refine qg ?_)))
   ·(try simp only [Int.toNat_natCast] at hc)
    have hm:m<n:=by omega
    have hrc:=(hdl.rch hm).1 (by assumption)
    (refine qw rfl rfl rfl rfl rfl ((Zm S.wf v l (H.ext w S.ext) i (by omega)).mono ?_);rintro _ h ⟨rfl,x⟩)<;>(replace S:=S.qy x;clear x;rw [← hf];refine mv ?_;refine ad ?_;(refine one 1 S ?_;clear S;intro u h S))
    refine app  S rfl rfl ?_;clear S;intro v h S;refine mv ?_;refine qg ?_
    all_goals (repeat' (first|(refine qf 11 ?_;refine mv ?_;refine ad ?_;refine mv ?_;refine qg ?_)))
    refine ⟨(m+1,false,v),?_,?_,(by repeat (first|exact Ks.le_nil _|refine Ks.qh rfl ?_))⟩
    ·show n - (m+1)<n - m;omega
    ·refine ⟨by rw [step hm hrc];exact S,by omega,⟨fun q=>(by cases q),fun q=>?_⟩⟩
     have:=g2.2 fun y hy hr=>q y (by omega) hr
     cases this
   ·(try simp only [Int.toNat_natCast] at hc)
    have hm:m<n:=by omega
    have hrc:¬ Rch N n k m:=fun q=>hc ((hdl.rch hm).2 q)
    refine ⟨(m+1,false,sb.val),?_,?_,(by repeat (first|exact Ks.le_nil _|refine Ks.qh rfl ?_))⟩
    ·show n - (m+1)<n - m;omega
    ·refine ⟨by rw [skip_ hrc];exact S,by omega,⟨fun q=>(by cases q),fun q=>?_⟩⟩
     have:=g2.2 fun y hy hr=>q y (by omega) hr
     cases this
   ·obtain rfl:m=n:=by omega
    have hnl:¬ yz N m k:=fun q=>by
     have:=g2.2 q
     cases this
    refine ⟨(k+1,vs,vo),?_,?_,(by repeat (first|exact Ks.le_nil _|refine Ks.qh rfl ?_))⟩
    ·show m - (k+1)<m - k;omega
    ·refine ⟨?_,by omega,by (try dsimp only);omega⟩
     have e:zF N m f (k+1)=zF N m f k:=by rw [zF,if_neg hnl]
     rw [e];exact (S.del .here).del .here
  ·have g2':=g2.1 rfl
   skip
   all_goals (repeat' (first|refine qi ?_|refine ql rfl ?_|refine qo ?_|refine qA ?_|refine qm ?_|(refine qf 10 ?_;refine mv ?_;refine mv ?_;(first|(refine cS ?_ ?_<;>intro hc))<;>(refine qg ?_))|(refine qf 11 ?_;refine mv ?_;refine ad ?_;refine mv ?_;refine qg ?_)|(refine qf 12 ?_;refine mv ?_;refine mv ?_;refine qH S rfl rfl ?_;refine qI S rfl rfl ?_;(first|(refine cS ?_ ?_<;>intro hc))<;>(refine qg ?_))|(refine qf 13 ?_;(iterate 4 refine mv ?_);(first|(first|(refine cS ?_ ?_<;>intro hc)))<;>(refine vl ?_;refine mv ?_;refine qg ?_))|(refine qf 14 ?_;(iterate 3 refine mv ?_);skip)|(refine qf 15 ?_;refine mv ?_;refine qg ?_)|(refine qf 16 ?_;refine mv ?_;refine mv ?_;(refine one 1 S ?_;clear S;intro u h S))))
   ·(try simp only [Int.toNat_natCast] at hc)
    have hm:m<n:=by omega
    have hrc:=(hdl.rch hm).1 (by assumption)
    (refine qw rfl rfl rfl rfl rfl ((Zm S.wf v l (H.ext w S.ext) i (by omega)).mono ?_);rintro _ h ⟨rfl,x⟩)<;>(replace S:=S.qy x;clear x;rw [← hf];refine mv ?_;refine ad ?_;(refine one 1 S ?_;clear S;intro u h S))
    refine app  S rfl rfl ?_;clear S;intro v h S;refine mv ?_;refine qg ?_
    all_goals (repeat' (first|(refine qf 11 ?_;refine mv ?_;refine ad ?_;refine mv ?_;refine qg ?_)))
    refine ⟨(m+1,true,v),?_,?_,(by repeat (first|exact Ks.le_nil _|refine Ks.qh rfl ?_))⟩
    ·show n - (m+1)<n - m;omega
    ·refine ⟨by rw [step hm hrc];exact S,by omega,⟨fun _ y hy hr=>?_,fun _=>rfl⟩⟩
     rcases end_ y hy with q|rfl
     ·exact g2' y q hr
     ·omega
   ·(try simp only [Int.toNat_natCast] at hc)
    have hm:m<n:=by omega
    have hrc:=(hdl.rch hm).1 (by assumption)
    (refine qw rfl rfl rfl rfl rfl ((Zm S.wf v l (H.ext w S.ext) i (by omega)).mono ?_);rintro _ h ⟨rfl,x⟩)<;>(replace S:=S.qy x;clear x;rw [← hf];refine mv ?_;refine ad ?_;(refine one 1 S ?_;clear S;intro u h S))
    refine app  S rfl rfl ?_;clear S;intro v h S;refine mv ?_;refine qg ?_
    all_goals (repeat' (first|(refine qf 11 ?_;refine mv ?_;refine ad ?_;refine mv ?_;refine qg ?_)))
    refine ⟨(m+1,false,v),?_,?_,(by repeat (first|exact Ks.le_nil _|refine Ks.qh rfl ?_))⟩
    ·show n - (m+1)<n - m;omega
    ·refine ⟨by rw [step hm hrc];exact S,by omega,⟨fun q=>(by cases q),fun q=>?_⟩⟩
     have:=q m (by omega) hrc
     omega
   ·(try simp only [Int.toNat_natCast] at hc)
    have hm:m<n:=by omega
    have hrc:¬ Rch N n k m:=fun q=>hc ((hdl.rch hm).2 q)
    refine ⟨(m+1,true,sb.val),?_,?_,(by repeat (first|exact Ks.le_nil _|refine Ks.qh rfl ?_))⟩
    ·show n - (m+1)<n - m;omega
    ·refine ⟨by rw [skip_ hrc];exact S,by omega,⟨fun _ y hy hr=>?_,fun _=>rfl⟩⟩
     rcases end_ y hy with q|rfl
     ·exact g2' y q hr
     ·exact absurd hr hrc
   ·obtain rfl:m=n:=by omega
    refine app  S rfl rfl ?_;clear S;intro v h S;refine mv ?_;refine qg ?_
    all_goals (repeat' (first|(refine qf 5 ?_;refine mv ?_;refine ad ?_;refine mv ?_;refine qg ?_)))
    refine ⟨(k+1,vs ++ [sb.val],v),?_,?_,(by repeat (first|exact Ks.le_nil _|refine Ks.qh rfl ?_))⟩
    ·show m - (k+1)<m - k;omega
    ·refine ⟨?_,by omega,by simp;omega⟩
     have e:zF N m f (k+1)=zF N m f k ++ [jD N m f k m]:=by rw [zF,if_pos (show yz N m k from g2')]
     rw [e]
     have S:=((S.del (.there (.there .here))).front (.there (.there .here))).front (.there (.there .here))
     exact (S.qdH).front (.there .here)
 ·obtain rfl:k=n:=by omega
  refine qx ⟨_,rfl,?_⟩
  exact ⟨_,.inl ⟨i,k,rfl,hi,hq,hn,rfl⟩,by rw [← hf,← hN];exact RLL.of S .here (.there .here),S.drop⟩
section
variable {P:Program} {X:Extern} {inR:Bool} {sz:Nat} {L:Ks} {h h0:AH} {rs:List Rs} {ops:Array Oper} {os:List Oper} {o:Oper} {R:Ks→AH→Prop} {Q:KQ}
theorem Gj {ty:TypeId} {n:Nat} {ps:Array (Nat×Operand)} {vs:List (Nat×Value)} {c:List Value} {e:TypeId} {α:Type} {z:Nat} {d:Tmp} (enc:α→List Value) (l:List α) (S:Hs h0 h rs) (w:∀ u h',Hs h0 h' (.sl u e z enc l :: rs)→KO P X sz ops os (L.put d u) h' R) (ho:o.op = .buildSlice ty n ps:=by exact rfl) (hg:qB ops L.tree o.guard=some true:=by exact rfl)
 (hx:JY L ps.toList=some vs:=by exact rfl) (hv:jl P ty n vs h=some (.slice (some ⟨h.next,0,none⟩) n n,h.add (.cells c e none false)):=by exact rfl) (hl:l.length=n:=by exact rfl) (hc:c=l.flatMap enc:=by exact rfl) (hz:c.length=l.length*z:=by exact rfl) (hdst:o.dst=some d:=by exact rfl) (hds:Nat.blt d sz=true:=by exact rfl):KO P X sz ops (o :: os) L h R:=by
 subst hl
 exact Yi ho hg hx hv (by simp only [qM,hdst,hds]) (w _ _ ((S.add c e).qgv (z:=z) enc l hc hz))
end
theorem qav {t:Tab} (h:chk t=0):P7 t.name∧qC t≠0∧Yz (qC t) t.opn∧qaB t:=by
 unfold chk at h
 split at h
 ·omega
 ·rename_i h1
  split at h
  ·omega
  ·rename_i h2
   split at h
   ·omega
   ·rename_i h3
    split at h
    ·omega
    ·rename_i h4
     exact ⟨Classical.not_not.1 h1,h2,Classical.not_not.1 h3,Classical.not_not.1 h4⟩
def qhk:List (List UInt8):=[[],[65],[97,32,98],[97,98,99,100,101,102,103,104,105,106,107,108,109],[97,10]]
theorem qem {h0 h:AH} {rs:List Rs} {bb:Nat} (S:Hs h0 h (.blk bb [.pointer none,.slice none 0 0] 122 :: rs)):Fn Tryz.prog Xh 112 [.pointer (some ⟨bb,0,none⟩)] h (fun r h'=>r=str []∧Hs h0 h' (.blk bb [.pointer none,.slice none 0 0] 122 :: rs)):=by
 refine qF rfl Tryz.func112 rfl rfl ?_
 all_goals (repeat' (first|refine qi ?_|(refine qf 0 ?_;refine mv ?_;refine qg ?_)))
 refine qO 1 ?_
 refine mv ?_;refine vl ?_;refine vl ?_;refine lB S rfl rfl ?_;refine vl ?_;refine mv ?_;refine vl ?_;refine vl ?_;refine lB S rfl rfl ?_;refine vl ?_;refine vl ?_;refine mv ?_;refine qg ?_
 all_goals (repeat' (fail))
 refine qx ⟨_,rfl,?_⟩
 exact ⟨rfl,S⟩
theorem yK {h0:AH} (w:WfH h0) (v:Value) (l:List Tab) (H:HallR h0 v l) (hl:¬ ValidL l∨l.length=0):Fn Tryz.prog Xh 54 [v] h0 (fun r h'=>r=str []∧Hs h0 h' []):=by
 have S:=Hs.start w
 have hr:=H.rd
 have hn:=H.len
 refine qF rfl Tryz.func54 rfl rfl ?_
 all_goals (repeat' (first|refine qi ?_|(refine qf 0 ?_;refine mv ?_;refine qg ?_)|(refine qf 1 ?_;refine mv ?_)))
 (refine qw rfl rfl rfl rfl rfl ((Zj S.wf v l (H.ext w S.ext)).mono ?_);rintro _ h ⟨⟨rfl,hq⟩|⟨rfl,hq⟩,x⟩)<;>(replace S:=S.qy x;clear x;refine vl ?_;refine qg ?_)
 rotate_left
 ·all_goals (repeat' (first|refine qi ?_|refine ql rfl ?_|(refine qf 2 ?_;refine mv ?_;refine qg ?_)))
  refine qx ⟨_,rfl,?_⟩
  exact ⟨rfl,S⟩
 have hz:l.length=0:=hl.resolve_left fun q=>q hq
 all_goals (repeat' (first|refine qi ?_|refine ql rfl ?_|refine qo ?_|refine qm ?_|(refine qf 3 ?_;(refine al S ?_;clear S;intro b h S);refine qg ?_)|(refine qf 4 ?_;refine mv ?_;refine QD S ?_;refine mv ?_;refine qg ?_)))
 obtain ⟨bb,hnm⟩:∃ x,x=b:=⟨_,rfl⟩;subst hnm
 refine qE (σ:=Unit) (fun _ h'=>Hs h0 h' [.blk bb [.pointer none,.slice none 0 0] 122]) (fun _=>0) (fun _=>[(3,.pointer (some ⟨bb,0,none⟩)),(14,.int .i64 0),(15,.int .i64 0)]) () (by repeat (first|exact Ks.le_nil _|refine Ks.qh rfl ?_|refine Ks.zf ?_)) ?_ ?_
 ·exact S
 clear S
 rintro - h S
 all_goals (repeat' (first|refine qi ?_|refine ql rfl ?_|refine qA ?_|(refine qf 5 ?_;(refine cF ?_)<;>(refine qg ?_))))
 all_goals (repeat' (first|(refine qf 16 ?_;skip)))
 (refine qw rfl rfl rfl rfl rfl ((qem S).mono ?_);rintro _ h ⟨rfl,S2⟩)<;>(replace S:=S2;clear S2;refine mv ?_;refine qg ?_)
 all_goals (repeat' (fail))
 refine qx ⟨_,rfl,?_⟩
 exact ⟨rfl,S.drop⟩
end Go.Proofs.Xx
