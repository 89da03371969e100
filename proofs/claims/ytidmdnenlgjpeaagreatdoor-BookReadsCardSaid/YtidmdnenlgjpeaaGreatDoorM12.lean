/-
  Chains: the search,plain part.
-/
import Derived.Test.YtidmdnenlgjpeaaGreatDoorM11
import Derived.Test.YtidmdnenlgjpeaaGreatDoorM9
import Derived.Test.YtidmdnenlgjpeaaGreatDoorM10
set_option linter.unusedSimpArgs false
set_option linter.unusedVariables false
set_option linter.unusedSectionVars false
set_option maxRecDepth 100000
set_option maxHeartbeats 4000000
namespace Go.Proofs.Xx
open Go Go.Proofs
inductive Pth (r:Rl) (x:List UInt8):List (List UInt8)→List UInt8→Prop
 | one:Pth r x [x] x
 | snoc {Q:List (List UInt8)} {w z:List UInt8} (h:Pth r x Q w) (a:spk r w z):Pth r x (Q ++ [z]) z
theorem Pth.pos {r:Rl} {x y:List UInt8} {Q:List (List UInt8)} (h:Pth r x Q y):0<Q.length:=by
 cases h<;>simp
theorem Pth.cons {r:Rl} {z x y:List UInt8} {Q:List (List UInt8)} (a:spk r z x) (h:Pth r x Q y):Pth r z (z :: Q) y:=by
 induction h with
 | one=>exact Pth.snoc (.one) a
 | snoc h b ih=>exact Pth.snoc ih b
theorem Pth.rev {r:Rl} {x y:List UInt8} {Q:List (List UInt8)} (h:Pth r x Q y):Pth r y Q.reverse x:=by
 induction h with
 | one=>exact .one
 | snoc h b ih =>
  rw [List.reverse_append]
  exact ih.cons b.symm
theorem Pth.head {r:Rl} {x y:List UInt8} {Q:List (List UInt8)} (h:Pth r x Q y):Q.getD 0 default=x:=by
 induction h with
 | one=>rfl
 | snoc h b ih=>rw [VA h.pos];exact ih
theorem Pth.last {r:Rl} {x y:List UInt8} {Q:List (List UInt8)} (h:Pth r x Q y):Q.getD (Q.length - 1) default=y:=by
 cases h with
 | one=>rfl
 | snoc h b=>rw [List.length_append,List.length_singleton,Nat.add_sub_cancel,PR (Nat.le_refl _),Nat.sub_self];rfl
theorem Pth.adj {r:Rl} {x y:List UInt8} {Q:List (List UInt8)} (h:Pth r x Q y):∀ i,i+1<Q.length→spk r (Q.getD i default) (Q.getD (i+1) default):=by
 induction h with
 | one=>intro i hi;simp at hi
 | snoc h b ih =>
  rename_i Q w z
  intro i hi
  rw [List.length_append,List.length_singleton] at hi
  rcases Nat.lt_or_ge (i+1) Q.length with q|q
  ·rw [VA (by omega),VA q];exact ih i q
  ·have e:i=Q.length - 1:=by omega
   have hp:=h.pos
   rw [VA (by omega),PR q,e,h.last,show Q.length - 1+1 - Q.length=0 by omega]
   exact b
def lxl (P Q:List (List UInt8)):Prop:=∃ k,k<P.length∧k<Q.length∧(∀ j,j<k→P.getD j default=Q.getD j default)∧jE (P.getD k default) (Q.getD k default)
theorem lxl.snoc {P Q:List (List UInt8)} {a b:List UInt8} (h:lxl P Q):lxl (P ++ [a]) (Q ++ [b]):=by
 obtain ⟨k,h1,h2,h3,h4⟩:=h
 refine ⟨k,by simp;omega,by simp;omega,fun j hj=>?_,?_⟩
 ·rw [VA (by omega),VA (by omega)];exact h3 j hj
 ·rw [VA h1,VA h2];exact h4
theorem lxl.last {P:List (List UInt8)} {a b:List UInt8} (h:jE a b):lxl (P ++ [a]) (P ++ [b]):=by
 refine ⟨P.length,by simp,by simp,fun j hj=>?_,?_⟩
 ·rw [VA hj,VA hj]
 ·rw [PR (Nat.le_refl _),PR (Nat.le_refl _),Nat.sub_self];exact h
theorem lxl.trans {P Q R:List (List UInt8)} (h:lxl P Q) (g:lxl Q R):lxl P R:=by
 obtain ⟨k,h1,h2,h3,h4⟩:=h
 obtain ⟨m,g1,g2,g3,g4⟩:=g
 rcases Nat.lt_trichotomy k m with q|q|q
 ·exact ⟨k,h1,by omega,fun j hj=>(h3 j hj).trans (g3 j (by omega)),by rw [← g3 k q];exact h4⟩
 ·subst q
  exact ⟨k,h1,g2,fun j hj=>(h3 j hj).trans (g3 j hj),QH h4 g4⟩
 ·exact ⟨m,by omega,g2,fun j hj=>(h3 j (by omega)).trans (g3 j hj),by rw [h3 m q];exact g4⟩
def lxe (P Q:List (List UInt8)):Prop:=P=Q∨lxl P Q
theorem lxe.trans {P Q R:List (List UInt8)} (h:lxe P Q) (g:lxe Q R):lxe P R:=by
 rcases h with rfl|h
 ·exact g
 ·rcases g with rfl|g
  ·exact .inr h
  ·exact .inr (h.trans g)
theorem lxe.snoc {P Q:List (List UInt8)} {a:List UInt8} (h:lxe P Q):lxe (P ++ [a]) (Q ++ [a]):=by
 rcases h with rfl|h
 ·exact .inl rfl
 ·exact .inr h.snoc
structure ChainOk (r:Rl) (x y:List UInt8) (P:List (List UInt8)):Prop where
 pth:Pth r x P y
 sh:∀ Q,Pth r x Q y→P.length≤Q.length
 lx:∀ Q,Pth r x Q y→P.length=Q.length→lxe P Q
abbrev Xb:=List (List UInt8×List UInt8)
def Xu (mp:Xb) (j:Nat):List UInt8:=(mp.getD j default).1
def Zr (mp:Xb) (pa:Nat→Nat) (j:Nat):List (List UInt8):=if h:0<j∧pa j<j then Zr mp pa (pa j) ++ [Xu mp j] else [Xu mp j]
termination_by j
decreasing_by exact h.2
structure BC (r:Rl) (x:List UInt8) (mp:Xb) (pa:Nat→Nat):Prop where
 pos:0<mp.length
 d0:Xu mp 0=x
 f0:(mp.getD 0 default).2=[]
 kn:∀ j,j<mp.length→gat r.us (Xu mp j)≠none
 nd:(mp.map (·.1)).Nodup
 lt:∀ j,0<j→j<mp.length→pa j<j
 fr:∀ j,0<j→j<mp.length→(mp.getD j default).2=Xu mp (pa j)∧spk r (Xu mp (pa j)) (Xu mp j)
 mo:∀ j k,0<j→j≤k→k<mp.length→pa j≤pa k
 od:∀ j k,0<j→j<k→k<mp.length→pa j=pa k→jE (Xu mp j) (Xu mp k)
theorem BC.step {r:Rl} {x:List UInt8} {mp:Xb} {pa:Nat→Nat} (B:BC r x mp pa) {j:Nat} (h0:0<j) (hj:j<mp.length):Zr mp pa j=Zr mp pa (pa j) ++ [Xu mp j]:=by
 rw [Zr,dif_pos ⟨h0,B.lt j h0 hj⟩]
theorem wG (mp:Xb) (pa:Nat→Nat):Zr mp pa 0=[Xu mp 0]:=by
 rw [Zr,dif_neg (by omega)]
theorem qag (mp:Xb) (pa:Nat→Nat) (j:Nat):0<(Zr mp pa j).length:=by
 rw [Zr];split<;>simp
theorem BC.pth {r:Rl} {x:List UInt8} {mp:Xb} {pa:Nat→Nat} (B:BC r x mp pa) (j:Nat) (hj:j<mp.length):Pth r x (Zr mp pa j) (Xu mp j):=by
 induction j using Nat.strongRecOn with
 | _ j ih =>
  rcases Nat.eq_zero_or_pos j with q|q
  ·subst q
   rw [wG,B.d0];exact .one
  ·rw [B.step q hj]
   have:=B.lt j q hj
   exact (ih _ this (by omega)).snoc (B.fr j q hj).2
theorem BC.mono {r:Rl} {x:List UInt8} {mp:Xb} {pa:Nat→Nat} (B:BC r x mp pa) (k:Nat) (hk:k<mp.length):∀ j,j≤k→(Zr mp pa j).length≤(Zr mp pa k).length∧((Zr mp pa j).length=(Zr mp pa k).length→lxe (Zr mp pa j) (Zr mp pa k)):=by
 induction k using Nat.strongRecOn with
 | _ k ih =>
  intro j hj
  rcases Nat.eq_or_lt_of_le hj with q|q
  ·subst q;exact ⟨Nat.le_refl _,fun _=>.inl rfl⟩
  ·rw [B.step (by omega) hk]
   rcases Nat.eq_zero_or_pos j with z|z
   ·subst z
    have:=qag mp pa (pa k)
    rw [wG]
    simp
    intro h;rw [h] at this;exact absurd this (by simp)
   ·rw [B.step z (by omega)]
    have hl:=B.lt k (by omega) hk
    have hm:=B.mo j k z hj hk
    obtain ⟨h1,h2⟩:=ih (pa k) hl (by omega) (pa j) hm
    refine ⟨by simp;exact h1,fun e=>?_⟩
    simp only [List.length_append,List.length_singleton] at e
    rcases Nat.eq_or_lt_of_le hm with w|w
    ·rw [w]
     exact .inr (.last (B.od j k z q hk w))
    ·rcases h2 (by omega) with g|g
     ·exfalso
      have g1:=(B.pth (pa j) (by omega)).last
      have g2:=(B.pth (pa k) (by omega)).last
      rw [g,g2] at g1
      refine Ym B.nd w (by simp;omega) ?_
      rw [zY (by omega),zY (by omega)]
      exact g1.symm
     ·exact .inr g.snoc
structure BI (r:Rl) (x:List UInt8) (mp:Xb) (pa:Nat→Nat) (h:Nat):Prop where
 c:BC r x mp pa
 le:h≤mp.length
 ub:∀ j,0<j→j<mp.length→pa j<h
 cl:∀ i,i<h→∀ y,spk r (Xu mp i) y→∃ j,j<mp.length∧Xu mp j=y∧(j=0∨pa j≤i)
structure BJ (r:Rl) (ns:List (List UInt8)) (x:List UInt8) (mp:Xb) (pa:Nat→Nat) (h k:Nat):Prop where
 c:BC r x mp pa
 lt:h<mp.length
 ub:∀ j,0<j→j<mp.length→pa j≤h
 cl:∀ i,i<h→∀ y,spk r (Xu mp i) y→∃ j,j<mp.length∧Xu mp j=y∧(j=0∨pa j≤i)
 pm:∀ j,0<j→j<mp.length→pa j=h→∃ m,m<k∧Xu mp j=ns.getD m default
 dn:∀ m,m<k→spk r (Xu mp h) (ns.getD m default)→∃ j,j<mp.length∧Xu mp j=ns.getD m default
theorem BI.one {r:Rl} {x:List UInt8} (hx:gat r.us x≠none):BI r x [(x,[])] (fun _=>0) 0:=by
 refine ⟨⟨by simp,rfl,rfl,fun j hj=>?_,by simp,fun j h1 h2=>?_,fun j h1 h2=>?_,fun j k h1 h2 h3=>Nat.le_refl _,fun j k h1 h2 h3=>?_⟩,Nat.zero_le _,fun j h1 h2=>?_,fun i hi=>absurd hi (Nat.not_lt_zero _)⟩
 ·simp at hj;subst hj;exact hx
 all_goals (simp only [List.length_singleton] at *;omega)
theorem BI.start {r:Rl} {ns:List (List UInt8)} {x:List UInt8} {mp:Xb} {pa:Nat→Nat} {h:Nat} (I:BI r x mp pa h) (hh:h<mp.length):BJ r ns x mp pa h 0 :=
 ⟨I.c,hh,fun j h1 h2=>Nat.le_of_lt (I.ub j h1 h2),I.cl,fun j h1 h2 e=>absurd (I.ub j h1 h2) (by omega),fun m hm=>absurd hm (Nat.not_lt_zero _)⟩
theorem BJ.fin {r:Rl} {ns:List (List UInt8)} {x:List UInt8} {mp:Xb} {pa:Nat→Nat} {h:Nat} (J:BJ r ns x mp pa h ns.length) (hns:∀ y,gat r.us y≠none→y∈ns):BI r x mp pa (h+1):=by
 refine ⟨J.c,J.lt,fun j h1 h2=>Nat.lt_succ_of_le (J.ub j h1 h2),fun i hi y a=>?_⟩
 rcases Nat.lt_or_ge i h with q|q
 ·exact J.cl i q y a
 ·obtain rfl:i=h:=by omega
  obtain ⟨m,m1,m2⟩:=qX.1 (hns y a.kn.2)
  rw [← m2] at a ⊢
  obtain ⟨j,j1,j2⟩:=J.dn m m1 a
  refine ⟨j,j1,j2,?_⟩
  rcases Nat.eq_zero_or_pos j with z|z
  ·exact .inl z
  ·exact .inr (J.ub j z j1)
theorem BJ.skip {r:Rl} {ns:List (List UInt8)} {x:List UInt8} {mp:Xb} {pa:Nat→Nat} {h k:Nat} (J:BJ r ns x mp pa h k) (hk:zS mp (ns.getD k default)≠none∨¬ spk r (Xu mp h) (ns.getD k default)) (hm:zS mp (ns.getD k default)≠none→ns.getD k default∈mp.map (·.1)):BJ r ns x mp pa h (k+1):=by
 refine ⟨J.c,J.lt,J.ub,J.cl,fun j h1 h2 e=>?_,fun m hm2 a=>?_⟩
 ·obtain ⟨m,m1,m2⟩:=J.pm j h1 h2 e
  exact ⟨m,by omega,m2⟩
 ·rcases Nat.lt_or_ge m k with q|q
  ·exact J.dn m q a
  ·obtain rfl:m=k:=by omega
   rcases hk with hk|hk
   ·obtain ⟨j,j1,j2⟩:=qX.1 (hm hk)
    simp only [List.length_map] at j1
    rw [zY j1] at j2
    exact ⟨j,j1,j2⟩
   ·exact absurd a hk
def paU (pa:Nat→Nat) (n h:Nat):Nat→Nat:=fun j=>if j=n then h else pa j
theorem BJ.add {r:Rl} {ns:List (List UInt8)} (hs:SS ns) {x:List UInt8} {mp:Xb} {pa:Nat→Nat} {h k:Nat} (J:BJ r ns x mp pa h k) (hk:k<ns.length) (hn:ns.getD k default ∉ mp.map (·.1)) (ha:spk r (Xu mp h) (ns.getD k default)):BJ r ns x (mp ++ [(ns.getD k default,Xu mp h)]) (paU pa mp.length h) h (k+1):=by
 have hl:(mp ++ [(ns.getD k default,Xu mp h)]).length=mp.length+1:=by simp
 have n1:∀ {j},j<mp.length→Xu (mp ++ [(ns.getD k default,Xu mp h)]) j=Xu mp j:=fun hj=>by unfold Xu;rw [VA hj]
 have n2:Xu (mp ++ [(ns.getD k default,Xu mp h)]) mp.length=ns.getD k default:=by unfold Xu;rw [PR (Nat.le_refl _),Nat.sub_self];rfl
 have p1:∀ {j},j<mp.length→paU pa mp.length h j=pa j:=fun hj=>if_neg (by omega)
 have p2:paU pa mp.length h mp.length=h:=if_pos rfl
 have hp:=J.c.pos
 have hh:=J.lt
 refine ⟨⟨by omega,by rw [n1 hp];exact J.c.d0,by rw [VA hp];exact J.c.f0,fun j hj=>?_,?_,fun j h1 h2=>?_,fun j h1 h2=>?_,fun j i h1 h2 h3=>?_,fun j i h1 h2 h3 e=>?_⟩,by omega,fun j h1 h2=>?_,fun i hi y a=>?_,fun j h1 h2 e=>?_,fun m hm a=>?_⟩
 ·rw [hl] at hj
  rcases Nat.lt_or_ge j mp.length with q|q
  ·rw [n1 q];exact J.c.kn j q
  ·obtain rfl:j=mp.length:=by omega
   rw [n2];exact ha.kn.2
 ·rw [List.map_append,List.nodup_append]
  refine ⟨J.c.nd,by simp,fun a h1 b h2 e=>?_⟩
  simp only [List.map_cons,List.map_nil,List.mem_singleton] at h2
  subst e;subst h2;exact hn h1
 ·rw [hl] at h2
  rcases Nat.lt_or_ge j mp.length with q|q
  ·rw [p1 q];exact J.c.lt j h1 q
  ·obtain rfl:j=mp.length:=by omega
   rw [p2];exact hh
 ·rw [hl] at h2
  rcases Nat.lt_or_ge j mp.length with q|q
  ·have:=J.c.lt j h1 q
   rw [p1 q,n1 q,n1 (by omega),VA q];exact J.c.fr j h1 q
  ·obtain rfl:j=mp.length:=by omega
   rw [p2,n2,n1 hh,PR (Nat.le_refl _),Nat.sub_self]
   exact ⟨rfl,ha⟩
 ·rw [hl] at h3
  rcases Nat.lt_or_ge i mp.length with q|q
  ·rw [p1 q,p1 (by omega)];exact J.c.mo j i h1 h2 q
  ·obtain rfl:i=mp.length:=by omega
   rw [p2]
   rcases Nat.lt_or_ge j mp.length with q2|q2
   ·rw [p1 q2];exact J.ub j h1 q2
   ·obtain rfl:j=mp.length:=by omega
    rw [p2];exact Nat.le_refl _
 ·rw [hl] at h3
  rcases Nat.lt_or_ge i mp.length with q|q
  ·rw [p1 q,p1 (by omega)] at e
   rw [n1 q,n1 (by omega)];exact J.c.od j i h1 h2 q e
  ·obtain rfl:i=mp.length:=by omega
   rw [p2,p1 h2] at e
   rw [n2,n1 h2]
   obtain ⟨m,m1,m2⟩:=J.pm j h1 h2 e
   rw [m2];exact hs m k m1 hk
 ·rw [hl] at h2
  rcases Nat.lt_or_ge j mp.length with q|q
  ·rw [p1 q];exact J.ub j h1 q
  ·obtain rfl:j=mp.length:=by omega
   rw [p2];exact Nat.le_refl _
 ·rw [n1 (by omega)] at a
  obtain ⟨j,j1,j2,j3⟩:=J.cl i hi y a
  exact ⟨j,by omega,by rw [n1 j1];exact j2,by rw [p1 j1];exact j3⟩
 ·rw [hl] at h2
  rcases Nat.lt_or_ge j mp.length with q|q
  ·rw [p1 q] at e
   rw [n1 q]
   obtain ⟨m,m1,m2⟩:=J.pm j h1 q e
   exact ⟨m,by omega,m2⟩
  ·obtain rfl:j=mp.length:=by omega
   exact ⟨k,by omega,n2⟩
 ·rw [n1 hh] at a
  rcases Nat.lt_or_ge m k with q|q
  ·obtain ⟨j,j1,j2⟩:=J.dn m q a
   exact ⟨j,by omega,by rw [n1 j1];exact j2⟩
  ·obtain rfl:m=k:=by omega
   exact ⟨mp.length,by omega,n2⟩
theorem BI.all {r:Rl} {x:List UInt8} {mp:Xb} {pa:Nat→Nat} {h:Nat} (I:BI r x mp pa h) {Q:List (List UInt8)} {z:List UInt8} (hq:Pth r x Q z):(∃ i,i<mp.length∧Xu mp i=z∧(Zr mp pa i).length≤Q.length∧((Zr mp pa i).length=Q.length→lxe (Zr mp pa i) Q))∨(h<mp.length∧(Zr mp pa h).length<Q.length):=by
 induction hq with
 | one=>exact .inl ⟨0,I.c.pos,I.c.d0,by rw [wG];exact Nat.le_refl _,fun _=>.inl (by rw [wG,I.c.d0])⟩
 | snoc g b ih =>
  rename_i Q w z
  have hQ:=g.pos
  rcases ih with ⟨i,i1,i2,i3,i4⟩|⟨h1,h2⟩
  ·rcases Nat.lt_or_ge i h with q|q
   ·rw [← i2] at b
    obtain ⟨j,j1,j2,j3⟩:=I.cl i q z b
    refine .inl ⟨j,j1,j2,?_⟩
    rcases Nat.eq_zero_or_pos j with e|e
    ·subst e
     rw [wG];simp
     intro h;rw [h] at hQ;simp at hQ
    ·have j3:=j3.resolve_left (by omega)
     rw [I.c.step e j1,j2]
     obtain ⟨m1,m2⟩:=I.c.mono i i1 (pa j) j3
     simp only [List.length_append,List.length_singleton]
     refine ⟨by omega,fun e=>?_⟩
     exact ((m2 (by omega)).trans (i4 (by omega))).snoc
   ·have:=(I.c.mono i i1 h q).1
    exact .inr ⟨by omega,by simp;omega⟩
  ·exact .inr ⟨h1,by simp;omega⟩
theorem BI.found {r:Rl} {x:List UInt8} {mp:Xb} {pa:Nat→Nat} {h:Nat} (I:BI r x mp pa h) (hh:h<mp.length):ChainOk r x (Xu mp h) (Zr mp pa h):=by
 have key:∀ Q,Pth r x Q (Xu mp h)→(Zr mp pa h).length≤Q.length∧((Zr mp pa h).length=Q.length→lxe (Zr mp pa h) Q):=fun Q hq=>by
  rcases I.all hq with ⟨i,i1,i2,i3,i4⟩|⟨h1,h2⟩
  ·have:i=h:=by
    rcases Nat.lt_trichotomy i h with q|q|q
    ·exact absurd (by rw [zY i1,zY hh];exact i2) (Ym I.c.nd q (by simp;omega))
    ·exact q
    ·exact absurd (by rw [zY i1,zY hh];exact i2.symm) (Ym I.c.nd q (by simp;omega))
   subst this
   exact ⟨i3,i4⟩
  ·exact ⟨by omega,fun e=>by omega⟩
 exact ⟨I.c.pth h hh,fun Q hq=>(key Q hq).1,fun Q hq=>(key Q hq).2⟩
theorem BC.len {r:Rl} (H:RO r) {x:List UInt8} {mp:Xb} {pa:Nat→Nat} (B:BC r x mp pa):mp.length≤64:=by
 have:=QL B.nd (m:=r.us.map (·.name)) fun y hy=>by
  obtain ⟨j,j1,j2⟩:=qX.1 hy
  simp only [List.length_map] at j1
  rw [zY j1] at j2
  exact WG (j2 ▸ B.kn j j1)
 have:=H.l64
 simp at *;omega
theorem ChainOk.back {r:Rl} {x y:List UInt8} {P R:List (List UInt8)} (h:ChainOk r x y P) (g:ChainOk r y x R):P.length=R.length:=by
 have h1:=h.sh _ g.pth.rev
 have h2:=g.sh _ h.pth.rev
 simp at h1 h2
 omega
theorem ChainOk.self {r:Rl} {x:List UInt8} {P:List (List UInt8)} (h:ChainOk r x x P):P.length=1:=by
 have h1:=h.sh _ .one
 have:=h.pth.pos
 simp at h1;omega
def Qc (f t n:List UInt8):List UInt8:=if n=f then t else n
def yV (f t:List UInt8) (x:Ti):Ti:=jK (Qc f t x.a) (Qc f t x.b) x.k
def wV (us:List Gu) (i:Nat) (t:List UInt8):List Gu:=us.set i { us.getD i default with name:=t }
structure Ren (r r':Rl) (i:Nat) (t:List UInt8):Prop where
 us:r'.us=wV r.us i t
 pm:r'.ts.Perm (r.ts.map (yV (r.us.getD i default).name t))
 ts:TS r'.ts
theorem KF (f t:List UInt8):Qc f t f=t:=if_pos rfl
theorem KE {f t n:List UInt8} (h:n≠f):Qc f t n=n:=if_neg h
theorem Zn {f t n:List UInt8} (h:n≠t):Qc t f (Qc f t n)=n:=by
 by_cases e:n=f
 ·rw [e,KF,KF]
 ·rw [KE e,KE h]
theorem Qw {f t n m:List UInt8} (h1:n≠t) (h2:m≠t) (h:Qc f t n=Qc f t m):n=m:=by
 rw [← Zn (f:=f) h1,h,Zn h2]
theorem Yb (a b:List UInt8) (k:Int):((jK a b k).a=a∧(jK a b k).b=b)∨((jK a b k).a=b∧(jK a b k).b=a):=by
 unfold jK jV jW
 simp only
 by_cases h:jE b a
 ·rw [if_pos h,if_neg (zV h)];exact .inr ⟨rfl,rfl⟩
 ·rw [if_neg h]
  rcases JW h with e|e
  ·subst e;rw [if_neg (zL _)];exact .inl ⟨rfl,rfl⟩
  ·rw [if_pos e];exact .inl ⟨rfl,rfl⟩
theorem qbv {a b:List UInt8} (k:Int) (h:a≠b):jE (jK a b k).a (jK a b k).b:=by
 unfold jK jV jW
 simp only
 by_cases q:jE b a
 ·rw [if_pos q,if_neg (zV q)];exact q
 ·rw [if_neg q]
  rcases JW q with e|e
  ·exact absurd e h
  ·rw [if_pos e];exact e
theorem GG {t:Ti} (h:jE t.a t.b) {a b:List UInt8} (e:(a=t.a∧b=t.b)∨(a=t.b∧b=t.a)):jK a b t.k=t:=by
 unfold jK
 rcases e with ⟨rfl,rfl⟩|⟨rfl,rfl⟩
 ·rw [Jw h,Jy h]
 ·rw [YM,YN,Jw h,Jy h]
theorem TS.eq:∀ {l m:List Ti},TS l→TS m→l.Perm m→l=m
 | [],m,_,_,p=>(List.nil_perm.1 p).symm
 | x :: l,[],_,_,p=>absurd p.length_eq (by simp)
 | x :: l,y :: m,h1,h2,p=>by
  have a1:=List.pairwise_cons.1 h1
  have a2:=List.pairwise_cons.1 h2
  have e:x=y:=by
   rcases List.mem_cons.1 (p.mem_iff.1 (List.mem_cons_self (a:=x) (l:=l))) with q|q
   ·exact q
   ·rcases List.mem_cons.1 (p.mem_iff.2 (List.mem_cons_self (a:=y) (l:=m))) with g|g
    ·exact g.symm
    ·exact absurd (QN (a1.1 y g) (a2.1 x q)) (vO x)
  subst e
  rw [TS.eq a1.2 a2.2 (List.Perm.cons_inv p)]
theorem jO {us:List Gu} {i:Nat} {t:List UInt8} (hi:i<us.length) (k:Nat):(wV us i t).getD k default=if k=i then { us.getD i default with name:=t } else us.getD k default:=WF _ _ hi k
theorem Je (us:List Gu) (i:Nat) (t:List UInt8):(wV us i t).length=us.length:=by simp [wV]
theorem qaS {us:List Gu} (nd:∀ i j,i<j→j<us.length→(us.getD i default).name≠(us.getD j default).name) {i:Nat} (hi:i<us.length) {n:List UInt8} (hn:(us.getD i default).name=n):gat us n=some i:=by
 cases hq:gat us n with
 | none=>exact absurd hn (QZ.1 hq _ (qR hi))
 | some j =>
  obtain ⟨h1,h2,h3⟩:=Yt hq
  rcases Nat.lt_trichotomy i j with q|q|q
  ·exact absurd hn (h3 i q)
  ·rw [q]
  ·exact absurd (h2.trans hn.symm) (nd j i q hi)
section
variable {r r':Rl} {i:Nat} {f t:List UInt8}
theorem GL (H:RO r) (hi:i<r.us.length) (ht:gat r.us t=none):∀ j k,j<k→k<(wV r.us i t).length→((wV r.us i t).getD j default).name≠((wV r.us i t).getD k default).name:=fun j k hjk hk=>by
 rw [Je] at hk
 rw [jO hi,jO hi]
 have hz:=QZ.1 ht
 by_cases e1:j=i
 ·rw [if_pos e1,if_neg (by omega)]
  exact fun q=>hz _ (qR hk) q.symm
 ·rw [if_neg e1]
  by_cases e2:k=i
  ·rw [if_pos e2]
   exact hz _ (qR (by omega))
  ·rw [if_neg e2];exact H.nd j k hjk hk
theorem VO (H:RO r) (hi:i<r.us.length) (hf:(r.us.getD i default).name=f) (ht:gat r.us t=none) {n:List UInt8} (hn:n≠t):gat (wV r.us i t) (Qc f t n)=gat r.us n:=by
 have nd:=GL H hi ht
 have hl:=Je r.us i t
 by_cases e:n=f
 ·rw [e,KF,← hf,H.gat hi]
  exact qaS nd (by omega) (by rw [jO hi,if_pos rfl])
 ·rw [KE e]
  cases hq:gat r.us n with
  | none =>
   rw [QZ] at hq ⊢
   intro g hg
   obtain ⟨k,hk,rfl⟩:=qX.1 hg
   rw [jO hi]
   split
   ·exact hn.symm
   ·exact hq _ (qR (by omega))
  | some j =>
   obtain ⟨h1,h2,h3⟩:=Yt hq
   refine qaS nd (by omega) ?_
   rw [jO hi,if_neg]
   ·exact h2
   ·intro q
    rw [q,hf] at h2;exact e h2.symm
theorem qbY {g:Gu} (h:QC g=0) (ht:Yo t):QC { g with name:=t }=0:=by
 obtain ⟨h1,h2,h3,h4,h5⟩:=YC h
 have hn:Jn { g with name:=t }:=⟨ht,h1.2⟩
 unfold QC
 rw [if_neg (Classical.not_not.2 hn),if_neg (Classical.not_not.2 h2),if_neg (Classical.not_not.2 h3),if_neg (Classical.not_not.2 ⟨h4,h5⟩)]
theorem Ren.mem (R:Ren r r' i t) (hf:(r.us.getD i default).name=f) {x:Ti}:x∈r'.ts↔∃ y∈r.ts,yV f t y=x:=by
 rw [R.pm.mem_iff,List.mem_map,hf]
theorem Ren.ro (R:Ren r r' i t) (H:RO r) (hi:i<r.us.length) (hn:Yo t) (ht:gat r.us t=none):RO r':=by
 have hl:=Je r.us i t
 refine ⟨fun g hg=>?_,?_,?_,R.ts,fun x hx=>?_,?_⟩
 ·rw [R.us] at hg
  obtain ⟨k,hk,rfl⟩:=qX.1 hg
  rw [jO hi]
  split
  ·exact qbY (H.chk _ (qR hi)) hn
  ·exact H.chk _ (qR (by omega))
 ·rw [R.us];exact GL H hi ht
 ·rw [R.us,hl];exact H.l64
 ·obtain ⟨y,hy,rfl⟩:=(R.mem rfl).1 hx
  obtain ⟨y1,y2,y3,y4⟩:=H.tt y hy
  have ya:y.a≠t:=fun q=>y3 (q ▸ ht)
  have yb:y.b≠t:=fun q=>y4 (q ▸ ht)
  have g1:gat r'.us (Qc (r.us.getD i default).name t y.a)≠none:=by rw [R.us,VO H hi rfl ht ya];exact y3
  have g2:gat r'.us (Qc (r.us.getD i default).name t y.b)≠none:=by rw [R.us,VO H hi rfl ht yb];exact y4
  refine ⟨qbv _ fun q=>V3 y1 (Qw ya yb q),y2,?_⟩
  unfold yV
  rcases Yb (Qc (r.us.getD i default).name t y.a) (Qc (r.us.getD i default).name t y.b) y.k with ⟨e1,e2⟩|⟨e1,e2⟩
  ·rw [e1,e2];exact ⟨g1,g2⟩
  ·rw [e1,e2];exact ⟨g2,g1⟩
 ·rw [R.pm.length_eq,List.length_map];exact H.l256
theorem Ren.adj (R:Ren r r' i t) (H:RO r) (hf:(r.us.getD i default).name=f) (ht:gat r.us t=none) {k:Int} {a b:List UInt8} (ha:a≠t) (hb:b≠t):Xx.adj r k a b↔Xx.adj r' k (Qc f t a) (Qc f t b):=by
 constructor
 ·rintro ⟨x,h1,h2,h3⟩
  refine ⟨yV f t x,(R.mem hf).2 ⟨x,h1,rfl⟩,h2,?_⟩
  unfold yV
  rcases Yb (Qc f t x.a) (Qc f t x.b) x.k with ⟨e1,e2⟩|⟨e1,e2⟩
  ·rw [e1,e2]
   rcases h3 with ⟨rfl,rfl⟩|⟨rfl,rfl⟩
   ·exact .inl ⟨rfl,rfl⟩
   ·exact .inr ⟨rfl,rfl⟩
  ·rw [e1,e2]
   rcases h3 with ⟨rfl,rfl⟩|⟨rfl,rfl⟩
   ·exact .inr ⟨rfl,rfl⟩
   ·exact .inl ⟨rfl,rfl⟩
 ·rintro ⟨x,h1,h2,h3⟩
  obtain ⟨y,hy,rfl⟩:=(R.mem hf).1 h1
  obtain ⟨y1,y2,y3,y4⟩:=H.tt y hy
  have ya:y.a≠t:=fun q=>y3 (q ▸ ht)
  have yb:y.b≠t:=fun q=>y4 (q ▸ ht)
  refine ⟨y,hy,h2,?_⟩
  unfold yV at h3
  rcases Yb (Qc f t y.a) (Qc f t y.b) y.k with ⟨e1,e2⟩|⟨e1,e2⟩
  ·rw [e1,e2] at h3
   rcases h3 with ⟨g1,g2⟩|⟨g1,g2⟩
   ·exact .inl ⟨Qw ya ha g1,Qw yb hb g2⟩
   ·exact .inr ⟨Qw yb ha g1,Qw ya hb g2⟩
  ·rw [e1,e2] at h3
   rcases h3 with ⟨g1,g2⟩|⟨g1,g2⟩
   ·exact .inr ⟨Qw yb ha g1,Qw ya hb g2⟩
   ·exact .inl ⟨Qw ya ha g1,Qw yb hb g2⟩
theorem Ren.spk (R:Ren r r' i t) (H:RO r) (hi:i<r.us.length) (hf:(r.us.getD i default).name=f) (ht:gat r.us t=none) {a b:List UInt8} (ha:a≠t) (hb:b≠t):Xx.spk r a b↔Xx.spk r' (Qc f t a) (Qc f t b):=by
 have tg:∀ k,(r'.us.getD k default).tg=(r.us.getD k default).tg:=fun k=>by
  rw [R.us,jO hi]
  split
  ·rename_i e;rw [e]
  ·rfl
 unfold Xx.spk
 rw [R.us,VO H hi hf ht ha,VO H hi hf ht hb]
 rw [← R.us]
 simp only [tg]
theorem Ren.pth (R:Ren r r' i t) (H:RO r) (hi:i<r.us.length) (hf:(r.us.getD i default).name=f) (ht:gat r.us t=none) {a b:List UInt8} {Q:List (List UInt8)} (h:Pth r a Q b):Pth r' (Qc f t a) (Q.map (Qc f t)) (Qc f t b):=by
 induction h with
 | one=>exact .one
 | snoc h s ih =>
  rw [List.map_append]
  have hw:∀ {n},gat r.us n≠none→n≠t:=fun q e=>q (e ▸ ht)
  exact ih.snoc ((R.spk H hi hf ht (hw s.kn.1) (hw s.kn.2)).1 s)
theorem Ren.back {r'':Rl} (R:Ren r r' i t) (H:RO r) (hi:i<r.us.length) (hf:(r.us.getD i default).name=f) (ht:gat r.us t=none) (R2:Ren r' r'' i f):r''=r:=by
 have hl:=Je r.us i t
 have e1:r''.us=r.us:=by
  rw [R2.us,R.us]
  apply YA (by rw [Je,Je])
  intro k hk
  rw [jO (by omega)]
  split
  ·rename_i e
   rw [jO hi,if_pos rfl,e,← hf]
  ·rename_i e
   rw [jO hi,if_neg e]
 have hn:(r'.us.getD i default).name=t:=by rw [R.us,jO hi,if_pos rfl]
 have e2:r''.ts=r.ts:=by
  refine TS.eq R2.ts H.ts (R2.pm.trans ?_)
  rw [hn]
  refine (R.pm.map _).trans ?_
  rw [hf,List.map_map]
  have:r.ts.map (yV t f ∘ yV f t)=r.ts:=by
   conv=>rhs;rw [← List.map_id r.ts]
   refine List.map_congr_left fun x hx=>?_
   obtain ⟨y1,y2,y3,y4⟩:=H.tt x hx
   have ya:x.a≠t:=fun q=>y3 (q ▸ ht)
   have yb:x.b≠t:=fun q=>y4 (q ▸ ht)
   show jK (Qc t f (jK (Qc f t x.a) (Qc f t x.b) x.k).a) (Qc t f (jK (Qc f t x.a) (Qc f t x.b) x.k).b) x.k=x
   rcases Yb (Qc f t x.a) (Qc f t x.b) x.k with ⟨e1,e2⟩|⟨e1,e2⟩
   ·rw [e1,e2,Zn ya,Zn yb]
    exact GG y1 (.inl ⟨rfl,rfl⟩)
   ·rw [e1,e2,Zn ya,Zn yb]
    exact GG y1 (.inr ⟨rfl,rfl⟩)
  rw [this]
 cases r;cases r'';simp only at e1 e2;rw [e1,e2]
end
def qex (n:Nat):Nat:=if n<256 then (lenTab.getD n 0).toNat else 8+(lenTab.getD (n / 256) 0).toNat
abbrev cvT:Value:=.func (.func 82) #[] #[]
variable [Flag]
end Go.Proofs.Xx
namespace Go.Proofs.Xx
open Go Go.Proofs
variable [Flag]
end Go.Proofs.Xx
namespace Go.Proofs.Xx
open Go Go.Proofs
variable [Flag]
end Go.Proofs.Xx
namespace Go.Proofs.Xx
structure qep (r:Rl) (R:List (List UInt8)):Prop where
 odd:R.length % 2=1
 three:3≤R.length
 nd:∀ i j,i<j→j<R.length→R.getD i default≠R.getD j default
 adj:∀ i,i<R.length→adj r 2 (R.getD i default) (R.getD ((i+1) % R.length) default)
structure Tree (r:Rl) (fr:List UInt8→List UInt8) (dep:List UInt8→Nat) (met:List UInt8→Prop):Prop where
 up:∀ x,met x→0<dep x→met (fr x)∧dep (fr x)+1=dep x∧Xx.adj r 2 (fr x) x
def anc (fr:List UInt8→List UInt8) (x:List UInt8):Nat→List UInt8
 | 0=>x
 | k+1=>fr (anc fr x k)
theorem qbc {r:Rl} {fr:List UInt8→List UInt8} {dep:List UInt8→Nat} {met:List UInt8→Prop} (T:Tree r fr dep met) {x:List UInt8} (hx:met x):∀ {k:Nat},k≤dep x→met (anc fr x k)∧dep (anc fr x k)+k=dep x
 | 0,_=>⟨hx,rfl⟩
 | k+1,h=>by
  obtain ⟨h1,h2⟩:=qbc T hx (k:=k) (by omega)
  obtain ⟨g1,g2,-⟩:=T.up _ h1 (by omega)
  exact ⟨g1,by show dep (fr (anc fr x k))+(k+1)=dep x;omega⟩
def qer (fr:List UInt8→List UInt8) (x y:List UInt8) (n:Nat):List (List UInt8):=(List.range n).map (anc fr x) ++ [anc fr x n] ++ ((List.range n).map (anc fr y)).reverse
def eSp (x:Int×List UInt8):Value:=.agg #[.int .i64 x.1,str x.2]
abbrev JJ:=List (List UInt8×(Int×List UInt8))
def frM (mp:JJ) (x:List UInt8):List UInt8:=match zS mp x with|some p=>p.2|none=>[]
def vK (mp:JJ) (x:List UInt8):Int:=match zS mp x with|some p=>p.1|none=>0
variable [Flag]
end Go.Proofs.Xx
namespace Go.Proofs.Xx
open Go Go.Proofs
theorem vH {mp:JJ} {f:List UInt8} {p:Int×List UInt8} (x:List UInt8):frM (JC mp f p) x=if x=f then p.2 else frM mp x:=by
 unfold frM;rw [J3]
 by_cases e:x=f
 ·rw [if_pos e,if_pos e]
 ·rw [if_neg e,if_neg e]
theorem Zk {mp:JJ} {f:List UInt8} {p:Int×List UInt8} (x:List UInt8):vK (JC mp f p) x=if x=f then p.1 else vK mp x:=by
 unfold vK;rw [J3]
 by_cases e:x=f
 ·rw [if_pos e,if_pos e]
 ·rw [if_neg e,if_neg e]
theorem jh {mp:JJ} {f:List UInt8} {p:Int×List UInt8} (x:List UInt8):zS (JC mp f p) x≠none↔(x=f∨zS mp x≠none):=by
 rw [J3]
 by_cases e:x=f<;>simp [e]
theorem VK {mp:JJ} {f:List UInt8} {p:Int×List UInt8} (h:zS mp f=none):JC mp f p=mp ++ [(f,p)]:=by
 unfold JC;rw [yg h]
theorem kM {α:Type} {k:List UInt8}:∀ {l:List (List UInt8×α)} {i:Nat},Q9 k l i≠none↔k∈l.map (·.1)
 | [],i=>by simp [Q9]
 | p :: r,i=>by
  unfold Q9
  by_cases e:p.1=k
  ·simp [e]
  ·rw [if_neg e,kM (l:=r)]
   rw [List.map_cons,List.mem_cons]
   exact ⟨.inr,fun q=>q.resolve_left fun z=>e z.symm⟩
theorem GX {mp:JJ} {x:List UInt8}:zS mp x≠none↔x∈mp.map (·.1):=by
 rw [← kM (l:=mp) (i:=0)]
 unfold zS
 cases Q9 x mp 0<;>simp
structure CI (r:Rl) (mp:JJ) (dep:List UInt8→Nat):Prop where
 tree:Tree r (frM mp) dep (fun x=>zS mp x≠none)
 camp:∀ x,zS mp x≠none→vK mp x=((dep x % 2:Nat):Int)
 kn:∀ x,zS mp x≠none→gat r.us x≠none
 nd:(mp.map (·.1)).Nodup
 dl:∀ x,zS mp x≠none→dep x<mp.length
def xC (dep:List UInt8→Nat) (f:List UInt8) (d:Nat):List UInt8→Nat:=fun x=>if x=f then d else dep x
theorem CI.len {r:Rl} (H:RO r) {mp:JJ} {dep:List UInt8→Nat} (I:CI r mp dep):mp.length≤64:=by
 have:=QL I.nd (m:=r.us.map (·.name)) fun x hx=>WG (I.kn x (GX.2 hx))
 have:=H.l64
 simp at *;omega
theorem CI.put {r:Rl} {mp:JJ} {dep:List UInt8→Nat} (I:CI r mp dep) {f n:List UInt8} {c:Int} {d:Nat} (hf:zS mp f=none) (hk:gat r.us f≠none) (h:(d=0∧c=0)∨(zS mp n≠none∧d=dep n+1∧adj r 2 n f∧c=1 - vK mp n)):CI r (JC mp f (c,n)) (xC dep f d):=by
 refine ⟨⟨fun x hx h0=>?_⟩,fun x hx=>?_,fun x hx=>?_,?_,fun x hx=>?_⟩
 ·rw [jh] at hx
  rw [jh,vH]
  unfold xC at h0 ⊢
  by_cases e:x=f
  ·subst e
   rw [if_pos rfl] at h0
   rw [if_pos rfl,if_pos rfl]
   rcases h with ⟨h1,h2⟩|⟨h1,h2,h3,h4⟩
   ·omega
   ·have hn:n≠x:=fun q=>h1 (q ▸ hf)
    exact ⟨.inr h1,by rw [if_neg hn];exact h2.symm,h3⟩
  ·rw [if_neg e] at h0
   rw [if_neg e,if_neg e]
   obtain ⟨g1,g2,g3⟩:=I.tree.up x (hx.resolve_left e) h0
   have hn:frM mp x≠f:=fun q=>g1 (q ▸ hf)
   exact ⟨.inr g1,by rw [if_neg hn];exact g2,g3⟩
 ·rw [jh] at hx
  rw [Zk]
  unfold xC
  by_cases e:x=f
  ·rw [if_pos e,if_pos e]
   rcases h with ⟨h1,h2⟩|⟨h1,h2,h3,h4⟩
   ·rw [h1];exact h2
   ·show c=_
    rw [h4,I.camp n h1,h2];omega
  ·rw [if_neg e,if_neg e];exact I.camp x (hx.resolve_left e)
 ·rw [jh] at hx
  rcases hx with e|e
  ·rw [e];exact hk
  ·exact I.kn x e
 ·rw [VK hf,List.map_append,List.nodup_append]
  refine ⟨I.nd,by simp,fun a ha b hb e=>?_⟩
  simp only [List.map_cons,List.map_nil,List.mem_singleton] at hb
  exact GX.2 ha (e ▸ hb ▸ hf)
 ·rw [jh] at hx
  unfold xC
  rw [VK hf,List.length_append,List.length_singleton]
  by_cases e:x=f
  ·rw [if_pos e]
   rcases h with ⟨h1,h2⟩|⟨h1,h2,h3,h4⟩
   ·omega
   ·have:=I.dl n h1;omega
  ·rw [if_neg e]
   have:=I.dl x (hx.resolve_left e);omega
theorem gu (fr:List UInt8→List UInt8) (x:List UInt8):∀ k,anc fr x (k+1)=anc fr (fr x) k
 | 0=>rfl
 | k+1=>congrArg fr (gu fr x k)
theorem CI.anc {r:Rl} {mp:JJ} {dep:List UInt8→Nat} (I:CI r mp dep) {f:List UInt8} {p:Int×List UInt8} (hf:zS mp f=none) {x:List UInt8} (hx:zS mp x≠none):∀ {k:Nat},k≤dep x→Xx.anc (frM (JC mp f p)) x k=Xx.anc (frM mp) x k
 | 0,_=>rfl
 | k+1,h=>by
  show frM _ (Xx.anc _ x k)=frM _ (Xx.anc _ x k)
  rw [I.anc hf hx (by omega),vH,if_neg]
  intro q
  have:=(qbc I.tree hx (k:=k) (by omega)).1
  exact this (q ▸ hf)
def YI (r:Rl) (j:Nat):List UInt8:=(r.us.getD j default).name
structure OI (r:Rl) (i:Nat) (mp:JJ) (dep:List UInt8→Nat):Prop where
 ci:CI r mp dep
 cl:∀ x,zS mp x≠none→∀ y,adj r 2 x y→zS mp y≠none∧vK mp y≠vK mp x
 gm:∀ j,j<i→zS mp (YI r j)≠none
 z:∀ j,j<i→vK mp (YI r j)=0∨∃ k,k<j∧Rch r 2 (YI r k) (YI r j)
 rc:∀ x,zS mp x≠none→∃ k,k<i∧Rch r 2 (YI r k) x
structure SI (r:Rl) (i:Nat) (O:List UInt8→Prop) (mp:JJ) (dep:List UInt8→Nat) (q:List (List UInt8)):Prop where
 ci:CI r mp dep
 om:∀ x,O x→zS mp x≠none
 oc:∀ x,O x→∀ y,adj r 2 x y→O y∧vK mp y≠vK mp x
 gm:∀ j,j≤i→zS mp (YI r j)≠none
 z:∀ j,j≤i→vK mp (YI r j)=0∨∃ k,k<j∧Rch r 2 (YI r k) (YI r j)
 orc:∀ x,O x→∃ k,k<i∧Rch r 2 (YI r k) x
 rt:∀ x,zS mp x≠none→¬ O x→Xx.anc (frM mp) x (dep x)=YI r i∧Rch r 2 (YI r i) x
 qm:∀ x∈q,zS mp x≠none∧¬ O x
 qs:∀ a b,a<b→b<q.length→dep (q.getD a default)≤dep (q.getD b default)
 qd:∀ x∈q,dep x≤dep (q.getD 0 default)+1
 dn:∀ x,zS mp x≠none→¬ O x→x ∉ q→(q≠[]→dep x≤dep (q.getD 0 default))∧∀ y,adj r 2 x y→zS mp y≠none∧vK mp y≠vK mp x
 ql:q.length≤mp.length
theorem OI.root {r:Rl} {i:Nat} {mp:JJ} {dep:List UInt8→Nat} (I:OI r i mp dep) (hs:zS mp (YI r i)=none) (hk:gat r.us (YI r i)≠none):SI r i (fun x=>zS mp x≠none) (JC mp (YI r i) (0,[])) (xC dep (YI r i) 0) [YI r i]:=by
 have nm:∀ {x},zS mp x≠none→x≠YI r i:=fun hx q=>hx (q ▸ hs)
 refine ⟨I.ci.put hs hk (.inl ⟨rfl,rfl⟩),fun x hx=>(jh x).2 (.inr hx),fun x hx y a=>?_,fun j hj=>?_,fun j hj=>?_,I.rc,fun x hx hn=>?_,fun x hx=>?_,fun a b h1 h2=>?_,fun x hx=>?_,fun x hx h1 h2=>?_,?_⟩
 ·obtain ⟨h1,h2⟩:=I.cl x hx y a
  rw [Zk,Zk,if_neg (nm h1),if_neg (nm hx)]
  exact ⟨h1,h2⟩
 ·rw [jh]
  rcases Nat.lt_or_ge j i with q|q
  ·exact .inr (I.gm j q)
  ·obtain rfl:j=i:=by omega
   exact .inl rfl
 ·rw [Zk]
  rcases Nat.lt_or_ge j i with q|q
  ·rw [if_neg (nm (I.gm j q))];exact I.z j q
  ·obtain rfl:j=i:=by omega
   exact .inl (if_pos rfl)
 ·have e:=((jh x).1 hx).resolve_right hn
  subst e
  have:xC dep (YI r i) 0 (YI r i)=0:=if_pos rfl
  rw [this]
  exact ⟨rfl,.refl⟩
 ·rw [List.mem_singleton] at hx
  subst hx
  exact ⟨(jh _).2 (.inl rfl),fun q=>q hs⟩
 ·rw [List.length_singleton] at h2;omega
 ·rw [List.mem_singleton] at hx
  subst hx
  exact Nat.le_succ _
 ·exact absurd (List.mem_singleton.2 (((jh x).1 hx).resolve_right h1)) h2
 ·rw [VK hs];simp
theorem yw {l:List (List UInt8)} {x:List UInt8} (h:l≠[]):(l ++ [x]).getD 0 default=l.getD 0 default:=by
 cases l with
 | nil=>exact absurd rfl h
 | cons y l=>rfl
theorem SI.add {r:Rl} {i:Nat} {O:List UInt8→Prop} {mp:JJ} {dep:List UInt8→Nat} {q:List (List UInt8)} (I:SI r i O mp dep q) (hq:q≠[]) {n f:List UInt8} (hn:q.getD 0 default=n) (hf:zS mp f=none) (hk:gat r.us f≠none) (ha:adj r 2 n f):SI r i O (JC mp f (1 - vK mp n,n)) (xC dep f (dep n+1)) (q ++ [f]):=by
 have hn2:n∈q:=by
  rw [← hn];exact qR (List.length_pos_iff.2 hq)
 obtain ⟨nm,no⟩:=I.qm n hn2
 have ne:∀ {x},zS mp x≠none→x≠f:=fun hx e=>hx (e ▸ hf)
 have du:∀ {x},zS mp x≠none→xC dep f (dep n+1) x=dep x:=fun hx=>if_neg (ne hx)
 have duf:xC dep f (dep n+1) f=dep n+1:=if_pos rfl
 have fO:¬ O f:=fun h=>I.om f h hf
 refine ⟨I.ci.put hf hk (.inr ⟨nm,rfl,ha,rfl⟩),fun x hx=>(jh x).2 (.inr (I.om x hx)),fun x hx y a=>?_,fun j hj=>(jh _).2 (.inr (I.gm j hj)),fun j hj=>?_,I.orc,fun x hx hn=>?_,fun x hx=>?_,fun a b h1 h2=>?_,fun x hx=>?_,fun x hx h1 h2=>?_,?_⟩
 ·obtain ⟨h1,h2⟩:=I.oc x hx y a
  rw [Zk,Zk,if_neg (ne (I.om _ h1)),if_neg (ne (I.om _ hx))]
  exact ⟨h1,h2⟩
 ·rw [Zk,if_neg (ne (I.gm j hj))];exact I.z j hj
 ·rw [jh] at hx
  by_cases e:x=f
  ·subst e
   rw [duf,gu,vH,if_pos rfl]
   show Xx.anc _ n (dep n)=_∧_
   rw [I.ci.anc hf nm (Nat.le_refl _)]
   obtain ⟨h1,h2⟩:=I.rt n nm no
   exact ⟨h1,h2.step ha⟩
  ·have hx:=hx.resolve_left e
   rw [du hx,I.ci.anc hf hx (Nat.le_refl _)]
   exact I.rt x hx hn
 ·rw [jh]
  rcases List.mem_append.1 hx with h|h
  ·exact ⟨.inr (I.qm x h).1,(I.qm x h).2⟩
  ·rw [List.mem_singleton] at h
   exact ⟨.inl h,h ▸ fO⟩
 ·rw [List.length_append,List.length_singleton] at h2
  rw [VA (show a<q.length by omega),du (I.qm _ (qR (show a<q.length by omega))).1]
  rcases Nat.lt_or_ge b q.length with h|h
  ·rw [VA h,du (I.qm _ (qR h)).1];exact I.qs a b h1 h
  ·rw [PR h,show b - q.length=0 by omega]
   show _≤xC _ _ _ f
   rw [duf]
   have:=I.qd _ (qR (show a<q.length by omega))
   rw [hn] at this;exact this
 ·rw [yw hq,hn,du nm]
  rcases List.mem_append.1 hx with h|h
  ·rw [du (I.qm x h).1,← hn];exact I.qd x h
  ·rw [List.mem_singleton.1 h,duf];exact Nat.le_refl _
 ·rw [List.mem_append,List.mem_singleton,not_or] at h2
  have hx:=((jh x).1 hx).resolve_left h2.2
  obtain ⟨g1,g2⟩:=I.dn x hx h1 h2.1
  rw [yw hq,hn,du nm,du hx,← hn]
  refine ⟨fun _=>g1 hq,fun y a=>?_⟩
  obtain ⟨k1,k2⟩:=g2 y a
  rw [Zk,Zk,if_neg (ne k1),if_neg (ne hx)]
  exact ⟨(jh y).2 (.inr k1),k2⟩
 ·have:=I.ql
  rw [VK hf];simp;exact this
theorem SI.fin {r:Rl} {i:Nat} {O:List UInt8→Prop} {mp:JJ} {dep:List UInt8→Nat} (I:SI r i O mp dep []):OI r (i+1) mp dep:=by
 refine ⟨I.ci,fun x hx y a=>?_,fun j hj=>I.gm j (by omega),fun j hj=>I.z j (by omega),fun x hx=>?_⟩
 ·by_cases h:O x
  ·obtain ⟨h1,h2⟩:=I.oc x h y a
   exact ⟨I.om y h1,h2⟩
  ·exact (I.dn x hx h (by simp)).2 y a
 ·by_cases h:O x
  ·obtain ⟨k,h1,h2⟩:=I.orc x h
   exact ⟨k,by omega,h2⟩
  ·exact ⟨i,by omega,(I.rt x hx h).2⟩
theorem OI.skip {r:Rl} {i:Nat} {mp:JJ} {dep:List UInt8→Nat} (I:OI r i mp dep) (h:zS mp (YI r i)≠none):OI r (i+1) mp dep:=by
 refine ⟨I.ci,I.cl,fun j hj=>?_,fun j hj=>?_,fun x hx=>?_⟩
 ·rcases Nat.lt_or_ge j i with q|q
  ·exact I.gm j q
  ·obtain rfl:j=i:=by omega
   exact h
 ·rcases Nat.lt_or_ge j i with q|q
  ·exact I.z j q
  ·obtain rfl:j=i:=by omega
   exact .inr (I.rc _ h)
 ·obtain ⟨k,h1,h2⟩:=I.rc x hx
  exact ⟨k,by omega,h2⟩
theorem SI.clash {r:Rl} (H:RO r) {i:Nat} {O:List UInt8→Prop} {mp:JJ} {dep:List UInt8→Nat} {q:List (List UInt8)} (I:SI r i O mp dep q) (hq:q≠[]) {n f:List UInt8} (hn:q.getD 0 default=n) (hf:zS mp f≠none) (ha:adj r 2 n f) (hc:vK mp f=vK mp n):zS mp n≠none∧dep n=dep f∧n≠f∧Xx.anc (frM mp) n (dep n)=Xx.anc (frM mp) f (dep n)∧dep n≤64:=by
 have hn2:n∈q:=by
  rw [← hn];exact qR (List.length_pos_iff.2 hq)
 obtain ⟨nm,no⟩:=I.qm n hn2
 have fO:¬ O f:=fun h=>no (I.oc f h n ha.symm).1
 have fq:f∈q:=by
  apply Classical.byContradiction
  intro h
  exact ((I.dn f hf fO h).2 n ha.symm).2 hc.symm
 have h1:=I.qd f fq
 have h2:dep (q.getD 0 default)≤dep f:=by
  obtain ⟨j,j1,j2⟩:=qX.1 fq
  rcases Nat.eq_zero_or_pos j with e|e
  ·subst e;rw [j2];exact Nat.le_refl _
  ·have:=I.qs 0 j e j1
   rw [j2] at this;exact this
 rw [hn] at h1 h2
 have h3:=I.ci.camp f hf
 have h4:=I.ci.camp n nm
 rw [hc,h4] at h3
 have hd:dep n=dep f:=by omega
 have hl:=I.ci.len H
 have:=I.ci.dl n nm
 refine ⟨nm,hd,(yF H ha).2.2,?_,by omega⟩
 rw [(I.rt n nm no).1,hd,(I.rt f hf fO).1]
structure qdk (r:Rl) (cs:List Int):Prop where
 len:cs.length=r.us.length
 b:∀ i,i<cs.length→cs.getD i default=0∨cs.getD i default=1
 ne:∀ i j,i<cs.length→j<cs.length→adj r 2 (YI r i) (YI r j)→cs.getD i default≠cs.getD j default
 z:∀ j,j<cs.length→cs.getD j default=0∨∃ k,k<j∧Rch r 2 (YI r k) (YI r j)
theorem OI.qeu {r:Rl} {mp:JJ} {dep:List UInt8→Nat} (I:OI r r.us.length mp dep):qdk r ((List.range r.us.length).map fun i=>vK mp (YI r i)):=by
 have g:∀ i,i<r.us.length→((List.range r.us.length).map fun i=>vK mp (YI r i)).getD i default=vK mp (YI r i):=fun i hi=>by
  rw [List.getD_eq_getElem?_getD];simp [hi]
 refine ⟨by simp,fun i hi=>?_,fun i j hi hj a=>?_,fun j hj=>?_⟩
 ·simp at hi
  rw [g i hi,I.ci.camp _ (I.gm i hi)];omega
 ·simp at hi hj
  rw [g i hi,g j hj]
  exact fun q=>(I.cl _ (I.gm i hi) _ a).2 q.symm
 ·simp at hj
  rw [g j hj];exact I.z j hj
variable [Flag]
end Go.Proofs.Xx
namespace Go.Proofs.Xx
open Go Go.Proofs
variable [Flag]
end Go.Proofs.Xx
namespace Go.Proofs.Xx
open Go Go.Proofs
def mmT (f t:List UInt8) (ts:List Ti) (j:Nat):List Ti:=(ts.take j).map (yV f t) ++ ts.drop j
variable [Flag]
end Go.Proofs.Xx
namespace Go.Proofs.Xx
open Go Go.Proofs
def e16 (x:Nat):List Value:=[.int .u16 x]
def MdG (g:Gu) (i:Nat):Prop:=g.name=num (25*i)∧Yg g.rank∧Yg g.court∧Yg g.diet∧(0≤g.since∧g.since≤9999)∧(0≤g.side∧g.side≤2)
def MdT (l:List (List UInt8)) (k:Nat):Prop:=l.length≤k∧(∀ j,j<l.length→∃ m,m<k∧l.getD j default=num m)∧∀ j,j+1<l.length→jE (l.getD j default) (l.getD (j+1) default)
theorem MdT.next {l:List (List UInt8)} {k:Nat} (h:MdT l k):MdT l (k+1):=⟨by have:=h.1;omega,fun j hj=>by obtain ⟨m,h1,h2⟩:=h.2.1 j hj;exact ⟨m,by omega,h2⟩,h.2.2⟩
theorem MdT.app {l:List (List UInt8)} {k:Nat} (h:MdT l k) (hk:k<4):MdT (l ++ [num k]) (k+1):=by
 refine ⟨by simp;exact h.1,fun j hj=>?_,fun j hj=>?_⟩
 ·simp at hj
  rcases Nat.lt_or_ge j l.length with q|q
  ·rw [VA q];exact h.next.2.1 j q
  ·obtain rfl:j=l.length:=by omega
   rw [PR (Nat.le_refl _),Nat.sub_self];exact ⟨k,by omega,rfl⟩
 ·simp at hj
  rw [VA (show j<l.length by omega)]
  rcases Nat.lt_or_ge (j+1) l.length with q|q
  ·rw [VA q];exact h.2.2 j q
  ·rw [PR q,show j+1 - l.length=0 by omega]
   obtain ⟨m,h1,h2⟩:=h.2.1 j (by omega)
   rw [h2];exact (Wp (by omega) (by omega)).2 h1
abbrev MdR (q q4:Nat) (gs:List ZC) (vg:SlV):List Rs:=[gZ gs,.sl vg.val 24 9 eG gs,.blk q [vg.val,.slice none 0 0] 32,.blk q4 [.slice none 0 0,.slice none 0 0] 32]
abbrev MdI (h0:AH) (q q4:Nat) (la:List Nat) (gs:List ZC) (vg:SlV) (h:AH):Prop:=Hs h0 h (MdR q q4 gs vg)∧gs.length≤12∧gs.length≤la.length∧∀ i,i<gs.length→MdG (gs.getD i default).toGu i∧MdT (gs.getD i default).tg 4
abbrev MdJ (h0:AH) (q q4:Nat) (gs:List ZC) (vg:SlV) (k:Nat) (b:Nat) (g:ZC) (h:AH):Prop:=Hs h0 h (.blk b (eG g) 24 :: .sl g.tv.val 9 1 eS g.tg :: MdR q q4 gs vg)∧MdG g.toGu gs.length∧MdT g.tg k
def TI (us:List Gu) (ts:List Ti) (i k:Nat):Prop:=TS ts∧(∀ t∈ts,jE t.a t.b∧(t.k=1∨t.k=2)∧gat us t.a≠none∧gat us t.b≠none)∧(∀ t∈ts,jE t.a (num i)∨(t.a=num i∧jE t.b (num k)))∧ts.length≤13*((i+24) / 25)+(if i % 25=0 then (k+24) / 25 else 0)
def TIo (us:List Gu) (ts:List Ti) (i:Nat):Prop:=TS ts∧(∀ t∈ts,jE t.a t.b∧(t.k=1∨t.k=2)∧gat us t.a≠none∧gat us t.b≠none)∧(∀ t∈ts,jE t.a (num i))∧ts.length≤13*((i+24) / 25)
theorem TI.out {us:List Gu} {ts:List Ti} {i k:Nat} (h:TI us ts i k) (hi:i<312) (hk:k≤312):TIo us ts (i+1):=by
 refine ⟨h.1,h.2.1,fun t ht=>?_,?_⟩
 ·have:=(Wp (i:=i) (j:=i+1) (by omega) (by omega)).2 (by omega)
  rcases h.2.2.1 t ht with q|q
  ·exact QH q this
  ·rw [q.1];exact this
 ·have:=h.2.2.2
  split at this<;>omega
theorem TI.next {us:List Gu} {ts:List Ti} {i k:Nat} (h:TI us ts i k) (hk:k<312):TI us ts i (k+1):=by
 refine ⟨h.1,h.2.1,fun t ht=>?_,?_⟩
 ·rcases h.2.2.1 t ht with q|q
  ·exact .inl q
  ·exact .inr ⟨q.1,QH q.2 ((Wp (by omega) (by omega)).2 (by omega))⟩
 ·have:=h.2.2.2
  split at this<;>split<;>omega
theorem TI.app {us:List Gu} {ts:List Ti} {i k:Nat} {z:Int} (h:TI us ts i k) (hik:i<k) (hk:k<312) (hz:z=1∨z=2) (hi2:i % 25=0) (hk2:k % 25=0) (g1:gat us (num i)≠none) (g2:gat us (num k)≠none):TI us (ts ++ [⟨num i,num k,z⟩]) i (k+1):=by
 refine ⟨h.1.app fun j hj=>?_,fun t ht=>?_,fun t ht=>?_,?_⟩
 ·exact h.2.2.1 _ (qR hj)
 ·rcases List.mem_append.1 ht with q|q
  ·exact h.2.1 t q
  ·obtain rfl:=List.mem_singleton.1 q
   exact ⟨(Wp (by omega) (by omega)).2 hik,hz,g1,g2⟩
 ·rcases List.mem_append.1 ht with q|q
  ·exact (h.next hk).2.2.1 t q
  ·obtain rfl:=List.mem_singleton.1 q
   exact .inr ⟨rfl,(Wp (by omega) (by omega)).2 (by omega)⟩
 ·have:=h.2.2.2
  rw [if_pos hi2] at this ⊢
  simp;omega
abbrev MdQ (q q4:Nat) (gs:List ZC) (vg:SlV) (ts:List Ti) (vt:SlV):List Rs:=[.sl vg.val 24 9 eG gs,.blk q4 [.slice none 0 0,.slice none 0 0] 32,gZ gs,.blk q [vg.val,vt.val] 32,.sl vt.val 111 3 zW ts]
variable [Flag]
end Go.Proofs.Xx
namespace Go.Proofs.Xx
open Go Go.Proofs
theorem CirOk.same {r:Rl} (H:RO r) {cs:List Wd} (C:CirOk r cs) {i j:Nat} (hi:i<cs.length) (hj:j<cs.length) {x:List UInt8} (h1:x∈(cs.getD i default).ws) (h2:x∈(cs.getD j default).ws):i=j:=by
 have key:∀ i j,i<cs.length→j<cs.length→x∈(cs.getD i default).ws→x∈(cs.getD j default).ws→¬ jE ((cs.getD j default).ws.getD 0 default) ((cs.getD i default).ws.getD 0 default):=fun i j hi hj h1 h2=>by
  obtain ⟨a1,a2,a3⟩:=C.ss _ (qR hi)
  obtain ⟨b1,b2,b3⟩:=C.ss _ (qR hj)
  obtain ⟨k1,r1⟩:=(a3 x).1 h1
  obtain ⟨k2,r2⟩:=(b3 x).1 h2
  have hm:(cs.getD j default).ws.getD 0 default∈(cs.getD i default).ws:=(a3 _).2 ⟨k1,r1.trans r2.symm⟩
  obtain ⟨z,z1,z2⟩:=qX.1 hm
  have:=a1.le (Nat.zero_le z) z1
  rwa [z2] at this
 rcases Nat.lt_trichotomy i j with q|q|q
 ·exact absurd (C.hd i j q hj) (key j i hj hi h2 h1)
 ·exact q
 ·exact absurd (C.hd j i q hi) (key i j hi hj h1 h2)
theorem Rch.alone {r:Rl} {k:Int} {n x:List UInt8} (h:Rch r k n x) (hno:∀ y,¬ adj r k n y):x=n:=by
 induction h with
 | refl=>rfl
 | step h a ih=>rw [ih] at a;exact absurd a (hno _)
def tot (cs:List Wd) (i:Nat):Nat:=((cs.take i).flatMap (·.ws)).length
theorem CirOk.nodup {r:Rl} (H:RO r) {cs:List Wd} (C:CirOk r cs) (i:Nat):((cs.take i).flatMap (·.ws)).Nodup:=by
 rw [List.Nodup,List.pairwise_flatMap]
 refine ⟨fun w hw=>(C.ss w (List.mem_of_mem_take hw)).1.nodup,?_⟩
 rw [List.pairwise_iff_getElem]
 intro a b ha hb hab x hx y hy e
 subst e
 simp only [List.length_take] at ha hb
 have ea:(cs.take i)[a]=cs.getD a default:=by rw [List.getElem_take,List.getD_eq_getElem?_getD,List.getElem?_eq_getElem (show a<cs.length by omega)];rfl
 have eb:(cs.take i)[b]=cs.getD b default:=by rw [List.getElem_take,List.getD_eq_getElem?_getD,List.getElem?_eq_getElem (show b<cs.length by omega)];rfl
 rw [ea] at hx
 rw [eb] at hy
 have:=C.same H (show a<cs.length by omega) (show b<cs.length by omega) hx hy
 omega
theorem CirOk.qcB {r:Rl} (H:RO r) {cs:List Wd} (C:CirOk r cs) (i:Nat):tot cs i≤r.us.length:=by
 have:=QL (C.nodup H i) (m:=r.us.map (·.name)) fun x hx=>by
  obtain ⟨w,w1,w2⟩:=List.mem_flatMap.1 hx
  obtain ⟨-,-,w3⟩:=C.ss w (List.mem_of_mem_take w1)
  obtain ⟨k,rc⟩:=(w3 x).1 w2
  exact WG (rc.known H k)
 rwa [List.length_map] at this
theorem CirOk.tot {r:Rl} (H:RO r) {cs:List Wd} (C:CirOk r cs) (hall:∀ x,gat r.us x≠none→∃ w∈cs,x∈w.ws):Xx.tot cs cs.length=r.us.length:=by
 have h1:=C.qcB H cs.length
 have hn:(r.us.map (·.name)).Nodup:=by
  rw [List.Nodup,List.pairwise_iff_getElem]
  intro i j hi hj hij
  simp only [List.length_map] at hi hj
  have:=H.nd i j hij hj
  rw [List.getD_eq_getElem?_getD,List.getD_eq_getElem?_getD,List.getElem?_eq_getElem hj,List.getElem?_eq_getElem hi] at this
  simpa using this
 have h2:=QL hn (m:=(cs.take cs.length).flatMap (·.ws)) fun x hx=>by
  obtain ⟨g,g1,g2⟩:=List.mem_map.1 hx
  obtain ⟨w,w1,w2⟩:=hall x (vF.2 ⟨g,g1,g2⟩)
  rw [List.take_length]
  exact List.mem_flatMap.2 ⟨w,w1,w2⟩
 rw [List.length_map] at h2
 unfold Xx.tot at *
 omega
variable [Flag]
end Go.Proofs.Xx
namespace Go.Proofs.Xx
open Go Go.Proofs
variable [Flag]
end Go.Proofs.Xx
namespace Go.Proofs.Xx
open Go Go.Proofs
variable [Flag]
end Go.Proofs.Xx
