/-
  Chains: the search,plain part.
-/
import Derived.Test.YtidmdnenlgjpeaaGreatDoorM10
import Derived.Test.YtidmdnenlgjpeaaGreatDoorM9
set_option linter.unusedSimpArgs false
set_option linter.unusedVariables false
set_option linter.unusedSectionVars false
set_option maxRecDepth 100000
set_option maxHeartbeats 4000000
namespace Go.Proofs.Xx
open Go Go.Proofs
inductive Pth (r:Rl) (x:List UInt8):List (List UInt8)→List UInt8→Prop
 | one:Pth r x [x] x
 | snoc {Q:List (List UInt8)} {w z:List UInt8} (h:Pth r x Q w) (a:spk r w z):Pth r x (Q ++ [z]) z
theorem Pth.pos {r:Rl} {x y:List UInt8} {Q:List (List UInt8)} (h:Pth r x Q y):0<Q.length:=by
 cases h<;>simp
theorem Pth.cons {r:Rl} {z x y:List UInt8} {Q:List (List UInt8)} (a:spk r z x) (h:Pth r x Q y):Pth r z (z :: Q) y:=by
 induction h with
 | one=>exact Pth.snoc (.one) a
 | snoc h b ih=>exact Pth.snoc ih b
theorem Pth.rev {r:Rl} {x y:List UInt8} {Q:List (List UInt8)} (h:Pth r x Q y):Pth r y Q.reverse x:=by
 induction h with
 | one=>exact .one
 | snoc h b ih =>
  rw [List.reverse_append];exact ih.cons b.symm
theorem Pth.head {r:Rl} {x y:List UInt8} {Q:List (List UInt8)} (h:Pth r x Q y):Q.getD 0 default=x:=by
 induction h with
 | one=>rfl
 | snoc h b ih=>rw [YZ h.pos];exact ih
theorem Pth.last {r:Rl} {x y:List UInt8} {Q:List (List UInt8)} (h:Pth r x Q y):Q.getD (Q.length - 1) default=y:=by
 cases h with
 | one=>rfl
 | snoc h b=>rw [zB2,zD5,Nat.add_sub_cancel,pM (zA3 _),zG5];rfl
theorem Pth.adj {r:Rl} {x y:List UInt8} {Q:List (List UInt8)} (h:Pth r x Q y):∀ i,i+1<Q.length→spk r (Q.getD i default) (Q.getD (i+1) default):=by
 induction h with
 | one=>intro i hi;simp at hi
 | snoc h b ih =>
  rename_i Q w z
  intro i hi;rw [zB2,zD5] at hi;rcases zA7 (i+1) Q.length with q|q
  ·rw [YZ (by omega),YZ q];exact ih i q
  ·have e:i=Q.length - 1:=by omega
   have hp:=h.pos;rw [YZ (by omega),pM q,e,h.last,show Q.length - 1+1 - Q.length=0 by omega];exact b
def lxl (P Q:List (List UInt8)):Prop:=∃ k,k<P.length∧k<Q.length∧(∀ j,j<k→P.getD j default=Q.getD j default)∧ji (P.getD k default) (Q.getD k default)
theorem lxl.snoc {P Q:List (List UInt8)} {a b:List UInt8} (h:lxl P Q):lxl (P ++ [a]) (Q ++ [b]):=by
 obtain ⟨k,h1,h2,h3,h4⟩:=h;refine ⟨k,by simp;omega,by simp;omega,fun j hj=>?_,?_⟩
 ·rw [YZ (by omega),YZ (by omega)];exact h3 j hj
 ·rw [YZ h1,YZ h2];exact h4
theorem lxl.last {P:List (List UInt8)} {a b:List UInt8} (h:ji a b):lxl (P ++ [a]) (P ++ [b]):=by
 refine ⟨P.length,by simp,by simp,fun j hj=>?_,?_⟩
 ·rw [YZ hj,YZ hj]
 ·rw [pM (zA3 _),pM (zA3 _),zG5];exact h
theorem lxl.trans {P Q R:List (List UInt8)} (h:lxl P Q) (g:lxl Q R):lxl P R:=by
 obtain ⟨k,h1,h2,h3,h4⟩:=h;obtain ⟨m,g1,g2,g3,g4⟩:=g;rcases zE6 k m with q|q|q
 ·exact ⟨k,h1,by omega,fun j hj=>(h3 j hj).trans (g3 j (by omega)),by rw [← g3 k q];exact h4⟩
 ·subst q;exact ⟨k,h1,g2,fun j hj=>(h3 j hj).trans (g3 j hj),jX h4 g4⟩
 ·exact ⟨m,by omega,g2,fun j hj=>(h3 j (by omega)).trans (g3 j hj),by rw [h3 m q];exact g4⟩
def lxe (P Q:List (List UInt8)):Prop:=P=Q∨lxl P Q
theorem lxe.trans {P Q R:List (List UInt8)} (h:lxe P Q) (g:lxe Q R):lxe P R:=by
 rcases h with rfl|h
 ·exact g
 ·rcases g with rfl|g
  ·exact .inr h
  ·exact .inr (h.trans g)
theorem lxe.snoc {P Q:List (List UInt8)} {a:List UInt8} (h:lxe P Q):lxe (P ++ [a]) (Q ++ [a]):=by
 rcases h with rfl|h
 ·exact .inl rfl
 ·exact .inr h.snoc
structure ChainOk (r:Rl) (x y:List UInt8) (P:List (List UInt8)):Prop where
 pth:Pth r x P y
 sh:∀ Q,Pth r x Q y→P.length≤Q.length
 lx:∀ Q,Pth r x Q y→P.length=Q.length→lxe P Q
abbrev Xv:=List (List UInt8×List UInt8)
def XQ (mp:Xv) (j:Nat):List UInt8:=(mp.getD j default).1
def Zu (mp:Xv) (pa:Nat→Nat) (j:Nat):List (List UInt8):=if h:0<j∧pa j<j then Zu mp pa (pa j) ++ [XQ mp j] else [XQ mp j]
termination_by j
decreasing_by exact h.2
structure BC (r:Rl) (x:List UInt8) (mp:Xv) (pa:Nat→Nat):Prop where
 pos:0<mp.length
 d0:XQ mp 0=x
 f0:(mp.getD 0 default).2=[]
 kn:∀ j,j<mp.length→gat r.us (XQ mp j)≠none
 nd:(mp.map (·.1)).Nodup
 lt:∀ j,0<j→j<mp.length→pa j<j
 fr:∀ j,0<j→j<mp.length→(mp.getD j default).2=XQ mp (pa j)∧spk r (XQ mp (pa j)) (XQ mp j)
 mo:∀ j k,0<j→j≤k→k<mp.length→pa j≤pa k
 od:∀ j k,0<j→j<k→k<mp.length→pa j=pa k→ji (XQ mp j) (XQ mp k)
theorem BC.step {r:Rl} {x:List UInt8} {mp:Xv} {pa:Nat→Nat} (B:BC r x mp pa) {j:Nat} (h0:0<j) (hj:j<mp.length):Zu mp pa j=Zu mp pa (pa j) ++ [XQ mp j]:=by
 rw [Zu,dif_pos ⟨h0,B.lt j h0 hj⟩]
theorem kX (mp:Xv) (pa:Nat→Nat):Zu mp pa 0=[XQ mp 0]:=by
 rw [Zu,dif_neg (by omega)]
theorem qa8 (mp:Xv) (pa:Nat→Nat) (j:Nat):0<(Zu mp pa j).length:=by
 rw [Zu];split<;>simp
theorem BC.pth {r:Rl} {x:List UInt8} {mp:Xv} {pa:Nat→Nat} (B:BC r x mp pa) (j:Nat) (hj:j<mp.length):Pth r x (Zu mp pa j) (XQ mp j):=by
 induction j using Nat.strongRecOn with
 | _ j ih =>
  rcases zF3 j with q|q
  ·subst q;rw [kX,B.d0];exact .one
  ·rw [B.step q hj];have:=B.lt j q hj;exact (ih _ this (by omega)).snoc (B.fr j q hj).2
theorem BC.mono {r:Rl} {x:List UInt8} {mp:Xv} {pa:Nat→Nat} (B:BC r x mp pa) (k:Nat) (hk:k<mp.length):∀ j,j≤k→(Zu mp pa j).length≤(Zu mp pa k).length∧((Zu mp pa j).length=(Zu mp pa k).length→lxe (Zu mp pa j) (Zu mp pa k)):=by
 induction k using Nat.strongRecOn with
 | _ k ih =>
  intro j hj;rcases Nat.eq_or_lt_of_le hj with q|q
  ·subst q;exact ⟨zA3 _,fun _=>.inl rfl⟩
  ·rw [B.step (by omega) hk];rcases zF3 j with z|z
   ·subst z;have:=qa8 mp pa (pa k);rw [kX];simp
    intro h;rw [h] at this;exact absurd this (by simp)
   ·rw [B.step z (by omega)];have hl:=B.lt k (by omega) hk;have hm:=B.mo j k z hj hk;obtain ⟨h1,h2⟩:=ih (pa k) hl (by omega) (pa j) hm;refine ⟨by simp;exact h1,fun e=>?_⟩;simp only [zB2,zD5] at e;rcases Nat.eq_or_lt_of_le hm with w|w
    ·rw [w];exact .inr (.last (B.od j k z q hk w))
    ·rcases h2 (by omega) with g|g
     ·exfalso
      have g1:=(B.pth (pa j) (by omega)).last;have g2:=(B.pth (pa k) (by omega)).last;rw [g,g2] at g1;refine ZA B.nd w (by simp;omega) ?_;rw [zF (by omega),zF (by omega)];exact g1.symm
     ·exact .inr g.snoc
structure BI (r:Rl) (x:List UInt8) (mp:Xv) (pa:Nat→Nat) (h:Nat):Prop where
 c:BC r x mp pa
 le:h≤mp.length
 ub:∀ j,0<j→j<mp.length→pa j<h
 cl:∀ i,i<h→∀ y,spk r (XQ mp i) y→∃ j,j<mp.length∧XQ mp j=y∧(j=0∨pa j≤i)
structure BJ (r:Rl) (ns:List (List UInt8)) (x:List UInt8) (mp:Xv) (pa:Nat→Nat) (h k:Nat):Prop where
 c:BC r x mp pa
 lt:h<mp.length
 ub:∀ j,0<j→j<mp.length→pa j≤h
 cl:∀ i,i<h→∀ y,spk r (XQ mp i) y→∃ j,j<mp.length∧XQ mp j=y∧(j=0∨pa j≤i)
 pm:∀ j,0<j→j<mp.length→pa j=h→∃ m,m<k∧XQ mp j=ns.getD m default
 dn:∀ m,m<k→spk r (XQ mp h) (ns.getD m default)→∃ j,j<mp.length∧XQ mp j=ns.getD m default
theorem BI.one {r:Rl} {x:List UInt8} (hx:gat r.us x≠none):BI r x [(x,[])] (fun _=>0) 0:=by
 refine ⟨⟨by simp,rfl,rfl,fun j hj=>?_,by simp,fun j h1 h2=>?_,fun j h1 h2=>?_,fun j k h1 h2 h3=>zA3 _,fun j k h1 h2 h3=>?_⟩,zB0 _,fun j h1 h2=>?_,fun i hi=>absurd hi (zB7 _)⟩
 ·simp at hj;subst hj;exact hx
 all_goals (simp only [zD5] at *;omega)
theorem BI.start {r:Rl} {ns:List (List UInt8)} {x:List UInt8} {mp:Xv} {pa:Nat→Nat} {h:Nat} (I:BI r x mp pa h) (hh:h<mp.length):BJ r ns x mp pa h 0 :=
 ⟨I.c,hh,fun j h1 h2=>Nat.le_of_lt (I.ub j h1 h2),I.cl,fun j h1 h2 e=>absurd (I.ub j h1 h2) (by omega),fun m hm=>absurd hm (zB7 _)⟩
theorem BJ.fin {r:Rl} {ns:List (List UInt8)} {x:List UInt8} {mp:Xv} {pa:Nat→Nat} {h:Nat} (J:BJ r ns x mp pa h ns.length) (hns:∀ y,gat r.us y≠none→y∈ns):BI r x mp pa (h+1):=by
 refine ⟨J.c,J.lt,fun j h1 h2=>Nat.lt_succ_of_le (J.ub j h1 h2),fun i hi y a=>?_⟩;rcases zA7 i h with q|q
 ·exact J.cl i q y a
 ·obtain rfl:i=h:=by omega
  obtain ⟨m,m1,m2⟩:=qN.1 (hns y a.kn.2);rw [← m2] at a ⊢;obtain ⟨j,j1,j2⟩:=J.dn m m1 a;refine ⟨j,j1,j2,?_⟩;rcases zF3 j with z|z
  ·exact .inl z
  ·exact .inr (J.ub j z j1)
theorem BJ.skip {r:Rl} {ns:List (List UInt8)} {x:List UInt8} {mp:Xv} {pa:Nat→Nat} {h k:Nat} (J:BJ r ns x mp pa h k) (hk:zW mp (ns.getD k default)≠none∨¬ spk r (XQ mp h) (ns.getD k default)) (hm:zW mp (ns.getD k default)≠none→ns.getD k default∈mp.map (·.1)):BJ r ns x mp pa h (k+1):=by
 refine ⟨J.c,J.lt,J.ub,J.cl,fun j h1 h2 e=>?_,fun m hm2 a=>?_⟩
 ·obtain ⟨m,m1,m2⟩:=J.pm j h1 h2 e;exact ⟨m,by omega,m2⟩
 ·rcases zA7 m k with q|q
  ·exact J.dn m q a
  ·obtain rfl:m=k:=by omega
   rcases hk with hk|hk
   ·obtain ⟨j,j1,j2⟩:=qN.1 (hm hk);simp only [zC5] at j1;rw [zF j1] at j2;exact ⟨j,j1,j2⟩
   ·exact absurd a hk
def paU (pa:Nat→Nat) (n h:Nat):Nat→Nat:=fun j=>if j=n then h else pa j
theorem BJ.add {r:Rl} {ns:List (List UInt8)} (hs:SS ns) {x:List UInt8} {mp:Xv} {pa:Nat→Nat} {h k:Nat} (J:BJ r ns x mp pa h k) (hk:k<ns.length) (hn:ns.getD k default ∉ mp.map (·.1)) (ha:spk r (XQ mp h) (ns.getD k default)):BJ r ns x (mp ++ [(ns.getD k default,XQ mp h)]) (paU pa mp.length h) h (k+1):=by
 have hl:(mp ++ [(ns.getD k default,XQ mp h)]).length=mp.length+1:=by simp
 have n1:∀ {j},j<mp.length→XQ (mp ++ [(ns.getD k default,XQ mp h)]) j=XQ mp j:=fun hj=>by unfold XQ;rw [YZ hj]
 have n2:XQ (mp ++ [(ns.getD k default,XQ mp h)]) mp.length=ns.getD k default:=by unfold XQ;rw [pM (zA3 _),zG5];rfl
 have p1:∀ {j},j<mp.length→paU pa mp.length h j=pa j:=fun hj=>if_neg (by omega);have p2:paU pa mp.length h mp.length=h:=if_pos rfl;have hp:=J.c.pos;have hh:=J.lt;refine ⟨⟨by omega,by rw [n1 hp];exact J.c.d0,by rw [YZ hp];exact J.c.f0,fun j hj=>?_,?_,fun j h1 h2=>?_,fun j h1 h2=>?_,fun j i h1 h2 h3=>?_,fun j i h1 h2 h3 e=>?_⟩,by omega,fun j h1 h2=>?_,fun i hi y a=>?_,fun j h1 h2 e=>?_,fun m hm a=>?_⟩
 ·rw [hl] at hj;rcases zA7 j mp.length with q|q
  ·rw [n1 q];exact J.c.kn j q
  ·obtain rfl:j=mp.length:=by omega
   rw [n2];exact ha.kn.2
 ·rw [zC9,zG3];refine ⟨J.c.nd,by simp,fun a h1 b h2 e=>?_⟩;simp only [List.map_cons,List.map_nil,zB5] at h2;subst e;subst h2;exact hn h1
 ·rw [hl] at h2;rcases zA7 j mp.length with q|q
  ·rw [p1 q];exact J.c.lt j h1 q
  ·obtain rfl:j=mp.length:=by omega
   rw [p2];exact hh
 ·rw [hl] at h2;rcases zA7 j mp.length with q|q
  ·have:=J.c.lt j h1 q;rw [p1 q,n1 q,n1 (by omega),YZ q];exact J.c.fr j h1 q
  ·obtain rfl:j=mp.length:=by omega
   rw [p2,n2,n1 hh,pM (zA3 _),zG5];exact ⟨rfl,ha⟩
 ·rw [hl] at h3;rcases zA7 i mp.length with q|q
  ·rw [p1 q,p1 (by omega)];exact J.c.mo j i h1 h2 q
  ·obtain rfl:i=mp.length:=by omega
   rw [p2];rcases zA7 j mp.length with q2|q2
   ·rw [p1 q2];exact J.ub j h1 q2
   ·obtain rfl:j=mp.length:=by omega
    rw [p2];exact zA3 _
 ·rw [hl] at h3;rcases zA7 i mp.length with q|q
  ·rw [p1 q,p1 (by omega)] at e;rw [n1 q,n1 (by omega)];exact J.c.od j i h1 h2 q e
  ·obtain rfl:i=mp.length:=by omega
   rw [p2,p1 h2] at e;rw [n2,n1 h2];obtain ⟨m,m1,m2⟩:=J.pm j h1 h2 e;rw [m2];exact hs m k m1 hk
 ·rw [hl] at h2;rcases zA7 j mp.length with q|q
  ·rw [p1 q];exact J.ub j h1 q
  ·obtain rfl:j=mp.length:=by omega
   rw [p2];exact zA3 _
 ·rw [n1 (by omega)] at a;obtain ⟨j,j1,j2,j3⟩:=J.cl i hi y a;exact ⟨j,by omega,by rw [n1 j1];exact j2,by rw [p1 j1];exact j3⟩
 ·rw [hl] at h2;rcases zA7 j mp.length with q|q
  ·rw [p1 q] at e;rw [n1 q];obtain ⟨m,m1,m2⟩:=J.pm j h1 q e;exact ⟨m,by omega,m2⟩
  ·obtain rfl:j=mp.length:=by omega
   exact ⟨k,by omega,n2⟩
 ·rw [n1 hh] at a;rcases zA7 m k with q|q
  ·obtain ⟨j,j1,j2⟩:=J.dn m q a;exact ⟨j,by omega,by rw [n1 j1];exact j2⟩
  ·obtain rfl:m=k:=by omega
   exact ⟨mp.length,by omega,n2⟩
theorem BI.all {r:Rl} {x:List UInt8} {mp:Xv} {pa:Nat→Nat} {h:Nat} (I:BI r x mp pa h) {Q:List (List UInt8)} {z:List UInt8} (hq:Pth r x Q z):(∃ i,i<mp.length∧XQ mp i=z∧(Zu mp pa i).length≤Q.length∧((Zu mp pa i).length=Q.length→lxe (Zu mp pa i) Q))∨(h<mp.length∧(Zu mp pa h).length<Q.length):=by
 induction hq with
 | one=>exact .inl ⟨0,I.c.pos,I.c.d0,by rw [kX];exact zA3 _,fun _=>.inl (by rw [kX,I.c.d0])⟩
 | snoc g b ih =>
  rename_i Q w z
  have hQ:=g.pos;rcases ih with ⟨i,i1,i2,i3,i4⟩|⟨h1,h2⟩
  ·rcases zA7 i h with q|q
   ·rw [← i2] at b;obtain ⟨j,j1,j2,j3⟩:=I.cl i q z b;refine .inl ⟨j,j1,j2,?_⟩;rcases zF3 j with e|e
    ·subst e;rw [kX];simp
     intro h;rw [h] at hQ;simp at hQ
    ·have j3:=j3.resolve_left (by omega);rw [I.c.step e j1,j2];obtain ⟨m1,m2⟩:=I.c.mono i i1 (pa j) j3;simp only [zB2,zD5];refine ⟨by omega,fun e=>?_⟩;exact ((m2 (by omega)).trans (i4 (by omega))).snoc
   ·have:=(I.c.mono i i1 h q).1;exact .inr ⟨by omega,by simp;omega⟩
  ·exact .inr ⟨h1,by simp;omega⟩
theorem BI.found {r:Rl} {x:List UInt8} {mp:Xv} {pa:Nat→Nat} {h:Nat} (I:BI r x mp pa h) (hh:h<mp.length):ChainOk r x (XQ mp h) (Zu mp pa h):=by
 have key:∀ Q,Pth r x Q (XQ mp h)→(Zu mp pa h).length≤Q.length∧((Zu mp pa h).length=Q.length→lxe (Zu mp pa h) Q):=fun Q hq=>by
  rcases I.all hq with ⟨i,i1,i2,i3,i4⟩|⟨h1,h2⟩
  ·have:i=h:=by
    rcases zE6 i h with q|q|q
    ·exact absurd (by rw [zF i1,zF hh];exact i2) (ZA I.c.nd q (by simp;omega))
    ·exact q
    ·exact absurd (by rw [zF i1,zF hh];exact i2.symm) (ZA I.c.nd q (by simp;omega))
   subst this;exact ⟨i3,i4⟩
  ·exact ⟨by omega,fun e=>by omega⟩
 exact ⟨I.c.pth h hh,fun Q hq=>(key Q hq).1,fun Q hq=>(key Q hq).2⟩
theorem BC.len {r:Rl} (H:RO r) {x:List UInt8} {mp:Xv} {pa:Nat→Nat} (B:BC r x mp pa):mp.length≤64:=by
 have:=Qs B.nd (m:=r.us.map (·.name)) fun y hy=>by
  obtain ⟨j,j1,j2⟩:=qN.1 hy;simp only [zC5] at j1;rw [zF j1] at j2;exact YM (j2 ▸ B.kn j j1)
 have:=H.l64;simp at *;omega
theorem ChainOk.back {r:Rl} {x y:List UInt8} {P R:List (List UInt8)} (h:ChainOk r x y P) (g:ChainOk r y x R):P.length=R.length:=by
 have h1:=h.sh _ g.pth.rev;have h2:=g.sh _ h.pth.rev;simp at h1 h2;omega
theorem ChainOk.self {r:Rl} {x:List UInt8} {P:List (List UInt8)} (h:ChainOk r x x P):P.length=1:=by
 have h1:=h.sh _ .one;have:=h.pth.pos;simp at h1;omega
def Qg (f t n:List UInt8):List UInt8:=if n=f then t else n
def wC (f t:List UInt8) (x:Ti):Ti:=Qe (Qg f t x.a) (Qg f t x.b) x.k
def gY (us:List Gu) (i:Nat) (t:List UInt8):List Gu:=us.set i { us.getD i default with name:=t }
structure Ren (r r':Rl) (i:Nat) (t:List UInt8):Prop where
 us:r'.us=gY r.us i t
 pm:r'.ts.Perm (r.ts.map (wC (r.us.getD i default).name t))
 ts:TS r'.ts
theorem G5 (f t:List UInt8):Qg f t f=t:=if_pos rfl
theorem GZ {f t n:List UInt8} (h:n≠f):Qg f t n=n:=if_neg h
theorem Zq {f t n:List UInt8} (h:n≠t):Qg t f (Qg f t n)=n:=by
 by_cases e:n=f
 ·rw [e,G5,G5]
 ·rw [GZ e,GZ h]
theorem QB {f t n m:List UInt8} (h1:n≠t) (h2:m≠t) (h:Qg f t n=Qg f t m):n=m:=by
 rw [← Zq (f:=f) h1,h,Zq h2]
theorem Yz (a b:List UInt8) (k:Int):((Qe a b k).a=a∧(Qe a b k).b=b)∨((Qe a b k).a=b∧(Qe a b k).b=a):=by
 unfold Qe QY QZ;simp only;by_cases h:ji b a
 ·rw [if_pos h,if_neg (jF h)];exact .inr ⟨rfl,rfl⟩
 ·rw [if_neg h];rcases Xe h with e|e
  ·subst e;rw [if_neg (zH _)];exact .inl ⟨rfl,rfl⟩
  ·rw [if_pos e];exact .inl ⟨rfl,rfl⟩
theorem qcw {a b:List UInt8} (k:Int) (h:a≠b):ji (Qe a b k).a (Qe a b k).b:=by
 unfold Qe QY QZ;simp only;by_cases q:ji b a
 ·rw [if_pos q,if_neg (jF q)];exact q
 ·rw [if_neg q];rcases Xe q with e|e
  ·exact absurd e h
  ·rw [if_pos e];exact e
theorem PI {t:Ti} (h:ji t.a t.b) {a b:List UInt8} (e:(a=t.a∧b=t.b)∨(a=t.b∧b=t.a)):Qe a b t.k=t:=by
 unfold Qe;rcases e with ⟨rfl,rfl⟩|⟨rfl,rfl⟩
 ·rw [Zi h,Zj h]
 ·rw [yN,yO,Zi h,Zj h]
theorem TS.eq:∀ {l m:List Ti},TS l→TS m→l.Perm m→l=m
 | [],m,_,_,p=>(List.nil_perm.1 p).symm
 | x :: l,[],_,_,p=>absurd p.length_eq (by simp)
 | x :: l,y :: m,h1,h2,p=>by
  have a1:=zH5.1 h1;have a2:=zH5.1 h2;have e:x=y:=by
   rcases zE7.1 (p.mem_iff.1 (List.mem_cons_self (a:=x) (l:=l))) with q|q
   ·exact q
   ·rcases zE7.1 (p.mem_iff.2 (List.mem_cons_self (a:=y) (l:=m))) with g|g
    ·exact g.symm
    ·exact absurd (Qw (a1.1 y g) (a2.1 x q)) (kz x)
  subst e;rw [TS.eq a1.2 a2.2 (List.Perm.cons_inv p)]
theorem jQ {us:List Gu} {i:Nat} {t:List UInt8} (hi:i<us.length) (k:Nat):(gY us i t).getD k default=if k=i then { us.getD i default with name:=t } else us.getD k default:=QG _ _ hi k
theorem Jh (us:List Gu) (i:Nat) (t:List UInt8):(gY us i t).length=us.length:=by simp [gY]
theorem qbR {us:List Gu} (nd:∀ i j,i<j→j<us.length→(us.getD i default).name≠(us.getD j default).name) {i:Nat} (hi:i<us.length) {n:List UInt8} (hn:(us.getD i default).name=n):gat us n=some i:=by
 cases hq:gat us n with
 | none=>exact absurd hn (Qh.1 hq _ (qK hi))
 | some j =>
  obtain ⟨h1,h2,h3⟩:=YL hq;rcases zE6 i j with q|q|q
  ·exact absurd hn (h3 i q)
  ·rw [q]
  ·exact absurd (h2.trans hn.symm) (nd j i q hi)
section
variable {r r':Rl} {i:Nat} {f t:List UInt8}
theorem PO (H:RO r) (hi:i<r.us.length) (ht:gat r.us t=none):∀ j k,j<k→k<(gY r.us i t).length→((gY r.us i t).getD j default).name≠((gY r.us i t).getD k default).name:=fun j k hjk hk=>by
 rw [Jh] at hk;rw [jQ hi,jQ hi];have hz:=Qh.1 ht;by_cases e1:j=i
 ·rw [if_pos e1,if_neg (by omega)];exact fun q=>hz _ (qK hk) q.symm
 ·rw [if_neg e1];by_cases e2:k=i
  ·rw [if_pos e2];exact hz _ (qK (by omega))
  ·rw [if_neg e2];exact H.nd j k hjk hk
theorem Wp (H:RO r) (hi:i<r.us.length) (hf:(r.us.getD i default).name=f) (ht:gat r.us t=none) {n:List UInt8} (hn:n≠t):gat (gY r.us i t) (Qg f t n)=gat r.us n:=by
 have nd:=PO H hi ht;have hl:=Jh r.us i t;by_cases e:n=f
 ·rw [e,G5,← hf,H.gat hi];exact qbR nd (by omega) (by rw [jQ hi,if_pos rfl])
 ·rw [GZ e];cases hq:gat r.us n with
  | none =>
   rw [Qh] at hq ⊢;intro g hg;obtain ⟨k,hk,rfl⟩:=qN.1 hg;rw [jQ hi];split
   ·exact hn.symm
   ·exact hq _ (qK (by omega))
  | some j =>
   obtain ⟨h1,h2,h3⟩:=YL hq;refine qbR nd (by omega) ?_;rw [jQ hi,if_neg]
   ·exact h2
   ·intro q;rw [q,hf] at h2;exact e h2.symm
theorem qde {g:Gu} (h:Qb g=0) (ht:nameP t):Qb { g with name:=t }=0:=by
 obtain ⟨h1,h2,h3,h4,h5⟩:=Zp h;have hn:JZ { g with name:=t }:=⟨ht,h1.2⟩
 unfold Qb;rw [if_neg (zF2.2 hn),if_neg (zF2.2 h2),if_neg (zF2.2 h3),if_neg (zF2.2 ⟨h4,h5⟩)]
theorem Ren.mem (R:Ren r r' i t) (hf:(r.us.getD i default).name=f) {x:Ti}:x∈r'.ts↔∃ y∈r.ts,wC f t y=x:=by
 rw [R.pm.mem_iff,zF0,hf]
theorem Ren.ro (R:Ren r r' i t) (H:RO r) (hi:i<r.us.length) (hn:nameP t) (ht:gat r.us t=none):RO r':=by
 have hl:=Jh r.us i t;refine ⟨fun g hg=>?_,?_,?_,R.ts,fun x hx=>?_,?_⟩
 ·rw [R.us] at hg;obtain ⟨k,hk,rfl⟩:=qN.1 hg;rw [jQ hi];split
  ·exact qde (H.chk _ (qK hi)) hn
  ·exact H.chk _ (qK (by omega))
 ·rw [R.us];exact PO H hi ht
 ·rw [R.us,hl];exact H.l64
 ·obtain ⟨y,hy,rfl⟩:=(R.mem rfl).1 hx;obtain ⟨y1,y2,y3,y4⟩:=H.tt y hy;have ya:y.a≠t:=fun q=>y3 (q ▸ ht);have yb:y.b≠t:=fun q=>y4 (q ▸ ht);have g1:gat r'.us (Qg (r.us.getD i default).name t y.a)≠none:=by rw [R.us,Wp H hi rfl ht ya];exact y3
  have g2:gat r'.us (Qg (r.us.getD i default).name t y.b)≠none:=by rw [R.us,Wp H hi rfl ht yb];exact y4
  refine ⟨qcw _ fun q=>WH y1 (QB ya yb q),y2,?_⟩;unfold wC;rcases Yz (Qg (r.us.getD i default).name t y.a) (Qg (r.us.getD i default).name t y.b) y.k with ⟨e1,e2⟩|⟨e1,e2⟩
  ·rw [e1,e2];exact ⟨g1,g2⟩
  ·rw [e1,e2];exact ⟨g2,g1⟩
 ·rw [R.pm.length_eq,zC5];exact H.l256
theorem Ren.adj (R:Ren r r' i t) (H:RO r) (hf:(r.us.getD i default).name=f) (ht:gat r.us t=none) {k:Int} {a b:List UInt8} (ha:a≠t) (hb:b≠t):Xx.adj r k a b↔Xx.adj r' k (Qg f t a) (Qg f t b):=by
 constructor
 ·rintro ⟨x,h1,h2,h3⟩;refine ⟨wC f t x,(R.mem hf).2 ⟨x,h1,rfl⟩,h2,?_⟩;unfold wC;rcases Yz (Qg f t x.a) (Qg f t x.b) x.k with ⟨e1,e2⟩|⟨e1,e2⟩
  ·rw [e1,e2];rcases h3 with ⟨rfl,rfl⟩|⟨rfl,rfl⟩
   ·exact .inl ⟨rfl,rfl⟩
   ·exact .inr ⟨rfl,rfl⟩
  ·rw [e1,e2];rcases h3 with ⟨rfl,rfl⟩|⟨rfl,rfl⟩
   ·exact .inr ⟨rfl,rfl⟩
   ·exact .inl ⟨rfl,rfl⟩
 ·rintro ⟨x,h1,h2,h3⟩;obtain ⟨y,hy,rfl⟩:=(R.mem hf).1 h1;obtain ⟨y1,y2,y3,y4⟩:=H.tt y hy;have ya:y.a≠t:=fun q=>y3 (q ▸ ht);have yb:y.b≠t:=fun q=>y4 (q ▸ ht);refine ⟨y,hy,h2,?_⟩;unfold wC at h3;rcases Yz (Qg f t y.a) (Qg f t y.b) y.k with ⟨e1,e2⟩|⟨e1,e2⟩
  ·rw [e1,e2] at h3;rcases h3 with ⟨g1,g2⟩|⟨g1,g2⟩
   ·exact .inl ⟨QB ya ha g1,QB yb hb g2⟩
   ·exact .inr ⟨QB yb ha g1,QB ya hb g2⟩
  ·rw [e1,e2] at h3;rcases h3 with ⟨g1,g2⟩|⟨g1,g2⟩
   ·exact .inr ⟨QB yb ha g1,QB ya hb g2⟩
   ·exact .inl ⟨QB ya ha g1,QB yb hb g2⟩
theorem Ren.spk (R:Ren r r' i t) (H:RO r) (hi:i<r.us.length) (hf:(r.us.getD i default).name=f) (ht:gat r.us t=none) {a b:List UInt8} (ha:a≠t) (hb:b≠t):Xx.spk r a b↔Xx.spk r' (Qg f t a) (Qg f t b):=by
 have tg:∀ k,(r'.us.getD k default).tg=(r.us.getD k default).tg:=fun k=>by
  rw [R.us,jQ hi];split
  ·rename_i e;rw [e]
  ·rfl
 unfold Xx.spk;rw [R.us,Wp H hi hf ht ha,Wp H hi hf ht hb];rw [← R.us];simp only [tg]
theorem Ren.pth (R:Ren r r' i t) (H:RO r) (hi:i<r.us.length) (hf:(r.us.getD i default).name=f) (ht:gat r.us t=none) {a b:List UInt8} {Q:List (List UInt8)} (h:Pth r a Q b):Pth r' (Qg f t a) (Q.map (Qg f t)) (Qg f t b):=by
 induction h with
 | one=>exact .one
 | snoc h s ih =>
  rw [zC9];have hw:∀ {n},gat r.us n≠none→n≠t:=fun q e=>q (e ▸ ht);exact ih.snoc ((R.spk H hi hf ht (hw s.kn.1) (hw s.kn.2)).1 s)
theorem Ren.back {r'':Rl} (R:Ren r r' i t) (H:RO r) (hi:i<r.us.length) (hf:(r.us.getD i default).name=f) (ht:gat r.us t=none) (R2:Ren r' r'' i f):r''=r:=by
 have hl:=Jh r.us i t;have e1:r''.us=r.us:=by
  rw [R2.us,R.us];apply JG (by rw [Jh,Jh])
  intro k hk;rw [jQ (by omega)];split
  ·rename_i e
   rw [jQ hi,if_pos rfl,e,← hf]
  ·rename_i e
   rw [jQ hi,if_neg e]
 have hn:(r'.us.getD i default).name=t:=by rw [R.us,jQ hi,if_pos rfl]
 have e2:r''.ts=r.ts:=by
  refine TS.eq R2.ts H.ts (R2.pm.trans ?_);rw [hn];refine (R.pm.map _).trans ?_;rw [hf,List.map_map];have:r.ts.map (wC t f ∘ wC f t)=r.ts:=by
   conv=>rhs;rw [← List.map_id r.ts]
   refine List.map_congr_left fun x hx=>?_;obtain ⟨y1,y2,y3,y4⟩:=H.tt x hx;have ya:x.a≠t:=fun q=>y3 (q ▸ ht);have yb:x.b≠t:=fun q=>y4 (q ▸ ht);show Qe (Qg t f (Qe (Qg f t x.a) (Qg f t x.b) x.k).a) (Qg t f (Qe (Qg f t x.a) (Qg f t x.b) x.k).b) x.k=x
   rcases Yz (Qg f t x.a) (Qg f t x.b) x.k with ⟨e1,e2⟩|⟨e1,e2⟩
   ·rw [e1,e2,Zq ya,Zq yb];exact PI y1 (.inl ⟨rfl,rfl⟩)
   ·rw [e1,e2,Zq ya,Zq yb];exact PI y1 (.inr ⟨rfl,rfl⟩)
  rw [this]
 cases r;cases r'';simp only at e1 e2;rw [e1,e2]
end
def qf6 (n:Nat):Nat:=if n<256 then (lenTab.getD n 0).toNat else 8+(lenTab.getD (n / 256) 0).toNat
abbrev cvT:Value:=.func (.func 82) #[] #[]
variable [Flag]
end Go.Proofs.Xx
namespace Go.Proofs.Xx
open Go Go.Proofs
variable [Flag]
end Go.Proofs.Xx
namespace Go.Proofs.Xx
open Go Go.Proofs
variable [Flag]
end Go.Proofs.Xx
namespace Go.Proofs.Xx
structure RingOk (r:Rl) (R:List (List UInt8)):Prop where
 odd:R.length % 2=1
 three:3≤R.length
 nd:∀ i j,i<j→j<R.length→R.getD i default≠R.getD j default
 adj:∀ i,i<R.length→adj r 2 (R.getD i default) (R.getD ((i+1) % R.length) default)
structure Tree (r:Rl) (fr:List UInt8→List UInt8) (dep:List UInt8→Nat) (met:List UInt8→Prop):Prop where
 up:∀ x,met x→0<dep x→met (fr x)∧dep (fr x)+1=dep x∧Xx.adj r 2 (fr x) x
def anc (fr:List UInt8→List UInt8) (x:List UInt8):Nat→List UInt8
 | 0=>x
 | k+1=>fr (anc fr x k)
theorem qcd {r:Rl} {fr:List UInt8→List UInt8} {dep:List UInt8→Nat} {met:List UInt8→Prop} (T:Tree r fr dep met) {x:List UInt8} (hx:met x):∀ {k:Nat},k≤dep x→met (anc fr x k)∧dep (anc fr x k)+k=dep x
 | 0,_=>⟨hx,rfl⟩
 | k+1,h=>by
  obtain ⟨h1,h2⟩:=qcd T hx (k:=k) (by omega);obtain ⟨g1,g2,-⟩:=T.up _ h1 (by omega);exact ⟨g1,by show dep (fr (anc fr x k))+(k+1)=dep x;omega⟩
def qfX (fr:List UInt8→List UInt8) (x y:List UInt8) (n:Nat):List (List UInt8):=(List.range n).map (anc fr x) ++ [anc fr x n] ++ ((List.range n).map (anc fr y)).reverse
def eSp (x:Int×List UInt8):Value:=.agg #[.int .i64 x.1,str x.2]
abbrev JP:=List (List UInt8×(Int×List UInt8))
def frM (mp:JP) (x:List UInt8):List UInt8:=match zW mp x with|some p=>p.2|none=>[]
def ku (mp:JP) (x:List UInt8):Int:=match zW mp x with|some p=>p.1|none=>0
variable [Flag]
end Go.Proofs.Xx
namespace Go.Proofs.Xx
open Go Go.Proofs
theorem wV {mp:JP} {f:List UInt8} {p:Int×List UInt8} (x:List UInt8):frM (JB mp f p) x=if x=f then p.2 else frM mp x:=by
 unfold frM;rw [Xl];by_cases e:x=f
 ·rw [if_pos e,if_pos e]
 ·rw [if_neg e,if_neg e]
theorem Zo {mp:JP} {f:List UInt8} {p:Int×List UInt8} (x:List UInt8):ku (JB mp f p) x=if x=f then p.1 else ku mp x:=by
 unfold ku;rw [Xl];by_cases e:x=f
 ·rw [if_pos e,if_pos e]
 ·rw [if_neg e,if_neg e]
theorem jm {mp:JP} {f:List UInt8} {p:Int×List UInt8} (x:List UInt8):zW (JB mp f p) x≠none↔(x=f∨zW mp x≠none):=by
 rw [Xl];by_cases e:x=f<;>simp [e]
theorem Wi {mp:JP} {f:List UInt8} {p:Int×List UInt8} (h:zW mp f=none):JB mp f p=mp ++ [(f,p)]:=by
 unfold JB;rw [yU h]
theorem KG {α:Type} {k:List UInt8}:∀ {l:List (List UInt8×α)} {i:Nat},Za k l i≠none↔k∈l.map (·.1)
 | [],i=>by simp [Za]
 | p :: r,i=>by
  unfold Za;by_cases e:p.1=k
  ·simp [e]
  ·rw [if_neg e,KG (l:=r)];rw [List.map_cons,zE7];exact ⟨.inr,fun q=>q.resolve_left fun z=>e z.symm⟩
theorem PS {mp:JP} {x:List UInt8}:zW mp x≠none↔x∈mp.map (·.1):=by
 rw [← KG (l:=mp) (i:=0)];unfold zW;cases Za x mp 0<;>simp
structure CI (r:Rl) (mp:JP) (dep:List UInt8→Nat):Prop where
 tree:Tree r (frM mp) dep (fun x=>zW mp x≠none)
 camp:∀ x,zW mp x≠none→ku mp x=((dep x % 2:Nat):Int)
 kn:∀ x,zW mp x≠none→gat r.us x≠none
 nd:(mp.map (·.1)).Nodup
 dl:∀ x,zW mp x≠none→dep x<mp.length
def yw (dep:List UInt8→Nat) (f:List UInt8) (d:Nat):List UInt8→Nat:=fun x=>if x=f then d else dep x
theorem CI.len {r:Rl} (H:RO r) {mp:JP} {dep:List UInt8→Nat} (I:CI r mp dep):mp.length≤64:=by
 have:=Qs I.nd (m:=r.us.map (·.name)) fun x hx=>YM (I.kn x (PS.2 hx));have:=H.l64;simp at *;omega
theorem CI.put {r:Rl} {mp:JP} {dep:List UInt8→Nat} (I:CI r mp dep) {f n:List UInt8} {c:Int} {d:Nat} (hf:zW mp f=none) (hk:gat r.us f≠none) (h:(d=0∧c=0)∨(zW mp n≠none∧d=dep n+1∧adj r 2 n f∧c=1 - ku mp n)):CI r (JB mp f (c,n)) (yw dep f d):=by
 refine ⟨⟨fun x hx h0=>?_⟩,fun x hx=>?_,fun x hx=>?_,?_,fun x hx=>?_⟩
 ·rw [jm] at hx;rw [jm,wV];unfold yw at h0 ⊢;by_cases e:x=f
  ·subst e;rw [if_pos rfl] at h0;rw [if_pos rfl,if_pos rfl];rcases h with ⟨h1,h2⟩|⟨h1,h2,h3,h4⟩
   ·omega
   ·have hn:n≠x:=fun q=>h1 (q ▸ hf);exact ⟨.inr h1,by rw [if_neg hn];exact h2.symm,h3⟩
  ·rw [if_neg e] at h0;rw [if_neg e,if_neg e];obtain ⟨g1,g2,g3⟩:=I.tree.up x (hx.resolve_left e) h0;have hn:frM mp x≠f:=fun q=>g1 (q ▸ hf);exact ⟨.inr g1,by rw [if_neg hn];exact g2,g3⟩
 ·rw [jm] at hx;rw [Zo];unfold yw;by_cases e:x=f
  ·rw [if_pos e,if_pos e];rcases h with ⟨h1,h2⟩|⟨h1,h2,h3,h4⟩
   ·rw [h1];exact h2
   ·show c=_
    rw [h4,I.camp n h1,h2];omega
  ·rw [if_neg e,if_neg e];exact I.camp x (hx.resolve_left e)
 ·rw [jm] at hx;rcases hx with e|e
  ·rw [e];exact hk
  ·exact I.kn x e
 ·rw [Wi hf,zC9,zG3];refine ⟨I.nd,by simp,fun a ha b hb e=>?_⟩;simp only [List.map_cons,List.map_nil,zB5] at hb;exact PS.2 ha (e ▸ hb ▸ hf)
 ·rw [jm] at hx;unfold yw;rw [Wi hf,zB2,zD5];by_cases e:x=f
  ·rw [if_pos e];rcases h with ⟨h1,h2⟩|⟨h1,h2,h3,h4⟩
   ·omega
   ·have:=I.dl n h1;omega
  ·rw [if_neg e];have:=I.dl x (hx.resolve_left e);omega
theorem Gj (fr:List UInt8→List UInt8) (x:List UInt8):∀ k,anc fr x (k+1)=anc fr (fr x) k
 | 0=>rfl
 | k+1=>congrArg fr (Gj fr x k)
theorem CI.anc {r:Rl} {mp:JP} {dep:List UInt8→Nat} (I:CI r mp dep) {f:List UInt8} {p:Int×List UInt8} (hf:zW mp f=none) {x:List UInt8} (hx:zW mp x≠none):∀ {k:Nat},k≤dep x→Xx.anc (frM (JB mp f p)) x k=Xx.anc (frM mp) x k
 | 0,_=>rfl
 | k+1,h=>by
  show frM _ (Xx.anc _ x k)=frM _ (Xx.anc _ x k)
  rw [I.anc hf hx (by omega),wV,if_neg];intro q;have:=(qcd I.tree hx (k:=k) (by omega)).1;exact this (q ▸ hf)
def Q8 (r:Rl) (j:Nat):List UInt8:=(r.us.getD j default).name
structure OI (r:Rl) (i:Nat) (mp:JP) (dep:List UInt8→Nat):Prop where
 ci:CI r mp dep
 cl:∀ x,zW mp x≠none→∀ y,adj r 2 x y→zW mp y≠none∧ku mp y≠ku mp x
 gm:∀ j,j<i→zW mp (Q8 r j)≠none
 z:∀ j,j<i→ku mp (Q8 r j)=0∨∃ k,k<j∧Rch r 2 (Q8 r k) (Q8 r j)
 rc:∀ x,zW mp x≠none→∃ k,k<i∧Rch r 2 (Q8 r k) x
structure SI (r:Rl) (i:Nat) (O:List UInt8→Prop) (mp:JP) (dep:List UInt8→Nat) (q:List (List UInt8)):Prop where
 ci:CI r mp dep
 om:∀ x,O x→zW mp x≠none
 oc:∀ x,O x→∀ y,adj r 2 x y→O y∧ku mp y≠ku mp x
 gm:∀ j,j≤i→zW mp (Q8 r j)≠none
 z:∀ j,j≤i→ku mp (Q8 r j)=0∨∃ k,k<j∧Rch r 2 (Q8 r k) (Q8 r j)
 orc:∀ x,O x→∃ k,k<i∧Rch r 2 (Q8 r k) x
 rt:∀ x,zW mp x≠none→¬ O x→Xx.anc (frM mp) x (dep x)=Q8 r i∧Rch r 2 (Q8 r i) x
 qm:∀ x∈q,zW mp x≠none∧¬ O x
 qs:∀ a b,a<b→b<q.length→dep (q.getD a default)≤dep (q.getD b default)
 qd:∀ x∈q,dep x≤dep (q.getD 0 default)+1
 dn:∀ x,zW mp x≠none→¬ O x→x ∉ q→(q≠[]→dep x≤dep (q.getD 0 default))∧∀ y,adj r 2 x y→zW mp y≠none∧ku mp y≠ku mp x
 ql:q.length≤mp.length
theorem OI.root {r:Rl} {i:Nat} {mp:JP} {dep:List UInt8→Nat} (I:OI r i mp dep) (hs:zW mp (Q8 r i)=none) (hk:gat r.us (Q8 r i)≠none):SI r i (fun x=>zW mp x≠none) (JB mp (Q8 r i) (0,[])) (yw dep (Q8 r i) 0) [Q8 r i]:=by
 have nm:∀ {x},zW mp x≠none→x≠Q8 r i:=fun hx q=>hx (q ▸ hs);refine ⟨I.ci.put hs hk (.inl ⟨rfl,rfl⟩),fun x hx=>(jm x).2 (.inr hx),fun x hx y a=>?_,fun j hj=>?_,fun j hj=>?_,I.rc,fun x hx hn=>?_,fun x hx=>?_,fun a b h1 h2=>?_,fun x hx=>?_,fun x hx h1 h2=>?_,?_⟩
 ·obtain ⟨h1,h2⟩:=I.cl x hx y a;rw [Zo,Zo,if_neg (nm h1),if_neg (nm hx)];exact ⟨h1,h2⟩
 ·rw [jm];rcases zA7 j i with q|q
  ·exact .inr (I.gm j q)
  ·obtain rfl:j=i:=by omega
   exact .inl rfl
 ·rw [Zo];rcases zA7 j i with q|q
  ·rw [if_neg (nm (I.gm j q))];exact I.z j q
  ·obtain rfl:j=i:=by omega
   exact .inl (if_pos rfl)
 ·have e:=((jm x).1 hx).resolve_right hn;subst e;have:yw dep (Q8 r i) 0 (Q8 r i)=0:=if_pos rfl;rw [this];exact ⟨rfl,.refl⟩
 ·rw [zB5] at hx;subst hx;exact ⟨(jm _).2 (.inl rfl),fun q=>q hs⟩
 ·rw [zD5] at h2;omega
 ·rw [zB5] at hx;subst hx;exact Nat.le_succ _
 ·exact absurd (zB5.2 (((jm x).1 hx).resolve_right h1)) h2
 ·rw [Wi hs];simp
theorem vk {l:List (List UInt8)} {x:List UInt8} (h:l≠[]):(l ++ [x]).getD 0 default=l.getD 0 default:=by
 cases l with
 | nil=>exact absurd rfl h
 | cons y l=>rfl
theorem SI.add {r:Rl} {i:Nat} {O:List UInt8→Prop} {mp:JP} {dep:List UInt8→Nat} {q:List (List UInt8)} (I:SI r i O mp dep q) (hq:q≠[]) {n f:List UInt8} (hn:q.getD 0 default=n) (hf:zW mp f=none) (hk:gat r.us f≠none) (ha:adj r 2 n f):SI r i O (JB mp f (1 - ku mp n,n)) (yw dep f (dep n+1)) (q ++ [f]):=by
 have hn2:n∈q:=by
  rw [← hn];exact qK (List.length_pos_iff.2 hq)
 obtain ⟨nm,no⟩:=I.qm n hn2;have ne:∀ {x},zW mp x≠none→x≠f:=fun hx e=>hx (e ▸ hf);have du:∀ {x},zW mp x≠none→yw dep f (dep n+1) x=dep x:=fun hx=>if_neg (ne hx);have duf:yw dep f (dep n+1) f=dep n+1:=if_pos rfl;have fO:¬ O f:=fun h=>I.om f h hf;refine ⟨I.ci.put hf hk (.inr ⟨nm,rfl,ha,rfl⟩),fun x hx=>(jm x).2 (.inr (I.om x hx)),fun x hx y a=>?_,fun j hj=>(jm _).2 (.inr (I.gm j hj)),fun j hj=>?_,I.orc,fun x hx hn=>?_,fun x hx=>?_,fun a b h1 h2=>?_,fun x hx=>?_,fun x hx h1 h2=>?_,?_⟩
 ·obtain ⟨h1,h2⟩:=I.oc x hx y a;rw [Zo,Zo,if_neg (ne (I.om _ h1)),if_neg (ne (I.om _ hx))];exact ⟨h1,h2⟩
 ·rw [Zo,if_neg (ne (I.gm j hj))];exact I.z j hj
 ·rw [jm] at hx;by_cases e:x=f
  ·subst e;rw [duf,Gj,wV,if_pos rfl];show Xx.anc _ n (dep n)=_∧_
   rw [I.ci.anc hf nm (zA3 _)];obtain ⟨h1,h2⟩:=I.rt n nm no;exact ⟨h1,h2.step ha⟩
  ·have hx:=hx.resolve_left e;rw [du hx,I.ci.anc hf hx (zA3 _)];exact I.rt x hx hn
 ·rw [jm];rcases zB8.1 hx with h|h
  ·exact ⟨.inr (I.qm x h).1,(I.qm x h).2⟩
  ·rw [zB5] at h;exact ⟨.inl h,h ▸ fO⟩
 ·rw [zB2,zD5] at h2;rw [YZ (show a<q.length by omega),du (I.qm _ (qK (show a<q.length by omega))).1];rcases zA7 b q.length with h|h
  ·rw [YZ h,du (I.qm _ (qK h)).1];exact I.qs a b h1 h
  ·rw [pM h,show b - q.length=0 by omega];show _≤yw _ _ _ f
   rw [duf];have:=I.qd _ (qK (show a<q.length by omega));rw [hn] at this;exact this
 ·rw [vk hq,hn,du nm];rcases zB8.1 hx with h|h
  ·rw [du (I.qm x h).1,← hn];exact I.qd x h
  ·rw [zB5.1 h,duf];exact zA3 _
 ·rw [zB8,zB5,not_or] at h2;have hx:=((jm x).1 hx).resolve_left h2.2;obtain ⟨g1,g2⟩:=I.dn x hx h1 h2.1;rw [vk hq,hn,du nm,du hx,← hn];refine ⟨fun _=>g1 hq,fun y a=>?_⟩;obtain ⟨k1,k2⟩:=g2 y a;rw [Zo,Zo,if_neg (ne k1),if_neg (ne hx)];exact ⟨(jm y).2 (.inr k1),k2⟩
 ·have:=I.ql;rw [Wi hf];simp;exact this
theorem SI.fin {r:Rl} {i:Nat} {O:List UInt8→Prop} {mp:JP} {dep:List UInt8→Nat} (I:SI r i O mp dep []):OI r (i+1) mp dep:=by
 refine ⟨I.ci,fun x hx y a=>?_,fun j hj=>I.gm j (by omega),fun j hj=>I.z j (by omega),fun x hx=>?_⟩
 ·by_cases h:O x
  ·obtain ⟨h1,h2⟩:=I.oc x h y a;exact ⟨I.om y h1,h2⟩
  ·exact (I.dn x hx h (by simp)).2 y a
 ·by_cases h:O x
  ·obtain ⟨k,h1,h2⟩:=I.orc x h;exact ⟨k,by omega,h2⟩
  ·exact ⟨i,by omega,(I.rt x hx h).2⟩
theorem OI.skip {r:Rl} {i:Nat} {mp:JP} {dep:List UInt8→Nat} (I:OI r i mp dep) (h:zW mp (Q8 r i)≠none):OI r (i+1) mp dep:=by
 refine ⟨I.ci,I.cl,fun j hj=>?_,fun j hj=>?_,fun x hx=>?_⟩
 ·rcases zA7 j i with q|q
  ·exact I.gm j q
  ·obtain rfl:j=i:=by omega
   exact h
 ·rcases zA7 j i with q|q
  ·exact I.z j q
  ·obtain rfl:j=i:=by omega
   exact .inr (I.rc _ h)
 ·obtain ⟨k,h1,h2⟩:=I.rc x hx;exact ⟨k,by omega,h2⟩
theorem SI.clash {r:Rl} (H:RO r) {i:Nat} {O:List UInt8→Prop} {mp:JP} {dep:List UInt8→Nat} {q:List (List UInt8)} (I:SI r i O mp dep q) (hq:q≠[]) {n f:List UInt8} (hn:q.getD 0 default=n) (hf:zW mp f≠none) (ha:adj r 2 n f) (hc:ku mp f=ku mp n):zW mp n≠none∧dep n=dep f∧n≠f∧Xx.anc (frM mp) n (dep n)=Xx.anc (frM mp) f (dep n)∧dep n≤64:=by
 have hn2:n∈q:=by
  rw [← hn];exact qK (List.length_pos_iff.2 hq)
 obtain ⟨nm,no⟩:=I.qm n hn2;have fO:¬ O f:=fun h=>no (I.oc f h n ha.symm).1;have fq:f∈q:=by
  apply zG7
  intro h;exact ((I.dn f hf fO h).2 n ha.symm).2 hc.symm
 have h1:=I.qd f fq;have h2:dep (q.getD 0 default)≤dep f:=by
  obtain ⟨j,j1,j2⟩:=qN.1 fq;rcases zF3 j with e|e
  ·subst e;rw [j2];exact zA3 _
  ·have:=I.qs 0 j e j1;rw [j2] at this;exact this
 rw [hn] at h1 h2;have h3:=I.ci.camp f hf;have h4:=I.ci.camp n nm;rw [hc,h4] at h3;have hd:dep n=dep f:=by omega
 have hl:=I.ci.len H;have:=I.ci.dl n nm;refine ⟨nm,hd,(XJ H ha).2.2,?_,by omega⟩;rw [(I.rt n nm no).1,hd,(I.rt f hf fO).1]
structure Vz (r:Rl) (cs:List Int):Prop where
 len:cs.length=r.us.length
 b:∀ i,i<cs.length→cs.getD i default=0∨cs.getD i default=1
 ne:∀ i j,i<cs.length→j<cs.length→adj r 2 (Q8 r i) (Q8 r j)→cs.getD i default≠cs.getD j default
 z:∀ j,j<cs.length→cs.getD j default=0∨∃ k,k<j∧Rch r 2 (Q8 r k) (Q8 r j)
theorem OI.qf1 {r:Rl} {mp:JP} {dep:List UInt8→Nat} (I:OI r r.us.length mp dep):Vz r ((List.range r.us.length).map fun i=>ku mp (Q8 r i)):=by
 have g:∀ i,i<r.us.length→((List.range r.us.length).map fun i=>ku mp (Q8 r i)).getD i default=ku mp (Q8 r i):=fun i hi=>by
  rw [zA2];simp [hi]
 refine ⟨by simp,fun i hi=>?_,fun i j hi hj a=>?_,fun j hj=>?_⟩
 ·simp at hi;rw [g i hi,I.ci.camp _ (I.gm i hi)];omega
 ·simp at hi hj;rw [g i hi,g j hj];exact fun q=>(I.cl _ (I.gm i hi) _ a).2 q.symm
 ·simp at hj;rw [g j hj];exact I.z j hj
variable [Flag]
end Go.Proofs.Xx
namespace Go.Proofs.Xx
open Go Go.Proofs
variable [Flag]
end Go.Proofs.Xx
namespace Go.Proofs.Xx
open Go Go.Proofs
def mmT (f t:List UInt8) (ts:List Ti) (j:Nat):List Ti:=(ts.take j).map (wC f t) ++ ts.drop j
variable [Flag]
end Go.Proofs.Xx
namespace Go.Proofs.Xx
open Go Go.Proofs
def e16 (x:Nat):List Value:=[.int .u16 x]
def MdG (g:Gu) (i:Nat):Prop:=g.name=num (25*i)∧XX g.rank∧XX g.court∧XX g.diet∧(0≤g.since∧g.since≤9999)∧(0≤g.side∧g.side≤2)
def MdT (l:List (List UInt8)) (k:Nat):Prop:=l.length≤k∧(∀ j,j<l.length→∃ m,m<k∧l.getD j default=num m)∧∀ j,j+1<l.length→ji (l.getD j default) (l.getD (j+1) default)
theorem MdT.next {l:List (List UInt8)} {k:Nat} (h:MdT l k):MdT l (k+1):=⟨by have:=h.1;omega,fun j hj=>by obtain ⟨m,h1,h2⟩:=h.2.1 j hj;exact ⟨m,by omega,h2⟩,h.2.2⟩
theorem MdT.app {l:List (List UInt8)} {k:Nat} (h:MdT l k) (hk:k<4):MdT (l ++ [num k]) (k+1):=by
 refine ⟨by simp;exact h.1,fun j hj=>?_,fun j hj=>?_⟩
 ·simp at hj;rcases zA7 j l.length with q|q
  ·rw [YZ q];exact h.next.2.1 j q
  ·obtain rfl:j=l.length:=by omega
   rw [pM (zA3 _),zG5];exact ⟨k,by omega,rfl⟩
 ·simp at hj;rw [YZ (show j<l.length by omega)];rcases zA7 (j+1) l.length with q|q
  ·rw [YZ q];exact h.2.2 j q
  ·rw [pM q,show j+1 - l.length=0 by omega];obtain ⟨m,h1,h2⟩:=h.2.1 j (by omega);rw [h2];exact (WV (by omega) (by omega)).2 h1
abbrev MdR (q q4:Nat) (gs:List JO) (vg:SlV):List Rs:=[PK gs,.sl vg.val 24 9 eG gs,.blk q [vg.val,.slice none 0 0] 32,.blk q4 [.slice none 0 0,.slice none 0 0] 32]
abbrev MdI (h0:AH) (q q4:Nat) (la:List Nat) (gs:List JO) (vg:SlV) (h:AH):Prop:=Hs h0 h (MdR q q4 gs vg)∧gs.length≤12∧gs.length≤la.length∧∀ i,i<gs.length→MdG (gs.getD i default).toGu i∧MdT (gs.getD i default).tg 4
abbrev MdJ (h0:AH) (q q4:Nat) (gs:List JO) (vg:SlV) (k:Nat) (b:Nat) (g:JO) (h:AH):Prop:=Hs h0 h (.blk b (eG g) 24 :: .sl g.tv.val 9 1 eS g.tg :: MdR q q4 gs vg)∧MdG g.toGu gs.length∧MdT g.tg k
def TI (us:List Gu) (ts:List Ti) (i k:Nat):Prop:=TS ts∧(∀ t∈ts,ji t.a t.b∧(t.k=1∨t.k=2)∧gat us t.a≠none∧gat us t.b≠none)∧(∀ t∈ts,ji t.a (num i)∨(t.a=num i∧ji t.b (num k)))∧ts.length≤13*((i+24) / 25)+(if i % 25=0 then (k+24) / 25 else 0)
def TIo (us:List Gu) (ts:List Ti) (i:Nat):Prop:=TS ts∧(∀ t∈ts,ji t.a t.b∧(t.k=1∨t.k=2)∧gat us t.a≠none∧gat us t.b≠none)∧(∀ t∈ts,ji t.a (num i))∧ts.length≤13*((i+24) / 25)
theorem TI.out {us:List Gu} {ts:List Ti} {i k:Nat} (h:TI us ts i k) (hi:i<312) (hk:k≤312):TIo us ts (i+1):=by
 refine ⟨h.1,h.2.1,fun t ht=>?_,?_⟩
 ·have:=(WV (i:=i) (j:=i+1) (by omega) (by omega)).2 (by omega);rcases h.2.2.1 t ht with q|q
  ·exact jX q this
  ·rw [q.1];exact this
 ·have:=h.2.2.2;split at this<;>omega
theorem TI.next {us:List Gu} {ts:List Ti} {i k:Nat} (h:TI us ts i k) (hk:k<312):TI us ts i (k+1):=by
 refine ⟨h.1,h.2.1,fun t ht=>?_,?_⟩
 ·rcases h.2.2.1 t ht with q|q
  ·exact .inl q
  ·exact .inr ⟨q.1,jX q.2 ((WV (by omega) (by omega)).2 (by omega))⟩
 ·have:=h.2.2.2;split at this<;>split<;>omega
theorem TI.app {us:List Gu} {ts:List Ti} {i k:Nat} {z:Int} (h:TI us ts i k) (hik:i<k) (hk:k<312) (hz:z=1∨z=2) (hi2:i % 25=0) (hk2:k % 25=0) (g1:gat us (num i)≠none) (g2:gat us (num k)≠none):TI us (ts ++ [⟨num i,num k,z⟩]) i (k+1):=by
 refine ⟨h.1.app fun j hj=>?_,fun t ht=>?_,fun t ht=>?_,?_⟩
 ·exact h.2.2.1 _ (qK hj)
 ·rcases zB8.1 ht with q|q
  ·exact h.2.1 t q
  ·obtain rfl:=zB5.1 q;exact ⟨(WV (by omega) (by omega)).2 hik,hz,g1,g2⟩
 ·rcases zB8.1 ht with q|q
  ·exact (h.next hk).2.2.1 t q
  ·obtain rfl:=zB5.1 q;exact .inr ⟨rfl,(WV (by omega) (by omega)).2 (by omega)⟩
 ·have:=h.2.2.2;rw [if_pos hi2] at this ⊢;simp;omega
abbrev MdQ (q q4:Nat) (gs:List JO) (vg:SlV) (ts:List Ti) (vt:SlV):List Rs:=[.sl vg.val 24 9 eG gs,.blk q4 [.slice none 0 0,.slice none 0 0] 32,PK gs,.blk q [vg.val,vt.val] 32,.sl vt.val 111 3 Qn ts]
variable [Flag]
end Go.Proofs.Xx
namespace Go.Proofs.Xx
open Go Go.Proofs
theorem CirOk.same {r:Rl} (H:RO r) {cs:List Wd} (C:CirOk r cs) {i j:Nat} (hi:i<cs.length) (hj:j<cs.length) {x:List UInt8} (h1:x∈(cs.getD i default).ws) (h2:x∈(cs.getD j default).ws):i=j:=by
 have key:∀ i j,i<cs.length→j<cs.length→x∈(cs.getD i default).ws→x∈(cs.getD j default).ws→¬ ji ((cs.getD j default).ws.getD 0 default) ((cs.getD i default).ws.getD 0 default):=fun i j hi hj h1 h2=>by
  obtain ⟨a1,a2,a3⟩:=C.ss _ (qK hi);obtain ⟨b1,b2,b3⟩:=C.ss _ (qK hj);obtain ⟨k1,r1⟩:=(a3 x).1 h1;obtain ⟨k2,r2⟩:=(b3 x).1 h2;have hm:(cs.getD j default).ws.getD 0 default∈(cs.getD i default).ws:=(a3 _).2 ⟨k1,r1.trans r2.symm⟩;obtain ⟨z,z1,z2⟩:=qN.1 hm;have:=a1.le (zB0 z) z1;rwa [z2] at this
 rcases zE6 i j with q|q|q
 ·exact absurd (C.hd i j q hj) (key j i hj hi h2 h1)
 ·exact q
 ·exact absurd (C.hd j i q hi) (key i j hi hj h1 h2)
theorem Rch.alone {r:Rl} {k:Int} {n x:List UInt8} (h:Rch r k n x) (hno:∀ y,¬ adj r k n y):x=n:=by
 induction h with
 | refl=>rfl
 | step h a ih=>rw [ih] at a;exact absurd a (hno _)
def tot (cs:List Wd) (i:Nat):Nat:=((cs.take i).flatMap (·.ws)).length
theorem CirOk.nodup {r:Rl} (H:RO r) {cs:List Wd} (C:CirOk r cs) (i:Nat):((cs.take i).flatMap (·.ws)).Nodup:=by
 rw [List.Nodup,List.pairwise_flatMap];refine ⟨fun w hw=>(C.ss w (List.mem_of_mem_take hw)).1.nodup,?_⟩;rw [zD2];intro a b ha hb hab x hx y hy e;subst e;simp only [zA9] at ha hb;have ea:(cs.take i)[a]=cs.getD a default:=by rw [List.getElem_take,zA2,zA4 (show a<cs.length by omega)];rfl
 have eb:(cs.take i)[b]=cs.getD b default:=by rw [List.getElem_take,zA2,zA4 (show b<cs.length by omega)];rfl
 rw [ea] at hx;rw [eb] at hy;have:=C.same H (show a<cs.length by omega) (show b<cs.length by omega) hx hy;omega
theorem CirOk.qdJ {r:Rl} (H:RO r) {cs:List Wd} (C:CirOk r cs) (i:Nat):tot cs i≤r.us.length:=by
 have:=Qs (C.nodup H i) (m:=r.us.map (·.name)) fun x hx=>by
  obtain ⟨w,w1,w2⟩:=zG9.1 hx;obtain ⟨-,-,w3⟩:=C.ss w (List.mem_of_mem_take w1);obtain ⟨k,rc⟩:=(w3 x).1 w2;exact YM (rc.known H k)
 rwa [zC5] at this
theorem CirOk.tot {r:Rl} (H:RO r) {cs:List Wd} (C:CirOk r cs) (hall:∀ x,gat r.us x≠none→∃ w∈cs,x∈w.ws):Xx.tot cs cs.length=r.us.length:=by
 have h1:=C.qdJ H cs.length;have hn:(r.us.map (·.name)).Nodup:=by
  rw [List.Nodup,zD2];intro i j hi hj hij;simp only [zC5] at hi hj;have:=H.nd i j hij hj;rw [zA2,zA2,zA4 hj,zA4 hi] at this;simpa using this
 have h2:=Qs hn (m:=(cs.take cs.length).flatMap (·.ws)) fun x hx=>by
  obtain ⟨g,g1,g2⟩:=zF0.1 hx;obtain ⟨w,w1,w2⟩:=hall x (XG.2 ⟨g,g1,g2⟩);rw [zD4];exact zG9.2 ⟨w,w1,w2⟩
 rw [zC5] at h2;unfold Xx.tot at *;omega
variable [Flag]
end Go.Proofs.Xx
namespace Go.Proofs.Xx
open Go Go.Proofs
variable [Flag]
end Go.Proofs.Xx
namespace Go.Proofs.Xx
open Go Go.Proofs
variable [Flag]
end Go.Proofs.Xx
namespace Go.Proofs.Xx
open Go Go.Proofs
def qfK:List Ti→Ti→List Ti
 | [],t=>[t]
 | x :: r,t=>if Ze t x then t :: x :: r else x :: qfK r t
variable [Flag]
def qga (h0:AH) (v:RlV) (q:Rl×Int) (u:Value) (h':AH):Prop:=(q.2≠0∧u = .tuple #[v.val,.int .i64 q.2]∧Hs h0 h' [])∨(q.2=0∧∃ v':RlV,u = .tuple #[v'.val,.int .i64 0]∧v'.gs.map (·.toGu)=q.1.us∧Hs h0 h' (wB v' q.1.ts))
theorem RO.t4 {r:Rl} (H:RO r):∀ g∈r.us,g.tg.length≤4:=fun g hg=>(Zp (H.chk g hg)).2.2.2.1
theorem RlOk.t4 {h:AH} {v:RlV} {r:Rl} (HR:RlOk h v r) (H:RO r) {i:Nat} (hi:i<v.gs.length):(v.gs.getD i default).tg.length≤4:=by
 have:=H.t4 _ (qK (show i<r.us.length by rw [← HR.len];exact hi));rwa [← HR.at_ hi] at this
theorem RlOk.fit {h:AH} {v:RlV} {r:Rl} (HR:RlOk h v r) (H:RO r):RlFit h v r:=by
 have h64:=H.l64;have h256:=H.l256;exact ⟨HR,fun i hi=>by have:=HR.t4 H hi;omega,by omega,by omega⟩
theorem Hs.qfE {h0 h:AH} {rs:List Rs} {v:RlV} {r:Rl} (S:Hs h0 h rs) (hu:v.gs.map (·.toGu)=r.us) (H:RO r) [i:SelR rs (wB v r.ts)]:RlOk h v r:=by
 have h64:=H.l64;have h256:=H.l256;exact Hs.qfF (rs:=[]) (show Hs h0 h (wB v r.ts) from S.pick) hu (by omega) (by omega) fun g hg=>by have:=H.t4 g hg;omega
end Go.Proofs.Xx
namespace Go.Proofs.Xx
open Go Go.Proofs
def Yf (a:List UInt8):List (List UInt8)→List (List UInt8)
 | []=>[a]
 | w :: r=>(a ++ w) :: r
def jv (c:UInt8):List UInt8→List (List UInt8)
 | []=>[[]]
 | x :: s=>if x=c then [] :: jv c s else Yf [x] (jv c s)
theorem qbq:∀ {l:List (List UInt8)},l≠[]→Yf [] l=l
 | [],h=>absurd rfl h
 | w :: r,_=>rfl
theorem qcI {a:List UInt8}:∀ {l:List (List UInt8)},Yf a l≠[]
 | []=>by simp [Yf]
 | _ :: _=>by simp [Yf]
theorem qax {a b:List UInt8}:∀ {l:List (List UInt8)},l≠[]→Yf a (Yf b l)=Yf (a ++ b) l
 | [],h=>absurd rfl h
 | w :: r,_=>by simp [Yf]
theorem qbr {a:List UInt8}:∀ {l:List (List UInt8)},l≠[]→(Yf a l).length=l.length
 | [],h=>absurd rfl h
 | w :: r,_=>rfl
theorem Jv (c:UInt8):∀ s,jv c s≠[]
 | []=>by simp [jv]
 | x :: s=>by
  unfold jv;split
  ·simp
  ·exact qcI
theorem Zv (c:UInt8):∀ s,(jv c s).length=s.countP (· == c)+1
 | []=>rfl
 | x :: s=>by
  unfold jv;split
  ·rename_i h;subst h;simp [Zv x s]
  ·rename_i h;rw [qbr (Jv c s),Zv c s,List.countP_cons_of_neg (by simpa using h)]
theorem Xc {c:UInt8}:∀ {s:List UInt8},c ∉ s→jv c s=[s]
 | [],_=>rfl
 | x :: s,h=>by
  have h1:x≠c:=fun e=>h (by simp [e]);have h2:c ∉ s:=fun q=>h (List.mem_cons_of_mem _ q);rw [jv,if_neg h1,Xc h2];rfl
theorem Wh {c:UInt8}:∀ {a b:List UInt8},c ∉ a→jv c (a ++ c :: b)=a :: jv c b
 | [],b,_=>by simp [jv]
 | x :: a,b,h=>by
  have h1:x≠c:=fun e=>h (by simp [e]);have h2:c ∉ a:=fun q=>h (List.mem_cons_of_mem _ q);rw [zC6,jv,if_neg h1,Wh h2];rfl
theorem qcD {c:UInt8} {s w:List UInt8} (h:jv c s=[w]):s=w∧c ∉ s:=by
 have hl:=Zv c s;rw [h] at hl;have h0:s.countP (· == c)=0:=by simpa using hl.symm
 have hn:c ∉ s:=fun q=>by
  have:=List.countP_eq_zero.1 h0 c q;simp at this
 rw [Xc hn] at h;exact ⟨by simpa using h,hn⟩
theorem Yk {c:UInt8}:∀ {s:List UInt8},QH c s=none↔c ∉ s
 | []=>by simp [QH]
 | x :: s=>by
  unfold QH;by_cases h:x=c
  ·simp [h]
  ·simp only [if_neg h,Option.map_eq_none_iff,Yk,zE7,not_or];exact ⟨fun q=>⟨fun e=>h e.symm,q⟩,fun q=>q.2⟩
theorem ZE {c:UInt8}:∀ {s:List UInt8} {m:Nat},QH c s=some m→m<s.length∧c ∉ s.take m∧s=s.take m ++ c :: s.drop (m+1)
 | [],m,h=>by cases h
 | x :: s,m,h=>by
  unfold QH at h;by_cases e:x=c
  ·rw [if_pos e] at h;cases h
   subst e;simp
  ·rw [if_neg e] at h;obtain ⟨k,hk,rfl⟩:=Option.map_eq_some_iff.1 h;obtain ⟨h1,h2,h3⟩:=ZE hk;refine ⟨by simpa using h1,?_,?_⟩
   ·simp only [List.take_succ_cons,zE7,not_or];exact ⟨fun q=>e q.symm,h2⟩
   ·simp only [List.take_succ_cons,List.drop_succ_cons,zC6];rw [← h3]
theorem gz {c:UInt8} {s:List UInt8} {m:Nat} (h:QH c s=some m):jv c s=s.take m :: jv c (s.drop (m+1)):=by
 obtain ⟨h1,h2,h3⟩:=ZE h;conv=>lhs;rw [h3]
 exact Wh h2
def YS (x:UInt8):Prop:=48≤x.toNat∧x.toNat≤57
instance (x:UInt8):Decidable (YS x):=inferInstanceAs (Decidable (_∧_))
def ZY (s:List UInt8):Nat:=s.foldl (fun n x=>10*n+(x.toNat - 48)) 0
theorem yE (s:List UInt8) (x:UInt8):ZY (s ++ [x])=10*ZY s+(x.toNat - 48):=by simp [ZY]
theorem yD {s:List UInt8} {i:Nat} (h:i<s.length):ZY (s.take (i+1))=10*ZY (s.take i)+((s.getD i default).toNat - 48):=by
 rw [← yE];congr 1
 rw [List.take_add_one,zA4 h];simp [List.getD,h]
def qbx (s:List UInt8):Prop:=1≤s.length∧s.length≤9∧(1<s.length→s.getD 0 default≠48)∧∀ i,i<s.length→YS (s.getD i default)
section
variable {P:Program} {X:Extern} {sz:Nat} {L:Ks} {h h0:AH} {rs:List Rs} {ops:Array Oper} {os:List Oper} {o:Oper} {R:Ks→AH→Prop}
theorem tsl {L':Ks} {x:Operand} {lo hi:Option Operand} {vlo vhi:Option Value} {ty:TypeId} {l:List UInt8} {a b:Nat} (w:KO P X sz ops os L' h R) (ho:o.op = .slice ty x lo hi none:=by exact rfl) (hg:qC ops L.tree o.guard=some true:=by exact rfl) (hx:kA L x=some (str l):=by exact rfl)
 (hlo:zS L.tree lo=some vlo:=by exact rfl) (hhi:zS L.tree hi=some vhi:=by exact rfl) (hu:P.underlying ty=some .string:=by exact rfl) (h1:qU vlo 0=some a:=by exact rfl) (h2:qU vhi l.length=some b:=by exact rfl) (hab:a≤b∧b≤l.length:=by first|omega|grind)
 (hp:qM sz L o.dst (str ((l.drop a).take (b - a)))=some L':=by exact rfl):KO P X sz ops (o :: os) L h R:=by
 refine zn hg ?_ hp w;have t1:Nat.ble a b=true:=zB3 hab.1;have t2:Nat.ble b l.length=true:=zB3 hab.2;rw [ho];have e:(⟨l.toArray⟩:ByteArray).data.toList=l:=rfl;simp only [ja,qF hx,hlo,hhi,show zS L.tree none=some none from rfl,zJ,zx,str,hu,h1,h2,e,t1,t2,zF8,qO]
end
section
variable {P:Program} {X:Extern} {sz:Nat} {L:Ks} {h h0:AH} {rs:List Rs} {ops:Array Oper} {os:List Oper} {o:Oper} {R:Ks→AH→Prop}
theorem thA {α:Type} {x hi:Operand} {ty e:TypeId} {v vh:Value} {z:Nat} {enc:α→List Value} {l:List α} {f:Rs→List Rs} {dd:List Rs} {d:Tmp} (b:Nat) (S:Hs h0 h rs) (ho:o.op = .slice ty x none (some hi) none) (hx:kA L x=some v) [i:HasS rs v α e z enc l f dd]
 (w:KO P X sz ops os (L.put d v) h R) (hg:qC ops L.tree o.guard=some true:=by exact rfl) (hhi:kA L hi=some vh:=by exact rfl) (hbo:qU (some vh) l.length=some b:=by exact rfl) (hb:b=l.length:=by first|omega|grind)
 (hu:Qv P ty=some z:=by exact rfl) (hdst:o.dst=some d:=by exact rfl) (hds:Nat.blt d sz=true:=by exact rfl):KO P X sz ops (o :: os) L h R:=by
 obtain ⟨fp,k1,k2,-⟩:=(i.ut (.sl v e z enc l)).ok (h':=h) S.ext.next (zA3 _) S.sep
 have hue:∃ e',P.underlying ty=some (.slice e')∧zD P e'=some z:=by
  unfold Qv at hu;split at hu
  ·exact ⟨_,by assumption,hu⟩
  ·cases hu
 obtain ⟨e',hu1,hu2⟩:=hue;have hhi':zU L.tree hi=some vh:=qF hhi;have h0b:qU none 0=some 0:=rfl;have q1:zx P ty v none (some vh) none h=some v:=by
  subst hb;rcases k1 with ⟨rfl,rfl⟩|⟨bb,o',cc,slk,cap,g1,g2,g3,g4,g5,g6⟩
  ·have:qU (some vh) 0=some 0:=hbo;simp only [zx,hu1,hu2,this,h0b]
  ·subst g1;have t1:Nat.ble 0 l.length=true:=by simp
   have t2:Nat.ble l.length cap=true:=zB3 g5.1;cases hk:(slk.isNone && Nat.beq 0 cap) with
   | false=>simp only [zx,hu1,hu2,g2,h0b,hbo,t1,t2,hk,zF8,Nat.zero_mul,Nat.add_zero];rfl
   | true=>simp only [zx,hu1,hu2,g2,h0b,hbo,t1,t2,hk,zF8];rfl
 refine zn (v:=v) (h':=h) hg ?_ (by simp only [qM,hdst,hds]) w;rw [ho];simp only [ja,qF hx,zS,hhi',q1,qO,zJ]
end
theorem index_one (c:UInt8):∀ s:List UInt8,Lib.index s [c]=Yl c s
 | []=>rfl
 | b :: l=>by
  unfold Lib.index Yl QH;by_cases h:b=c
  ·subst h;simp [List.isPrefixOf]
  ·have h2:([c]:List UInt8).isPrefixOf (b :: l)=false:=by simp [List.isPrefixOf];exact fun q=>h q.symm
   rw [if_neg (by rw [h2];decide),if_neg h,index_one c l];unfold Yl;cases hq:QH c l with
   | none=>simp
   | some m =>
    have:((m:Int) == -1)=false:=by rw [beq_eq_false_iff_ne];omega
    simp [this]
variable [Flag]
theorem PG (c:UInt8):((c.toNat:Int).toNat).toUInt8=c:=by simp
theorem qcQ {h0:AH} (s:List UInt8) (c:UInt8):Fn Tryz.prog Xh 184 [str s,.int .u8 (c.toNat:Int)] h0 (fun v h'=>v = .int .i64 (Yl c s)∧h'=h0) :=
 QJ (v:=.int .i64 (Yl ((c.toNat:Int).toNat).toUInt8 s)) rfl ⟨by rw [PG],rfl⟩
theorem qda {h0:AH} (s:List UInt8) (c:UInt8):Fn Tryz.prog Xh 222 [str s,.int .u8 (c.toNat:Int)] h0 (fun v h'=>v = .int .i64 (qaU c s:Nat)∧h'=h0) :=
 QJ (v:=.int .i64 (qaU ((c.toNat:Int).toNat).toUInt8 s:Nat)) rfl ⟨by rw [PG],rfl⟩
theorem qaK {h0:AH} (s:List UInt8) (c:UInt8):Fn Tryz.prog Xh 146 [str s,.int .u8 (c.toNat:Int)] h0 (fun v h'=>v = .int .i64 (Yl c s)∧h'=h0):=by
 refine zB rfl Tryz.func146 rfl rfl ?_;all_goals (repeat' (first|refine qA ?_|refine qw rfl ?_|refine qx ?_|refine qy ?_|refine qi ?_|refine qj ?_|refine qo ?_|(refine qf 0 ?_;refine mv ?_;refine qg ?_)|(refine qf 1 ?_;refine mv ?_;refine mv ?_)))
 (refine qI rfl rfl rfl rfl rfl ((qcQ s c).mono ?_);rintro _ _ ⟨rfl,rfl⟩)<;>(refine mv ?_;refine qg ?_)
 all_goals (repeat' (first|refine qA ?_|refine qw rfl ?_|refine qx ?_|refine qy ?_|refine qi ?_|refine qj ?_|refine qo ?_))
 refine qE ⟨_,rfl,?_⟩;exact ⟨rfl,rfl⟩
theorem gI {h0:AH} (s sep:List UInt8) (hs:s.length<4294967281):Fn Tryz.prog Xh 187 [str s,str sep] h0 (fun v h'=>v = .int .i64 (Lib.index s sep)∧h'=h0) :=
 QJ (v:=.int .i64 (Lib.index s sep)) (by show (if s.length<4294967281 then _ else _)=_;rw [if_pos hs]) ⟨rfl,rfl⟩
theorem WI {h0:AH} (s sep:List UInt8) (hs:s.length<4294967281):Fn Tryz.prog Xh 150 [str s,str sep] h0 (fun v h'=>v = .int .i64 (Lib.index s sep)∧h'=h0):=by
 refine zB rfl Tryz.func150 rfl rfl ?_;all_goals (repeat' (first|refine qA ?_|refine qw rfl ?_|refine qx ?_|refine qy ?_|refine qi ?_|refine qj ?_|refine qo ?_|(refine qf 0 ?_;refine mv ?_;refine qg ?_)|(refine qf 1 ?_;refine mv ?_;refine mv ?_)))
 (refine qI rfl rfl rfl rfl rfl ((gI s sep hs).mono ?_);rintro _ _ ⟨rfl,rfl⟩)<;>(refine mv ?_;refine qg ?_)
 all_goals (repeat' (first|refine qA ?_|refine qw rfl ?_|refine qx ?_|refine qy ?_|refine qi ?_|refine qj ?_|refine qo ?_))
 refine qE ⟨_,rfl,?_⟩;exact ⟨rfl,rfl⟩
theorem qau {h0:AH} (s sep:List UInt8) (hl:sep.length=1) (hs:s.length≤1000000):Fn Tryz.prog Xh 150 [str s,str sep] h0 (fun v h'=>v = .int .i64 (Yl (sep.getD 0 0) s)∧h'=h0) :=
 (WI s sep (by omega)).mono fun v h' q=>by
  match sep,hl with
  | [c],_=>exact ⟨q.1.trans (by rw [index_one];rfl),q.2⟩
theorem GV {h0:AH} (s:List UInt8) (c:UInt8):Fn Tryz.prog Xh 119 [str s,.int .u8 (c.toNat:Int)] h0 (fun v h'=>v = .int .i64 (Yl c s)∧h'=h0):=by
 refine zB rfl Tryz.func119 rfl rfl ?_;all_goals (repeat' (first|refine qA ?_|refine qw rfl ?_|refine qx ?_|refine qy ?_|refine qi ?_|refine qj ?_|refine qo ?_|(refine qf 0 ?_;refine mv ?_;refine qg ?_)|(refine qf 1 ?_;refine mv ?_;refine mv ?_)))
 (refine qI rfl rfl rfl rfl rfl ((qaK s c).mono ?_);rintro _ _ ⟨rfl,rfl⟩)<;>(refine mv ?_;refine qg ?_)
 all_goals (repeat' (first|refine qA ?_|refine qw rfl ?_|refine qx ?_|refine qy ?_|refine qi ?_|refine qj ?_|refine qo ?_))
 refine qE ⟨_,rfl,?_⟩;exact ⟨rfl,rfl⟩
theorem qaJ {s:List UInt8} {n:Nat} (h:n+1=s.length) (c:UInt8):(s.drop n).take (s.length - n)=[c]↔s.getLast? = some c:=by
 rcases List.eq_nil_or_concat s with rfl|⟨t,x,rfl⟩
 ·simp at h
 ·simp only [List.concat_eq_append,zB2,zD5] at h ⊢;obtain rfl:n=t.length:=by simpa using h
  simp
theorem qaL {h0:AH} (s:List UInt8) (hs:s.length≤1000000):Fn Tryz.prog Xh 207 [str s,str [10]] h0 (fun v h'=>ZF v (s.getLast? = some 10)∧h'=h0):=by
 refine zB rfl Tryz.func207 rfl rfl ?_;all_goals (repeat' (first|refine qA ?_|refine qw rfl ?_|refine qx ?_|refine qy ?_|refine qi ?_|refine qj ?_|refine qo ?_|(refine qf 0 ?_;refine mv ?_;refine qg ?_)|(refine qf 1 ?_;refine mv ?_;refine tl ?_;refine mv ?_;refine tl ?_;(first|refine cT ?_|refine cF ?_|(refine cS ?_ ?_<;>intro hc))<;>(refine mv ?_;(first|refine off ?_|refine mv ?_);(first|refine off ?_|refine mv ?_);(first|refine off ?_|refine tl ?_);(first|refine off ?_|refine mv ?_);(first|refine off ?_|refine tl ?_);(first|refine off ?_|(first|refine sb ?_|refine vl ?_));(first|(refine off ?_;(first|refine off ?_|refine mv ?_);(first|refine off ?_|(refine tS ?_ ?_<;>intro hc))<;>(refine vl ?_;refine mv ?_;refine qg ?_))|skip)))))
 ·have hp:1≤s.length:=by (try simp at hc);omega
  obtain ⟨n,hn⟩:∃ n,n=s.length - 1:=⟨_,rfl⟩
  have e:((s.length:Int) - (([10]:List UInt8).length:Nat))=(n:Nat):=by simp;omega
  rw [e];refine tsl (a:=n) (b:=s.length) ?_;((first|refine off ?_|refine mv ?_);(first|refine off ?_|(refine tS ?_ ?_<;>intro hc))<;>(refine vl ?_;refine mv ?_;refine qg ?_));all_goals (refine qE ⟨_,rfl,?_⟩)
  all_goals rw [qaJ (by omega)] at hc
  ·exact ⟨.inl ⟨rfl,hc⟩,rfl⟩
  ·exact ⟨.inr ⟨rfl,hc⟩,rfl⟩
 ·refine qE ⟨_,rfl,?_⟩;refine ⟨.inr ⟨rfl,fun q=>?_⟩,rfl⟩;cases s with
  | nil=>cases q
  | cons a t=>simp at hc;omega
def Z7 (s:List UInt8):List UInt8:=if s.getLast? = some 10 then s.take (s.length - 1) else s
theorem gJ {h0:AH} (s:List UInt8) (hs:s.length≤1000000):Fn Tryz.prog Xh 185 [str s,str [10]] h0 (fun v h'=>∃ b:Bool,v = .tuple #[str (Z7 s),.bool b]∧(b=true↔s.getLast? = some 10)∧h'=h0):=by
 refine zB rfl Tryz.func185 rfl rfl ?_;all_goals (repeat' (first|refine qA ?_|refine qw rfl ?_|refine qx ?_|refine qy ?_|refine qi ?_|refine qj ?_|refine qo ?_|(refine qf 0 ?_;refine mv ?_;refine mv ?_;refine qg ?_)|(refine qf 1 ?_;refine mv ?_;refine mv ?_)))
 (refine qI rfl rfl rfl rfl rfl ((qaL s hs).mono ?_);rintro _ _ ⟨⟨rfl,hq⟩|⟨rfl,hq⟩,rfl⟩)<;>(refine vl ?_;refine qg ?_)
 ·all_goals (repeat' (first|refine qA ?_|refine qw rfl ?_|refine qx ?_|refine qy ?_|refine qi ?_|refine qj ?_|refine qo ?_|(refine qf 2 ?_;(iterate 3 refine mv ?_);refine qg ?_)|(refine qf 3 ?_;refine mv ?_;refine mv ?_;refine tl ?_;refine mv ?_;refine tl ?_;(first|refine sb ?_|refine vl ?_))))
  have hp:1≤s.length:=by
   cases s with
   | nil=>cases hq
   | cons a t=>simp
  obtain ⟨n,hn⟩:∃ n,n=s.length - 1:=⟨_,rfl⟩
  have e:((s.length:Int) - (([10]:List UInt8).length:Nat))=(n:Nat):=by simp;omega
  rw [e];refine tsl (a:=0) (b:=n) ?_;(refine mv ?_;refine mv ?_;refine qg ?_);all_goals (repeat' (first|refine qA ?_|refine qw rfl ?_|refine qx ?_|refine qy ?_|refine qi ?_|refine qj ?_|refine qo ?_))
  refine qE ⟨_,rfl,?_⟩;refine ⟨true,?_,by simp [hq],rfl⟩;rw [show Z7 s=(s.drop 0).take (n - 0) by unfold Z7;rw [if_pos hq];simp [hn]];rfl
 ·skip
  all_goals (repeat' (first|refine qA ?_|refine qw rfl ?_|refine qx ?_|refine qy ?_|refine qi ?_|refine qj ?_|refine qo ?_|(refine qf 2 ?_;(iterate 3 refine mv ?_);refine qg ?_)))
  refine qE ⟨_,rfl,?_⟩;refine ⟨false,?_,by simp [hq],rfl⟩;rw [show Z7 s=s by unfold Z7;rw [if_neg hq]];rfl
theorem qaT {h0:AH} (s:List UInt8) (hs:s.length≤1000000):Fn Tryz.prog Xh 147 [str s,str [10]] h0 (fun v h'=>∃ b:Bool,v = .tuple #[str (Z7 s),.bool b]∧(b=true↔s.getLast? = some 10)∧h'=h0):=by
 refine zB rfl Tryz.func147 rfl rfl ?_;all_goals (repeat' (first|refine qA ?_|refine qw rfl ?_|refine qx ?_|refine qy ?_|refine qi ?_|refine qj ?_|refine qo ?_|(refine qf 0 ?_;refine mv ?_;refine mv ?_;refine qg ?_)|(refine qf 1 ?_;refine mv ?_;refine mv ?_)))
 (refine qI rfl rfl rfl rfl rfl ((gJ s hs).mono ?_);rintro _ _ ⟨b,rfl,hb,rfl⟩)<;>(refine vl ?_;refine vl ?_;refine mv ?_;refine mv ?_;refine qg ?_)
 all_goals (repeat' (first|refine qA ?_|refine qw rfl ?_|refine qx ?_|refine qy ?_|refine qi ?_|refine qj ?_|refine qo ?_))
 refine qE ⟨_,rfl,?_⟩;exact ⟨b,rfl,hb,rfl⟩
theorem qav {h0:AH} (s sep:List UInt8) (hl:sep.length=1):Fn Tryz.prog Xh 209 [str s,str sep] h0 (fun v h'=>v = .int .i64 (qaU (sep.getD 0 0) s:Nat)∧h'=h0):=by
 refine zB rfl Tryz.func209 rfl rfl ?_;all_goals (repeat' (first|refine qA ?_|refine qw rfl ?_|refine qx ?_|refine qy ?_|refine qi ?_|refine qj ?_|refine qo ?_|(refine qf 0 ?_;refine mv ?_;refine qg ?_)|(refine qf 1 ?_;refine mv ?_;refine tl ?_;(first|refine cT ?_|refine cF ?_|(refine cS ?_ ?_<;>intro hc))<;>(refine qg ?_))|(refine qf 2 ?_;refine mv ?_)|(refine qf 3 ?_;refine mv ?_;refine tl ?_;(first|refine cT ?_|refine cF ?_|(refine cS ?_ ?_<;>intro hc))<;>(refine qg ?_))|(refine qf 4 ?_;refine mv ?_;refine mv ?_;(first|refine ti ?_|refine vl ?_))|(refine qf 5 ?_;refine mv ?_;refine qg ?_)))
 all_goals (try (exfalso;omega))
 (refine qI rfl rfl rfl rfl rfl ((qda s (sep.getD 0 0)).mono ?_);rintro _ _ ⟨rfl,rfl⟩)<;>(refine mv ?_;refine qg ?_)
 all_goals (repeat' (first|refine qA ?_|refine qw rfl ?_|refine qx ?_|refine qy ?_|refine qi ?_|refine qj ?_|refine qo ?_))
 refine qE ⟨_,rfl,?_⟩;exact ⟨rfl,rfl⟩
theorem qaP {c:UInt8} {s:List UInt8} (h:QH c s=none):Yl c s = -1:=by unfold Yl;rw [h]
theorem vz {c:UInt8} {s:List UInt8} {m:Nat} (h:QH c s=some m):Yl c s=m:=by unfold Yl;rw [h]
theorem XV {α:Type} {l:List α} {i:Nat} (h:i<l.length) (x:α):(l.set i x).take (i+1)=l.take i ++ [x]:=by
 rw [List.take_add_one,List.getElem?_set_self h,List.take_set_of_le (zA3 _)];rfl
theorem KN {h0:AH} (w:WfH h0) (s sep:List UInt8) (hl:sep.length=1) (hs:s.length≤1000000):Fn Tryz.prog Xh 186 [str s,str sep,.int .i64 0,.int .i64 (-1)] h0 (fun v h'=>Hs h0 h' [.sl v 9 1 eS (jv (sep.getD 0 0) s)]):=by
 have S:=Hs.start w;have hne:sep≠[]:=fun q=>by rw [q] at hl;cases hl
 generalize hc0:sep.getD 0 0=c
 have hlen:=Zv c s;have hcs:s.countP (· == c)≤s.length:=List.countP_le_length;obtain ⟨n,hn⟩:∃ n,(jv c s).length=n:=⟨_,rfl⟩
 refine zB rfl Tryz.func186 rfl rfl ?_;all_goals (repeat' (first|refine qA ?_|refine qw rfl ?_|refine qx ?_|refine qy ?_|refine qi ?_|refine qj ?_|refine qo ?_|(refine qf 0 ?_;refine mv ?_;refine qg ?_)|(refine qf 1 ?_;refine mv ?_;(first|refine cT ?_|refine cF ?_|(refine cS ?_ ?_<;>intro hc))<;>(refine qg ?_))|(refine qf 2 ?_;refine mv ?_;refine qg ?_)|(refine qf 3 ?_;refine mv ?_;(refine tS ?_ ?_<;>intro hc)<;>(refine qg ?_))|(refine qf 4 ?_;refine mv ?_;refine mv ?_)|(refine qf 5 ?_;refine mv ?_;(first|refine cT ?_|refine cF ?_|(refine cS ?_ ?_<;>intro hc))<;>(refine qg ?_))|(refine qf 6 ?_;refine mv ?_;refine mv ?_)|(refine qf 7 ?_;refine mv ?_;refine mv ?_;refine tl ?_;(first|refine ad ?_|refine vl ?_);refine mn ?_;refine mv ?_;refine qg ?_)|(refine qf 8 ?_;refine mv ?_)))
 ·exact absurd hc hne
 have hcb:qaU (sep.getD 0 0) s=s.countP (· == c):=by rw [hc0];rfl
 (refine qI rfl rfl rfl rfl rfl ((qav s sep hl).mono ?_);rintro _ h0 ⟨rfl,rfl⟩)<;>((first|refine ad ?_|refine vl ?_);refine mv ?_;refine qg ?_)
 rw [hc0];rw [hc0] at hcb;all_goals (repeat' (first|refine qA ?_|refine qw rfl ?_|refine qx ?_|refine qy ?_|refine qi ?_|refine qj ?_|refine qo ?_|(refine qf 7 ?_;refine mv ?_;refine mv ?_;refine tl ?_;(first|refine ad ?_|refine vl ?_);refine mn ?_;refine mv ?_;refine qg ?_)|(refine qf 8 ?_;refine mv ?_)))
 have e1:min ((qaU c s:Nat)+1:Int) ((s.length:Int)+1)=n:=by omega
 simp only [e1];refine qd0 (z:=1) (by_:=16) (enc:=eS) (y0:=[]) S rfl rfl rfl rfl rfl rfl rfl rfl rfl (by intro _;rfl) (by first|omega|grind) rfl rfl ?_;clear S;intro v h S;refine mv ?_;refine qg ?_;all_goals (repeat' (first|refine qA ?_|refine qw rfl ?_|refine qx ?_|refine qy ?_|refine qi ?_|refine qj ?_|refine qo ?_|(refine qf 9 ?_;refine mv ?_;(first|refine sb ?_|refine vl ?_);refine mv ?_;refine qg ?_)|(refine qf 10 ?_;refine mv ?_;refine qg ?_)))
 simp only [zA0] at S;refine zL (σ:=Nat×List UInt8×List (List UInt8)) (fun (i,t,l) h'=>Hs h0 h' [.sl v 9 1 eS l]∧l.length=n∧i+(jv c t).length=n∧jv c s=l.take i ++ jv c t∧t.length≤1000000) (fun (i,t,l)=>n - i) (fun (i,t,l)=>[(0,str t),(1,str sep),(2,.int .i64 0),(3,.int .i64 ((n:Int) - 1)),(9,v),(10,.int .i64 i)]) (0,s,List.replicate n []) zh ?_ ?_
 ·exact ⟨S,by simp,by omega,by simp,hs⟩
 clear S;rintro ⟨i,t,l⟩ h ⟨S,h1,h2,h3,h4⟩;have hp:0<(jv c t).length:=List.length_pos_iff.2 (Jv c t);all_goals (repeat' (first|refine qA ?_|refine qw rfl ?_|refine qx ?_|refine qy ?_|refine qi ?_|refine qj ?_|refine qo ?_|(refine qf 11 ?_;refine mv ?_;refine mv ?_;(first|refine cT ?_|refine cF ?_|(refine cS ?_ ?_<;>intro hc))<;>(refine qg ?_))|(refine qf 12 ?_;refine mv ?_;refine mv ?_)|(refine qf 17 ?_;(iterate 3 refine mv ?_);(first|refine Qd S ?_|refine zZ S rfl rfl ?_);(first|(refine sB S rfl rfl ?_;clear S;intro h S)|(refine JU S rfl rfl ?_;clear S;intro h S));refine qg ?_)|(refine qf 18 ?_;refine mv ?_;refine mv ?_;(first|refine ad ?_|refine vl ?_))))
 ·have hi:i+1<n:=by omega
  (refine qI rfl rfl rfl rfl rfl ((qau t sep hl h4).mono ?_);rintro _ h ⟨rfl,rfl⟩)<;>(refine mv ?_;refine qg ?_)
  rw [hc0];rcases hf:QH c t with _|m
  ·exfalso
   rw [Xc (Yk.1 hf)] at h2;simp at h2;omega
  ·rw [vz hf];obtain ⟨m1,m2,m3⟩:=ZE hf;have m4:=gz hf;all_goals (repeat' (first|refine qA ?_|refine qw rfl ?_|refine qx ?_|refine qy ?_|refine qi ?_|refine qj ?_|refine qo ?_|(refine qf 13 ?_;refine mv ?_;(first|refine cT ?_|refine cF ?_|(refine cS ?_ ?_<;>intro hc))<;>(refine qg ?_))|(refine qf 14 ?_;(iterate 5 refine mv ?_);(first|refine ad ?_|refine vl ?_);refine tsl ?_;(first|refine Qd S ?_|refine zZ S rfl rfl ?_);(first|(refine sB S rfl rfl ?_;clear S;intro h S)|(refine JU S rfl rfl ?_;clear S;intro h S));refine qg ?_)|(refine qf 15 ?_;(iterate 3 refine mv ?_);refine tl ?_;(first|refine ad ?_|refine vl ?_);refine tsl ?_;refine mv ?_;refine qg ?_)|(refine qf 16 ?_;refine mv ?_;(first|refine ad ?_|refine vl ?_);refine mv ?_;refine qg ?_)|(refine qf 17 ?_;(iterate 3 refine mv ?_);(first|refine Qd S ?_|refine zZ S rfl rfl ?_);(first|(refine sB S rfl rfl ?_;clear S;intro h S)|(refine JU S rfl rfl ?_;clear S;intro h S));refine qg ?_)|(refine qf 18 ?_;refine mv ?_;refine mv ?_;(first|refine ad ?_|refine vl ?_))))
   have e1:(t.drop (m+sep.length)).take (t.length - (m+sep.length))=t.drop (m+1):=by rw [hl,zF7 (by simp)]
   have e2:(t.drop 0).take (m+0 - 0)=t.take m:=by simp
   rw [e1,e2];rw [e2] at S;refine ⟨(i+1,t.drop (m+1),l.set i (t.take m)),?_,?_,zh⟩
   ·show n - (i+1)<n - i;omega
   ·rw [m4] at h2 h3;simp only [zC4] at h2;(try simp only [zA0] at S);refine ⟨by simpa using S,by simpa using h1,by omega,?_,by simp;omega⟩;rw [h3,XV (by omega)];simp
 ·have hi:i+1=n:=by omega
  obtain ⟨u,hu⟩:∃ u,jv c t=[u]:=by
   match hq:jv c t with
   | []=>exact absurd hq (Jv c t)
   | [u]=>exact ⟨u,rfl⟩
   | u :: u2 :: r=>rw [hq] at h2;simp at h2;omega
  obtain ⟨rfl,-⟩:=qcD hu;all_goals (repeat' (first|refine qA ?_|refine qw rfl ?_|refine qx ?_|refine qy ?_|refine qi ?_|refine qj ?_|refine qo ?_|(refine qf 17 ?_;(iterate 3 refine mv ?_);(first|refine Qd S ?_|refine zZ S rfl rfl ?_);(first|(refine sB S rfl rfl ?_;clear S;intro h S)|(refine JU S rfl rfl ?_;clear S;intro h S));refine qg ?_)|(refine qf 18 ?_;refine mv ?_;refine mv ?_;(first|refine ad ?_|refine vl ?_))))
  (try simp only [zA0] at S)
  have e:(l.set i t)=jv c s:=by
   rw [h3,hu,← XV (by omega),zF7 (by simp;omega)]
  rw [e] at S;refine thA (i+1) S rfl rfl ?_;refine mv ?_;refine qg ?_;all_goals (repeat' (first|refine qA ?_|refine qw rfl ?_|refine qx ?_|refine qy ?_|refine qi ?_|refine qj ?_|refine qo ?_))
  refine qE ⟨_,rfl,?_⟩;exact S
theorem split_ok {h0:AH} (w:WfH h0) (s sep:List UInt8) (hl:sep.length=1) (hs:s.length≤1000000):Fn Tryz.prog Xh 148 [str s,str sep] h0 (fun v h'=>Hs h0 h' [.sl v 9 1 eS (jv (sep.getD 0 0) s)]):=by
 have S:=Hs.start w;refine zB rfl Tryz.func148 rfl rfl ?_;all_goals (repeat' (first|refine qA ?_|refine qw rfl ?_|refine qx ?_|refine qy ?_|refine qi ?_|refine qj ?_|refine qo ?_|(refine qf 0 ?_;refine mv ?_;refine qg ?_)|(refine qf 1 ?_;refine mv ?_;refine mv ?_)))
 (refine qI rfl rfl rfl rfl rfl ((KN S.wf s sep hl hs).mono ?_);rintro v h x)<;>(replace S:=S.XY x;clear x;refine mv ?_;refine qg ?_)
 all_goals (repeat' (first|refine qA ?_|refine qw rfl ?_|refine qx ?_|refine qy ?_|refine qi ?_|refine qj ?_|refine qo ?_))
 refine qE ⟨_,rfl,?_⟩;exact S
theorem qab (s:List UInt8):(Z7 s).length≤s.length:=by
 unfold Z7;split
 ·simp
 ·exact zA3 _
theorem qa6 {h0:AH} (w:WfH h0) (s:List UInt8) (hs:s.length≤1000000):Fn Tryz.prog Xh 120 [str s] h0 (fun v h'=>∃ (u:Value) (b:Bool),v = .tuple #[u,.bool b]∧(b=true↔s.getLast? = some 10∧[] ∉ jv 32 (Z7 s))∧Hs h0 h' [.sl u 9 1 eS (jv 32 (Z7 s))]):=by
 have S:=Hs.start w;have hcl:=qab s;refine zB rfl Tryz.func120 rfl rfl ?_;all_goals (repeat' (first|refine qA ?_|refine qw rfl ?_|refine qx ?_|refine qy ?_|refine qi ?_|refine qj ?_|refine qo ?_|(refine qf 0 ?_;refine mv ?_;refine mv ?_;refine qg ?_)|(refine qf 1 ?_;refine mv ?_)))
 (refine qI rfl rfl rfl rfl rfl ((qaT s hs).mono ?_);rintro _ h0 ⟨b,rfl,hb,rfl⟩)<;>(refine mv ?_;refine vl ?_;refine vl ?_;refine mv ?_;refine mv ?_;refine qg ?_)
 all_goals (repeat' (first|refine qA ?_|refine qw rfl ?_|refine qx ?_|refine qy ?_|refine qi ?_|refine qj ?_|refine qo ?_|(refine qf 2 ?_;refine mv ?_)))
 (refine qI rfl rfl rfl rfl rfl ((split_ok w (Z7 s) [32] rfl (by omega)).mono ?_);rintro u h S)<;>(refine mv ?_;refine qg ?_)
 replace S:Hs h0 h [.sl u 9 1 eS (jv 32 (Z7 s))]:=S;obtain ⟨ws,hws⟩:∃ ws,ws=jv 32 (Z7 s):=⟨_,rfl⟩
 have hwl:ws.length≤1000001:=by
  rw [hws,Zv];have:(Z7 s).countP (· == 32)≤(Z7 s).length:=List.countP_le_length;omega
 rw [← hws] at S ⊢;all_goals (repeat' (first|refine qA ?_|refine qw rfl ?_|refine qx ?_|refine qy ?_|refine qi ?_|refine qj ?_|refine qo ?_|(refine qf 2 ?_;refine mv ?_)|(refine qf 3 ?_;refine mv ?_;(first|refine ZH S ?_|refine XD S rfl rfl ?_);refine mv ?_;refine qg ?_)))
 refine zL (σ:=Nat×Bool) (fun (i,c) h'=>Hs h0 h' [.sl u 9 1 eS ws]∧i≤ws.length∧(c=true↔s.getLast? = some 10∧∀ j,j<i→ws.getD j default≠[])) (fun (i,c)=>ws.length - i) (fun (i,c)=>[(5,.bool c),(6,u),(16,u),(17,.int .i64 ws.length),(18,.int .i64 i)]) (0,b) zh ?_ ?_
 ·exact ⟨S,zB0 _,by rw [hb];simp⟩
 clear S;rintro ⟨i,c⟩ h ⟨S,i1,i2⟩;all_goals (repeat' (first|refine qA ?_|refine qw rfl ?_|refine qx ?_|refine qy ?_|refine qi ?_|refine qj ?_|refine qo ?_|(refine qf 4 ?_;(first|refine cT ?_|refine cF ?_|(refine cS ?_ ?_<;>intro hc))<;>(refine qg ?_))))
 ·have hil:i<ws.length:=by omega
  cases c with
  | true =>
   have i3:=i2.1 rfl;all_goals (repeat' (first|refine qA ?_|refine qw rfl ?_|refine qx ?_|refine qy ?_|refine qi ?_|refine qj ?_|refine qo ?_|(refine qf 5 ?_;(first|refine Qd S ?_|refine zZ S rfl rfl ?_);(first|refine lB S rfl rfl ?_|refine qH S rfl rfl ?_|refine qZ S ?_|refine lH S ?_);refine mv ?_;refine qg ?_)|(refine qf 6 ?_;refine mv ?_;refine mv ?_;(first|refine off ?_|refine mv ?_);(first|refine off ?_|(refine tS ?_ ?_<;>intro hc))<;>(refine vl ?_;refine mv ?_;refine qg ?_))|(refine qf 7 ?_;(first|refine ad ?_|refine vl ?_);refine mv ?_;refine qg ?_)))
   all_goals (try simp only [zA0] at *)
   ·refine ⟨(i+1,false),?_,?_,zh⟩
    ·show ws.length - (i+1)<ws.length - i;omega
    ·refine ⟨S,by (try dsimp only);omega,⟨fun q=>(by cases q),fun q=>?_⟩⟩;exact absurd (by assumption) (q.2 i (by omega))
   ·refine ⟨(i+1,true),?_,?_,zh⟩
    ·show ws.length - (i+1)<ws.length - i;omega
    ·exact ⟨S,by (try dsimp only);omega,fun _=>⟨i3.1,J5 i3.2 (by assumption)⟩,fun _=>rfl⟩
  | false =>
   all_goals (repeat' (first|refine qA ?_|refine qw rfl ?_|refine qx ?_|refine qy ?_|refine qi ?_|refine qj ?_|refine qo ?_|(refine qf 5 ?_;(first|refine Qd S ?_|refine zZ S rfl rfl ?_);(first|refine lB S rfl rfl ?_|refine qH S rfl rfl ?_|refine qZ S ?_|refine lH S ?_);refine mv ?_;refine qg ?_)|(refine qf 6 ?_;refine mv ?_;refine mv ?_;(first|refine off ?_|refine mv ?_);(first|refine off ?_|(refine tS ?_ ?_<;>intro hc))<;>(refine vl ?_;refine mv ?_;refine qg ?_))|(refine qf 7 ?_;(first|refine ad ?_|refine vl ?_);refine mv ?_;refine qg ?_)))
   refine ⟨(i+1,false),?_,?_,zh⟩
   ·show ws.length - (i+1)<ws.length - i;omega
   ·refine ⟨S,by (try dsimp only);omega,⟨fun q=>(by cases q),fun q=>?_⟩⟩;have:=i2.2 ⟨q.1,fun j hj=>q.2 j (by omega)⟩;cases this
 ·obtain rfl:i=ws.length:=by omega
  all_goals (repeat' (first|refine qA ?_|refine qw rfl ?_|refine qx ?_|refine qy ?_|refine qi ?_|refine qj ?_|refine qo ?_|(refine qf 8 ?_;(iterate 4 refine mv ?_);refine qg ?_)))
  refine qE ⟨_,rfl,?_⟩;refine ⟨u,c,rfl,?_,S⟩;rw [i2];constructor
  ·rintro ⟨q1,q2⟩;refine ⟨q1,fun q=>?_⟩;obtain ⟨j,hj,e⟩:=qN.1 q;exact q2 j hj e
  ·rintro ⟨q1,q2⟩;exact ⟨q1,fun j hj e=>q2 (e ▸ qK hj)⟩
end Go.Proofs.Xx
namespace Go.Proofs.Xx
open Go Go.Proofs
def qfW (s:List UInt8) (k:Int) (b:Bool):Prop:=(b=true∧qbx s∧k=ZY s)∨(b=false∧¬ qbx s)
theorem qeD {x c:UInt8} (h:(x.toNat:Int)=c.toNat):x=c:=UInt8.toNat.inj (by omega)
theorem qcu {s:List UInt8} {i:Nat} (h:∀ j,j<i→YS (s.getD j default)) (hi:i≤9∧i≤s.length):ZY (s.take i)<1000000000:=by
 have key:∀ k,k≤i→ZY (s.take k)<10 ^ k:=fun k hk=>by
  induction k with
  | zero=>simp [ZY]
  | succ k ih =>
   have:=ih (by omega);have d:=h k (by omega);unfold YS at d;rw [yD (by omega),Nat.pow_succ];omega
 have h1:=key i (zA3 _);have h2:10 ^ i≤10 ^ 9:=Nat.pow_le_pow_right (by decide) hi.1;omega
variable [Flag]
theorem xn {h0:AH} (w:WfH h0) (s:List UInt8) (hs:s.length≤1000000):Fn Tryz.prog Xh 149 [str s] h0 (fun v h'=>∃ k b,v = .tuple #[.int .i64 k,.bool b]∧qfW s k b∧Hs h0 h' []):=by
 have S:=Hs.start w;refine zB rfl Tryz.func149 rfl rfl ?_;all_goals (repeat' (first|refine qA ?_|refine qw rfl ?_|refine qx ?_|refine qy ?_|refine qi ?_|refine qj ?_|refine qo ?_|(refine qf 0 ?_;refine mv ?_;refine mv ?_;refine qg ?_)))
 (repeat (refine qA ?_));first|refine kP (σ:=Unit) (fun _ h'=>Hs h0 h' []∧1≤s.length∧s.length≤9∧(1<s.length→s.getD 0 default≠48)) (fun _=>[(0,str s)]) ?_ ?_|refine Yt (σ:=Unit) (fun _ h'=>Hs h0 h' []∧1≤s.length∧s.length≤9∧(1<s.length→s.getD 0 default≠48)) (fun _=>[(0,str s)]) ?_ ?_
 ·all_goals (repeat' (first|refine qA ?_|refine qw rfl ?_|refine qx ?_|refine qy ?_|refine qi ?_|refine qj ?_|refine qo ?_|(refine qf 1 ?_;refine mv ?_;refine tl ?_;(first|refine cT ?_|refine cF ?_|(refine cS ?_ ?_<;>intro hc))<;>(refine mv ?_;(first|refine off ?_|refine mv ?_);(first|refine off ?_|refine tl ?_);(first|refine off ?_|(first|refine cT ?_|refine cF ?_|(refine cS ?_ ?_<;>intro hc)))<;>(refine vl ?_;refine mv ?_;(first|refine off ?_|refine mv ?_);(first|refine off ?_|refine tl ?_);(first|refine off ?_|(first|refine cT ?_|refine cF ?_|(refine cS ?_ ?_<;>intro hc)))<;>((first|refine off ?_|refine mv ?_);(first|refine off ?_|refine mv ?_);(first|refine off ?_|(first|refine ti ?_|refine vl ?_));(first|refine off ?_|(first|refine cT ?_|refine cF ?_|(refine cS ?_ ?_<;>intro hc)))<;>((first|refine off ?_|refine vl ?_);refine vl ?_;refine qg ?_)))))|(refine qf 2 ?_;refine mv ?_;refine mv ?_;refine qg ?_)))
  ·refine qE ⟨_,rfl,?_⟩;exact ⟨0,false,rfl,.inr ⟨rfl,fun q=>by have:=q.1;omega⟩,S⟩
  ·refine qE ⟨_,rfl,?_⟩;exact ⟨0,false,rfl,.inr ⟨rfl,fun q=>by have:=q.2.1;omega⟩,S⟩
  ·refine qE ⟨_,rfl,?_⟩;have hz:=qeD (c:=48) hc;exact ⟨0,false,rfl,.inr ⟨rfl,fun q=>q.2.2.1 (by omega) hz⟩,S⟩
  ·exact ⟨(),⟨S,by omega,by omega,fun _ q=>hc (by rw [show s.getD (Int.toNat 0) 0=s.getD 0 default from rfl,q];rfl)⟩,(zh)⟩
  ·exact ⟨(),⟨S,by omega,by omega,fun q=>by omega⟩,(zh)⟩
 clear S;rintro - h ⟨S,l1,l2,l3⟩;all_goals (repeat' (first|refine qA ?_|refine qw rfl ?_|refine qx ?_|refine qy ?_|refine qi ?_|refine qj ?_|refine qo ?_|(refine qf 3 ?_;refine mv ?_;refine qg ?_)|(refine qf 4 ?_;refine mv ?_;refine tl ?_;refine mv ?_;refine qg ?_)))
 refine zL (σ:=Nat) (fun i h'=>Hs h0 h' []∧i≤s.length∧∀ j,j<i→YS (s.getD j default)) (fun i=>s.length - i) (fun i=>[(0,str s),(4,.int .i64 (ZY (s.take i):Nat)),(25,.int .i64 s.length),(26,.int .i64 i)]) 0 zh ?_ ?_
 ·exact ⟨S,zB0 _,fun j hj=>absurd hj (zB7 _)⟩
 clear S;rintro i h ⟨S,h1,h2⟩;have hb:=qcu (s:=s) h2 (by omega);all_goals (repeat' (first|refine qA ?_|refine qw rfl ?_|refine qx ?_|refine qy ?_|refine qi ?_|refine qj ?_|refine qo ?_|(refine qf 5 ?_;(first|refine cT ?_|refine cF ?_|(refine cS ?_ ?_<;>intro hc))<;>(refine qg ?_))|(refine qf 6 ?_;refine mv ?_;refine mv ?_;refine qg ?_)|(refine qf 7 ?_;refine mv ?_;refine mv ?_;(first|refine ti ?_|refine vl ?_);(first|refine cT ?_|refine cF ?_|(refine cS ?_ ?_<;>intro hc))<;>(refine mv ?_;(first|refine off ?_|refine mv ?_);(first|refine off ?_|refine mv ?_);(first|refine off ?_|(first|refine ti ?_|refine vl ?_));(first|refine off ?_|(first|refine cT ?_|refine cF ?_|(refine cS ?_ ?_<;>intro hc)))<;>(refine vl ?_;refine qg ?_)))|(refine qf 8 ?_;refine mv ?_;refine mv ?_;refine qg ?_)))
 ·(try simp only [zA0] at *)
  refine qE ⟨_,rfl,?_⟩;exact ⟨0,false,rfl,.inr ⟨rfl,fun q=>by have:=q.2.2.2 i (by omega);unfold YS at this;rw [J8] at this;omega⟩,S⟩
 ·(try simp only [zA0] at *)
  refine qE ⟨_,rfl,?_⟩;exact ⟨0,false,rfl,.inr ⟨rfl,fun q=>by have:=q.2.2.2 i (by omega);unfold YS at this;rw [J8] at this;omega⟩,S⟩
 ·all_goals (repeat' (first|refine qA ?_|refine qw rfl ?_|refine qx ?_|refine qy ?_|refine qi ?_|refine qj ?_|refine qo ?_|(refine qf 9 ?_;refine mv ?_;(first|refine ml ?_|refine vl ?_);refine mv ?_;refine mv ?_;(first|refine ti ?_|refine vl ?_);(first|refine sU ?_|refine vl ?_);(first|refine cI ?_|refine vl ?_);(first|refine ad ?_|refine vl ?_);refine mv ?_;refine qg ?_)|(refine qf 10 ?_;(first|refine ad ?_|refine vl ?_);refine mv ?_;refine qg ?_)))
  (try simp only [zA0] at *)
  have hi:i<s.length:=by omega
  have hd:YS (s.getD i default):=by unfold YS;rw [J8];omega
  have e:=yD hi;rw [J8] at e;have e2:(10:Int)*(ZY (s.take i):Nat)+(((s.getD i 0).toNat:Int) - 48)=(ZY (s.take (i+1)):Nat):=by
   unfold YS at hd;rw [J8] at hd;omega
  rw [e2];refine ⟨i+1,?_,?_,zh⟩
  ·show s.length - (i+1)<s.length - i;omega
  ·exact ⟨S,by omega,J5 h2 hd⟩
 ·have hi:i=s.length:=by omega
  subst hi;rw [zD4];all_goals (repeat' (first|refine qA ?_|refine qw rfl ?_|refine qx ?_|refine qy ?_|refine qi ?_|refine qj ?_|refine qo ?_|(refine qf 11 ?_;(iterate 3 refine mv ?_);refine qg ?_)))
  refine qE ⟨_,rfl,?_⟩;exact ⟨_,true,rfl,.inl ⟨rfl,⟨l1,l2,l3,h2⟩,rfl⟩,S⟩
end Go.Proofs.Xx
