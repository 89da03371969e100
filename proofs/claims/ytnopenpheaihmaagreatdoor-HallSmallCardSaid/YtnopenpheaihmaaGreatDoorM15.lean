/-
  The lists of a table's moves;the turns that keep given seats.
-/
import Derived.Test.YtnopenpheaihmaaGreatDoorM14
import Derived.Test.YtnopenpheaihmaaGreatDoorM9
import Derived.Test.YtnopenpheaihmaaGreatDoorM4
import Derived.Test.YtnopenpheaihmaaGreatDoorM10
import Derived.Test.YtnopenpheaihmaaGreatDoorM11
namespace Go.Proofs.Xx
open Go Go.Proofs
set_option linter.unusedSimpArgs false
set_option linter.unusedVariables false
def zN (t:Tab) (j:Nat):List Int:=(List.range (qC t).toNat).map fun k=>Zb t j (k:Nat)
theorem ja (t:Tab) (j:Nat):(zN t j).length=(qC t).toNat:=by simp [zN]
theorem Yb {t:Tab} {j k:Nat} (h:k<(qC t).toNat):Qc (zN t j) k=Zb t j k:=by
 simp [zN,Qc,List.getD_eq_getElem?_getD,h]
theorem KW {a b:List Int} (h:a.length=b.length) (e:∀ k,k<a.length→Qc a k=Qc b k):a=b:=by
 refine List.ext_getElem h fun k h1 h2=>?_
 have:=e k h1
 simpa [Qc,List.getD_eq_getElem?_getD,h1,h2] using this
theorem PX (p:List Int) {k:Nat} (hk:k<p.length) (x:Int) (j:Nat):Qc (p.set k x) j=if j=k then x else Qc p j:=by
 simp only [Qc,List.getD_eq_getElem?_getD,List.getElem?_set]
 by_cases q:k=j
 ·subst q;simp [hk]
 ·rw [if_neg q,if_neg (fun z=>q z.symm)]
theorem xh {t:Tab} {j:Nat} {l:List Int} (h:l.length=(qC t).toNat) (e:∀ k,k<(qC t).toNat→Qc l k=Zb t j k):l=zN t j :=
 KW (by rw [h,ja]) fun k hk=>by rw [e k (by omega),Yb (by omega)]
def lng (a b:Int):Nat→Int→Int
 | 0,k=>k
 | 1,k=>Xr a b k
 | 2,k=>Jp a b k
 | _+3,k=>Xr a b (Jp a b k)
def shg (n:Int):Nat→Int→Int
 | 0,k=>k
 | _+1,k=>n - 1 - k
section
variable {t:Tab}
theorem yl (q:t.shape=1) (j:Nat) (k:Int):Zb t j k=xQ t.A j k:=by unfold Zb;rw [if_pos q]
theorem Jh (q:t.shape=2) (j:Nat) (k:Int):Zb t j k=lng t.A t.B j k:=by
 unfold Zb;rw [if_neg (by omega),if_pos q]
 match j with
 | 0=>rfl
 | 1=>rfl
 | 2=>rfl
 | n+3=>rfl
theorem P9 (q:3≤t.shape) (j:Nat) (k:Int):Zb t j k=shg (qC t) j k:=by
 unfold Zb;rw [if_neg (by omega),if_neg (by omega)]
 match j with
 | 0=>rfl
 | n+1=>rfl
theorem qaa (q:t.shape=2) (k:Int):Zb t 0 k=k:=by rw [Jh q];rfl
theorem qdT (q:3≤t.shape) (k:Int):Zb t 0 k=k:=by rw [P9 q];rfl
theorem KE (q:t.shape=1):Qo t=(2*t.A).toNat:=by unfold Qo;rw [if_pos q]
theorem qa4 (q:t.shape=2):Qo t=if t.B=1 then 2 else 4:=by unfold Qo;rw [if_neg (by omega),if_pos q]
theorem yj (q:3≤t.shape):Qo t=2:=by unfold Qo;rw [if_neg (by omega),if_neg (by omega)]
theorem TabS.XO (hs:TabS t):t.shape=1∨t.shape=2∨3≤t.shape:=by have:=hs.shape;omega
theorem KD (hs:TabS t):Qo t≤48:=by
 rcases hs.XO with q|q|q
 ·have:=hs.s1 q;rw [KE q];omega
 ·rw [qa4 q];split<;>omega
 ·rw [yj q];omega
theorem qe1 (hs:TabS t):2≤Qo t:=by
 rcases hs.XO with q|q|q
 ·have:=hs.s1 q;rw [KE q];omega
 ·rw [qa4 q];split<;>omega
 ·rw [yj q];omega
theorem TabS.l2 (hs:TabS t) (q:t.shape=2) {j:Nat} (hj:j<Qo t):j=0∨j=1∨((j=2∨j=3)∧(t.B=0∨t.B=2)):=by
 have:=hs.s2 q
 rw [qa4 q] at hj
 split at hj<;>omega
theorem P8 (hs:TabS t) {j:Nat} (hj:j<Qo t) {k:Int} (hk:0≤k∧k<qC t):0≤Zb t j k∧Zb t j k<qC t:=by
 rcases hs.XO with q|q|q
 ·have:=hs.s1 q
  rw [yl q,this.2.2.2]
  rw [KE q] at hj
  exact JH hj ⟨hk.1,by omega⟩
 ·have s:=hs.s2 q
  have hk2:0≤k∧k<2*t.A+t.B:=by omega
  rcases hs.l2 q hj with rfl|rfl|⟨rfl|rfl,hb⟩
  ·rw [Jh q];exact hk
  ·rw [Jh q,s.2.2.2.2];exact (wK s.1 ⟨s.2.2.1,s.2.2.2.1⟩ hk2).2
  ·rw [Jh q,s.2.2.2.2];exact (Vm s.1 hb hk2).2
  ·rw [Jh q,s.2.2.2.2];exact (wK s.1 ⟨s.2.2.1,s.2.2.2.1⟩ (Vm s.1 hb hk2).2).2
 ·rw [yj q] at hj
  match j,hj with
  | 0,_=>rw [P9 q];exact hk
  | 1,_=>rw [P9 q];show 0≤qC t - 1 - k∧qC t - 1 - k<qC t;omega
theorem qbP (hs:TabS t) {k:Int} (hk:0≤k∧k<qC t):Zb t 0 k=k:=by
 rcases hs.XO with q|q|q
 ·have:=hs.s1 q
  rw [yl q];exact qeR ⟨hk.1,by omega⟩
 ·exact qaa q k
 ·exact qdT q k
theorem qe2 (hs:TabS t) {i j:Nat} (hi:i<Qo t) (hj:j<Qo t):∃ m,m<Qo t∧∀ k,0≤k→k<qC t→Zb t i (Zb t j k)=Zb t m k:=by
 rcases hs.XO with q|q|q
 ·have s:=hs.s1 q
  rw [KE q] at hi hj
  obtain ⟨m,h1,h2⟩:=qeS hi hj
  refine ⟨m,by rw [KE q];exact h1,fun k k1 k2=>?_⟩
  rw [yl q,yl q,yl q]
  exact h2 k k1 (by omega)
 ·have s:=hs.s2 q
  have ss:∀ k,0≤k→k<qC t→Xr t.A t.B (Xr t.A t.B k)=k:=fun k k1 k2=>(wK s.1 ⟨s.2.2.1,s.2.2.2.1⟩ ⟨k1,by omega⟩).1
  have bs:∀ k,0≤k→k<qC t→0≤Xr t.A t.B k∧Xr t.A t.B k<qC t:=fun k k1 k2=>by
   have:=(wK (b:=t.B) s.1 ⟨s.2.2.1,s.2.2.2.1⟩ (k:=k) ⟨k1,by omega⟩).2
   omega
  rcases hs.l2 q hi with rfl|rfl|⟨ei,hb⟩
  ·exact ⟨j,hj,fun k k1 k2=>by rw [qaa q]⟩
  ·rcases hs.l2 q hj with rfl|rfl|⟨ej,hb⟩
   ·exact ⟨1,hi,fun k k1 k2=>by rw [qaa q]⟩
   ·exact ⟨0,by omega,fun k k1 k2=>by simp only [Jh q,lng];exact ss k k1 k2⟩
   ·have be:∀ k,0≤k→k<qC t→0≤Jp t.A t.B k∧Jp t.A t.B k<qC t:=fun k k1 k2=>by
     have:=(Vm s.1 hb (k:=k) ⟨k1,by omega⟩).2
     omega
    have hn:Qo t=4:=by rw [qa4 q,if_neg (by omega)]
    rcases ej with rfl|rfl
    ·exact ⟨3,by omega,fun k k1 k2=>by simp only [Jh q,lng]⟩
    ·exact ⟨2,by omega,fun k k1 k2=>by simp only [Jh q,lng];exact ss _ (be k k1 k2).1 (be k k1 k2).2⟩
  ·have hn:Qo t=4:=by rw [qa4 q,if_neg (by omega)]
   have ee:∀ k,0≤k→k<qC t→Jp t.A t.B (Jp t.A t.B k)=k:=fun k k1 k2=>(Vm s.1 hb ⟨k1,by omega⟩).1
   have be:∀ k,0≤k→k<qC t→0≤Jp t.A t.B k∧Jp t.A t.B k<qC t:=fun k k1 k2=>by
    have:=(Vm s.1 hb (k:=k) ⟨k1,by omega⟩).2
    omega
   have es:∀ k,0≤k→k<qC t→Jp t.A t.B (Xr t.A t.B k)=Xr t.A t.B (Jp t.A t.B k):=fun k k1 k2=>qfR s.1 hb ⟨k1,by omega⟩
   rcases ei with rfl|rfl
   ·rcases hs.l2 q hj with rfl|rfl|⟨rfl|rfl,-⟩
    ·exact ⟨2,hi,fun k k1 k2=>by rw [qaa q]⟩
    ·exact ⟨3,by omega,fun k k1 k2=>by simp only [Jh q,lng];exact es k k1 k2⟩
    ·exact ⟨0,by omega,fun k k1 k2=>by simp only [Jh q,lng];exact ee k k1 k2⟩
    ·exact ⟨1,by omega,fun k k1 k2=>by simp only [Jh q,lng];rw [es _ (be k k1 k2).1 (be k k1 k2).2,ee k k1 k2]⟩
   ·rcases hs.l2 q hj with rfl|rfl|⟨rfl|rfl,-⟩
    ·exact ⟨3,hi,fun k k1 k2=>by rw [qaa q]⟩
    ·exact ⟨2,by omega,fun k k1 k2=>by simp only [Jh q,lng];rw [es k k1 k2,ss _ (be k k1 k2).1 (be k k1 k2).2]⟩
    ·exact ⟨1,by omega,fun k k1 k2=>by simp only [Jh q,lng];rw [ee k k1 k2]⟩
    ·exact ⟨0,by omega,fun k k1 k2=>by simp only [Jh q,lng];rw [es _ (be k k1 k2).1 (be k k1 k2).2,ee k k1 k2,ss k k1 k2]⟩
 ·rw [yj q] at hi hj
  match i,hi,j,hj with
  | 0,_,j,hj=>exact ⟨j,by rw [yj q];exact hj,fun k k1 k2=>by rw [qdT q]⟩
  | 1,_,0,_=>exact ⟨1,by rw [yj q];omega,fun k k1 k2=>by rw [qdT q]⟩
  | 1,_,1,_=>exact ⟨0,by rw [yj q];omega,fun k k1 k2=>by simp only [P9 q,shg];omega⟩
theorem qe3 (hs:TabS t) {i:Nat} (hi:i<Qo t):∃ m,m<Qo t∧∀ k,0≤k→k<qC t→Zb t i (Zb t m k)=k∧Zb t m (Zb t i k)=k:=by
 rcases hs.XO with q|q|q
 ·have s:=hs.s1 q
  rw [KE q] at hi
  obtain ⟨m,h1,h2⟩:=qeT hi
  refine ⟨m,by rw [KE q];exact h1,fun k k1 k2=>?_⟩
  rw [yl q,yl q,yl q,yl q]
  exact h2 k k1 (by omega)
 ·have s:=hs.s2 q
  have ss:∀ k,0≤k→k<qC t→Xr t.A t.B (Xr t.A t.B k)=k:=fun k k1 k2=>(wK s.1 ⟨s.2.2.1,s.2.2.2.1⟩ ⟨k1,by omega⟩).1
  refine ⟨i,hi,fun k k1 k2=>?_⟩
  rcases hs.l2 q hi with rfl|rfl|⟨ei,hb⟩
  ·simp only [Jh q,lng];exact ⟨trivial,trivial⟩
  ·simp only [Jh q,lng];exact ⟨ss k k1 k2,ss k k1 k2⟩
  ·have ee:∀ k,0≤k→k<qC t→Jp t.A t.B (Jp t.A t.B k)=k:=fun k k1 k2=>(Vm s.1 hb ⟨k1,by omega⟩).1
   have be:∀ k,0≤k→k<qC t→0≤Jp t.A t.B k∧Jp t.A t.B k<qC t:=fun k k1 k2=>by
    have:=(Vm s.1 hb (k:=k) ⟨k1,by omega⟩).2
    omega
   have es:∀ k,0≤k→k<qC t→Jp t.A t.B (Xr t.A t.B k)=Xr t.A t.B (Jp t.A t.B k):=fun k k1 k2=>qfR s.1 hb ⟨k1,by omega⟩
   have z:Xr t.A t.B (Jp t.A t.B (Xr t.A t.B (Jp t.A t.B k)))=k:=by rw [es _ (be k k1 k2).1 (be k k1 k2).2,ee k k1 k2,ss k k1 k2]
   rcases ei with rfl|rfl
   ·simp only [Jh q,lng];exact ⟨ee k k1 k2,ee k k1 k2⟩
   ·simp only [Jh q,lng];exact ⟨z,z⟩
 ·rw [yj q] at hi
  refine ⟨i,by rw [yj q];exact hi,fun k k1 k2=>?_⟩
  match i,hi with
  | 0,_=>simp only [P9 q,shg];exact ⟨trivial,trivial⟩
  | 1,_=>simp only [P9 q,shg];omega
theorem Gi (hs:TabS t) {j k:Nat} (hj:j<Qo t) (hk:k<(qC t).toNat):0≤Qc (zN t j) k∧Qc (zN t j) k<qC t:=by
 rw [Yb hk]
 exact P8 hs hj ⟨by omega,by omega⟩
end
def acc (t:Tab) (st:List Int) (j:Nat):Prop:=kX t (zN t j)∧∀ x,x∈st→Qc (zN t j) x.toNat=x
structure TurnL (t:Tab) (st:List Int) (ls:List (List Int)):Prop where
 srt:ls.Pairwise Jl
 mem:∀ p,p∈ls↔∃ j,j<Qo t∧acc t st j∧p=zN t j
theorem TurnL.eq {t:Tab} {st:List Int} {a b:List (List Int)} (ha:TurnL t st a) (hb:TurnL t st b):a=b :=
 wR ZN (fun _ _ _=>Zc) ha.srt hb.srt fun p=>(ha.mem p).trans (hb.mem p).symm
def qbv (t:Tab) (st:List Int):Prop:=∀ x,x∈st→0≤x∧x<qC t
def StayL (t:Tab) (st:List Int) (ls:List (List Int)):Prop:=(chk t=0∧qbv t st∧TurnL t st ls)∨(¬ (chk t=0∧qbv t st)∧ls=[])
theorem StayL.eq {t:Tab} {st:List Int} {a b:List (List Int)} (ha:StayL t st a) (hb:StayL t st b):a=b:=by
 rcases ha with ⟨h1,h2,ha⟩|⟨h1,rfl⟩<;>rcases hb with ⟨g1,g2,hb⟩|⟨g1,rfl⟩
 ·exact ha.eq hb
 ·exact absurd ⟨h1,h2⟩ g1
 ·exact absurd ⟨g1,g2⟩ h1
 ·rfl
theorem qch {l:List PL} (h:Gx l):(l.map (·.2)).Pairwise Jl:=by
 have H:∀ d i,i+d+1<l.length→Jl (l.getD i default).2 (l.getD (i+d+1) default).2:=by
  intro d
  induction d with
  | zero=>intro i hi;exact h (i+1) (by omega) (by omega)
  | succ d ih=>intro i hi;exact Zc (ih i (by omega)) (h (i+d+2) (by omega) (by omega))
 rw [List.pairwise_iff_getElem]
 intro i j hi hj hij
 rw [List.length_map] at hi hj
 have:=H (j - i - 1) i (by omega)
 rw [show i+(j - i - 1)+1=j by omega] at this
 simpa [List.getD_eq_getElem?_getD,hi,hj] using this
theorem xu {t:Tab} (h:chk t=0):TabS t:=by
 refine TabS.of t ?_
 have:=qK t
 unfold chk at h
 repeat' split at h
 all_goals first|omega|skip
set_option maxRecDepth 100000
section
variable {P:Program} {X:Extern} {inR:Bool} {sz:Nat} {L:Ks} {h h0:AH} {rs:List Rs} {ops:Array Oper} {os:List Oper} {o:Oper} {R:Ks→AH→Prop} {Q:KQ}
theorem qeB {a b:Code} {Q1:KQ} (w:K P X inR sz a L h Q1) (e1:∀ L' h',Q1 .norm L' h'→K P X inR sz b L' h' Q) (e2:∀ x L' h',x≠.norm→Q1 x L' h'→Q x L' h'):K P X inR sz (.seq a b) L h Q :=
 qi (w.mono fun x L' h' q=>by
  cases x with
  | norm=>exact e1 _ _ q
  | exit id=>exact e2 _ _ _ (by intro z;cases z) q
  | ret=>exact e2 _ _ _ (by intro z;cases z) q)
theorem qgH {σ:Type} {a b c d:Code} (I:σ→AH→Prop) (sl:σ→Ks) (w1:K P X inR sz a L h (Yo P X inR sz b (Yo P X inR sz c (qcU I sl Q)))) (w2:∀ s h',I s h'→K P X inR sz d (sl s) h' Q):K P X inR sz (.seq a (.seq b (.seq c d))) L h Q :=
 qeB w1 (fun L' h' q=>qeB q (fun L' h' q=>QG I sl q w2) fun x L' h' hx q=>by
  cases x with
  | norm=>exact absurd rfl hx
  | exit id=>exact q
  | ret=>exact q) fun x L' h' hx q=>by
  cases x with
  | norm=>exact absurd rfl hx
  | exit id=>exact q
  | ret=>exact q
end
theorem Sep.perm {lo:Nat} {h:AH} {rs rs':List Rs} (p:rs.Perm rs'):∀ {U:Fp},Sep lo h rs U→Sep lo h rs' U:=by
 induction p with
 | nil=>intro U k;exact k
 | cons x p ih=>intro U ⟨fp,h1,h2,h3⟩;exact ⟨fp,h1,h2,ih h3⟩
 | swap x y l =>
  intro U ⟨fy,h1,h2,fx,g1,g2,g3⟩
  exact ⟨fx,g1,fun b hb=>⟨(g2 b hb).1,(g2 b hb).2.1,(g2 b hb).2.2.1⟩,fy,h1,fun b hb=>⟨(h2 b hb).1,(h2 b hb).2.1,(h2 b hb).2.2,fun q=>(g2 b q).2.2.2 hb⟩,g3.mono fun b hb=>⟨⟨hb.1.1,hb.2⟩,hb.1.2⟩⟩
 | trans p q ih1 ih2=>intro U k;exact ih2 (ih1 k)
theorem Hs.perm {h0 h:AH} {rs rs':List Rs} (S:Hs h0 h rs) (p:rs.Perm rs'):Hs h0 h rs':=⟨S.ext,S.sep.perm p⟩
theorem qg3 {h0 h:AH} {rs:List Rs} {t:Tab} {fs:List FV} (S:Hs h0 h rs) (a:At rs (.any (YQ t fs))) {j:Nat} (hj:j<Qo t) (k:Int) (h1:0≤k) (h2:k<qC t):Fn Tryz.prog Xh (fs.getD j default).1 (.int .i64 k :: (fs.getD j default).2.toList) h (fun r h3=>r = .int .i64 (Zb t j k)∧Hs h h3 []):=by
 obtain ⟨fp,m⟩:=S.Xb a
 exact m.2 j hj h S.wf (fun _ _=>rfl) k h1 h2
theorem qgg {h0 h:AH} {rs:List Rs} {t:Tab} {fs:List FV} (S:Hs h0 h rs) (a:At rs (.any (YQ t fs))):fs.length=Qo t:=by
 obtain ⟨fp,m⟩:=S.Xb a
 exact m.1
def qhy (h0:AH) (l:Nat) (t:Tab) (RS:Nat→List Rs→Prop):Prop :=
 ∀ k rs own v h,k<Qo t→RS k rs→Hs h0 h (.sl v 3 1 eI (zN t k) :: (rs ++ own))→Yd Tryz.prog Xh l [v] h (fun r h'=>r = .bool true∧∃ rs',RS (k+1) rs'∧Hs h0 h' (rs' ++ own))
theorem qei {h0 h:AH} {rs:List Rs} {bt l:Nat} (t:Tab) (hs:TabS t) (S:Hs h0 h (.blk bt (eT t) 25 :: rs)) (RS:Nat→List Rs→Prop) (hr:RS 0 rs) (Y:qhy h0 l t RS) :
 Fn Tryz.prog Xh 139 [yv l,PT bt] h (fun _ h'=>∃ rs',RS (Qo t) rs'∧Hs h0 h' (.blk bt (eT t) 25 :: rs')):=by
 have hsp:=hs.shape
 have hsz:=qK t
 have hpos:=hs.pos
 obtain ⟨n,hn⟩:=Int.eq_ofNat_of_zero_le hsz.1
 refine qF rfl Tryz.func139 rfl rfl ?_
 refine qgH (σ:=Value×List FV) (fun (vf,fs) h'=>Hs h0 h' (.sl vf 152 1 eF fs :: .any (YQ t fs) :: .blk bt (eT t) 25 :: rs)) (fun (vf,fs)=>[(0,yv l),(5,.int .i64 n),(24,vf),(25,.int .i64 fs.length),(26,.int .i64 0)]) ?_ ?_
 ·all_goals (repeat' (first|(refine qf 0 ?_;refine vl ?_;refine lB S rfl rfl ?_)))
  (refine qw rfl rfl rfl rfl rfl ((Qg S.wf _).mono ?_);rintro _ h ⟨⟨rfl,hq⟩|⟨rfl,hq⟩|⟨rfl,hq⟩|⟨rfl,hq⟩|⟨rfl,hq⟩,x⟩)<;>(replace S:=S.qy x;clear x;refine mv ?_;refine vl ?_;refine vl ?_;(refine al S ?_;clear S;intro b h S);(first|(refine sB S rfl rfl ?_;clear S;intro h S));refine mv ?_;refine qg ?_)
  all_goals (try (exfalso;omega))
  all_goals (all_goals (repeat' (first|(refine qf 1 ?_;refine lB S rfl rfl ?_))))
  all_goals ((refine qw rfl rfl rfl rfl rfl ((Ze S.wf t).mono ?_);rintro _ h ⟨rfl,x⟩)<;>(replace S:=S.qy x;clear x;rw [hn];refine mv ?_;refine qg ?_))
  all_goals (all_goals (repeat' (first|(refine qf 2 ?_;refine vl ?_;refine lB S rfl rfl ?_;refine vl ?_;refine lB S rfl rfl ?_;refine vl ?_;refine lB S rfl rfl ?_))))
  ·(refine qN rfl rfl rfl rfl ((xM S.wf t hs hq).mono ?_);rintro vf h ⟨fs,x⟩)<;>(replace S:=S.Xn x;clear x;refine ZC S rfl rfl ?_;refine mv ?_;refine qg ?_)
   all_goals (repeat' (fail))
   exact ⟨(vf,fs),S.del (.there (.there .here)),((by repeat (first|exact Ks.le_nil _|refine Ks.qh rfl ?_)))⟩
  ·(refine qN rfl rfl rfl rfl ((vS S.wf t hs hq).mono ?_);rintro vf h ⟨fs,x⟩)<;>(replace S:=S.Xn x;clear x;refine ZC S rfl rfl ?_;refine mv ?_;refine qg ?_)
   all_goals (repeat' (fail))
   exact ⟨(vf,fs),S.del (.there (.there .here)),((by repeat (first|exact Ks.le_nil _|refine Ks.qh rfl ?_)))⟩
  ·(refine qN rfl rfl rfl rfl ((vI S.wf t hs hq).mono ?_);rintro vf h ⟨fs,x⟩)<;>(replace S:=S.Xn x;clear x;refine ZC S rfl rfl ?_;refine mv ?_;refine qg ?_)
   all_goals (repeat' (fail))
   exact ⟨(vf,fs),S.del (.there (.there .here)),((by repeat (first|exact Ks.le_nil _|refine Ks.qh rfl ?_)))⟩
  ·(refine qN rfl rfl rfl rfl ((gX S.wf t hs hq).mono ?_);rintro vf h ⟨fs,x⟩)<;>(replace S:=S.Xn x;clear x;refine ZC S rfl rfl ?_;refine mv ?_;refine qg ?_)
   all_goals (repeat' (fail))
   exact ⟨(vf,fs),S.del (.there (.there .here)),((by repeat (first|exact Ks.le_nil _|refine Ks.qh rfl ?_)))⟩
 clear S
 rintro ⟨vf,fs⟩ h S
 have hfl:=qgg S (.there .here)
 have hmv:=KD hs
 skip
 all_goals (repeat' (refine qm ?_))
 refine qE (σ:=Nat) (fun j h'=>j≤Qo t∧∃ rs',RS j rs'∧Hs h0 h' (.sl vf 152 1 eF fs :: .any (YQ t fs) :: .blk bt (eT t) 25 :: rs')) (fun j=>Qo t - j) (fun j=>[(0,yv l),(5,.int .i64 n),(24,vf),(25,.int .i64 fs.length),(26,.int .i64 j)]) 0 (by repeat (first|exact Ks.le_nil _|refine Ks.qh rfl ?_)) ?_ ?_
 ·exact ⟨Nat.zero_le _,rs,hr,S⟩
 clear S hr
 rintro j h ⟨hj,rs,hr,S⟩
 all_goals (repeat' (first|refine qi ?_|refine ql rfl ?_|refine qo ?_|refine qA ?_|refine qm ?_|(refine qf 3 ?_;(first|(refine cS ?_ ?_<;>intro hc))<;>(refine qg ?_))|(refine qf 4 ?_;refine qH S rfl rfl ?_;refine qI S rfl rfl ?_;refine mv ?_;refine qg ?_)|(refine qf 5 ?_;refine mv ?_)))
 ·have hj':j<Qo t:=by omega
  simp only [Int.toNat_natCast]
  refine VJ (z:=1) (by_:=8) (enc:=eI) (y0:=0) S rfl rfl rfl rfl rfl rfl rfl rfl rfl (by intro _;rfl) (by first|omega) rfl rfl ?_;clear S;intro v h S;refine mv ?_;refine qg ?_
  simp only [Int.toNat_natCast] at S
  all_goals (repeat' (first|refine qi ?_|refine qm ?_|(refine qf 6 ?_;refine mv ?_;refine ZC S rfl rfl ?_;refine mv ?_;refine qg ?_)))
  refine qE (σ:=Nat×List Int) (fun (k,p) h'=>Hs h0 h' (.sl v 3 1 eI p :: .sl vf 152 1 eF fs :: .any (YQ t fs) :: .blk bt (eT t) 25 :: rs)∧p.length=n∧k≤n∧∀ i,i<k→Qc p i=Zb t j i) (fun (k,p)=>n - k) (fun (k,p)=>[(0,yv l),(5,.int .i64 n),(7,.func (.func (fs.getD j default).1) #[] (fs.getD j default).2),(8,v),(24,vf),(25,.int .i64 fs.length),(26,.int .i64 j),(32,v),(33,.int .i64 n),(34,.int .i64 k)]) (0,List.replicate n 0) (by repeat (first|exact Ks.le_nil _|refine Ks.qh rfl ?_|refine Ks.zf ?_)) ?_ ?_
  ·exact ⟨S,by simp,Nat.zero_le _,fun i hi=>by omega⟩
  clear S
  rintro ⟨k,p⟩ h ⟨S,h1,h2,h3⟩
  all_goals (repeat' (first|refine qi ?_|refine ql rfl ?_|refine qo ?_|refine qA ?_|refine qm ?_|(refine qf 7 ?_;(first|(refine cS ?_ ?_<;>intro hc))<;>(refine qg ?_))|(refine qf 8 ?_;refine mv ?_;refine mv ?_;refine qg ?_)|(refine qf 9 ?_;(iterate 4 refine mv ?_);skip)|(refine qf 11 ?_;refine mv ?_;refine mv ?_)))
  ·have hk:k<n:=by omega
   (refine qN rfl rfl rfl rfl ((qg3 S (.there (.there .here)) hj' k (by omega) (by omega)).mono ?_);rintro _ h ⟨rfl,x⟩)<;>(replace S:=S.qy x;clear x;refine qH S rfl rfl ?_;(first|(refine ZK S rfl rfl ?_;clear S;intro h S));refine qg ?_)
   all_goals (repeat' (first|(refine qf 10 ?_;refine ad ?_;refine mv ?_;refine qg ?_)))
   refine ⟨(k+1,p.set k (Zb t j k)),?_,?_,(by repeat (first|exact Ks.le_nil _|refine Ks.qh rfl ?_))⟩
   ·show n - (k+1)<n - k;omega
   ·(try simp only [Int.toNat_natCast] at S)
    refine ⟨S,by simpa using h1,by omega,nxt (fun i hi=>?_) ?_⟩
    ·rw [PX _ (by omega),if_neg (by omega)];exact h3 i hi
    ·rw [PX _ (by omega),if_pos rfl]
  ·have hk:k=n:=by omega
   subst hk
   have ep:p=zN t j:=xh (by omega) fun i hi=>h3 i (by omega)
   subst ep
   all_goals (repeat' (fail))
   have pm:(Rs.sl vf 152 1 eF fs :: .any (YQ t fs) :: .blk bt (eT t) 25 :: rs).Perm (rs ++ [Rs.sl vf 152 1 eF fs,.any (YQ t fs),.blk bt (eT t) 25]):=List.perm_append_comm (l₁:=[Rs.sl vf 152 1 eF fs,.any (YQ t fs),.blk bt (eT t) 25]) (l₂:=rs)
   refine qeE rfl rfl rfl rfl ((Y j rs _ v h hj' hr (S.perm (pm.cons _))).mono ?_)
   clear S hr
   rintro _ h ⟨rfl,rs',hr,S⟩
   replace S:=S.perm (List.perm_append_comm (l₁:=rs') (l₂:=[Rs.sl vf 152 1 eF fs,.any (YQ t fs),.blk bt (eT t) 25]))
   refine vl ?_;refine qg ?_
   all_goals (repeat' (first|refine ql rfl ?_|refine qo ?_|(refine qf 12 ?_;refine ad ?_;refine mv ?_;refine qg ?_)))
   refine ⟨j+1,?_,?_,(by repeat (first|exact Ks.le_nil _|refine Ks.qh rfl ?_))⟩
   ·show Qo t - (j+1)<Qo t - j;omega
   ·exact ⟨by omega,rs',hr,S⟩
 ·have e:j=Qo t:=by omega
  subst e
  all_goals (repeat' (fail))
  refine ⟨_,rfl,?_⟩
  exact ⟨rs,hr,(S.del .here).del .here⟩
theorem qej {h0:AH} (w:WfH h0) (t:Tab):Fn Tryz.prog Xh 95 [jg t] h0 (fun v h'=>∃ b,v = .func (.func 139) #[] #[PT b]∧Hs h0 h' [.blk b (eT t) 25]):=by
 have S:=Hs.start w
 refine qF rfl Tryz.func95 rfl rfl ?_
 all_goals (repeat' (first|refine qi ?_|(refine qf 0 ?_;(refine bx S ?_;clear S;intro b h S);refine mv ?_;refine qg ?_)|(refine qf 1 ?_;refine vl ?_;refine mv ?_;refine qg ?_)))
 refine qx ⟨_,rfl,?_⟩
 exact ⟨_,rfl,S⟩
def LLp (LL:List PL) (h:AH) (fp:Fp):Prop:=∀ x,x∈LL→∃ f:Fp,(∀ b,f b→fp b)∧(Rs.sl x.1.val 3 1 eI x.2).ok h f
theorem LLp.ok {LL:List PL} {h:AH} {fp:Fp} (k:LLp LL h fp):(Rs.any (LLp LL)).ok h fp:=fun h' q x hx=>by
 obtain ⟨f,f1,f2⟩:=k x hx
 exact ⟨f,f1,f2.local fun b hb=>q b (f1 b hb)⟩
theorem LLp.sub {LL MM:List PL} {h:AH} {fp:Fp} (k:LLp LL h fp) (s:∀ x,x∈MM→x∈LL):LLp MM h fp:=fun x hx=>k x (s x hx)
theorem LLp.rd {LL:List PL} {h:AH} {fp:Fp} (k:LLp LL h fp) {x:PL} (hx:x∈LL):RdL h x.1.val 1 eI x.2:=by
 obtain ⟨f,-,k⟩:=k x hx
 rcases k with ⟨q1,q2⟩|⟨b,o,cc,slk,h1,h2,h3,h4,h5⟩
 ·rw [q1,q2];exact Rd.none_ h 1
 ·exact .inr ⟨b,o,_,cc,_,slk,false,h1,h2,h4⟩
theorem Hs.qfL {h0 h:AH} {rs:List Rs} {x:PL} {LL:List PL} (S:Hs h0 h (.sl x.1.val 3 1 eI x.2 :: .any (LLp LL) :: rs)):Hs h0 h (.any (LLp (LL ++ [x])) :: rs) :=
 S.merge fun f1 f2 k1 k2=>LLp.ok fun y hy=>by
  rcases List.mem_append.1 hy with hy|hy
  ·obtain ⟨f,q1,q2⟩:=k2 h (fun _ _=>rfl) y hy
   exact ⟨f,fun b hb=>.inr (q1 b hb),q2⟩
  ·obtain rfl:y=x:=by simpa using hy
   exact ⟨f1,fun b hb=>.inl hb,k1⟩
theorem Hs.qfZ {h0 h:AH} {rs:List Rs} {LL MM:List PL} (S:Hs h0 h (.any (LLp LL) :: rs)) (s:∀ x,x∈MM→x∈LL):Hs h0 h (.any (LLp MM) :: rs) :=
 S.conv fun fp k=>LLp.ok ((k h fun _ _=>rfl).sub s)
theorem Hs.qeZ {h0 h:AH} {rs:List Rs} (S:Hs h0 h rs):Hs h0 h (.any (LLp []) :: rs):=S.anyS fun h' x hx=>by cases hx
theorem Hs.qfM {h0 h:AH} {rs:List Rs} {α:Type} {z:Nat} {enc:α→List Value} (S:Hs h0 h rs):Hs h0 h (.rd (.slice none 0 0) z enc [] :: rs) :=
 S.grow (fp:=fun _=>False) (Ext.refl S.wf) (.inl ⟨rfl,rfl⟩) fun b hb=>hb.elim
theorem qdv {h0:AH} (w:WfH h0) (t:Tab) {b:Nat} (hb:h0.get b=some (.cells (eT t) 25 none false)) (k:Int):Fn Tryz.prog Xh 94 [.int .i64 k,PT b] h0 (fun v h'=>BoolIs v (k<0∨qC t≤k)∧Hs h0 h' []):=by
 have S:=Hs.start w
 refine qF rfl Tryz.func94 rfl rfl ?_
 all_goals (repeat' (first|refine qi ?_|refine ql rfl ?_|refine qo ?_|refine qA ?_|refine qm ?_|refine qR ?_|(refine qf 0 ?_;refine mv ?_;refine qg ?_)|(refine qf 1 ?_;refine mv ?_;(first|refine cT ?_|refine cF ?_|(refine cS ?_ ?_<;>intro hc))<;>(refine mv ?_;(first|refine off ?_|refine mv ?_);(first|refine off ?_|(first|refine lB S rfl rfl ?_|refine qI S rfl rfl ?_|refine zS S ?_|refine lH S ?_));(first|(refine off ?_;(first|refine off ?_|(first|refine cT ?_|refine cF ?_|(refine cS ?_ ?_<;>intro hc)))<;>(refine vl ?_;refine mv ?_;refine qg ?_))|skip)))))
 ·refine qx ⟨_,rfl,?_⟩
  exact ⟨.inl ⟨rfl,.inl hc⟩,S⟩
 ·(refine qw rfl rfl rfl rfl rfl ((Ze S.wf t).mono ?_);rintro _ h ⟨rfl,x⟩)<;>(replace S:=S.qy x;clear x;(first|refine off ?_|(first|refine cT ?_|refine cF ?_|(refine cS ?_ ?_<;>intro hc)))<;>(refine vl ?_;refine mv ?_;refine qg ?_))
  all_goals (repeat' (first|refine qi ?_|refine ql rfl ?_|refine qo ?_|refine qA ?_|refine qm ?_|refine qR ?_))
  all_goals (refine qx ⟨_,rfl,?_⟩)
  ·exact ⟨.inl ⟨rfl,.inr (by omega)⟩,S⟩
  ·exact ⟨.inr ⟨rfl,by omega⟩,S⟩
theorem qdu {h0:AH} (w:WfH h0) {b:Nat} {pv:Value} {p:List Int} (hb:h0.get b=some (.cells [pv] 23 none false)) (hp:RdL h0 pv 1 eI p) (x:Int) (hx:0≤x∧x<p.length):Fn Tryz.prog Xh 97 [.int .i64 x,PT b] h0 (fun v h'=>BoolIs v (Qc p x.toNat≠x)∧Hs h0 h' []):=by
 have S:=Hs.start w
 refine qF rfl Tryz.func97 rfl rfl ?_
 all_goals (repeat' (first|refine qi ?_|refine ql rfl ?_|refine qo ?_|refine qA ?_|refine qm ?_|refine qR ?_|(refine qf 0 ?_;refine mv ?_;refine qg ?_)|(refine qf 1 ?_;(first|refine lB S rfl rfl ?_|refine qI S rfl rfl ?_|refine zS S ?_|refine lH S ?_);refine mv ?_;(first|refine jv S ?_|refine qH S rfl rfl ?_);(first|refine lB S rfl rfl ?_|refine qI S rfl rfl ?_|refine zS S ?_|refine lH S ?_);refine mv ?_;(first|refine cT ?_|refine cF ?_|(refine cS ?_ ?_<;>intro hc))<;>(refine mv ?_;refine qg ?_))))
 all_goals (refine qx ⟨_,rfl,?_⟩)
 ·exact ⟨.inl ⟨rfl,hc⟩,S⟩
 ·exact ⟨.inr ⟨rfl,hc⟩,S⟩
theorem qe9:WOrd (fun x y:PL=>Jl x.2 y.2) where
 irr x:=ZN _
 tr:=Zc
 ntr:=fun {x y z} h1 h2 h3=>by
  rcases KG x.2 y.2 with q|q|q
  ·exact h2 (Zc h3 q)
  ·exact h2 (by rw [← q];exact h3)
  ·exact h1 q
structure Took (t:Tab) (st:List Int) (k:Nat) (LL:List PL):Prop where
 mem:∀ p,p∈LL.map (·.2)↔∃ j,j<k∧acc t st j∧p=zN t j
 len:LL.length≤k
theorem Took.zero {t:Tab} {st:List Int}:Took t st 0 []:=⟨fun p=>⟨fun h=>(List.not_mem_nil h).elim,fun ⟨j,h,_⟩=>by omega⟩,Nat.le_refl _⟩
theorem Took.yes {t:Tab} {st:List Int} {k:Nat} {LL:List PL} (T:Took t st k LL) (a:acc t st k) (s:SlV):Took t st (k+1) (LL ++ [(s,zN t k)]):=by
 refine ⟨fun p=>?_,by have:=T.len;simp;omega⟩
 rw [List.map_append,List.mem_append,T.mem]
 constructor
 ·rintro (⟨j,h1,h2⟩|h)
  ·exact ⟨j,by omega,h2⟩
  ·exact ⟨k,by omega,a,by simpa using h⟩
 ·rintro ⟨j,h1,h2,rfl⟩
  rcases Nat.lt_or_ge j k with q|q
  ·exact .inl ⟨j,q,h2,rfl⟩
  ·obtain rfl:j=k:=by omega
   exact .inr (by simp)
theorem Took.no {t:Tab} {st:List Int} {k:Nat} {LL:List PL} (T:Took t st k LL) (a:¬ acc t st k):Took t st (k+1) LL:=by
 refine ⟨fun p=>?_,by have:=T.len;omega⟩
 rw [T.mem]
 constructor
 ·rintro ⟨j,h1,h2⟩
  exact ⟨j,by omega,h2⟩
 ·rintro ⟨j,h1,h2⟩
  rcases Nat.lt_or_ge j k with q|q
  ·exact ⟨j,q,h2⟩
  ·obtain rfl:j=k:=by omega
   exact absurd h2.1 a
theorem Took.lens {t:Tab} {st:List Int} {k:Nat} {LL:List PL} (T:Took t st k LL) {x:PL} (hx:x∈LL):x.2.length=(qC t).toNat:=by
 obtain ⟨j,-,-,e⟩:=(T.mem x.2).1 (List.mem_map_of_mem hx)
 rw [e,ja]
theorem zI {α:Type} [Inhabited α] {l:List α} {x:α}:x∈l↔∃ i,i<l.length∧l.getD i default=x:=by
 rw [List.mem_iff_getElem]
 constructor
 ·rintro ⟨k,hk,rfl⟩;exact ⟨k,hk,by simp [List.getD_eq_getElem?_getD,hk]⟩
 ·rintro ⟨k,hk,rfl⟩;exact ⟨k,hk,by simp [List.getD_eq_getElem?_getD,hk]⟩
theorem Took.fin {t:Tab} {st:List Int} {LL MM out:List PL} (T:Took t st (Qo t) LL) (pm:MM.Perm LL) (h1:Gx out) (h2:qhC out MM) (h3:qhJ out MM):TurnL t st (out.map (·.2))∧∀ x,x∈out→x∈LL:=by
 have sub:∀ x,x∈out→x∈LL:=fun x hx=>by
  obtain ⟨i,hi,rfl⟩:=zI.1 hx
  obtain ⟨j,hj,e⟩:=h2 i hi
  rw [e]
  exact pm.mem_iff.1 (zI.2 ⟨j,hj,rfl⟩)
 refine ⟨⟨qch h1,fun p=>?_⟩,sub⟩
 rw [← T.mem]
 constructor
 ·intro h
  obtain ⟨x,hx,rfl⟩:=List.mem_map.1 h
  exact List.mem_map_of_mem (sub x hx)
 ·intro h
  obtain ⟨x,hx,rfl⟩:=List.mem_map.1 h
  obtain ⟨j,hj,rfl⟩:=zI.1 (pm.mem_iff.2 hx)
  obtain ⟨i,hi,e⟩:=h3 j hj
  rw [← e]
  exact List.mem_map_of_mem (zI.2 ⟨i,hi,rfl⟩)
def StR (o:Qn) (l b5 b3 b2:Nat) (sv:Value) (t:Tab) (st:List Int) (k:Nat) (rs:List Rs):Prop :=
 ∃ (vs:SlV) (LL:List PL),Took t st k LL∧rs=[lpR l o,.blk b5 [vs.val] 53,.sl vs.val 23 1 eP LL,.any (LLp LL),.blk b3 [sv] 23,.blk b2 (eT t) 25]
theorem qbB {h0:AH} (w:WfH h0) (t:Tab) (r:TabR h0 t) (sv:Value) (st:List Int) (hsv:RdL h0 sv 1 eI st) (hst:st.length≤1000000) :
 Fn Tryz.prog Xh 40 [jg t,sv] h0 (fun v h'=>∃ out:List PL,StayL t st (out.map (·.2))∧Hs h0 h' [.rd v 1 eP out,.any (LLp out)]):=by
 obtain ⟨s0,rfl⟩:=hsv.Xq
 have S:=Hs.start w
 refine qF rfl Tryz.func40 rfl rfl ?_
 all_goals (repeat' (first|refine qi ?_|refine ql rfl ?_|refine qo ?_|refine qA ?_|refine qm ?_|refine qR ?_|(refine qf 0 ?_;(refine bx S ?_;clear S;intro b h S);(refine bx S ?_;clear S;intro b h S);refine mv ?_;refine qg ?_)|(refine qf 1 ?_;(first|refine lB S rfl rfl ?_|refine qI S rfl rfl ?_|refine zS S ?_|refine lH S ?_))))
 obtain ⟨b3,hnm⟩:∃ x,x=b:=⟨_,rfl⟩;subst hnm
 obtain ⟨b2,hnm⟩:∃ x,x=b:=⟨_,rfl⟩;subst hnm
 (refine qw rfl rfl rfl rfl rfl ((XN S.wf t ⟨r.1.ext w S.ext,r.2⟩).mono ?_);rintro _ h ⟨rfl,x⟩)<;>(replace S:=S.qy x;clear x;(first|refine cT ?_|refine cF ?_|(refine cS ?_ ?_<;>intro hc))<;>(refine mv ?_;(first|refine off ?_|(first|refine lB S rfl rfl ?_|refine qI S rfl rfl ?_|refine zS S ?_|refine lH S ?_));(first|refine off ?_|refine vl ?_);(first|(refine off ?_;refine vl ?_;refine qg ?_)|skip)))
 ·refine ql rfl ?_
  skip
  all_goals (repeat' (first|refine qi ?_|refine ql rfl ?_|refine qo ?_|refine qA ?_|refine qm ?_|refine qR ?_|(refine qf 2 ?_;refine mv ?_;refine qg ?_)))
  refine qx ⟨_,rfl,?_⟩
  exact ⟨[],.inr ⟨fun q=>hc q.1,rfl⟩,S.drop.qeZ.qfM⟩
 have hchk:chk t=0:=by omega
 have hs:=xu hchk
 (refine qw rfl rfl rfl rfl rfl ((Zy S.wf s0.val st (hsv.ext w S.ext) hst (94,#[PT b2]) (fun x=>x<0∨qC t≤x) (fun h1 i x _ _=>qdv x.wf t (x.get S.wf (ZP S (.there .here))) _)).mono ?_);rintro _ h ⟨⟨rfl,hq⟩|⟨rfl,hq⟩,x⟩)<;>(replace S:=S.qy x;clear x;refine vl ?_;refine qg ?_)
 ·all_goals (repeat' (first|refine qi ?_|refine ql rfl ?_|refine qo ?_|refine qA ?_|refine qm ?_|refine qR ?_|(refine qf 2 ?_;refine mv ?_;refine qg ?_)|(refine qf 3 ?_;(refine al S ?_;clear S;intro b h S);refine qg ?_)|(refine qf 4 ?_;(first|refine lB S rfl rfl ?_|refine qI S rfl rfl ?_|refine zS S ?_|refine lH S ?_))))
  refine qx ⟨_,rfl,?_⟩
  refine ⟨[],.inr ⟨fun q=>?_,rfl⟩,S.drop.qeZ.qfM⟩
  obtain ⟨i,hi,hq⟩:=hq
  have:=q.2 _ (zI.2 ⟨i,hi,rfl⟩)
  omega
 have hso:qbv t st:=fun x hx=>by
  obtain ⟨i,hi,rfl⟩:=zI.1 hx
  have:¬ (st.getD i default<0∨qC t≤st.getD i default):=fun q=>hq ⟨i,hi,q⟩
  omega
 clear hq
 all_goals (repeat' (first|refine qi ?_|refine ql rfl ?_|refine qo ?_|refine qA ?_|refine qm ?_|refine qR ?_|(refine qf 2 ?_;refine mv ?_;refine qg ?_)|(refine qf 3 ?_;(refine al S ?_;clear S;intro b h S);refine qg ?_)|(refine qf 4 ?_;(first|refine lB S rfl rfl ?_|refine qI S rfl rfl ?_|refine zS S ?_|refine lH S ?_))))
 obtain ⟨b5,hnm⟩:∃ x,x=b:=⟨_,rfl⟩;subst hnm
 (refine qw rfl rfl rfl rfl rfl ((qej S.wf t).mono ?_);rintro _ h ⟨bt,rfl,x⟩)<;>(replace S:=S.jo x;clear x;refine qg ?_)
 all_goals (repeat' (first|refine qi ?_|refine ql rfl ?_|refine qo ?_|refine qA ?_|refine qm ?_|refine qR ?_))
 refine qfE S rfl ?_
 intro l tt h1 hk S1
 clear S
 replace S1:=S1.qeZ.jP (α:=PL) (e:=23) (z:=1) (enc:=eP)
 have S:=((S1.front (.there (.there (.there (.there .here))))).front (.there (.there (.there .here)))).front (.there (.there (.there (.there .here))))
 refine (qei t hs S (StR _ l b5 b3 b2 s0.val t st) ⟨⟨none,0,0⟩,[],.zero,rfl⟩ ?_).mono ?_
 ·clear S S1
  rintro k rs own v h hk' ⟨vs,LL,T,rfl⟩ S
  simp only [List.cons_append,List.nil_append] at S
  have hll:=T.len
  have hmn:=KD hs
  have htl:=qK t
  have hbd:∀ i,i<st.length→0≤st.getD i default∧st.getD i default<((zN t k).length:Int):=fun i hi=>by
   have:=hso _ (zI.2 ⟨i,hi,rfl⟩)
   rw [ja];omega
  have hcl:((zN t k).length:Int)=qC t:=by rw [ja];omega
  have hcb:∀ i,i<(zN t k).length→0≤Qc (zN t k) i∧Qc (zN t k) i<qC t:=fun i hi=>Gi hs hk' (by rw [ja] at hi;exact hi)
  obtain ⟨pv,rfl⟩:=(Rd.zo S .here).Xq
  replace S:=S.front (.there .here)
  refine qh1 hk S rfl ?_
  skip
  all_goals (repeat' (first|refine qi ?_|refine ql rfl ?_|refine qo ?_|refine qA ?_|refine qm ?_|refine qR ?_|(refine qf 5 ?_;(refine al S ?_;clear S;intro b h S);(first|(refine sB S rfl rfl ?_;clear S;intro h S)|(refine ZK S rfl rfl ?_;clear S;intro h S));refine qg ?_)))
  obtain ⟨b6,hnm⟩:∃ x,x=b:=⟨_,rfl⟩;subst hnm
  refine ⟨rfl,_,S.front (.there .here),?_⟩
  clear S
  intro h S
  skip
  all_goals (repeat' (first|refine qi ?_|refine ql rfl ?_|refine qo ?_|refine qA ?_|refine qm ?_|refine qR ?_|(refine qf 6 ?_;(first|refine lB S rfl rfl ?_|refine qI S rfl rfl ?_|refine zS S ?_|refine lH S ?_);(first|refine lB S rfl rfl ?_|refine qI S rfl rfl ?_|refine zS S ?_|refine lH S ?_))))
  (refine qw rfl rfl rfl rfl rfl ((qd5 S.wf t ⟨r.1.ext w S.ext,r.2⟩ hs pv.val (zN t k) (Rd.zo S (.there (.there .here))) hcl hcb).mono ?_);rintro _ h ⟨⟨rfl,hq⟩|⟨rfl,hq⟩,x⟩)<;>(replace S:=S.qy x;clear x;refine mv ?_;(first|refine off ?_|(first|refine lB S rfl rfl ?_|refine qI S rfl rfl ?_|refine zS S ?_|refine lH S ?_));(first|refine off ?_|refine vl ?_);(first|(refine off ?_;(first|refine off ?_|refine vl ?_);refine vl ?_;refine qg ?_)|skip))
  ·(refine qw rfl rfl rfl rfl rfl ((Zy S.wf s0.val st (hsv.ext w S.ext) hst (97,#[PT b6]) (fun x=>Qc (zN t k) x.toNat≠x) (fun h1 i x hi _=>qdu x.wf (x.get S.wf (ZP S (.there .here))) ((Rd.zo S (.there (.there .here))).ext S.wf x) _ (hbd i hi))).mono ?_);rintro _ h ⟨⟨rfl,hq2⟩|⟨rfl,hq2⟩,x⟩)<;>(replace S:=S.qy x;clear x;(first|refine off ?_|refine vl ?_);refine vl ?_;refine qg ?_)
   ·all_goals (repeat' (first|refine qi ?_|refine ql rfl ?_|refine qo ?_|refine qA ?_|refine qm ?_|refine qR ?_|(refine qf 6 ?_;(first|refine lB S rfl rfl ?_|refine qI S rfl rfl ?_|refine zS S ?_|refine lH S ?_);(first|refine lB S rfl rfl ?_|refine qI S rfl rfl ?_|refine zS S ?_|refine lH S ?_))))
    replace S:=(S.del (.there .here)).del (.there .here)
    refine ⟨rfl,_,S,fun h4 S=>⟨rfl,_,⟨vs,_,T.no fun a=>?_,rfl⟩,S⟩⟩
    obtain ⟨i,hi,hq2⟩:=hq2
    exact hq2 (a.2 _ (zI.2 ⟨i,hi,rfl⟩))
   ·all_goals (repeat' (first|refine qi ?_|refine ql rfl ?_|refine qo ?_|refine qA ?_|refine qm ?_|refine qR ?_|(refine qf 6 ?_;(first|refine lB S rfl rfl ?_|refine qI S rfl rfl ?_|refine zS S ?_|refine lH S ?_);(first|refine lB S rfl rfl ?_|refine qI S rfl rfl ?_|refine zS S ?_|refine lH S ?_))|(refine qf 7 ?_;(first|refine lB S rfl rfl ?_|refine qI S rfl rfl ?_|refine zS S ?_|refine lH S ?_);(first|refine lB S rfl rfl ?_|refine qI S rfl rfl ?_|refine zS S ?_|refine lH S ?_);(refine one 1 S ?_;clear S;intro u h S))))
    refine app (y0:=(pv,zN t k)) S rfl rfl ?_;clear S;intro v h S;obtain ⟨v2,rfl⟩:=(Rd.zo S .here).Xq;(first|(refine sB S rfl rfl ?_;clear S;intro h S)|(refine ZK S rfl rfl ?_;clear S;intro h S));refine qg ?_
    all_goals (repeat' (first|refine qi ?_|refine ql rfl ?_|refine qo ?_|refine qA ?_|refine qm ?_|refine qR ?_|(refine qf 6 ?_;(first|refine lB S rfl rfl ?_|refine qI S rfl rfl ?_|refine zS S ?_|refine lH S ?_);(first|refine lB S rfl rfl ?_|refine qI S rfl rfl ?_|refine zS S ?_|refine lH S ?_))|(refine qf 7 ?_;(first|refine lB S rfl rfl ?_|refine qI S rfl rfl ?_|refine zS S ?_|refine lH S ?_);(first|refine lB S rfl rfl ?_|refine qI S rfl rfl ?_|refine zS S ?_|refine lH S ?_);(refine one 1 S ?_;clear S;intro u h S))))
    replace S:=(S.front (.there (.there (.there (.there (.there .here)))))).front (.there (.there (.there (.there .here))))
    replace S:=Hs.qfL (x:=(pv,zN t k)) S
    replace S:=((S.front (.there .here)).front (.there (.there (.there (.there .here))))).front (.there (.there (.there .here)))
    replace S:=S.del (.there (.there (.there (.there .here))))
    refine ⟨rfl,_,S,fun h4 S=>⟨rfl,_,⟨v2,_,T.yes ⟨hq,fun x hx=>?_⟩ pv,rfl⟩,S⟩⟩
    obtain ⟨i,hi,rfl⟩:=zI.1 hx
    exact Classical.not_not.1 fun z=>hq2 ⟨i,hi,z⟩
  ·all_goals (repeat' (first|refine qi ?_|refine ql rfl ?_|refine qo ?_|refine qA ?_|refine qm ?_|refine qR ?_|(refine qf 6 ?_;(first|refine lB S rfl rfl ?_|refine qI S rfl rfl ?_|refine zS S ?_|refine lH S ?_);(first|refine lB S rfl rfl ?_|refine qI S rfl rfl ?_|refine zS S ?_|refine lH S ?_))))
   replace S:=(S.del (.there .here)).del (.there .here)
   exact ⟨rfl,_,S,fun h4 S=>⟨rfl,_,⟨vs,_,T.no fun a=>hq a.1,rfl⟩,S⟩⟩
 ·clear S S1
  rintro _ h ⟨rs',⟨vs,LL,T,rfl⟩,S⟩
  refine ⟨_,S.front (.there .here),?_⟩
  clear S
  intro h S
  have hll:=T.len
  have hmn:=KD hs
  have htl:=qK t
  skip
  all_goals (repeat' (first|refine qi ?_|refine ql rfl ?_|refine qo ?_|refine qA ?_|refine qm ?_|refine qR ?_|(refine qf 8 ?_;(first|refine lB S rfl rfl ?_|refine qI S rfl rfl ?_|refine zS S ?_|refine lH S ?_))))
  replace S:=S.front (.there (.there .here))
  have C:Js h0 vs.val [.blk bt (eT t) 25,.blk b5 [vs.val] 53,.any (LLp LL),.blk b3 [s0.val] 23,.blk b2 (eT t) 25] 57 [] (fun x y=>Jl x.2 y.2) (fun x=>x∈LL):=fun h l x y S hx hy=>by
   obtain ⟨fp,k⟩:=S.Xb (.there (.there (.there .here)))
   refine (qbi S.wf _ _ x.2 y.2 (k.rd hx) (k.rd hy) (by rw [T.lens hx];omega) (by rw [T.lens hy];omega)).mono ?_
   rintro v h' ⟨d,rfl,c,xx⟩
   refine ⟨d,rfl,?_,xx⟩
   rcases c with ⟨c1,c2⟩|⟨c1,c2⟩|⟨c1,c2⟩
   ·exact .inl ⟨c1,c2⟩
   ·exact .inr ⟨by omega,fun q=>by
     have q:Jl x.2 y.2:=q
     rw [c2] at q
     exact ZN _ q⟩
   ·exact .inr ⟨by omega,fun q=>qac q c2⟩
  have E:qhI h0 vs.val [.blk bt (eT t) 25,.blk b5 [vs.val] 53,.any (LLp LL),.blk b3 [s0.val] 23,.blk b2 (eT t) 25] (fun x=>x∈LL):=fun h l x y S hx hy=>by
   obtain ⟨fp,k⟩:=S.Xb (.there (.there (.there .here)))
   exact Jd S.wf _ _ x.2 y.2 (k.rd hx) (k.rd hy) (by rw [T.lens hx];omega) (by rw [T.lens hy];omega)
  (refine qw rfl rfl rfl rfl rfl ((sort_c S C (fun k hk=>zI.2 ⟨k,hk,rfl⟩) qe9 (by omega)).mono ?_);rintro _ h ⟨MM,sw,srt,S2⟩)<;>(replace S:=S2;clear S2;refine qg ?_)
  have pm:=sw.perm
  have pl:=pm.length_eq
  all_goals (repeat' (first|refine qi ?_|refine ql rfl ?_|refine qo ?_|refine qA ?_|refine qm ?_|refine qR ?_|(refine qf 8 ?_;(first|refine lB S rfl rfl ?_|refine qI S rfl rfl ?_|refine zS S ?_|refine lH S ?_))|(refine qf 9 ?_;(first|refine lB S rfl rfl ?_|refine qI S rfl rfl ?_|refine zS S ?_|refine lH S ?_))))
  (refine qw rfl rfl rfl rfl rfl ((qas S (by omega) E (fun k hk=>pm.mem_iff.1 (zI.2 ⟨k,hk,rfl⟩)) (fun i j q1 q2=>(Nat.eq_or_lt_of_le q1).elim (fun e=>e ▸ ZN _) fun q=>srt i j (Nat.zero_le _) q (by omega))).mono ?_);rintro rv h ⟨out,o1,o2,o3,o4,S2⟩)<;>(replace S:=S2;clear S2;refine mv ?_;refine qg ?_)
  all_goals (repeat' (first|refine qi ?_|refine ql rfl ?_|refine qo ?_|refine qA ?_|refine qm ?_|refine qR ?_))
  refine qx ⟨_,rfl,?_⟩
  have F:=T.fin pm o1 o2 o3
  replace S:=((S.front (.there (.there (.there .here)))).qfZ F.2).front (.there .here)
  iterate 4 replace S:=S.del (.there (.there .here))
  exact ⟨out,.inl ⟨hchk,hso,F.1⟩,S⟩
theorem GN {h0:AH} (w:WfH h0) (t:Tab) (r:TabR h0 t):Fn Tryz.prog Xh 39 [jg t] h0 (fun v h'=>∃ out:List PL,StayL t [] (out.map (·.2))∧Hs h0 h' [.rd v 1 eP out,.any (LLp out)]):=by
 have S:=Hs.start w
 refine qF rfl Tryz.func39 rfl rfl ?_
 all_goals (repeat' (first|refine qi ?_|refine ql rfl ?_|refine qo ?_|refine qA ?_|refine qm ?_|refine qR ?_|(refine qf 0 ?_;(refine bx S ?_;clear S;intro b h S);refine mv ?_;refine qg ?_)|(refine qf 1 ?_;(first|refine lB S rfl rfl ?_|refine qI S rfl rfl ?_|refine zS S ?_|refine lH S ?_))))
 (refine qw rfl rfl rfl rfl rfl ((qbB S.wf t ⟨r.1.ext w S.ext,r.2⟩ (.slice none 0 0) [] (Rd.none_ _ 1) (Nat.zero_le _)).mono ?_);rintro v h ⟨out,ho,x⟩)<;>(replace S:=S.Xn x;clear x;refine mv ?_;refine qg ?_)
 all_goals (repeat' (first|refine qi ?_|refine ql rfl ?_|refine qo ?_|refine qA ?_|refine qm ?_|refine qR ?_))
 refine qx ⟨_,rfl,?_⟩
 exact ⟨out,ho,S.del (.there (.there .here))⟩
def qff (l:List Int) (q:List Int) (i:Nat):List Int:=q.set (l.getD i 0).toNat (i:Int)
def qhh (l:List Int) (i:Nat):List Int:=(List.range i).foldl (qff l) (List.replicate l.length 0)
def qhW (p q:List Int) (i:Nat):List Int:=(q.take i).map (fun x=>p.getD x.toNat 0) ++ List.replicate (q.length - i) 0
def compose (p q:List Int):List Int:=q.map (fun x=>p.getD x.toNat 0)
def qhX (p q:List Int):Bool:=decide (p.length=q.length) && (Kw p && Kw q)
def nums (n:Nat):List Int:=(List.range n).map (fun (k:Nat)=>(k:Int))
abbrev InB (t:Tab) (k:Int):Prop:=0≤k∧k<qC t
def KeepF (t:Tab) (f:Int→Int):Prop:=∀ k,InB t k→(ZA t k↔ZA t (f k))∧∀ m,InB t m→(zk t k m↔zk t (f k) (f m))∧(zt t k m↔zt t (f k) (f m))
theorem ZQ (t:Tab) (k:Int):¬ zk t k k:=fun h=>h.1 rfl
theorem ZR (t:Tab) (k:Int):¬ zt t k k:=fun h=>h.1 rfl
theorem qcE {t:Tab} {p:List Int} {f:Int→Int} (hl:p.length=(qC t).toNat) (e:∀ k:Nat,k<p.length→Qc p k=f k):kX t p↔KeepF t f:=by
 constructor
 ·intro h
  have H:∀ a b:Nat,a<p.length→b<p.length→(zk t a b↔zk t (f a) (f b))∧(zt t a b↔zt t (f a) (f b)):=by
   intro a b ha hb
   rcases Nat.lt_trichotomy a b with q|rfl|q
   ·have:=(h b hb).2 a q
    unfold WP at this
    rw [e a ha,e b hb] at this
    exact ⟨(jM t _ _).trans (this.1.trans (jM t _ _)),(QV t _ _).trans (this.2.trans (QV t _ _))⟩
   ·exact ⟨⟨fun z=>absurd z (ZQ t _),fun z=>absurd z (ZQ t _)⟩,⟨fun z=>absurd z (ZR t _),fun z=>absurd z (ZR t _)⟩⟩
   ·have:=(h a ha).2 b q
    unfold WP at this
    rw [e a ha,e b hb] at this
    exact this
  intro k hk
  obtain ⟨k,rfl⟩:=Int.eq_ofNat_of_zero_le hk.1
  have hk':k<p.length:=by have:=hk.2;omega
  have h1:=(h k hk').1
  rw [e k hk'] at h1
  refine ⟨h1,fun m hm=>?_⟩
  obtain ⟨m,rfl⟩:=Int.eq_ofNat_of_zero_le hm.1
  exact H k m hk' (by have:=hm.2;omega)
 ·intro h k hk
  have i:InB t k:=⟨by omega,by omega⟩
  refine ⟨by rw [e k hk];exact (h k i).1,fun m hm=>?_⟩
  unfold WP
  rw [e k hk,e m (by omega)]
  exact (h k i).2 m ⟨by omega,by omega⟩
section
variable {t:Tab}
theorem KeepF.mul {f g:Int→Int} (hf:KeepF t f) (hg:KeepF t g) (b:∀ k,InB t k→InB t (g k)):KeepF t fun k=>f (g k):=fun k hk =>
 ⟨(hg k hk).1.trans (hf _ (b k hk)).1,fun m hm=>⟨((hg k hk).2 m hm).1.trans ((hf _ (b k hk)).2 _ (b m hm)).1,((hg k hk).2 m hm).2.trans ((hf _ (b k hk)).2 _ (b m hm)).2⟩⟩
theorem KeepF.congr {f g:Int→Int} (hf:KeepF t f) (e:∀ k,InB t k→f k=g k):KeepF t g:=fun k hk =>
 ⟨by rw [← e k hk];exact (hf k hk).1,fun m hm=>by rw [← e k hk,← e m hm];exact (hf k hk).2 m hm⟩
theorem KeepF.one:KeepF t fun k=>k:=fun k hk=>⟨Iff.rfl,fun m hm=>⟨Iff.rfl,Iff.rfl⟩⟩
theorem qfw {st:List Int} (hst:qbv t st) {j:Nat}:acc t st j↔KeepF t (Zb t j)∧∀ x,x∈st→Zb t j x=x:=by
 unfold acc
 rw [qcE (ja t j) fun k hk=>Yb (by rw [ja] at hk;exact hk)]
 refine and_congr Iff.rfl ⟨fun h x hx=>?_,fun h x hx=>?_⟩
 all_goals
  have b:=hst x hx
  have:=h x hx
  have e:=Yb (t:=t) (j:=j) (k:=x.toNat) (by omega)
  rw [show ((x.toNat:Nat):Int)=x by omega] at e
 ·rw [← e];exact this
 ·rw [e];exact this
theorem G7:qbv t []:=fun x hx=>by cases hx
def Trn (t:Tab) (p:List Int):Prop:=∃ j,j<Qo t∧KeepF t (Zb t j)∧p=zN t j
theorem qfv {j:Nat}:acc t [] j↔KeepF t (Zb t j):=(qfw G7).trans ⟨fun h=>h.1,fun h=>⟨h,fun x hx=>by cases hx⟩⟩
theorem TurnL.trn {ls:List (List Int)} (H:TurnL t [] ls) (p:List Int):p∈ls↔Trn t p :=
 (H.mem p).trans (exists_congr fun j=>and_congr Iff.rfl (and_congr qfv Iff.rfl))
theorem Trn.len {p:List Int} (h:Trn t p):p.length=(qC t).toNat:=by
 obtain ⟨j,-,-,rfl⟩:=h
 exact ja t j
theorem qgf (hs:TabS t) {j:Nat} (hj:j<Qo t) (k:Int) (hk:InB t k):InB t (Zb t j k):=P8 hs hj hk
theorem Trn.bnd (hs:TabS t) {p:List Int} (h:Trn t p) {k:Nat} (hk:k<(qC t).toNat):0≤Qc p k∧Qc p k<qC t:=by
 obtain ⟨j,hj,-,rfl⟩:=h
 exact Gi hs hj hk
theorem yf (n:Nat):(nums n).length=n:=by simp [nums]
theorem Kz {n k:Nat} (h:k<n):Qc (nums n) k=k:=by simp [nums,Qc,List.getD_eq_getElem?_getD,h]
theorem qc0 (hs:TabS t):zN t 0=nums (qC t).toNat:=by
 refine (xh (yf _) fun k hk=>?_).symm
 rw [Kz hk,qbP hs ⟨by omega,by omega⟩]
theorem Trn.one (hs:TabS t):Trn t (nums (qC t).toNat):=⟨0,by have:=qe1 hs;omega,KeepF.one.congr fun k hk=>(qbP hs hk).symm,(qc0 hs).symm⟩
theorem yU {p q:List Int} {k:Nat} (h:k<q.length):Qc (compose p q) k=Qc p (Qc q k).toNat:=by
 simp [compose,Qc,List.getD_eq_getElem?_getD,h]
theorem Gg (hs:TabS t) {i j m:Nat} (hj:j<Qo t) (e:∀ k,0≤k→k<qC t→Zb t i (Zb t j k)=Zb t m k):compose (zN t i) (zN t j)=zN t m:=by
 refine xh (by simp [compose,ja]) fun k hk=>?_
 have b:=P8 hs hj (k:=k) ⟨by omega,by omega⟩
 have e1:=Yb (t:=t) (j:=i) (k:=(Zb t j k).toNat) (by omega)
 rw [yU (by rw [ja];exact hk),Yb hk,e1,← e k (by omega) (by omega),show (((Zb t j k).toNat:Nat):Int)=Zb t j k by omega]
theorem Trn.mul (hs:TabS t) {p q:List Int} (hp:Trn t p) (hq:Trn t q):Trn t (compose p q):=by
 obtain ⟨i,hi,ki,rfl⟩:=hp
 obtain ⟨j,hj,kj,rfl⟩:=hq
 obtain ⟨m,hm,e⟩:=qe2 hs hi hj
 exact ⟨m,hm,(ki.mul kj (qgf hs hj)).congr fun k hk=>e k hk.1 hk.2,Gg hs hj e⟩
theorem qek (hs:TabS t) {j:Nat} (hj:j<Qo t) {x y:Int} (hx:InB t x) (hy:InB t y) (e:Zb t j x=Zb t j y):x=y:=by
 obtain ⟨m,hm,h⟩:=qe3 hs hj
 rw [← (h x hx.1 hx.2).2,← (h y hy.1 hy.2).2,e]
theorem qbl (hs:TabS t) {j:Nat} (hj:j<Qo t):(zN t j).Nodup:=by
 refine wV List.nodup_range fun x y hx hy e=>?_
 rw [List.mem_range] at hx hy
 have:=qek hs hj (x:=(x:Nat)) (y:=(y:Nat)) ⟨by omega,by omega⟩ ⟨by omega,by omega⟩ e
 omega
theorem qe5 {p:List Int} {x:Int}:x∈p↔∃ k,k<p.length∧Qc p k=x:=by
 rw [List.mem_iff_getElem]
 constructor
 ·rintro ⟨k,hk,rfl⟩;exact ⟨k,hk,by simp [Qc,List.getD_eq_getElem?_getD,hk]⟩
 ·rintro ⟨k,hk,rfl⟩;exact ⟨k,hk,by simp [Qc,List.getD_eq_getElem?_getD,hk]⟩
theorem qc7 (hs:TabS t) {j:Nat} (hj:j<Qo t):Kw (zN t j)=true:=by
 refine decide_eq_true ⟨fun x hx=>?_,qbl hs hj⟩
 obtain ⟨k,hk,rfl⟩:=qe5.1 hx
 rw [ja] at hk ⊢
 have:=Gi hs hj hk
 omega
theorem Trn.perm (hs:TabS t) {p:List Int} (h:Trn t p):Kw p=true:=by
 obtain ⟨j,hj,-,rfl⟩:=h
 exact qc7 hs hj
abbrev qh8 (p:List Int):List Int:=qhh p p.length
theorem Trn.one_mul (hs:TabS t) {p:List Int} (h:Trn t p):compose (nums (qC t).toNat) p=p:=by
 refine KW (by simp [compose]) fun k hk=>?_
 rw [show (compose (nums (qC t).toNat) p).length=p.length by simp [compose],h.len] at hk
 have b:=h.bnd hs hk
 rw [yU (by rw [h.len];exact hk),Kz (by omega)]
 omega
def Wx:Nat→Int→List Int
 | 0,_=>[]
 | n+1,s=>s :: Wx n (s+1)
theorem wU:∀ n s,(Wx n s).length=n
 | 0,_=>rfl
 | n+1,s=>by simp [Wx,wU n]
theorem PZ:∀ n s k,k<n→Qc (Wx n s) k=s+k
 | n+1,s,0,_=>by simp [Wx,Qc]
 | n+1,s,k+1,h=>by
  have:=PZ n (s+1) k (by omega)
  simp only [Qc,Wx,List.getD_cons_succ] at this ⊢
  rw [this];omega
theorem qeW (n:Nat):nums n=Wx n 0:=KW (by rw [yf,wU]) fun k hk=>by
 rw [yf] at hk
 rw [Kz hk,PZ n 0 k hk];omega
theorem Wv:∀ (l:List Int) (s:Int),l.Nodup→(∀ x,x∈l→s≤x)→¬ Jl l (Wx l.length s)
 | [],_,_,_=>fun h=>h
 | a :: l,s,nd,b=>by
  rw [List.nodup_cons] at nd
  rintro (h|⟨rfl,h⟩)
  ·have:=b a (.head _);omega
  ·refine Wv l (a+1) nd.2 (fun x hx=>?_) h
   have:=b x (.tail _ hx)
   have:x≠a:=fun q=>nd.1 (by rw [← q];exact hx)
   omega
theorem Trn.least (hs:TabS t) {p:List Int} (h:Trn t p):¬ Jl p (nums (qC t).toNat):=by
 have hp:=of_decide_eq_true (h.perm hs)
 have:=Wv p 0 hp.2 fun x hx=>(hp.1 x hx).1
 rw [h.len,← qeW] at this
 exact this
theorem TurnL.first (hs:TabS t) {p:List Int} {ls:List (List Int)} (H:TurnL t [] (p :: ls)):p=nums (qC t).toNat:=by
 have T:=H.trn
 have h1:=(T _).2 (Trn.one hs)
 rcases List.mem_cons.1 h1 with q|q
 ·exact q.symm
 ·exact absurd ((List.pairwise_cons.1 H.srt).1 _ q) (((T p).1 (.head _)).least hs)
theorem TurnL.ne (hs:TabS t) {ls:List (List Int)} (H:TurnL t [] ls):ls≠[]:=fun q=>by
 subst q
 have:=(H.trn _).2 (Trn.one hs)
 cases this
end
def fX (c:Nat) (a x:Int):Int:=if c / 2=1 then a - 1 - x else x
def fY (c:Nat) (y:Int):Int:=if c % 2=1 then 2 - y else y
section
variable {a b k:Int}
theorem QJ (ha:1≤a) (hb:0≤b∧b≤2) (hk:0≤k∧k<2*a+b) :
 (k<a∧Jf a b k=k∧Z7 a b k=0)∨(0<b∧k=a∧Jf a b k=a∧Z7 a b k=1)∨(a+min b 1≤k∧k<2*a+min b 1∧Jf a b k=2*a - 1+min b 1 - k∧Z7 a b k=2)∨(b=2∧k=2*a+1∧Jf a b k = -1∧Z7 a b k=1):=by
 unfold Jf Z7
 repeat' split
 all_goals omega
theorem qf0 (ha:1≤a) (hb:0≤b∧b≤2) {k m:Int} (hk:0≤k∧k<2*a+b) (hm:0≤m∧m<2*a+b) (e1:Jf a b k=Jf a b m) (e2:Z7 a b k=Z7 a b m):k=m:=by
 have c1:=QJ ha hb hk
 have c2:=QJ ha hb hm
 omega
theorem qbH (ha:1≤a) (hb:0≤b∧b≤2) (hk:0≤k∧k<2*a+b):Jf a b (Xr a b k)=Jf a b k∧Z7 a b (Xr a b k)=2 - Z7 a b k:=by
 have c1:=QJ ha hb hk
 have c2:=QJ ha hb (wK ha hb hk).2
 have e:(yE a b k∧Xr a b k=k)∨(¬ yE a b k∧Xr a b k=(a+min b 1)+a - 1 - k):=by
  unfold Xr;by_cases q:yE a b k
  ·exact .inl ⟨q,if_pos q⟩
  ·exact .inr ⟨q,if_neg q⟩
 unfold yE at e
 omega
theorem qbY (ha:1≤a) (hb:b=0∨b=2) (hk:0≤k∧k<2*a+b):Jf a b (Jp a b k)=a - 1 - Jf a b k∧Z7 a b (Jp a b k)=Z7 a b k:=by
 have hb2:0≤b∧b≤2:=by omega
 have c1:=QJ ha hb2 hk
 have c2:=QJ ha hb2 (Vm ha hb hk).2
 have e:(yE a b k∧Jp a b k=3*a+1 - k)∨(¬ yE a b k∧k<a∧Jp a b k=a - 1 - k)∨(¬ yE a b k∧¬ k<a∧Jp a b k=2*(a+min b 1)+a - 1 - k):=by
  unfold Jp;by_cases q:yE a b k
  ·exact .inl ⟨q,if_pos q⟩
  ·rw [if_neg q]
   by_cases z:k<a
   ·exact .inr (.inl ⟨q,z,if_pos z⟩)
   ·exact .inr (.inr ⟨q,z,if_neg z⟩)
 unfold yE at e
 omega
end
section
variable {t:Tab}
theorem qdS (hs:TabS t) (q:t.shape=2) {c:Nat} (hc:c<Qo t) {k:Int} (hk:0≤k∧k<qC t):Jf t.A t.B (Zb t c k)=fX c t.A (Jf t.A t.B k)∧Z7 t.A t.B (Zb t c k)=fY c (Z7 t.A t.B k):=by
 have s:=hs.s2 q
 have hk2:0≤k∧k<2*t.A+t.B:=by omega
 have hb:0≤t.B∧t.B≤2:=by omega
 rcases hs.l2 q hc with rfl|rfl|⟨rfl|rfl,h2⟩
 ·rw [Jh q];exact ⟨rfl,rfl⟩
 ·rw [Jh q];exact qbH s.1 hb hk2
 ·rw [Jh q];exact qbY s.1 h2 hk2
 ·rw [Jh q]
  have e1:=qbY s.1 h2 hk2
  have e2:=qbH s.1 hb (Vm s.1 h2 hk2).2
  exact ⟨e2.1.trans e1.1,by rw [show fY 3 (Z7 t.A t.B k)=2 - Z7 t.A t.B k from rfl,← e1.2];exact e2.2⟩
theorem pz (hs:TabS t) (q:t.shape=2) {c:Nat} (hc:c<Qo t) {k r:Int} (hk:0≤k∧k<qC t) (h:ve t (fX c t.A (Jf t.A t.B k)) (fY c (Z7 t.A t.B k)) r):r=Zb t c k:=by
 have s:=hs.s2 q
 have e:=qdS hs q hc hk
 have b:=P8 hs hc hk
 rcases h with ⟨-,h⟩|⟨m,rfl,h1,h2,-⟩
 ·refine absurd e ?_
  have:=h (Zb t c k).toNat (by omega)
  rw [show (((Zb t c k).toNat:Nat):Int)=Zb t c k by omega] at this
  exact this
 ·exact qf0 s.1 (b:=t.B) (by omega) (by omega) (by omega) (h2.1.trans e.1.symm) (h2.2.trans e.2.symm)
theorem qcq (hs:TabS t) (q:t.shape=2) (hB:t.B=1) {c:Nat} (hc:c / 2=1) {r:Int} (h:ve t (fX c t.A (Jf t.A t.B t.A)) (fY c (Z7 t.A t.B t.A)) r):r<0:=by
 have s:=hs.s2 q
 rcases h with ⟨rfl,-⟩|⟨m,rfl,h1,h2,-⟩
 ·omega
 ·exfalso
  have c1:=QJ (a:=t.A) (b:=t.B) (k:=t.A) s.1 (by omega) (by omega)
  have c2:=QJ (a:=t.A) (b:=t.B) (k:=m) s.1 (by omega) (by omega)
  unfold fX fY at h2
  rw [if_pos hc] at h2
  split at h2<;>omega
end
def zW (t:Tab):Nat:=if t.shape=1 then (2*t.A).toNat else if t.shape=2 then 4 else 2
theorem Kv {t:Tab} (q:t.shape=1):zW t=(2*t.A).toNat:=by unfold zW;rw [if_pos q]
theorem Ku {t:Tab} (q:t.shape=2):zW t=4:=by unfold zW;rw [if_neg (show ¬ t.shape=1 by omega),if_pos q]
theorem WW {t:Tab} (q:3≤t.shape):zW t=2:=by unfold zW;rw [if_neg (show ¬ t.shape=1 by omega),if_neg (show ¬ t.shape=2 by omega)]
theorem wQ {t:Tab} (hs:TabS t):Qo t≤zW t∧zW t≤48:=by
 rcases hs.XO with q|q|q
 ·have:=hs.s1 q;rw [KE q,Kv q];omega
 ·rw [qa4 q,Ku q];split<;>omega
 ·rw [yj q,WW q];omega
theorem qaW {t:Tab} (hs:TabS t) {c:Nat} (h1:Qo t≤c) (h2:c<zW t):t.shape=2∧t.B=1∧c / 2=1:=by
 rcases hs.XO with q|q|q
 ·rw [KE q] at h1;rw [Kv q] at h2;omega
 ·rw [qa4 q] at h1
  rw [Ku q] at h2
  split at h1
  ·exact ⟨q,by assumption,by omega⟩
  ·omega
 ·rw [yj q] at h1;rw [WW q] at h2;omega
def qeF (t:Tab) (c:Nat) (k:Int) (x:Int):Prop:=(c<Qo t→x=Zb t c k)∧(Qo t≤c→k<t.A)
theorem qaU {h0:AH} (w:WfH h0) (t:Tab) (hs:TabS t) (c:Nat) (hc:c<zW t):Fn Tryz.prog Xh 124 [jg t,.int .i64 c] h0 (fun v h'=>∃ l,((c<Qo t∧l=zN t c)∨(Qo t≤c∧l=[]))∧Hs h0 h' [.sl v 3 1 eI l]):=by
 have S:=Hs.start w
 have hsz:=qK t
 have hB:=hs.b
 have hsp:=hs.shape
 have hcl:=wQ hs
 obtain ⟨n,hn⟩:=Int.eq_ofNat_of_zero_le hsz.1
 have hbig:=fun q=>qaW hs (c:=c) q hc
 refine qF rfl Tryz.func124 rfl rfl ?_
 all_goals (repeat' (first|refine qi ?_|(refine qf 0 ?_;(refine bx S ?_;clear S;intro b h S);refine mv ?_;refine qg ?_)|(refine qf 1 ?_;refine lB S rfl rfl ?_)))
 (refine qw rfl rfl rfl rfl rfl ((jc S.wf t).mono ?_);rintro _ h ⟨rfl,x⟩)<;>(replace S:=S.qy x;clear x;rw [hn];refine mv ?_;refine qg ?_)
 all_goals (repeat' (first|refine qi ?_|refine qm ?_|(refine qf 2 ?_;refine mv ?_;refine qg ?_)|(refine qf 3 ?_;refine mv ?_;refine qg ?_)))
 refine qE (σ:=Nat×Value×List Int) (fun (k,v,l) h'=>Hs h0 h' [.sl v 3 1 eI l,.blk b (eT t) 25]∧k≤n∧l.length=k∧∀ i,i<k→qeF t c i (Qc l i)) (fun (k,v,l)=>n - k) (fun (k,v,l)=>[(1,.int .i64 c),(2,PT b),(5,.int .i64 n),(6,v),(7,.int .i64 k)]) (0,.slice none 0 0,[]) (by repeat (first|exact Ks.le_nil _|refine Ks.qh rfl ?_)) ?_ ?_
 ·exact ⟨S.jP,Nat.zero_le _,rfl,fun i hi=>by omega⟩
 clear S
 rintro ⟨k,v,l⟩ h ⟨S,h1,h2,h3⟩
 all_goals (repeat' (first|refine qi ?_|refine ql rfl ?_|refine qo ?_|refine qA ?_|refine qm ?_|(refine qf 4 ?_;refine mv ?_;refine mv ?_;(first|(refine cS ?_ ?_<;>intro hc))<;>(refine qg ?_))))
 ·have hk:k<n:=by omega
  (repeat (refine qi ?_));refine qf 6 ?_;refine mv ?_;refine mv ?_;refine qg ?_
  (repeat (refine qi ?_));refine qf 7 ?_;refine vl ?_;refine lB S rfl rfl ?_;refine qg ?_
  refine Vu (σ:=Int) (fun x h'=>Hs h0 h' [.sl v 3 1 eI l,.blk b (eT t) 25]∧qeF t c k x) (fun x=>[(1,.int .i64 c),(2,PT b),(5,.int .i64 n),(6,v),(7,.int .i64 k),(8,.int .i64 x)]) ?_ ?_
  ·refine qm ?_
   skip
   all_goals (repeat' (first|refine qi ?_|refine ql rfl ?_|refine qo ?_|(refine qf 8 ?_;refine mv ?_;(first|(refine cS ?_ ?_<;>intro hc))<;>(refine qg ?_))|(refine qf 9 ?_;refine mv ?_;refine sb ?_;refine mv ?_;refine sb ?_;refine mv ?_;refine qg ?_)|(refine qf 10 ?_;(first|(refine cS ?_ ?_<;>intro hc))<;>(refine mv ?_;refine qg ?_))|(refine qf 11 ?_;refine mv ?_;refine mv ?_;refine qu ?_;refine ad ?_;refine mv ?_;refine rm ?_;refine mv ?_;refine qg ?_)|(refine qf 12 ?_;refine mv ?_;refine rm ?_;(first|(refine cS ?_ ?_<;>intro hc))<;>(refine qg ?_))|(refine qf 13 ?_;refine mv ?_;refine qu ?_;refine mv ?_;refine ad ?_;refine mv ?_;refine sb ?_;refine mv ?_;refine rm ?_;refine mv ?_;refine qg ?_)|(refine qf 14 ?_;(first|(refine cS ?_ ?_<;>intro hc))<;>(refine mv ?_;refine qg ?_))))
   ·have hsh:t.shape=1:=by assumption
    have s:=hs.s1 hsh
    refine ⟨_,⟨S,fun _=>?_,fun q=>?_⟩,((by repeat (first|exact Ks.le_nil _|refine Ks.qh rfl ?_)))⟩
    ·have e1:((c / 2:Nat):Int)=(c:Int) / 2:=by omega
     rw [yl hsh];unfold xQ
     rw [if_neg (by omega),e1,show t.A=(n:Int) by omega,show (c:Int) / 2 - k+n=(c:Int) / 2+n - k by omega]
    ·have:=(hbig q).1;omega
   ·have hsh:t.shape=1:=by assumption
    have s:=hs.s1 hsh
    refine ⟨_,⟨S,fun _=>?_,fun q=>?_⟩,((by repeat (first|exact Ks.le_nil _|refine Ks.qh rfl ?_)))⟩
    ·have e1:((c / 2:Nat):Int)=(c:Int) / 2:=by omega
     rw [yl hsh];unfold xQ
     rw [if_pos (by omega),e1,show t.A=(n:Int) by omega]
    ·have:=(hbig q).1;omega
   ·have hsh:t.shape=2:=by assumption
    have s:=hs.s2 hsh
    have hlow:Qo t≤c→(k:Int)≤t.A:=fun q=>by
     rcases Nat.eq_zero_or_pos k with z|z
     ·omega
     ·have:=(h3 (k - 1) (by omega)).2 q;omega
    have key:∀ r,ve t (fX c t.A (Jf t.A t.B k)) (fY c (Z7 t.A t.B k)) r→(r<0→Qo t≤c)∧(¬ r<0→qeF t c k r):=fun r hr=>by
     refine ⟨fun q=>Nat.le_of_not_lt fun z=>?_,fun q=>⟨fun z=>pz hs hsh z ⟨by omega,by omega⟩ hr,fun z=>?_⟩⟩
     ·have e:=pz hs hsh z ⟨by omega,by omega⟩ hr
      have:=P8 hs z (k:=k) ⟨by omega,by omega⟩
      omega
     ·have hb:=hbig z
      have:=hlow z
      rcases Int.lt_trichotomy (k:Int) t.A with g|g|g
      ·exact g
      ·rw [g] at hr
       exact absurd (qcq hs hsh hb.2.1 hb.2.2 hr) q
      ·omega
    have bx:=QJ (a:=t.A) (b:=t.B) (k:=k) s.1 (by omega) (by omega)
    have bx1 : -1≤Jf t.A t.B k∧Jf t.A t.B k≤1000:=by omega
    have by1:0≤Z7 t.A t.B k∧Z7 t.A t.B k≤2:=by omega
    clear bx
    all_goals (repeat' (first|(refine qf 15 ?_;refine lB S rfl rfl ?_;refine mv ?_)))
    (refine qw rfl rfl rfl rfl rfl ((ZT S.wf t k hB (by omega)).mono ?_);rintro _ h ⟨rfl,x⟩)<;>(replace S:=S.qy x;clear x;(refine al S ?_;clear S;intro b h S);(first|(refine sB S rfl rfl ?_;clear S;intro h S));refine qg ?_)
    all_goals (repeat' (first|refine qi ?_|refine ql rfl ?_|refine qo ?_|(refine qf 16 ?_;refine mv ?_;refine rm ?_;(first|(refine cS ?_ ?_<;>intro hc))<;>(refine qg ?_))|(refine qf 17 ?_;refine vl ?_;refine lB S rfl rfl ?_;refine sb ?_;refine vl ?_;(first|(refine sB S rfl rfl ?_;clear S;intro h S));refine qg ?_)|(refine qf 18 ?_;refine mv ?_;refine qu ?_;(first|(refine cS ?_ ?_<;>intro hc))<;>(refine qg ?_))|(refine qf 19 ?_;refine vl ?_;refine lB S rfl rfl ?_;refine sb ?_;refine vl ?_;refine lB S rfl rfl ?_;refine sb ?_;refine vl ?_;(first|(refine sB S rfl rfl ?_;clear S;intro h S));refine qg ?_)))
    all_goals (all_goals (repeat' (first|(refine qf 20 ?_;refine lB S rfl rfl ?_;refine lB S rfl rfl ?_))))
    all_goals ((refine qw rfl rfl rfl rfl rfl ((wJ S.wf t _ _ hs).mono ?_);rintro _ h ⟨r,rfl,hr,x⟩)<;>(replace S:=S.qy x;clear x;refine mv ?_;refine qg ?_))
    all_goals have hr2:ve t (fX c t.A (Jf t.A t.B k)) (fY c (Z7 t.A t.B k)) r:=by (unfold fX fY;(repeat' split)<;>first|exact hr|(exfalso;omega))
    all_goals clear hr
    all_goals obtain ⟨key1,key2⟩:=key r hr2
    all_goals (all_goals (repeat' (first|refine qi ?_|refine ql rfl ?_|refine qo ?_|(refine qf 21 ?_;refine mv ?_;(first|refine cF ?_|(refine cS ?_ ?_<;>intro hc))<;>(refine qg ?_))|(refine qf 22 ?_;refine mv ?_;refine qg ?_))))
    all_goals (first|(refine ⟨_,⟨(S.del .here),key2 (by first|assumption|(intro q;have q1:=key1 q;have q2:=hbig q1;omega))⟩,?_⟩;(exact (by repeat (first|exact Ks.le_nil _|refine Ks.qh rfl ?_))))|skip)
    all_goals (refine qx ⟨_,rfl,?_⟩)
    all_goals exact ⟨[],.inr ⟨key1 (by assumption),rfl⟩,S.drop.jP⟩
   ·have hsh:3≤t.shape:=by omega
    refine ⟨_,⟨S,fun _=>?_,fun q=>?_⟩,((by repeat (first|exact Ks.le_nil _|refine Ks.qh rfl ?_)))⟩
    ·rw [P9 hsh,show c=1 by omega];show (n:Int) - 1 - k=qC t - 1 - k;omega
    ·have:=(hbig q).1;omega
   ·have hsh:3≤t.shape:=by omega
    refine ⟨_,⟨S,fun _=>?_,fun q=>?_⟩,((by repeat (first|exact Ks.le_nil _|refine Ks.qh rfl ?_)))⟩
    ·have:=WW hsh
     rw [P9 hsh,show c=0 by omega];rfl
    ·have:=(hbig q).1;omega
  ·clear S
   rintro x h ⟨S,hx⟩
   skip
   all_goals (repeat' (first|(refine qf 23 ?_;refine mv ?_;refine mv ?_;(refine one 1 S ?_;clear S;intro u h S))))
   refine app (y0:=x) S rfl rfl ?_;clear S;intro v h S;refine mv ?_;refine qg ?_
   all_goals (repeat' (first|(refine qf 5 ?_;refine mv ?_;refine ad ?_;refine mv ?_;refine qg ?_)))
   refine ⟨(k+1,v,l ++ [x]),?_,?_,(by repeat (first|exact Ks.le_nil _|refine Ks.qh rfl ?_))⟩
   ·show n - (k+1)<n - k;omega
   ·refine ⟨S,by omega,by simp;omega,nxt (fun i hi=>?_) ?_⟩
    ·have:Qc (l ++ [x]) i=Qc l i:=gA1 (by omega)
     rw [this];exact h3 i hi
    ·have:Qc (l ++ [x]) k=x:=by
      unfold Qc;rw [gA2 (by omega),h2,Nat.sub_self];rfl
     rw [this];exact hx
 ·have hk:k=n:=by omega
  subst hk
  skip
  all_goals (repeat' (first|(refine qf 24 ?_;refine mv ?_;refine mv ?_;refine qg ?_)))
  refine qx ⟨_,rfl,?_⟩
  refine ⟨l,?_,S.only .here⟩
  rcases Nat.lt_or_ge c (Qo t) with q|q
  ·exact .inl ⟨q,xh (by omega) fun i hi=>(h3 i (by omega)).1 q⟩
  ·have hb:=hbig q
   have s:=hs.s2 hb.1
   have:=(h3 (k - 1) (by omega)).2 q
   omega
theorem keepA {t:Tab} {p:List Int}:kX t p↔∀ k,k<p.length→(ZA t k↔ZA t (Qc p k))∧∀ m,m<p.length→WP t p k m:=by
 constructor
 ·intro h k hk
  refine ⟨(h k hk).1,fun m hm=>?_⟩
  rcases Nat.lt_trichotomy m k with q|rfl|q
  ·exact (h k hk).2 m q
  ·exact ⟨⟨fun z=>absurd z (ZQ t _),fun z=>absurd z (ZQ t _)⟩,⟨fun z=>absurd z (ZR t _),fun z=>absurd z (ZR t _)⟩⟩
  ·have:=(h m hm).2 k q
   exact ⟨(jM t _ _).trans (this.1.trans (jM t _ _)),(QV t _ _).trans (this.2.trans (QV t _ _))⟩
 ·exact fun h k hk=>⟨(h k hk).1,fun m hm=>(h k hk).2 m (by omega)⟩
theorem PP {h0:AH} (w:WfH h0) (t:Tab) (r:TabR h0 t) (hs:TabS t) (pv:Value) (p:List Int) (hp:RdL h0 pv 1 eI p) (hn:(p.length:Int)=qC t) (hb:∀ k,k<p.length→0≤Qc p k∧Qc p k<qC t) :
 Fn Tryz.prog Xh 125 [jg t,pv] h0 (fun v h'=>BoolIs v (kX t p)∧Hs h0 h' []):=by
 have S:=Hs.start w
 have hsz:=qK t
 rw [keepA]
 refine qF rfl Tryz.func125 rfl rfl ?_
 all_goals (repeat' (first|refine qi ?_|refine qm ?_|(refine qf 0 ?_;(refine bx S ?_;clear S;intro b h S);refine mv ?_;refine qg ?_)|(refine qf 1 ?_;refine mv ?_;refine qg ?_)))
 obtain ⟨bt,hnm⟩:∃ x,x=b:=⟨_,rfl⟩;subst hnm
 refine qE (σ:=Nat) (fun k h'=>Hs h0 h' [.blk bt (eT t) 25]∧k≤p.length∧∀ j,j<k→(ZA t j↔ZA t (Qc p j))∧∀ m,m<p.length→WP t p j m) (fun k=>p.length - k) (fun k=>[(1,pv),(2,PT bt),(5,.int .i64 k)]) 0 (by repeat (first|exact Ks.le_nil _|refine Ks.qh rfl ?_)) ?_ ?_
 ·exact ⟨S,Nat.zero_le _,fun j hj=>absurd hj (Nat.not_lt_zero _)⟩
 clear S
 rintro k h ⟨S,h1,h2⟩
 all_goals (repeat' (first|refine qi ?_|refine ql rfl ?_|refine qo ?_|refine qA ?_|refine qm ?_|(refine qf 2 ?_;refine mv ?_;refine mv ?_;refine QD S ?_;(first|(refine cS ?_ ?_<;>intro hc))<;>(refine qg ?_))|(refine qf 11 ?_;refine mv ?_;refine qg ?_)))
 ·have hk:k<p.length:=by omega
  have hbk:=hb k hk
  refine JB (σ:=Unit) (fun _ h'=>Hs h0 h' [.blk bt (eT t) 25]∧(ZA t k↔ZA t (Qc p k))) (fun _=>[(1,pv),(2,PT bt),(5,.int .i64 k)]) ?_ ?_
  ·refine jG (id:=4) [(3,(0,1)),(7,(0,1))] [some (bt),some (Qi pv)] ?_;refine qj ?_;(first|(refine lB S rfl rfl ?_<;>refine qg ⟨⟨by (first|exact True.intro),rfl⟩,?_⟩));refine qj ?_;(first|(refine mv ?_<;>refine qg ⟨⟨by (first|exact True.intro),rfl⟩,?_⟩))
   ((refine qj ?_;first|refine qw rfl rfl rfl rfl rfl ((VN S.wf t ⟨r.1.ext w S.ext,r.2⟩ k).mono ?_));rintro _ h ⟨⟨rfl,ho⟩|⟨rfl,ho⟩,x⟩)<;>((refine qg ⟨⟨True.intro,?_⟩,?_⟩;(focus ((show keepsX _ _ _ _ _;simp only [keepsX];(repeat' (first|exact True.intro|refine And.intro ?_ ?_));all_goals (intro hw;first|exact x.ext.old _ S.bB|exact x.ext.old _ (S.bX (by assumption) (by assumption) (by first|omega)))))));replace S:=S.qy x;clear x;refine qj ?_;(first|(refine lB S rfl rfl ?_<;>refine qg ⟨⟨by (first|exact Or.inr rfl),rfl⟩,?_⟩));refine qj ?_;(first|(refine mv ?_<;>refine qg ⟨⟨by (first|exact True.intro),rfl⟩,?_⟩));refine qj ?_;(first|(refine mv ?_<;>refine qg ⟨⟨by (first|exact True.intro),rfl⟩,?_⟩));refine qj ?_;(first|(refine jv S ?_<;>refine qg ⟨⟨by (first|exact True.intro),rfl⟩,?_⟩));refine qj ?_;(first|(refine zS S ?_<;>refine qg ⟨⟨by (first|exact Or.inr (congrArg some (zn _ _ _ _))),rfl⟩,?_⟩)))
   all_goals (try simp only [Int.toNat_natCast])
   all_goals (((refine qj ?_;first|refine qw rfl rfl rfl rfl rfl ((VN S.wf t ⟨r.1.ext w S.ext,r.2⟩ (Qc p k)).mono ?_));rintro _ h ⟨⟨rfl,ho2⟩|⟨rfl,ho2⟩,x⟩)<;>((refine qg ⟨⟨True.intro,?_⟩,?_⟩;(focus ((show keepsX _ _ _ _ _;simp only [keepsX];(repeat' (first|exact True.intro|refine And.intro ?_ ?_));all_goals (intro hw;first|exact x.ext.old _ S.bB|exact x.ext.old _ (S.bX (by assumption) (by assumption) (by first|omega)))))));replace S:=S.qy x;clear x;refine qj ?_;(first|(refine vl ?_<;>refine qg ⟨⟨by (first|exact True.intro),rfl⟩,?_⟩));refine jd ?_))
   all_goals (all_goals (repeat' (first|refine qi ?_|refine ql rfl ?_|refine qo ?_|(refine qf 5 ?_;refine mv ?_;refine qg ?_))))
   ·exact ⟨(),⟨S,⟨fun _=>ho2,fun _=>ho⟩⟩,((by repeat (first|exact Ks.le_nil _|refine Ks.qh rfl ?_)))⟩
   ·refine qx ⟨_,rfl,?_⟩
    exact ⟨.inr ⟨rfl,fun q=>ho2 ((q k hk).1.1 ho)⟩,S.drop⟩
   ·refine qx ⟨_,rfl,?_⟩
    exact ⟨.inr ⟨rfl,fun q=>ho ((q k hk).1.2 ho2)⟩,S.drop⟩
   ·exact ⟨(),⟨S,⟨fun q=>absurd q ho,fun q=>absurd q ho2⟩⟩,((by repeat (first|exact Ks.le_nil _|refine Ks.qh rfl ?_)))⟩
  clear S
  rintro - h ⟨S,hop⟩
  skip
  all_goals (repeat' (first|refine qi ?_|refine qm ?_|(refine qf 6 ?_;refine mv ?_;refine qg ?_)))
  refine qE (σ:=Nat) (fun m h'=>Hs h0 h' [.blk bt (eT t) 25]∧m≤p.length∧∀ j,j<m→WP t p k j) (fun m=>p.length - m) (fun m=>[(1,pv),(2,.pointer (some ⟨bt,0,none⟩)),(5,.int .i64 k),(6,.int .i64 m)]) 0 (by repeat (first|exact Ks.le_nil _|refine Ks.qh rfl ?_)) ?_ ?_
  ·exact ⟨S,Nat.zero_le _,fun j hj=>absurd hj (Nat.not_lt_zero _)⟩
  clear S
  rintro m h ⟨S,g1,g2⟩
  all_goals (repeat' (first|refine qi ?_|refine ql rfl ?_|refine qo ?_|refine qA ?_|refine qm ?_|(refine qf 3 ?_;refine mv ?_;refine ad ?_;refine mv ?_;refine qg ?_)|(refine qf 7 ?_;refine mv ?_;refine mv ?_;refine QD S ?_;(first|(refine cS ?_ ?_<;>intro hc))<;>(refine qg ?_))))
  ·have hm:m<p.length:=by omega
   have hbm:=hb m hm
   refine jG (id:=9) [(4,(0,1)),(8,(0,1)),(12,(0,1)),(20,(2,3)),(24,(2,3)),(28,(2,3))] [some (bt),some (Qi pv),some (Qi pv),some (bt),some (Qi pv),some (Qi pv)] ?_;refine qj ?_;(first|(refine lB S rfl rfl ?_<;>refine qg ⟨⟨by (first|exact True.intro),rfl⟩,?_⟩));refine qj ?_;(first|(refine mv ?_<;>refine qg ⟨⟨by (first|exact True.intro),rfl⟩,?_⟩));refine qj ?_;(first|(refine mv ?_<;>refine qg ⟨⟨by (first|exact True.intro),rfl⟩,?_⟩))
   ((refine qj ?_;first|refine qw rfl rfl rfl rfl rfl ((Jq S.wf t k m hs (by omega) (by omega)).mono ?_));rintro _ h ⟨⟨rfl,ho⟩|⟨rfl,ho⟩,x⟩)<;>((refine qg ⟨⟨True.intro,?_⟩,?_⟩;(focus ((show keepsX _ _ _ _ _;simp only [keepsX];(repeat' (first|exact True.intro|refine And.intro ?_ ?_));all_goals (intro hw;first|exact x.ext.old _ S.bB|exact x.ext.old _ (S.bX (by assumption) (by assumption) (by first|omega)))))));replace S:=S.qy x;clear x;refine qj ?_;(first|(refine lB S rfl rfl ?_<;>refine qg ⟨⟨by (first|exact Or.inr rfl),rfl⟩,?_⟩));refine qj ?_;(first|(refine mv ?_<;>refine qg ⟨⟨by (first|exact True.intro),rfl⟩,?_⟩));refine qj ?_;(first|(refine mv ?_<;>refine qg ⟨⟨by (first|exact True.intro),rfl⟩,?_⟩));refine qj ?_;(first|(refine jv S ?_<;>refine qg ⟨⟨by (first|exact True.intro),rfl⟩,?_⟩));refine qj ?_;(first|(refine zS S ?_<;>refine qg ⟨⟨by (first|exact Or.inr (congrArg some (zn _ _ _ _))),rfl⟩,?_⟩));refine qj ?_;(first|(refine mv ?_<;>refine qg ⟨⟨by (first|exact True.intro),rfl⟩,?_⟩));refine qj ?_;(first|(refine mv ?_<;>refine qg ⟨⟨by (first|exact True.intro),rfl⟩,?_⟩));refine qj ?_;(first|(refine jv S ?_<;>refine qg ⟨⟨by (first|exact True.intro),rfl⟩,?_⟩));refine qj ?_;(first|(refine zS S ?_<;>refine qg ⟨⟨by (first|exact Or.inr (congrArg some (zn _ _ _ _))),rfl⟩,?_⟩)))
   all_goals (try simp only [Int.toNat_natCast])
   all_goals (((refine qj ?_;first|refine qw rfl rfl rfl rfl rfl ((Jq S.wf t (Qc p k) (Qc p m) hs hbk hbm).mono ?_));rintro _ h ⟨⟨rfl,ho2⟩|⟨rfl,ho2⟩,x⟩)<;>((refine qg ⟨⟨True.intro,?_⟩,?_⟩;(focus ((show keepsX _ _ _ _ _;simp only [keepsX];(repeat' (first|exact True.intro|refine And.intro ?_ ?_));all_goals (intro hw;first|exact x.ext.old _ S.bB|exact x.ext.old _ (S.bX (by assumption) (by assumption) (by first|omega)))))));replace S:=S.qy x;clear x;refine qj ?_;(first|(refine vl ?_<;>refine qg ⟨⟨by (first|exact True.intro),rfl⟩,?_⟩));refine qj ?_;(first|(refine mv ?_<;>refine qg ⟨⟨by (first|exact True.intro),rfl⟩,?_⟩));refine qj ?_;(first|(refine off ?_;refine qg ⟨⟨by (first|exact True.intro),rfl⟩,?_⟩)|(refine lB S rfl rfl ?_<;>refine qg ⟨⟨by (first|exact True.intro),rfl⟩,?_⟩));refine qj ?_;(first|(refine off ?_;refine qg ⟨⟨by (first|exact True.intro),rfl⟩,?_⟩)|(refine mv ?_<;>refine qg ⟨⟨by (first|exact True.intro),rfl⟩,?_⟩));refine qj ?_;(first|(refine off ?_;refine qg ⟨⟨by (first|exact True.intro),rfl⟩,?_⟩)|(refine mv ?_<;>refine qg ⟨⟨by (first|exact True.intro),rfl⟩,?_⟩));(first|(refine qj ?_;refine off ?_;refine qg ⟨⟨True.intro,by show keepsX _ _ _ _ _;simp [keepsX]⟩,?_⟩;refine qj ?_;(first|(refine off ?_;refine qg ⟨⟨by (first|exact Or.inl rfl),rfl⟩,?_⟩));refine qj ?_;(first|(refine off ?_;refine qg ⟨⟨by (first|exact True.intro),rfl⟩,?_⟩));refine qj ?_;(first|(refine off ?_;refine qg ⟨⟨by (first|exact True.intro),rfl⟩,?_⟩));refine qj ?_;(first|(refine off ?_;refine qg ⟨⟨by (first|exact True.intro),rfl⟩,?_⟩));refine qj ?_;(first|(refine off ?_;refine qg ⟨⟨by (first|exact Or.inl rfl),rfl⟩,?_⟩));refine qj ?_;(first|(refine off ?_;refine qg ⟨⟨by (first|exact True.intro),rfl⟩,?_⟩));refine qj ?_;(first|(refine off ?_;refine qg ⟨⟨by (first|exact True.intro),rfl⟩,?_⟩));refine qj ?_;(first|(refine off ?_;refine qg ⟨⟨by (first|exact True.intro),rfl⟩,?_⟩));refine qj ?_;(first|(refine off ?_;refine qg ⟨⟨by (first|exact Or.inl rfl),rfl⟩,?_⟩));(first|(refine qj ?_;refine off ?_;refine qg ⟨⟨True.intro,by show keepsX _ _ _ _ _;simp [keepsX]⟩,?_⟩;refine qj ?_;(first|(refine off ?_;refine qg ⟨⟨by (first|exact True.intro),rfl⟩,?_⟩));refine qj ?_;(first|(refine vl ?_<;>refine qg ⟨⟨by (first|exact True.intro),rfl⟩,?_⟩));refine jd ?_)))|skip)))
   ·((refine qj ?_;first|refine qw rfl rfl rfl rfl rfl ((QF S.wf t k m hs (by omega) (by omega)).mono ?_));rintro _ h ⟨⟨rfl,ha⟩|⟨rfl,ha⟩,x⟩)<;>((refine qg ⟨⟨True.intro,?_⟩,?_⟩;(focus ((show keepsX _ _ _ _ _;simp only [keepsX];(repeat' (first|exact True.intro|refine And.intro ?_ ?_));all_goals (intro hw;first|exact x.ext.old _ S.bB|exact x.ext.old _ (S.bX (by assumption) (by assumption) (by first|omega)))))));replace S:=S.qy x;clear x;refine qj ?_;(first|(refine lB S rfl rfl ?_<;>refine qg ⟨⟨by (first|exact Or.inr rfl),rfl⟩,?_⟩));refine qj ?_;(first|(refine mv ?_<;>refine qg ⟨⟨by (first|exact True.intro),rfl⟩,?_⟩));refine qj ?_;(first|(refine mv ?_<;>refine qg ⟨⟨by (first|exact True.intro),rfl⟩,?_⟩));refine qj ?_;(first|(refine jv S ?_<;>refine qg ⟨⟨by (first|exact True.intro),rfl⟩,?_⟩));refine qj ?_;(first|(refine zS S ?_<;>refine qg ⟨⟨by (first|exact Or.inr (congrArg some (zn _ _ _ _))),rfl⟩,?_⟩));refine qj ?_;(first|(refine mv ?_<;>refine qg ⟨⟨by (first|exact True.intro),rfl⟩,?_⟩));refine qj ?_;(first|(refine mv ?_<;>refine qg ⟨⟨by (first|exact True.intro),rfl⟩,?_⟩));refine qj ?_;(first|(refine jv S ?_<;>refine qg ⟨⟨by (first|exact True.intro),rfl⟩,?_⟩));refine qj ?_;(first|(refine zS S ?_<;>refine qg ⟨⟨by (first|exact Or.inr (congrArg some (zn _ _ _ _))),rfl⟩,?_⟩));(skip))
    all_goals (try simp only [Int.toNat_natCast])
    all_goals (((refine qj ?_;first|refine qw rfl rfl rfl rfl rfl ((QF S.wf t (Qc p k) (Qc p m) hs hbk hbm).mono ?_));rintro _ h ⟨⟨rfl,ha2⟩|⟨rfl,ha2⟩,x⟩)<;>((refine qg ⟨⟨True.intro,?_⟩,?_⟩;(focus ((show keepsX _ _ _ _ _;simp only [keepsX];(repeat' (first|exact True.intro|refine And.intro ?_ ?_));all_goals (intro hw;first|exact x.ext.old _ S.bB|exact x.ext.old _ (S.bX (by assumption) (by assumption) (by first|omega)))))));replace S:=S.qy x;clear x;refine qj ?_;(first|(refine vl ?_<;>refine qg ⟨⟨by (first|exact True.intro),rfl⟩,?_⟩));refine qj ?_;(first|(refine vl ?_<;>refine qg ⟨⟨by (first|exact True.intro),rfl⟩,?_⟩));refine jd ?_))
    all_goals (all_goals (repeat' (first|refine qi ?_|refine ql rfl ?_|refine qo ?_|(refine qf 8 ?_;refine mv ?_;refine ad ?_;refine mv ?_;refine qg ?_)|(refine qf 10 ?_;refine mv ?_;refine qg ?_))))
    ·refine ⟨m+1,?_,?_,(by repeat (first|exact Ks.le_nil _|refine Ks.qh rfl ?_))⟩
     ·show p.length - (m+1)<p.length - m;omega
     ·exact ⟨S,by omega,nxt g2 ⟨⟨fun _=>ho2,fun _=>ho⟩,⟨fun _=>ha2,fun _=>ha⟩⟩⟩
    ·refine qx ⟨_,rfl,?_⟩
     exact ⟨.inr ⟨rfl,fun q=>ha2 (((q k hk).2 m hm).2.1 ha)⟩,S.drop⟩
    ·refine qx ⟨_,rfl,?_⟩
     exact ⟨.inr ⟨rfl,fun q=>ha (((q k hk).2 m hm).2.2 ha2)⟩,S.drop⟩
    ·refine ⟨m+1,?_,?_,(by repeat (first|exact Ks.le_nil _|refine Ks.qh rfl ?_))⟩
     ·show p.length - (m+1)<p.length - m;omega
     ·exact ⟨S,by omega,nxt g2 ⟨⟨fun _=>ho2,fun _=>ho⟩,⟨fun q=>absurd q ha,fun q=>absurd q ha2⟩⟩⟩
   ·all_goals (repeat' (first|refine qi ?_|refine ql rfl ?_|(refine qf 10 ?_;refine mv ?_;refine qg ?_)))
    refine qx ⟨_,rfl,?_⟩
    exact ⟨.inr ⟨rfl,fun q=>ho2 (((q k hk).2 m hm).1.1 ho)⟩,S.drop⟩
   ·all_goals (repeat' (first|refine qi ?_|refine ql rfl ?_|(refine qf 10 ?_;refine mv ?_;refine qg ?_)))
    refine qx ⟨_,rfl,?_⟩
    exact ⟨.inr ⟨rfl,fun q=>ho (((q k hk).2 m hm).1.2 ho2)⟩,S.drop⟩
   ·((refine qj ?_;first|refine qw rfl rfl rfl rfl rfl ((QF S.wf t k m hs (by omega) (by omega)).mono ?_));rintro _ h ⟨⟨rfl,ha⟩|⟨rfl,ha⟩,x⟩)<;>((refine qg ⟨⟨True.intro,?_⟩,?_⟩;(focus ((show keepsX _ _ _ _ _;simp only [keepsX];(repeat' (first|exact True.intro|refine And.intro ?_ ?_));all_goals (intro hw;first|exact x.ext.old _ S.bB|exact x.ext.old _ (S.bX (by assumption) (by assumption) (by first|omega)))))));replace S:=S.qy x;clear x;refine qj ?_;(first|(refine lB S rfl rfl ?_<;>refine qg ⟨⟨by (first|exact Or.inr rfl),rfl⟩,?_⟩));refine qj ?_;(first|(refine mv ?_<;>refine qg ⟨⟨by (first|exact True.intro),rfl⟩,?_⟩));refine qj ?_;(first|(refine mv ?_<;>refine qg ⟨⟨by (first|exact True.intro),rfl⟩,?_⟩));refine qj ?_;(first|(refine jv S ?_<;>refine qg ⟨⟨by (first|exact True.intro),rfl⟩,?_⟩));refine qj ?_;(first|(refine zS S ?_<;>refine qg ⟨⟨by (first|exact Or.inr (congrArg some (zn _ _ _ _))),rfl⟩,?_⟩));refine qj ?_;(first|(refine mv ?_<;>refine qg ⟨⟨by (first|exact True.intro),rfl⟩,?_⟩));refine qj ?_;(first|(refine mv ?_<;>refine qg ⟨⟨by (first|exact True.intro),rfl⟩,?_⟩));refine qj ?_;(first|(refine jv S ?_<;>refine qg ⟨⟨by (first|exact True.intro),rfl⟩,?_⟩));refine qj ?_;(first|(refine zS S ?_<;>refine qg ⟨⟨by (first|exact Or.inr (congrArg some (zn _ _ _ _))),rfl⟩,?_⟩));(skip))
    all_goals (try simp only [Int.toNat_natCast])
    all_goals (((refine qj ?_;first|refine qw rfl rfl rfl rfl rfl ((QF S.wf t (Qc p k) (Qc p m) hs hbk hbm).mono ?_));rintro _ h ⟨⟨rfl,ha2⟩|⟨rfl,ha2⟩,x⟩)<;>((refine qg ⟨⟨True.intro,?_⟩,?_⟩;(focus ((show keepsX _ _ _ _ _;simp only [keepsX];(repeat' (first|exact True.intro|refine And.intro ?_ ?_));all_goals (intro hw;first|exact x.ext.old _ S.bB|exact x.ext.old _ (S.bX (by assumption) (by assumption) (by first|omega)))))));replace S:=S.qy x;clear x;refine qj ?_;(first|(refine vl ?_<;>refine qg ⟨⟨by (first|exact True.intro),rfl⟩,?_⟩));refine qj ?_;(first|(refine vl ?_<;>refine qg ⟨⟨by (first|exact True.intro),rfl⟩,?_⟩));refine jd ?_))
    all_goals (all_goals (repeat' (first|refine qi ?_|refine ql rfl ?_|refine qo ?_|(refine qf 8 ?_;refine mv ?_;refine ad ?_;refine mv ?_;refine qg ?_)|(refine qf 10 ?_;refine mv ?_;refine qg ?_))))
    ·refine ⟨m+1,?_,?_,(by repeat (first|exact Ks.le_nil _|refine Ks.qh rfl ?_))⟩
     ·show p.length - (m+1)<p.length - m;omega
     ·exact ⟨S,by omega,nxt g2 ⟨⟨fun q=>absurd q ho,fun q=>absurd q ho2⟩,⟨fun _=>ha2,fun _=>ha⟩⟩⟩
    ·refine qx ⟨_,rfl,?_⟩
     exact ⟨.inr ⟨rfl,fun q=>ha2 (((q k hk).2 m hm).2.1 ha)⟩,S.drop⟩
    ·refine qx ⟨_,rfl,?_⟩
     exact ⟨.inr ⟨rfl,fun q=>ha (((q k hk).2 m hm).2.2 ha2)⟩,S.drop⟩
    ·refine ⟨m+1,?_,?_,(by repeat (first|exact Ks.le_nil _|refine Ks.qh rfl ?_))⟩
     ·show p.length - (m+1)<p.length - m;omega
     ·exact ⟨S,by omega,nxt g2 ⟨⟨fun q=>absurd q ho,fun q=>absurd q ho2⟩,⟨fun q=>absurd q ha,fun q=>absurd q ha2⟩⟩⟩
  ·have hmk:m=p.length:=by omega
   subst hmk
   all_goals (repeat' (fail))
   refine ⟨k+1,?_,?_,(by repeat (first|exact Ks.le_nil _|refine Ks.qh rfl ?_))⟩
   ·show p.length - (k+1)<p.length - k;omega
   ·exact ⟨S,by omega,nxt h2 ⟨hop,g2⟩⟩
 ·skip
  all_goals (repeat' (fail))
  refine qx ⟨_,rfl,?_⟩
  exact ⟨.inl ⟨rfl,fun k hk=>h2 k (by omega)⟩,S.drop⟩
theorem Yt {h0:AH} (w:WfH h0) (v u:Value) (a b:List Int) (hv:RdL h0 v 1 eI a) (hu:RdL h0 u 1 eI b) (ha:a.length≤1000000) (hb:b.length≤1000000):Fn Tryz.prog Xh 126 [v,u] h0 (fun r h'=>∃ d,r = .int .i64 d∧CmpR d a b∧Hs h0 h' []):=by
 have S:=Hs.start w
 have tail:∀ i,i≤a.length→i≤b.length→(i=a.length∨i=b.length)→CmpR ((a.length:Int) - b.length) (a.drop i) (b.drop i):=by
  intro i h1 h2 h3
  rcases Nat.lt_trichotomy a.length b.length with q|q|q
  ·rw [List.drop_of_length_le (l:=a) (by omega),drop_cons (l:=b) (by omega)]
   exact .inl ⟨by omega,trivial⟩
  ·rw [List.drop_of_length_le (l:=a) (by omega),List.drop_of_length_le (l:=b) (by omega)]
   exact .inr (.inl ⟨by omega,rfl⟩)
  ·rw [drop_cons (l:=a) (by omega),List.drop_of_length_le (l:=b) (by omega)]
   exact .inr (.inr ⟨by omega,trivial⟩)
 refine qF rfl Tryz.func126 rfl rfl ?_
 all_goals (repeat' (first|refine qi ?_|refine qm ?_|(refine qf 0 ?_;refine mv ?_;refine qg ?_)|(refine qf 1 ?_;refine mv ?_;refine qg ?_)))
 refine qE (σ:=Nat) (fun i h'=>Hs h0 h' []∧i≤a.length∧i≤b.length∧∀ d,CmpR d (a.drop i) (b.drop i)→CmpR d a b) (fun i=>a.length - i) (fun i=>[(0,v),(1,u),(5,.int .i64 i)]) 0 (by repeat (first|exact Ks.le_nil _|refine Ks.qh rfl ?_)) ?_ ?_
 ·exact ⟨S,Nat.zero_le _,Nat.zero_le _,fun d q=>q⟩
 clear S
 rintro i h ⟨S,h1,h2,h3⟩
 all_goals (repeat' (first|refine qi ?_|refine ql rfl ?_|refine qo ?_|refine qA ?_|refine qm ?_|(refine qf 2 ?_;refine mv ?_;refine mv ?_;refine QD S ?_;(first|(refine cS ?_ ?_<;>intro hc))<;>(refine mv ?_;(first|refine off ?_|refine mv ?_);(first|refine off ?_|refine mv ?_);(first|refine off ?_|(refine QD S ?_));(first|refine off ?_|(first|(refine cS ?_ ?_<;>intro hc)))<;>(refine vl ?_;refine qg ?_)))|(refine qf 3 ?_;refine mv ?_;refine ad ?_;refine mv ?_;refine qg ?_)|(refine qO 4 ?_;refine mv ?_;refine mv ?_;refine jv S ?_;refine zS S ?_;refine mv ?_;refine mv ?_;refine jv S ?_;refine zS S ?_;(first|(refine cS ?_ ?_<;>intro hc))<;>(refine qg ?_))|(refine qf 5 ?_;refine mv ?_;refine qg ?_)|(refine qO 6 ?_;refine mv ?_;refine mv ?_;refine jv S ?_;refine zS S ?_;refine mv ?_;refine mv ?_;refine jv S ?_;refine zS S ?_;(first|(refine cS ?_ ?_<;>intro hc))<;>(refine qg ?_))|(refine qf 7 ?_;refine mv ?_;refine qg ?_)|(refine qf 8 ?_;refine mv ?_;refine QD S ?_;refine mv ?_;refine QD S ?_;refine sb ?_;refine mv ?_;refine qg ?_)))
 all_goals (try simp only [Int.toNat_natCast] at *)
 ·refine qx ⟨_,rfl,?_⟩
  refine ⟨-1,rfl,h3 _ ?_,S⟩
  rw [drop_cons (l:=a) (by omega),drop_cons (l:=b) (by omega)]
  exact .inl ⟨by omega,.inl (by assumption)⟩
 ·refine qx ⟨_,rfl,?_⟩
  refine ⟨1,rfl,h3 _ ?_,S⟩
  rw [drop_cons (l:=a) (by omega),drop_cons (l:=b) (by omega)]
  exact .inr (.inr ⟨by omega,.inl (by omega)⟩)
 ·refine ⟨i+1,?_,?_,(by repeat (first|exact Ks.le_nil _|refine Ks.qh rfl ?_))⟩
  ·show a.length - (i+1)<a.length - i;omega
  ·exact ⟨S,by omega,by omega,CmpR.step h3 (by omega) (by omega) (by omega)⟩
 all_goals (refine qx ⟨_,rfl,?_⟩)
 all_goals exact ⟨_,rfl,h3 _ (tail i h1 h2 (by omega)),S⟩
abbrev vC (ls:List (List Int)) (i:Nat):List Int:=ls.getD i default
theorem qfb {ls:List (List Int)} {p:List Int}:p∈ls↔∃ i,i<ls.length∧vC ls i=p:=by
 rw [List.mem_iff_getElem]
 constructor
 ·rintro ⟨k,hk,rfl⟩;exact ⟨k,hk,by simp [vC,List.getD_eq_getElem?_getD,hk]⟩
 ·rintro ⟨k,hk,rfl⟩;exact ⟨k,hk,by simp [vC,List.getD_eq_getElem?_getD,hk]⟩
theorem qfK {ls:List (List Int)} (h:ls.Pairwise Jl) {i j:Nat} (hij:i<j) (hj:j<ls.length):Jl (vC ls i) (vC ls j):=by
 have:=List.pairwise_iff_getElem.1 h i j (by omega) hj hij
 simpa [vC,List.getD_eq_getElem?_getD,hj,show i<ls.length by omega] using this
theorem qfh {ls:List (List Int)} {p x:List Int} {at_:Nat}:x∈ls.take at_ ++ [p] ++ ls.drop at_↔x=p∨x∈ls:=by
 have e:x∈ls↔x∈ls.take at_∨x∈ls.drop at_:=by rw [← List.mem_append,List.take_append_drop]
 rw [e]
 simp only [List.mem_append,List.mem_singleton]
 constructor
 ·rintro ((h|h)|h)
  ·exact .inr (.inl h)
  ·exact .inl h
  ·exact .inr (.inr h)
 ·rintro (h|h|h)
  ·exact .inl (.inr h)
  ·exact .inl (.inl h)
  ·exact .inr h
theorem qgl {ls:List (List Int)} {p:List Int} {at_:Nat} (h:ls.Pairwise Jl) (lo:∀ i,i<at_→i<ls.length→Jl (vC ls i) p) (hi:at_<ls.length→Jl p (vC ls at_)):(ls.take at_ ++ [p] ++ ls.drop at_).Pairwise Jl:=by
 have e:ls.Pairwise Jl↔(ls.take at_ ++ ls.drop at_).Pairwise Jl:=by rw [List.take_append_drop]
 have h':=List.pairwise_append.1 (e.1 h)
 have L:∀ x,x∈ls.take at_→Jl x p:=fun x hx=>by
  obtain ⟨i,hi,rfl⟩:=List.mem_iff_getElem.1 hx
  rw [List.length_take] at hi
  have:=lo i (by omega) (by omega)
  simpa [vC,List.getD_eq_getElem?_getD,show i<ls.length by omega] using this
 have R:∀ x,x∈ls.drop at_→Jl p x:=fun x hx=>by
  obtain ⟨i,hi',rfl⟩:=List.mem_iff_getElem.1 hx
  rw [List.length_drop] at hi'
  have h1:=hi (by omega)
  rcases Nat.eq_zero_or_pos i with rfl|z
  ·simpa [vC,List.getD_eq_getElem?_getD,show at_<ls.length by omega] using h1
  ·have:=Zc h1 (qfK h (i:=at_) (j:=at_+i) (by omega) (by omega))
   simpa [vC,List.getD_eq_getElem?_getD,show at_+i<ls.length by omega] using this
 rw [List.append_assoc]
 refine List.pairwise_append.2 ⟨h'.1,?_,?_⟩
 ·rw [List.singleton_append,List.pairwise_cons]
  exact ⟨R,h'.2.1⟩
 ·intro x hx y hy
  rw [List.singleton_append] at hy
  rcases List.mem_cons.1 hy with rfl|hy
  ·exact L x hx
  ·exact h'.2.2 x hx y hy
theorem found {ls:List (List Int)} {p:List Int} (h:ls.Pairwise Jl) {i:Nat} (lo:∀ j,j<i→Jl (vC ls j) p) (hi:∀ j,i≤j→j<ls.length→¬ Jl (vC ls j) p):(i<ls.length∧vC ls i=p)↔p∈ls:=by
 rw [qfb]
 constructor
 ·exact fun h=>⟨i,h.1,h.2⟩
 ·rintro ⟨j,hj,rfl⟩
  rcases Nat.lt_trichotomy j i with q|rfl|q
  ·exact absurd (lo j q) (ZN _)
  ·exact ⟨hj,rfl⟩
  ·exact absurd (qfK h q hj) (hi i (Nat.le_refl _) (by omega))
end Go.Proofs.Xx
