/-
  Numbers of texts;shapes by their words.
-/
import Derived.Test.YtnopenpheaihmaaGreatDoorM17
import Derived.Test.YtnopenpheaihmaaGreatDoorM8
import Derived.Test.YtnopenpheaihmaaGreatDoorM6
import Derived.Test.YtnopenpheaihmaaGreatDoorM12
import Derived.Test.YtnopenpheaihmaaGreatDoorM10
import Derived.Test.YtnopenpheaihmaaGreatDoorM13
import Derived.Test.YtnopenpheaihmaaGreatDoorM16
import Derived.Test.YtnopenpheaihmaaGreatDoorM11
namespace Go.Proofs.Xx
open Go Go.Proofs
set_option linter.unusedSimpArgs false
set_option linter.unusedVariables false
set_option maxRecDepth 100000
def qhF (s:List UInt8) (k:Int) (b:Bool):Prop:=(b=true∧qeX s∧k=JP s)∨(b=false∧¬ qeX s)
theorem Yn:(default:UInt8)=0:=rfl
theorem qbz {x c:UInt8} (h:(x.toNat:Int)=c.toNat):x=c:=UInt8.toNat.inj (by omega)
theorem qbw {s:List UInt8} {i:Nat} (h:∀ j,j<i→Yk (s.getD j default)) (hi:i≤9∧i≤s.length):JP (s.take i)<1000000000:=by
 have key:∀ k,k≤i→JP (s.take k)<10 ^ k:=fun k hk=>by
  induction k with
  | zero=>simp [JP]
  | succ k ih =>
   have:=ih (by omega)
   have d:=h k (by omega)
   unfold Yk at d
   rw [VA (by omega),Nat.pow_succ]
   omega
 have h1:=key i (Nat.le_refl _)
 have h2:10 ^ i≤10 ^ 9:=Nat.pow_le_pow_right (by decide) hi.1
 omega
theorem qcA {p:Nat→Prop} {i:Nat} (h:∀ j,j<i→p j) (hi:p i):∀ j,j<i+1→p j:=fun j hj=>by
 rcases Nat.lt_or_ge j i with q|q
 ·exact h j q
 ·obtain rfl:j=i:=by omega
  exact hi
theorem qcB {h0:AH} (w:WfH h0) (s:List UInt8) (hs:s.length≤1000000):Fn Tryz.prog Xh 168 [str s] h0 (fun v h'=>∃ k b,v = .tuple #[.int .i64 k,.bool b]∧qhF s k b∧Hs h0 h' []):=by
 have S:=Hs.start w
 refine qF rfl Tryz.func168 rfl rfl ?_
 all_goals (repeat' (first|refine qi ?_|(refine qf 0 ?_;refine mv ?_;refine mv ?_;refine qg ?_)))
 (repeat (refine qi ?_));first|refine JB (σ:=Unit) (fun _ h'=>Hs h0 h' []∧1≤s.length∧s.length≤9∧(1<s.length→s.getD 0 default≠48)) (fun _=>[(0,str s)]) ?_ ?_
 ·all_goals (repeat' (first|refine qi ?_|refine ql rfl ?_|refine qo ?_|(refine qf 1 ?_;refine mv ?_;refine tl ?_;(first|(refine cS ?_ ?_<;>intro hc))<;>(refine mv ?_;(first|refine off ?_|refine mv ?_);(first|refine off ?_|refine tl ?_);(first|refine off ?_|(first|(refine cS ?_ ?_<;>intro hc)))<;>(refine vl ?_;refine mv ?_;(first|refine off ?_|refine mv ?_);(first|refine off ?_|refine tl ?_);(first|refine off ?_|(first|(refine cS ?_ ?_<;>intro hc)))<;>((first|refine off ?_|refine mv ?_);(first|refine off ?_|refine mv ?_);(first|refine off ?_|(refine ti ?_));(first|refine off ?_|(first|(refine cS ?_ ?_<;>intro hc)))<;>((first|refine off ?_|refine vl ?_);refine vl ?_;refine qg ?_)))))|(refine qf 2 ?_;refine mv ?_;refine mv ?_;refine qg ?_)))
  ·refine qx ⟨_,rfl,?_⟩
   exact ⟨0,false,rfl,.inr ⟨rfl,fun q=>by have:=q.1;omega⟩,S⟩
  ·refine qx ⟨_,rfl,?_⟩
   exact ⟨0,false,rfl,.inr ⟨rfl,fun q=>by have:=q.2.1;omega⟩,S⟩
  ·refine qx ⟨_,rfl,?_⟩
   have hz:=qbz (c:=48) hc
   exact ⟨0,false,rfl,.inr ⟨rfl,fun q=>q.2.2.1 (by omega) hz⟩,S⟩
  ·exact ⟨(),⟨S,by omega,by omega,fun _ q=>hc (by rw [show s.getD (Int.toNat 0) 0=s.getD 0 default from rfl,q];rfl)⟩,((by repeat (first|exact Ks.le_nil _|refine Ks.qh rfl ?_)))⟩
  ·exact ⟨(),⟨S,by omega,by omega,fun q=>by omega⟩,((by repeat (first|exact Ks.le_nil _|refine Ks.qh rfl ?_)))⟩
 clear S
 rintro - h ⟨S,l1,l2,l3⟩
 skip
 all_goals (repeat' (first|refine qi ?_|refine qm ?_|(refine qf 3 ?_;refine mv ?_;refine qg ?_)|(refine qf 4 ?_;refine mv ?_;refine qg ?_)))
 refine qE (σ:=Nat) (fun i h'=>Hs h0 h' []∧i≤s.length∧∀ j,j<i→Yk (s.getD j default)) (fun i=>s.length - i) (fun i=>[(0,str s),(4,.int .i64 (JP (s.take i):Nat)),(5,.int .i64 i)]) 0 (by repeat (first|exact Ks.le_nil _|refine Ks.qh rfl ?_)) ?_ ?_
 ·exact ⟨S,Nat.zero_le _,fun j hj=>absurd hj (Nat.not_lt_zero _)⟩
 clear S
 rintro i h ⟨S,h1,h2⟩
 have hb:=qbw (s:=s) h2 (by omega)
 all_goals (repeat' (first|refine qi ?_|refine ql rfl ?_|refine qo ?_|refine qA ?_|refine qm ?_|(refine qf 5 ?_;refine mv ?_;refine mv ?_;refine tl ?_;(first|(refine cS ?_ ?_<;>intro hc))<;>(refine qg ?_))|(refine qf 7 ?_;refine mv ?_;refine mv ?_;refine ti ?_;(first|(refine cS ?_ ?_<;>intro hc))<;>(refine mv ?_;(first|refine off ?_|refine mv ?_);(first|refine off ?_|refine mv ?_);(first|refine off ?_|(refine ti ?_));(first|refine off ?_|(first|(refine cS ?_ ?_<;>intro hc)))<;>(refine vl ?_;refine qg ?_)))|(refine qf 8 ?_;refine mv ?_;refine mv ?_;refine qg ?_)))
 ·(try simp only [Int.toNat_natCast] at *)
  refine qx ⟨_,rfl,?_⟩
  exact ⟨0,false,rfl,.inr ⟨rfl,fun q=>by have:=q.2.2.2 i (by omega);unfold Yk at this;rw [Yn] at this;omega⟩,S⟩
 ·(try simp only [Int.toNat_natCast] at *)
  refine qx ⟨_,rfl,?_⟩
  exact ⟨0,false,rfl,.inr ⟨rfl,fun q=>by have:=q.2.2.2 i (by omega);unfold Yk at this;rw [Yn] at this;omega⟩,S⟩
 ·all_goals (repeat' (first|(refine qf 6 ?_;refine mv ?_;refine ad ?_;refine mv ?_;refine qg ?_)|(refine qf 9 ?_;refine mv ?_;refine ml ?_;refine mv ?_;refine mv ?_;refine ti ?_;refine sU ?_;refine cI ?_;refine ad ?_;refine mv ?_;refine qg ?_)))
  (try simp only [Int.toNat_natCast] at *)
  have hi:i<s.length:=by omega
  have hd:Yk (s.getD i default):=by unfold Yk;rw [Yn];omega
  have e:=VA hi
  rw [Yn] at e
  have e2:(10:Int)*(JP (s.take i):Nat)+(((s.getD i 0).toNat:Int) - 48)=(JP (s.take (i+1)):Nat):=by
   unfold Yk at hd
   rw [Yn] at hd
   omega
  rw [e2]
  refine ⟨i+1,?_,?_,(by repeat (first|exact Ks.le_nil _|refine Ks.qh rfl ?_))⟩
  ·show s.length - (i+1)<s.length - i;omega
  ·exact ⟨S,by omega,qcA h2 hd⟩
 ·have hi:i=s.length:=by omega
  subst hi
  rw [List.take_length]
  skip
  all_goals (repeat' (first|(refine qf 10 ?_;(iterate 3 refine mv ?_);refine qg ?_)))
  refine qx ⟨_,rfl,?_⟩
  exact ⟨_,true,rfl,.inl ⟨rfl,⟨l1,l2,l3,h2⟩,rfl⟩,S⟩
theorem gZ {h0:AH} (w:WfH h0) (s:List UInt8) (hs:s.length≤1000000):Fn Tryz.prog Xh 176 [str s] h0 (fun v h'=>∃ k b,v = .tuple #[.int .i64 k,.bool b]∧qhF s k b∧Hs h0 h' []):=by
 have S:=Hs.start w
 refine qF rfl Tryz.func176 rfl rfl ?_
 all_goals (repeat' (first|refine qi ?_|(refine qf 0 ?_;refine mv ?_;refine mv ?_;refine qg ?_)))
 (repeat (refine qi ?_));first|refine JB (σ:=Unit) (fun _ h'=>Hs h0 h' []∧1≤s.length∧s.length≤9) (fun _=>[(0,str s)]) ?_ ?_
 ·all_goals (repeat' (first|refine qi ?_|refine ql rfl ?_|refine qo ?_|(refine qf 1 ?_;refine mv ?_;refine tl ?_;(first|(refine cS ?_ ?_<;>intro hc))<;>(refine mv ?_;(first|refine off ?_|refine mv ?_);(first|refine off ?_|refine tl ?_);(first|refine off ?_|(first|(refine cS ?_ ?_<;>intro hc)))<;>(refine vl ?_;refine qg ?_)))|(refine qf 2 ?_;refine mv ?_;refine mv ?_;refine qg ?_)))
  ·refine qx ⟨_,rfl,?_⟩
   exact ⟨0,false,rfl,.inr ⟨rfl,fun q=>by have:=q.1;omega⟩,S⟩
  ·refine qx ⟨_,rfl,?_⟩
   exact ⟨0,false,rfl,.inr ⟨rfl,fun q=>by have:=q.2.1;omega⟩,S⟩
  ·exact ⟨(),⟨S,by omega,by omega⟩,((by repeat (first|exact Ks.le_nil _|refine Ks.qh rfl ?_)))⟩
 clear S
 rintro - h ⟨S,l1,l2⟩
 skip
 all_goals (repeat' (first|refine qi ?_|refine qm ?_|(refine qf 3 ?_;refine mv ?_;refine qg ?_)|(refine qf 4 ?_;refine mv ?_;refine qg ?_)))
 refine qE (σ:=Nat) (fun i h'=>Hs h0 h' []∧i≤s.length∧∀ j,j<i→Yk (s.getD j default)) (fun i=>s.length - i) (fun i=>[(0,str s),(4,.int .i64 (JP (s.take i):Nat)),(5,.int .i64 i)]) 0 (by repeat (first|exact Ks.le_nil _|refine Ks.qh rfl ?_)) ?_ ?_
 ·exact ⟨S,Nat.zero_le _,fun j hj=>absurd hj (Nat.not_lt_zero _)⟩
 clear S
 rintro i h ⟨S,h1,h2⟩
 have hb:=qbw (s:=s) h2 (by omega)
 all_goals (repeat' (first|refine qi ?_|refine ql rfl ?_|refine qo ?_|refine qA ?_|refine qm ?_|(refine qf 5 ?_;refine mv ?_;refine mv ?_;refine tl ?_;(first|(refine cS ?_ ?_<;>intro hc))<;>(refine qg ?_))|(refine qf 7 ?_;refine mv ?_;refine mv ?_;refine ti ?_;(first|(refine cS ?_ ?_<;>intro hc))<;>(refine mv ?_;(first|refine off ?_|refine mv ?_);(first|refine off ?_|refine mv ?_);(first|refine off ?_|(refine ti ?_));(first|refine off ?_|(first|(refine cS ?_ ?_<;>intro hc)))<;>(refine vl ?_;refine qg ?_)))|(refine qf 8 ?_;refine mv ?_;refine mv ?_;refine qg ?_)))
 ·(try simp only [Int.toNat_natCast] at *)
  refine qx ⟨_,rfl,?_⟩
  exact ⟨0,false,rfl,.inr ⟨rfl,fun q=>by have:=q.2.2.2 i (by omega);unfold Yk at this;rw [Yn] at this;omega⟩,S⟩
 ·(try simp only [Int.toNat_natCast] at *)
  refine qx ⟨_,rfl,?_⟩
  exact ⟨0,false,rfl,.inr ⟨rfl,fun q=>by have:=q.2.2.2 i (by omega);unfold Yk at this;rw [Yn] at this;omega⟩,S⟩
 ·all_goals (repeat' (first|(refine qf 6 ?_;refine mv ?_;refine ad ?_;refine mv ?_;refine qg ?_)|(refine qf 9 ?_;refine mv ?_;refine ml ?_;refine mv ?_;refine mv ?_;refine ti ?_;refine cI ?_;refine ad ?_;refine sb ?_;refine mv ?_;refine qg ?_)))
  (try simp only [Int.toNat_natCast] at *)
  have hi:i<s.length:=by omega
  have hd:Yk (s.getD i default):=by unfold Yk;rw [Yn];omega
  have e:=VA hi
  rw [Yn] at e
  have e2:((JP (s.take i):Nat):Int)*10+((s.getD i 0).toNat:Int) - 48=(JP (s.take (i+1)):Nat):=by
   unfold Yk at hd
   rw [Yn] at hd
   omega
  rw [e2]
  refine ⟨i+1,?_,?_,(by repeat (first|exact Ks.le_nil _|refine Ks.qh rfl ?_))⟩
  ·show s.length - (i+1)<s.length - i;omega
  ·exact ⟨S,by omega,qcA h2 hd⟩
 ·have hi:i=s.length:=by omega
  subst hi
  rw [List.take_length]
  skip
  all_goals (repeat' (first|(refine qO 10 ?_;refine mv ?_;refine mv ?_;refine tl ?_;(first|(refine cS ?_ ?_<;>intro hc))<;>(refine mv ?_;(first|refine off ?_|refine mv ?_);(first|refine off ?_|(refine ti ?_));(first|refine off ?_|(first|(refine cS ?_ ?_<;>intro hc)))<;>(refine vl ?_;refine mv ?_;refine mv ?_;refine qg ?_)))))
  all_goals (refine qx ⟨_,rfl,?_⟩)
  ·exact ⟨_,true,rfl,.inl ⟨rfl,⟨l1,l2,fun q=>by omega,h2⟩,rfl⟩,S⟩
  ·exact ⟨_,true,rfl,.inl ⟨rfl,⟨l1,l2,fun _ q=>hc (by rw [show s.getD (Int.toNat 0) 0=s.getD 0 default from rfl,q];rfl),h2⟩,rfl⟩,S⟩
  ·have hz:=qbz (c:=48) (Classical.not_not.1 hc)
   exact ⟨_,false,rfl,.inr ⟨rfl,fun q=>q.2.2.1 (by omega) hz⟩,S⟩
theorem qco {h0:AH} (w:WfH h0):Fn Tryz.prog Xh 167 [] h0 (fun v h'=>Hs h0 h' [.sl v 22 1 eU [1,2,3,4]]):=by
 have S:=Hs.start w
 refine qF rfl Tryz.func167 rfl rfl ?_
 all_goals (repeat' (first|refine qi ?_|(refine qf 0 ?_;refine mv ?_;refine qg ?_)))
 (repeat (refine qi ?_));refine qf 1 ?_
 refine Gj (z:=1) eU [1,2,3,4] S ?_;clear S;intro u h S
 refine mv ?_;refine qg ?_
 all_goals (repeat' (fail))
 refine qx ⟨_,rfl,?_⟩
 exact S
def qaO (i:Nat) (w:List UInt8):Int:=if 4≤i∧w=wRow then 4 else if 3≤i∧w=Xi then 3 else if 2≤i∧w=Xj then 2 else if 1≤i∧w=Zu then 1 else 0
theorem pg (w:List UInt8):qaO 4 w=shp w:=by
 unfold qaO shp
 by_cases h1:w=Zu
 ·subst h1;decide
 ·by_cases h2:w=Xj
  ·subst h2;decide
  ·by_cases h3:w=Xi
   ·subst h3;decide
   ·simp [h1,h2,h3]
def lwd (i:Nat):List UInt8:=if i=0 then Zu else if i=1 then Xj else if i=2 then Xi else wRow
theorem wH {i:Nat} (hi:i<4) (w:List UInt8):qaO (i+1) w=if w=lwd i then (i:Int)+1 else qaO i w:=by
 have:i=0∨i=1∨i=2∨i=3:=by omega
 rcases this with rfl|rfl|rfl|rfl<;>(unfold qaO lwd;simp)
def qb8 (s:List UInt8) (t:Tab) (b:Bool):Prop:=(b=true∧LineP (jA 32 s)∧SameTab t (Qp (jA 32 s)))∨(b=false∧¬ LineP (jA 32 s))
theorem xG (c:UInt8):∀ s:List UInt8,∀ w∈jA c s,w.length≤s.length
 | [],w,h=>by simp [jA] at h;subst h;simp
 | x :: s,w,h=>by
  unfold jA at h
  split at h
  ·rcases List.mem_cons.1 h with rfl|h
   ·simp
   ·have:=xG c s w h;simp;omega
  ·cases hs:jA c s with
   | nil=>exact absurd hs (Z4 c s)
   | cons u r =>
    rw [hs] at h
    rcases List.mem_cons.1 (show w∈([x] ++ u) :: r from h) with rfl|h
    ·have:=xG c s u (by rw [hs];simp);simp;omega
    ·have:=xG c s w (by rw [hs];simp [h]);simp;omega
theorem qg5 {α:Type} [Inhabited α] {l:List α} {i:Nat} (h:i<l.length):l.getD i default∈l:=by
 rw [List.getD_eq_getElem?_getD,List.getElem?_eq_getElem h];exact List.getElem_mem h
theorem qdo {c:UInt8} {s:List UInt8} {i:Nat} (h:i<(jA c s).length):(Q3 (jA c s) i).length≤s.length:=xG c s _ (qg5 h)
abbrev zT:List Value:=[str [],.int .u8 0,.int .i64 0,.int .i64 0,.slice none 0 0,.int .i64 0,.int .i64 0]
abbrev nT (w:List UInt8) (z:Int):List Value:=[str w,.int .u8 z,.int .i64 0,.int .i64 0,.slice none 0 0,.int .i64 0,.int .i64 0]
def t0T:Tab:=⟨[],0,0,0,⟨none,0,0⟩,[],0,0⟩
theorem qaH:t0T.name.length≤1000000∧t0T.opn.length≤1000000:=by simp [t0T]
theorem Hs.nil0 {h0 h:AH} {rs:List Rs} (S:Hs h0 h rs):Hs h0 h [.rd t0T.ov 1 eI t0T.opn]:=S.drop.grow (fp:=fun _=>False) (Ext.refl S.wf) (.inl ⟨rfl,rfl⟩) fun b hb=>hb.elim
theorem Hs.qf1 {h0 h:AH} {rs:List Rs} {α:Type} {v:Value} {e:TypeId} {z:Nat} {enc:α→List Value} {l:List α} (S:Hs h0 h (.sl v e z enc l :: rs)):Hs h0 h (.rd v z enc l :: rs):=S.conv fun fp k=>by
 rcases k with k|⟨b,o,cc,slk,h1,h2,h3,h4,-⟩
 ·exact .inl k
 ·exact .inr ⟨b,o,_,cc,e,slk,false,h1,h2,h3,h4⟩
def NumsTo (ws:List (List UInt8)) (j:Nat) (nl:List Int):Prop:=nl.length=j∧∀ k,k<j→qeX (Q3 ws (3+k))∧nl.getD k default=JP (Q3 ws (3+k))
theorem NumsTo.all {ws:List (List UInt8)} {nl:List Int} (h:NumsTo ws (ws.length - 3) nl):nl=(ws.drop 3).map fun w=>(JP w:Int):=by
 refine List.ext_getElem (by simp [h.1]) fun k h1 h2=>?_
 have h3:=(h.2 k (by rw [← h.1];exact h1)).2
 have e1:nl.getD k default=nl[k]:=by simp [List.getD_eq_getElem?_getD,h1]
 have h4:3+k<ws.length:=by have:=h.1;omega
 have e2:Q3 ws (3+k)=ws[3+k]:=by simp [Q3,List.getD_eq_getElem?_getD,h4]
 rw [e1,e2] at h3
 rw [h3];simp
theorem NumsTo.line {ws:List (List UInt8)} {nl:List Int} (h:NumsTo ws (ws.length - 3) nl) (h1:7≤ws.length) (h2:Q3 ws 0=gu) (h3:Q3 ws 1≠[]) (h4:shp (Q3 ws 2)≠0):LineP ws :=
 ⟨h1,h2,h3,h4,fun i q1 q2=>by
  have:=(h.2 (i - 3) (by omega)).1
  rwa [show 3+(i - 3)=i by omega] at this⟩
theorem NumsTo.same {ws:List (List UInt8)} {nl:List Int} (h:NumsTo ws (ws.length - 3) nl) (h1:7≤ws.length) (s:SlV):SameTab ⟨Q3 ws 1,shp (Q3 ws 2),nl.getD 0 default,nl.getD 1 default,s,nl.drop 4,nl.getD 2 default,nl.getD 3 default⟩ (Qp ws):=by
 refine (jB _ _).2 ⟨rfl,rfl,(h.2 0 (by omega)).2,(h.2 1 (by omega)).2,(h.2 2 (by omega)).2,(h.2 3 (by omega)).2,?_⟩
 show nl.drop 4=(ws.drop 7).map _
 rw [h.all,← List.map_drop,List.drop_drop]
theorem qcS {α:Type} [Inhabited α] (l:List α) (a j:Nat):(l.drop a).getD j default=l.getD (a+j) default:=by
 simp [List.getD_eq_getElem?_getD]
theorem Zk {h0 h:AH} {us vw:Value} {bt br:Nat} {ws:List (List UInt8)} {z z':Int} (S:Hs h0 h [.sl us 22 1 eU [1,2,3,4],.blk bt (nT (Q3 ws 1) z) 25,.sl vw 9 1 eS ws,.blk br zT 25]) (hz:z'=z) :
 Hs h0 h [.sl us 22 1 eU [1,2,3,4],.blk bt (nT (Q3 ws 1) z') 25,.sl vw 9 1 eS ws,.blk br zT 25]:=hz ▸ S
set_option maxHeartbeats 1000000 in
theorem GY {h0:AH} (w:WfH h0) (s:List UInt8) (hs:s.length≤100000):Fn Tryz.prog Xh 118 [str s] h0 (fun v h'=>∃ t b,v = .tuple #[jg t,.bool b]∧qb8 s t b∧(t.name.length≤1000000∧t.opn.length≤1000000)∧Hs h0 h' [.rd t.ov 1 eI t.opn]):=by
 have S:=Hs.start w
 have hlen:=Z5 32 s
 have hcs:s.countP (· == 32)≤s.length:=List.countP_le_length
 have hwl:=fun i (h:i<(jA 32 s).length)=>qdo h
 refine qF rfl Tryz.func118 rfl rfl ?_
 all_goals (repeat' (first|refine qi ?_|(refine qf 0 ?_;(refine al S ?_;clear S;intro b h S);refine mv ?_;refine qg ?_)|(refine qf 1 ?_;refine mv ?_)))
 obtain ⟨br,hnm⟩:∃ x,x=b:=⟨_,rfl⟩;subst hnm
 (refine qw rfl rfl rfl rfl rfl ((split_ok S.wf s [32] rfl (by omega)).mono ?_);rintro vw h x)<;>(replace S:=S.jo x;clear x;refine mv ?_;refine qg ?_)
 change Hs h0 h (.sl vw 9 1 eS (jA 32 s) :: _) at S
 obtain ⟨ws,hws⟩:∃ ws,ws=jA 32 s:=⟨_,rfl⟩
 unfold qb8
 rw [← hws] at S hlen hwl ⊢
 (repeat (refine qi ?_));first|refine JB (σ:=Unit) (fun _ h'=>Hs h0 h' [.sl vw 9 1 eS ws,.blk br zT 25]∧7≤ws.length∧Q3 ws 0=gu∧Q3 ws 1≠[]) (fun _=>[(2,PT br),(4,vw)]) ?_ ?_
 ·all_goals (repeat' (first|refine qi ?_|refine ql rfl ?_|refine qo ?_|(refine qf 2 ?_;refine mv ?_;refine ZC S rfl rfl ?_;(first|(refine cS ?_ ?_<;>intro hc))<;>(refine mv ?_;(first|refine off ?_|refine mv ?_);(first|refine off ?_|(refine qH S rfl rfl ?_));(first|refine off ?_|(refine qI S rfl rfl ?_));(first|refine off ?_|(refine tS ?_ ?_<;>intro hc))<;>(refine vl ?_;refine mv ?_;(first|refine off ?_|refine mv ?_);(first|refine off ?_|(refine qH S rfl rfl ?_));(first|refine off ?_|(refine qI S rfl rfl ?_));(first|refine off ?_|(refine tS ?_ ?_<;>intro hc))<;>(refine vl ?_;refine qg ?_))))|(refine qf 3 ?_;refine vl ?_;(first|(refine sB S rfl rfl ?_;clear S;intro h S));refine mv ?_;refine qg ?_)))
  ·refine qx ⟨_,zK S rfl (by first|exact .there .here) (by exact rfl) (by exact rfl),?_⟩
   exact ⟨t0T,false,rfl,.inr ⟨rfl,fun q=>by have:=q.1;omega⟩,qaH,S.nil0⟩
  ·refine qx ⟨_,zK S rfl (by first|exact .there .here) (by exact rfl) (by exact rfl),?_⟩
   exact ⟨t0T,false,rfl,.inr ⟨rfl,fun q=>q.2.2.1 hc⟩,qaH,S.nil0⟩
  ·rename_i hc1
   exact ⟨(),⟨S,by omega,hc1,hc⟩,((by repeat (first|exact Ks.le_nil _|refine Ks.qh rfl ?_)))⟩
  ·refine qx ⟨_,zK S rfl (by first|exact .there .here) (by exact rfl) (by exact rfl),?_⟩
   exact ⟨t0T,false,rfl,.inr ⟨rfl,fun q=>hc q.2.1⟩,qaH,S.nil0⟩
 clear S
 rintro - h ⟨S,l7,w0,w1⟩
 skip
 all_goals (repeat' (first|refine qi ?_|(refine qf 4 ?_;refine mv ?_;refine qH S rfl rfl ?_;refine qI S rfl rfl ?_;refine vl ?_;(refine al S ?_;clear S;intro b h S);(first|(refine sB S rfl rfl ?_;clear S;intro h S));refine qg ?_)|(refine qf 5 ?_;skip)))
 obtain ⟨bt,hnm⟩:∃ x,x=b:=⟨_,rfl⟩;subst hnm
 (refine qw rfl rfl rfl rfl rfl ((qco S.wf).mono ?_);rintro us h x)<;>(replace S:=S.jo x;clear x;refine ZC S rfl rfl ?_;refine mv ?_;refine qg ?_)
 all_goals (repeat' (refine qm ?_))
 have hl4:([1,2,3,4]:List Nat).length=4:=rfl
 refine qE (σ:=Nat) (fun i h'=>Hs h0 h' [.sl us 22 1 eU [1,2,3,4],.blk bt (nT (Q3 ws 1) (qaO i (Q3 ws 2))) 25,.sl vw 9 1 eS ws,.blk br zT 25]∧i≤4) (fun i=>4 - i) (fun i=>[(2,PT br),(4,vw),(5,PT bt),(38,us),(39,.int .i64 ([1,2,3,4]:List Nat).length),(40,.int .i64 i)]) 0 (by repeat (first|exact Ks.le_nil _|refine Ks.qh rfl ?_)) ?_ ?_
 ·exact ⟨S,Nat.zero_le _⟩
 clear S
 rintro i h ⟨S,hi1⟩
 all_goals (repeat' (first|refine qi ?_|refine ql rfl ?_|refine qo ?_|refine qA ?_|refine qm ?_|(refine qf 6 ?_;(first|(refine cS ?_ ?_<;>intro hc))<;>(refine qg ?_))|(refine qf 7 ?_;refine qH S rfl rfl ?_;refine qI S rfl rfl ?_;refine mv ?_;refine qg ?_)))
 ·have hi:i<4:=by omega
  (try simp only [Int.toNat_natCast])
  have hx:([1,2,3,4]:List Nat).getD i default=i+1:=by
   have:i=0∨i=1∨i=2∨i=3:=by omega
   rcases this with rfl|rfl|rfl|rfl<;>rfl
  rw [hx]
  have hss:=wH hi (Q3 ws 2)
  have hlw:∀ k,k<4→lwd k=if k=0 then Zu else if k=1 then Xj else if k=2 then Xi else wRow:=fun k _=>rfl
  all_goals (repeat' (first|(refine qf 8 ?_;refine mv ?_)))
  (refine qw rfl rfl rfl rfl rfl ((Qg S.wf _).mono ?_);rintro _ h ⟨⟨rfl,hq⟩|⟨rfl,hq⟩|⟨rfl,hq⟩|⟨rfl,hq⟩|⟨rfl,hq⟩,x⟩)<;>(replace S:=S.qy x;clear x;refine mv ?_;refine vl ?_;refine vl ?_;(refine al S ?_;clear S;intro b h S);(first|(refine sB S rfl rfl ?_;clear S;intro h S));refine mv ?_;refine qg ?_)
  all_goals (try (exfalso;omega))
  ·obtain rfl:i=0:=by omega
   all_goals (repeat' (first|refine qi ?_|refine ql rfl ?_|refine qo ?_|(refine qO 9 ?_;refine vl ?_;refine lB S rfl rfl ?_;refine mv ?_;refine qH S rfl rfl ?_;refine qI S rfl rfl ?_;(refine tS ?_ ?_<;>intro hc)<;>(refine qg ?_))|(refine qf 10 ?_;refine mv ?_;refine vl ?_;(first|(refine sB S rfl rfl ?_;clear S;intro h S));refine qg ?_)|(refine qf 11 ?_;refine ad ?_;refine mv ?_;refine qg ?_)))
   ·rw [if_pos (show Q3 ws 2=lwd 0 from hc.symm)] at hss
    refine ⟨0+1,?_,?_,(by repeat (first|exact Ks.le_nil _|refine Ks.qh rfl ?_))⟩
    ·show 4 - (0+1)<4 - 0;omega
    ·exact ⟨Zk (S.del .here) hss,by omega⟩
   ·rw [if_neg (show ¬ Q3 ws 2=lwd 0 from fun q=>hc q.symm)] at hss
    refine ⟨0+1,?_,?_,(by repeat (first|exact Ks.le_nil _|refine Ks.qh rfl ?_))⟩
    ·show 4 - (0+1)<4 - 0;omega
    ·exact ⟨Zk (S.del .here) hss,by omega⟩
  ·obtain rfl:i=1:=by omega
   all_goals (repeat' (first|refine qi ?_|refine ql rfl ?_|refine qo ?_|(refine qO 9 ?_;refine vl ?_;refine lB S rfl rfl ?_;refine mv ?_;refine qH S rfl rfl ?_;refine qI S rfl rfl ?_;(refine tS ?_ ?_<;>intro hc)<;>(refine qg ?_))|(refine qf 10 ?_;refine mv ?_;refine vl ?_;(first|(refine sB S rfl rfl ?_;clear S;intro h S));refine qg ?_)|(refine qf 11 ?_;refine ad ?_;refine mv ?_;refine qg ?_)))
   ·rw [if_pos (show Q3 ws 2=lwd 1 from hc.symm)] at hss
    refine ⟨1+1,?_,?_,(by repeat (first|exact Ks.le_nil _|refine Ks.qh rfl ?_))⟩
    ·show 4 - (1+1)<4 - 1;omega
    ·exact ⟨Zk (S.del .here) hss,by omega⟩
   ·rw [if_neg (show ¬ Q3 ws 2=lwd 1 from fun q=>hc q.symm)] at hss
    refine ⟨1+1,?_,?_,(by repeat (first|exact Ks.le_nil _|refine Ks.qh rfl ?_))⟩
    ·show 4 - (1+1)<4 - 1;omega
    ·exact ⟨Zk (S.del .here) hss,by omega⟩
  ·obtain rfl:i=2:=by omega
   all_goals (repeat' (first|refine qi ?_|refine ql rfl ?_|refine qo ?_|(refine qO 9 ?_;refine vl ?_;refine lB S rfl rfl ?_;refine mv ?_;refine qH S rfl rfl ?_;refine qI S rfl rfl ?_;(refine tS ?_ ?_<;>intro hc)<;>(refine qg ?_))|(refine qf 10 ?_;refine mv ?_;refine vl ?_;(first|(refine sB S rfl rfl ?_;clear S;intro h S));refine qg ?_)|(refine qf 11 ?_;refine ad ?_;refine mv ?_;refine qg ?_)))
   ·rw [if_pos (show Q3 ws 2=lwd 2 from hc.symm)] at hss
    refine ⟨2+1,?_,?_,(by repeat (first|exact Ks.le_nil _|refine Ks.qh rfl ?_))⟩
    ·show 4 - (2+1)<4 - 2;omega
    ·exact ⟨Zk (S.del .here) hss,by omega⟩
   ·rw [if_neg (show ¬ Q3 ws 2=lwd 2 from fun q=>hc q.symm)] at hss
    refine ⟨2+1,?_,?_,(by repeat (first|exact Ks.le_nil _|refine Ks.qh rfl ?_))⟩
    ·show 4 - (2+1)<4 - 2;omega
    ·exact ⟨Zk (S.del .here) hss,by omega⟩
  ·obtain rfl:i=3:=by omega
   all_goals (repeat' (first|refine qi ?_|refine ql rfl ?_|refine qo ?_|(refine qO 9 ?_;refine vl ?_;refine lB S rfl rfl ?_;refine mv ?_;refine qH S rfl rfl ?_;refine qI S rfl rfl ?_;(refine tS ?_ ?_<;>intro hc)<;>(refine qg ?_))|(refine qf 10 ?_;refine mv ?_;refine vl ?_;(first|(refine sB S rfl rfl ?_;clear S;intro h S));refine qg ?_)|(refine qf 11 ?_;refine ad ?_;refine mv ?_;refine qg ?_)))
   ·rw [if_pos (show Q3 ws 2=lwd 3 from hc.symm)] at hss
    refine ⟨3+1,?_,?_,(by repeat (first|exact Ks.le_nil _|refine Ks.qh rfl ?_))⟩
    ·show 4 - (3+1)<4 - 3;omega
    ·exact ⟨Zk (S.del .here) hss,by omega⟩
   ·rw [if_neg (show ¬ Q3 ws 2=lwd 3 from fun q=>hc q.symm)] at hss
    refine ⟨3+1,?_,?_,(by repeat (first|exact Ks.le_nil _|refine Ks.qh rfl ?_))⟩
    ·show 4 - (3+1)<4 - 3;omega
    ·exact ⟨Zk (S.del .here) hss,by omega⟩
 obtain rfl:i=4:=by omega
 rw [pg] at S
 replace S:=S.tail
 obtain ⟨z,hz⟩:∃ z,z=shp (Q3 ws 2):=⟨_,rfl⟩
 rw [← hz] at S
 skip
 (repeat (refine qi ?_));first|refine Vu (σ:=Bool) (fun b h'=>Hs h0 h' [.blk bt (nT (Q3 ws 1) z) 25,.sl vw 9 1 eS ws,.blk br zT 25]∧(b=true↔z≠0)) (fun b=>[(2,PT br),(4,vw),(5,PT bt),(10,.bool b)]) ?_ ?_
 ·all_goals (repeat' (first|(refine qf 12 ?_;refine vl ?_;refine lB S rfl rfl ?_;(first|(refine cS ?_ ?_<;>intro hc))<;>(refine mv ?_;refine qg ?_))))
  ·exact ⟨true,⟨S,⟨fun _=>hc,fun _=>rfl⟩⟩,((by repeat (first|exact Ks.le_nil _|refine Ks.qh rfl ?_)))⟩
  ·exact ⟨false,⟨S,⟨fun q=>(by cases q),fun q=>absurd q hc⟩⟩,((by repeat (first|exact Ks.le_nil _|refine Ks.qh rfl ?_)))⟩
 clear S
 rintro b0 h ⟨S,hb0⟩
 skip
 all_goals (repeat' (first|refine qi ?_|refine qm ?_|(refine qf 13 ?_;refine mv ?_;refine qg ?_)|(refine qf 14 ?_;refine mv ?_;(refine dr S rfl rfl ?_;clear S;intro vq S);refine ZC S rfl rfl ?_;refine mv ?_;refine qg ?_)))
 (try simp only [show Int.toNat 3=3 from rfl] at S)
 (try simp only [show Int.toNat 3=3 from rfl])
 refine qE (σ:=Nat×Bool×List Int×Value) (fun (j,b,nl,vn) h'=>Hs h0 h' [.sl vn 3 1 eI nl,.sl vq 9 1 eS (ws.drop 3),.blk bt (nT (Q3 ws 1) z) 25,.blk br zT 25]∧j≤ws.length - 3∧nl.length=j∧(b=true→z≠0∧NumsTo ws j nl)∧(b=false→¬ LineP ws)) (fun (j,b,nl,vn)=>ws.length - 3 - j) (fun (j,b,nl,vn)=>[(2,PT br),(5,PT bt),(10,.bool b),(11,vn),(62,vq),(63,.int .i64 (ws.drop 3).length),(64,.int .i64 j)]) (0,b0,[],.slice none 0 0) (by repeat (first|exact Ks.le_nil _|refine Ks.qh rfl ?_)) ?_ ?_
 ·exact ⟨((S.front (.there .here)).jP),Nat.zero_le _,rfl,fun q=>⟨hb0.1 q,rfl,fun k hk=>absurd hk (Nat.not_lt_zero _)⟩,fun q l=>by rw [hb0.2 (hz ▸ l.2.2.2.1)] at q;cases q⟩
 clear S
 rintro ⟨j,b,nl,vn⟩ h ⟨S,hj1,hnl,hb1,hb2⟩
 have hdl:(ws.drop 3).length=ws.length - 3:=by simp
 all_goals (repeat' (first|refine qi ?_|refine ql rfl ?_|refine qo ?_|refine qA ?_|refine qm ?_|(refine qf 15 ?_;(first|(refine cS ?_ ?_<;>intro hc))<;>(refine qg ?_))|(refine qf 16 ?_;refine qH S rfl rfl ?_;refine qI S rfl rfl ?_;refine mv ?_;refine qg ?_)))
 ·have hj:j<ws.length - 3:=by omega
  (try simp only [Int.toNat_natCast])
  rw [qcS ws 3 j]
  have hwj:=hwl (3+j) (by omega)
  all_goals (repeat' (first|(refine qf 17 ?_;refine mv ?_)))
  (refine qw rfl rfl rfl rfl rfl ((qcB S.wf (Q3 ws (3+j)) (by omega)).mono ?_);rintro _ h ⟨k,bb,rfl,hn,x⟩)<;>(replace S:=S.qy x;clear x;refine mv ?_;refine vl ?_;refine vl ?_;refine mv ?_;refine mv ?_;refine qg ?_)
  all_goals (repeat' (first|refine qi ?_|(refine qf 18 ?_;refine mv ?_;refine mv ?_;(refine one 1 S ?_;clear S;intro u h S))))
  refine app (y0:=k) S rfl rfl ?_;clear S;intro v h S;refine mv ?_;refine qg ?_
  cases b
  ·all_goals (repeat' (first|(refine qf 19 ?_;refine mv ?_;refine mv ?_;refine off ?_;refine vl ?_;refine mv ?_;refine qg ?_)|(refine qf 20 ?_;refine ad ?_;refine mv ?_;refine qg ?_)))
   refine ⟨(j+1,false,nl ++ [k],v),?_,?_,(by repeat (first|exact Ks.le_nil _|refine Ks.qh rfl ?_))⟩
   ·show ws.length - 3 - (j+1)<ws.length - 3 - j;omega
   ·exact ⟨S,by omega,by simp [hnl],fun q=>(by cases q),fun _=>hb2 rfl⟩
  ·obtain ⟨hz0,hnt⟩:=hb1 rfl
   rcases hn with ⟨rfl,hn,hk⟩|⟨rfl,hn⟩
   ·all_goals (repeat' (first|(refine qf 19 ?_;(iterate 3 refine mv ?_);refine vl ?_;refine mv ?_;refine qg ?_)|(refine qf 20 ?_;refine ad ?_;refine mv ?_;refine qg ?_)))
    refine ⟨(j+1,true,nl ++ [k],v),?_,?_,(by repeat (first|exact Ks.le_nil _|refine Ks.qh rfl ?_))⟩
    ·show ws.length - 3 - (j+1)<ws.length - 3 - j;omega
    ·refine ⟨S,by omega,by simp [hnl],fun _=>⟨hz0,by simp [hnl],qcA (fun i hi=>⟨(hnt.2 i hi).1,?_⟩) ⟨hn,?_⟩⟩,fun q=>(by cases q)⟩
     ·rw [jq _ _ (by omega)];exact (hnt.2 i hi).2
     ·rw [jC _ _ (by omega)];exact hk
   ·all_goals (repeat' (first|(refine qf 19 ?_;(iterate 3 refine mv ?_);refine vl ?_;refine mv ?_;refine qg ?_)|(refine qf 20 ?_;refine ad ?_;refine mv ?_;refine qg ?_)))
    refine ⟨(j+1,false,nl ++ [k],v),?_,?_,(by repeat (first|exact Ks.le_nil _|refine Ks.qh rfl ?_))⟩
    ·show ws.length - 3 - (j+1)<ws.length - 3 - j;omega
    ·exact ⟨S,by omega,by simp [hnl],fun q=>(by cases q),fun _ l=>hn (l.2.2.2.2 (3+j) (by omega) (by omega))⟩
 have hj:j=ws.length - 3:=by omega
 subst hj
 skip
 cases b
 ·replace S:=S.front (.there (.there (.there .here)))
  all_goals (repeat' (first|refine qi ?_|refine ql rfl ?_|(refine qf 21 ?_;refine mv ?_;refine vl ?_;refine qg ?_)|(refine qf 22 ?_;refine vl ?_;(first|(refine sB S rfl rfl ?_;clear S;intro h S));refine mv ?_;refine qg ?_)))
  refine qx ⟨_,zK S rfl (by first|exact .here) (by exact rfl) (by exact rfl),?_⟩
  exact ⟨t0T,false,rfl,.inr ⟨rfl,hb2 rfl⟩,qaH,S.nil0⟩
 obtain ⟨hz0,hnt⟩:=hb1 rfl
 all_goals (repeat' (first|refine qi ?_|refine ql rfl ?_|refine qo ?_|(refine qf 21 ?_;refine mv ?_;refine vl ?_;refine qg ?_)))
 obtain ⟨⟨sp,sn,sc⟩,rfl⟩:=(Rd.zo S .here).Xq
 have hvn:=S.qgQ .here (by have:=hnt.1;omega)
 have hnl4:=hnt.1
 (repeat (refine qi ?_));refine jG (id:=23) [(5,(0,1)),(8,(0,2)),(11,(0,3)),(13,(0,4))] [some (Qi (.slice sp sn sc)),some (Qi (.slice sp sn sc)),some (Qi (.slice sp sn sc)),some (Qi (.slice sp sn sc))] ?_;refine qj ?_;(first|(refine mv ?_<;>refine qg ⟨⟨by (first|exact True.intro),rfl⟩,?_⟩));refine qj ?_;(first|(refine qH S rfl rfl ?_<;>refine qg ⟨⟨by (first|exact True.intro),rfl⟩,?_⟩));refine qj ?_;(first|(refine qI S rfl rfl ?_<;>refine qg ⟨⟨by (first|exact True.intro),rfl⟩,?_⟩));refine qj ?_;(first|(refine mv ?_<;>refine qg ⟨⟨by (first|exact True.intro),rfl⟩,?_⟩));refine qj ?_;(first|(refine qH S rfl rfl ?_<;>refine qg ⟨⟨by (first|exact True.intro),rfl⟩,?_⟩));refine qj ?_;(first|(refine qI S rfl rfl ?_<;>refine qg ⟨⟨by (first|exact Or.inr (congrArg some (zn _ _ _ _))),rfl⟩,?_⟩));refine qj ?_;(first|(refine mv ?_<;>refine qg ⟨⟨by (first|exact True.intro),rfl⟩,?_⟩));refine qj ?_;(first|(refine qH S rfl rfl ?_<;>refine qg ⟨⟨by (first|exact True.intro),rfl⟩,?_⟩));refine qj ?_;(first|(refine qI S rfl rfl ?_<;>refine qg ⟨⟨by (first|exact Or.inr (congrArg some (zn _ _ _ _))),rfl⟩,?_⟩));refine qj ?_;(first|(refine mv ?_<;>refine qg ⟨⟨by (first|exact True.intro),rfl⟩,?_⟩));refine qj ?_;(first|(refine qH S rfl rfl ?_<;>refine qg ⟨⟨by (first|exact True.intro),rfl⟩,?_⟩));refine qj ?_;(first|(refine qI S rfl rfl ?_<;>refine qg ⟨⟨by (first|exact Or.inr (congrArg some (zn _ _ _ _))),rfl⟩,?_⟩));refine qj ?_;(first|(refine mv ?_<;>refine qg ⟨⟨by (first|exact True.intro),rfl⟩,?_⟩));refine qj ?_;refine drB S rfl rfl ?_;clear S;intro vq S hvb;obtain ⟨⟨qp,qn,qc⟩,rfl⟩:=S.sV vq;have hvq:=hvb.2 (by assumption);refine qg ⟨⟨by (first|exact Or.inr (congrArg some (qc9 _ _ _))),rfl⟩,?_⟩;refine qj ?_;(first|(refine vl ?_<;>refine qg ⟨⟨by (first|exact True.intro),rfl⟩,?_⟩));refine qj ?_;(first|(refine sBk S rfl rfl ?_;have S0:=S;clear S;intro h S hk;refine qg ⟨⟨True.intro,?_⟩,?_⟩;(focus ((show keepsX _ _ _ _ _;simp only [keepsX];(repeat' (first|exact True.intro|refine And.intro ?_ ?_));all_goals (intro hw;first|(rw [← hvb.1];exact hk _ (S0.neB (by assumption)))))));clear S0 hk));refine qj ?_;(first|(refine vl ?_<;>refine qg ⟨⟨by (first|exact True.intro),rfl⟩,?_⟩));refine qj ?_;(first|(refine sBk S rfl rfl ?_;have S0:=S;clear S;intro h S hk;refine qg ⟨⟨True.intro,?_⟩,?_⟩;(focus ((show keepsX _ _ _ _ _;simp only [keepsX];(repeat' (first|exact True.intro|refine And.intro ?_ ?_));all_goals (intro hw;first|(rw [← hvb.1];exact hk _ (S0.neB (by assumption)))))));clear S0 hk));refine qj ?_;(first|(refine vl ?_<;>refine qg ⟨⟨by (first|exact True.intro),rfl⟩,?_⟩));refine qj ?_;(first|(refine sBk S rfl rfl ?_;have S0:=S;clear S;intro h S hk;refine qg ⟨⟨True.intro,?_⟩,?_⟩;(focus ((show keepsX _ _ _ _ _;simp only [keepsX];(repeat' (first|exact True.intro|refine And.intro ?_ ?_));all_goals (intro hw;first|(rw [← hvb.1];exact hk _ (S0.neB (by assumption)))))));clear S0 hk));refine qj ?_;(first|(refine vl ?_<;>refine qg ⟨⟨by (first|exact True.intro),rfl⟩,?_⟩));refine qj ?_;(first|(refine sBk S rfl rfl ?_;have S0:=S;clear S;intro h S hk;refine qg ⟨⟨True.intro,?_⟩,?_⟩;(focus ((show keepsX _ _ _ _ _;simp only [keepsX];(repeat' (first|exact True.intro|refine And.intro ?_ ?_));all_goals (intro hw;first|(rw [← hvb.1];exact hk _ (S0.neB (by assumption)))))));clear S0 hk));refine qj ?_;(first|(refine vl ?_<;>refine qg ⟨⟨by (first|exact True.intro),rfl⟩,?_⟩));refine qj ?_;(first|(refine sBk S rfl rfl ?_;have S0:=S;clear S;intro h S hk;refine qg ⟨⟨True.intro,?_⟩,?_⟩;(focus ((show keepsX _ _ _ _ _;simp only [keepsX];(repeat' (first|exact True.intro|refine And.intro ?_ ?_));all_goals (intro hw;first|(rw [← hvb.1];exact hk _ (S0.neB (by assumption)))))));clear S0 hk));refine jd ?_
 clear hvb hvq
 (try simp only [show Int.toNat 4=4 from rfl] at S)
 replace S:=S.front (.there (.there (.there .here)))
 all_goals (repeat' (first|refine qi ?_|(refine qf 24 ?_;refine lB S rfl rfl ?_;(first|(refine sB S rfl rfl ?_;clear S;intro h S));refine mv ?_;refine qg ?_)))
 have hro:=(S.only (.there .here)).qf1
 have hn1:=hwl 1 (by omega)
 refine qx ⟨_,zK S rfl (by first|exact .here) (by exact rfl) (by exact rfl),?_⟩
 refine ⟨⟨Q3 ws 1,z,nl.getD 0 default,nl.getD 1 default,⟨qp,qn,qc⟩,nl.drop 4,nl.getD 2 default,nl.getD 3 default⟩,true,rfl,.inl ⟨rfl,hnt.line l7 w0 w1 (hz ▸ hz0),?_⟩,⟨by show (Q3 ws 1).length≤_;omega,by show (nl.drop 4).length≤_;simp;omega⟩,(S.only (.there .here)).qf1⟩
 subst hz
 exact hnt.same l7 _
theorem YX {c:UInt8} {s:List UInt8} {i:Nat} (h:i<s.length):jA c (s.drop i)=if s.getD i 0=c then [] :: jA c (s.drop (i+1)) else YH [s.getD i 0] (jA c (s.drop (i+1))):=by
 rw [List.drop_eq_getElem_cons h]
 have e:s.getD i 0=s[i]:=by simp [List.getD_eq_getElem?_getD,h]
 rw [e];rfl
theorem qbD {c:UInt8} {s:List UInt8}:jA c (s.drop s.length)=[[]]:=by rw [List.drop_length];rfl
theorem X4 {a w:List UInt8} {r:List (List UInt8)}:YH a (w :: r)=(a ++ w) :: r:=rfl
theorem take1 {s:List UInt8} {i:Nat} (h:i<s.length):(s.drop i).take (i+1 - i)=[s.getD i 0]:=by
 rw [show i+1 - i=0+1 by omega,List.take_add_one,List.getElem?_drop,Nat.add_zero,List.getElem?_eq_getElem h]
 simp [List.getD_eq_getElem?_getD,h]
def qgG (s:List UInt8) (i:Nat) (wd:List UInt8) (out:List (List UInt8)):Prop:=(i≤s.length∧jA 32 s=out ++ YH wd (jA 32 (s.drop i))∧wd.length≤i)∨(i=s.length+1∧jA 32 s=out)
def noE (l:List (List UInt8)):Prop:=∀ i,i<l.length→Q3 l i≠[]
theorem P6 {l:List (List UInt8)} {w:List UInt8} (h:noE l) (hw:w≠[]):noE (l ++ [w]):=fun i hi=>by
 simp only [List.length_append,List.length_cons,List.length_nil] at hi
 rcases Nat.lt_or_ge i l.length with q|q
 ·rw [show Q3 (l ++ [w]) i=Q3 l i from jq _ _ q];exact h i q
 ·rw [show Q3 (l ++ [w]) i=w from jC _ _ (by omega)];exact hw
theorem WU {l r:List (List UInt8)} {w:List UInt8}:Q3 (l ++ w :: r) l.length=w∧l.length<(l ++ w :: r).length:=by
 constructor
 ·simp [Q3,List.getD_eq_getElem?_getD]
 ·simp
set_option maxHeartbeats 1000000 in
theorem PM {h0:AH} (w:WfH h0) (s:List UInt8) (hs:s.length≤100000):Fn Tryz.prog Xh 175 [str s] h0 (fun v h'=>∃ u b l,v = .tuple #[u,.bool b]∧((b=true∧l=jA 32 s∧noE l)∨(b=false∧¬ noE (jA 32 s)))∧Hs h0 h' [.sl u 9 1 eS l]):=by
 have S:=Hs.start w
 refine qF rfl Tryz.func175 rfl rfl ?_
 all_goals (repeat' (first|refine qi ?_|refine qm ?_|(refine qf 0 ?_;refine mv ?_;refine mv ?_;refine qg ?_)|(refine qf 1 ?_;refine mv ?_;refine qg ?_)|(refine qf 2 ?_;refine mv ?_;refine qg ?_)|(refine qf 3 ?_;refine mv ?_;refine qg ?_)))
 refine qE (σ:=Nat×List UInt8×List (List UInt8)×Value) (fun (i,wd,out,vo) h'=>Hs h0 h' [.sl vo 9 1 eS out]∧qgG s i wd out∧noE out∧out.length≤i) (fun (i,wd,out,vo)=>s.length+1 - i) (fun (i,wd,out,vo)=>[(0,str s),(4,vo),(5,str wd),(6,.int .i64 i)]) (0,[],[],.slice none 0 0) (by repeat (first|exact Ks.le_nil _|refine Ks.qh rfl ?_)) ?_ ?_
 ·exact ⟨S.jP,.inl ⟨Nat.zero_le _,by rw [List.nil_append,Y7 (Z4 _ _),List.drop_zero],Nat.le_refl _⟩,fun i hi=>absurd hi (Nat.not_lt_zero _),Nat.le_refl _⟩
 clear S
 rintro ⟨i,wd,out,vo⟩ h ⟨S,hp,hn,ho⟩
 all_goals (repeat' (first|refine qi ?_|refine ql rfl ?_|refine qo ?_|refine qA ?_|refine qm ?_|(refine qf 4 ?_;refine mv ?_;refine mv ?_;refine tl ?_;(first|(refine cS ?_ ?_<;>intro hc))<;>(refine qg ?_))))
 ·obtain ⟨h1,h2,h3⟩:i≤s.length∧jA 32 s=out ++ YH wd (jA 32 (s.drop i))∧wd.length≤i:=by
   rcases hp with hp|hp
   ·exact hp
   ·omega
  clear hp
  all_goals (repeat' (first|refine qi ?_|refine ql rfl ?_|refine qo ?_|(refine qf 6 ?_;refine mv ?_;refine mv ?_;refine tl ?_;(first|(refine cS ?_ ?_<;>intro hc))<;>(refine mv ?_;(first|refine off ?_|refine mv ?_);(first|refine off ?_|refine mv ?_);(first|refine off ?_|(refine ti ?_));(first|refine off ?_|(first|(refine cS ?_ ?_<;>intro hc)))<;>(refine vl ?_;refine qg ?_)))))
  ·have hi:i<s.length:=by omega
   (try simp only [Int.toNat_natCast] at *)
   have hx:¬ s.getD i 0=32:=fun q=>hc (by rw [q];rfl)
   rw [YX hi,if_neg hx,wS (Z4 _ _)] at h2
   all_goals (repeat' (first|refine qA ?_|(refine qf 5 ?_;refine mv ?_;refine ad ?_;refine mv ?_;refine qg ?_)|(refine qf 7 ?_;(iterate 4 refine mv ?_);refine ad ?_;refine tsl ?_;refine tc ?_;refine mv ?_;refine qg ?_)))
   rw [take1 hi]
   refine ⟨(i+1,wd ++ [s.getD i 0],out,vo),?_,?_,(by repeat (first|exact Ks.le_nil _|refine Ks.qh rfl ?_))⟩
   ·show s.length+1 - (i+1)<s.length+1 - i;omega
   ·exact ⟨S,.inl ⟨hi,h2,by simp;omega⟩,hn,(by show out.length≤i+1;omega)⟩
  ·have hi:i<s.length:=by omega
   (try simp only [Int.toNat_natCast] at *)
   have hx:s.getD i 0=32:=qbz (c:=32) (Classical.not_not.1 hc)
   rw [YX hi,if_pos hx,X4,List.append_nil] at h2
   have hp2:qgG s (i+1) [] (out ++ [wd]):=.inl ⟨hi,by rw [Y7 (Z4 _ _),List.append_assoc];exact h2,by simp⟩
   all_goals (repeat' (first|refine qi ?_|refine ql rfl ?_|refine qo ?_|(refine qf 8 ?_;refine mv ?_;(refine tS ?_ ?_<;>intro hc)<;>(refine qg ?_))|(refine qf 9 ?_;refine mv ?_;refine mv ?_;refine qg ?_)))
   ·have hcw:wd=[]:=hc
    refine qx ⟨_,rfl,?_⟩
    refine ⟨_,false,[],rfl,.inr ⟨rfl,fun q=>?_⟩,S.drop.jP⟩
    rw [h2] at q
    exact q out.length WU.2 (WU.1.trans hcw)
   ·have hcw:¬ wd=[]:=hc
    all_goals (repeat' (first|(refine qf 10 ?_;refine mv ?_;refine mv ?_;(refine one 1 S ?_;clear S;intro u h S))))
    refine app (y0:=wd) S rfl rfl ?_;clear S;intro v h S;refine mv ?_;refine qg ?_
    all_goals (repeat' (first|(refine qf 5 ?_;refine mv ?_;refine ad ?_;refine mv ?_;refine qg ?_)|(refine qf 11 ?_;refine mv ?_;refine qg ?_)))
    refine ⟨(i+1,[],out ++ [wd],v),?_,?_,(by repeat (first|exact Ks.le_nil _|refine Ks.qh rfl ?_))⟩
    ·show s.length+1 - (i+1)<s.length+1 - i;omega
    ·exact ⟨S,hp2,P6 hn hcw,by simp;omega⟩
  ·have hi:i=s.length:=by omega
   subst hi
   rw [qbD,X4,List.append_nil] at h2
   have hp2:qgG s (s.length+1) [] (out ++ [wd]):=.inr ⟨rfl,h2⟩
   all_goals (repeat' (first|refine qi ?_|refine ql rfl ?_|refine qo ?_|(refine qf 8 ?_;refine mv ?_;(refine tS ?_ ?_<;>intro hc)<;>(refine qg ?_))|(refine qf 9 ?_;refine mv ?_;refine mv ?_;refine qg ?_)))
   ·have hcw:wd=[]:=hc
    refine qx ⟨_,rfl,?_⟩
    refine ⟨_,false,[],rfl,.inr ⟨rfl,fun q=>?_⟩,S.drop.jP⟩
    rw [h2] at q
    exact q out.length WU.2 (WU.1.trans hcw)
   ·have hcw:¬ wd=[]:=hc
    all_goals (repeat' (first|(refine qf 10 ?_;refine mv ?_;refine mv ?_;(refine one 1 S ?_;clear S;intro u h S))))
    refine app (y0:=wd) S rfl rfl ?_;clear S;intro v h S;refine mv ?_;refine qg ?_
    all_goals (repeat' (first|(refine qf 5 ?_;refine mv ?_;refine ad ?_;refine mv ?_;refine qg ?_)|(refine qf 11 ?_;refine mv ?_;refine qg ?_)))
    refine ⟨(s.length+1,[],out ++ [wd],v),?_,?_,(by repeat (first|exact Ks.le_nil _|refine Ks.qh rfl ?_))⟩
    ·show s.length+1 - (s.length+1)<s.length+1 - s.length;omega
    ·exact ⟨S,hp2,P6 hn hcw,by simp;omega⟩
 ·have h2:jA 32 s=out:=by
   rcases hp with hp|hp
   ·omega
   ·exact hp.2
  skip
  all_goals (repeat' (first|(refine qf 12 ?_;(iterate 3 refine mv ?_);refine qg ?_)))
  refine qx ⟨_,rfl,?_⟩
  exact ⟨_,true,out,rfl,.inl ⟨rfl,h2.symm,hn⟩,S⟩
def qh4 (s:List UInt8) (st i:Nat) (out:List (List UInt8)):Prop:=st≤i∧i≤s.length∧jA 10 s=out ++ YH ((s.drop st).take (i - st)) (jA 10 (s.drop i))∧out.length≤i
theorem take_snoc {s:List UInt8} {st i:Nat} (h1:st≤i) (h2:i<s.length):(s.drop st).take (i+1 - st)=(s.drop st).take (i - st) ++ [s.getD i 0]:=by
 rw [show i+1 - st=(i - st)+1 by omega,List.take_add_one,List.getElem?_drop,show st+(i - st)=i by omega,List.getElem?_eq_getElem h2]
 simp [List.getD_eq_getElem?_getD,h2]
theorem PO {h0:AH} (w:WfH h0) (s:List UInt8) (hs:s.length≤100000):Fn Tryz.prog Xh 134 [str s] h0 (fun v h'=>∃ u b l,v = .tuple #[u,.bool b]∧((b=true∧∃ ini w,l=ini ++ [w]∧jA 10 s=l∧w≠[])∨(b=false∧jA 10 s=l ++ [[]]))∧Hs h0 h' [.sl u 9 1 eS l]):=by
 have S:=Hs.start w
 refine qF rfl Tryz.func134 rfl rfl ?_
 all_goals (repeat' (first|refine qi ?_|refine qm ?_|(refine qf 0 ?_;refine mv ?_;refine mv ?_;refine qg ?_)|(refine qf 1 ?_;refine mv ?_;refine qg ?_)|(refine qf 2 ?_;refine mv ?_;refine qg ?_)|(refine qf 3 ?_;refine mv ?_;refine qg ?_)))
 refine qE (σ:=Nat×Nat×List (List UInt8)×Value) (fun (i,st,out,vo) h'=>Hs h0 h' [.sl vo 9 1 eS out]∧qh4 s st i out) (fun (i,st,out,vo)=>s.length - i) (fun (i,st,out,vo)=>[(0,str s),(4,vo),(5,.int .i64 st),(6,.int .i64 i)]) (0,0,[],.slice none 0 0) (by repeat (first|exact Ks.le_nil _|refine Ks.qh rfl ?_)) ?_ ?_
 ·exact ⟨S.jP,Nat.le_refl _,Nat.zero_le _,by rw [List.nil_append,Nat.sub_self,List.take_zero,Y7 (Z4 _ _),List.drop_zero],Nat.le_refl _⟩
 clear S
 rintro ⟨i,st,out,vo⟩ h ⟨S,p1,p2,p3,p4⟩
 all_goals (repeat' (first|refine qi ?_|refine ql rfl ?_|refine qo ?_|refine qA ?_|refine qm ?_|(refine qf 4 ?_;refine mv ?_;refine mv ?_;refine tl ?_;(first|(refine cS ?_ ?_<;>intro hc))<;>(refine qg ?_))|(refine qf 6 ?_;refine mv ?_;refine mv ?_;refine ti ?_;(first|(refine cS ?_ ?_<;>intro hc))<;>(refine qg ?_))))
 ·have hi:i<s.length:=by omega
  (try simp only [Int.toNat_natCast] at *)
  have hx:s.getD i 0=10:=qbz (c:=10) hc
  rw [YX hi,if_pos hx,X4,List.append_nil] at p3
  all_goals (repeat' (first|(refine qf 7 ?_;(iterate 4 refine mv ?_);refine tsl ?_;(refine one 1 S ?_;clear S;intro u h S))))
  refine app (y0:=((s.drop st).take (i - st))) S rfl rfl ?_;clear S;intro v h S;refine mv ?_;refine qg ?_
  all_goals (repeat' (first|(refine qf 5 ?_;refine mv ?_;refine ad ?_;refine mv ?_;refine qg ?_)|(refine qf 8 ?_;refine mv ?_;refine ad ?_;refine mv ?_;refine qg ?_)))
  refine ⟨(i+1,i+1,out ++ [(s.drop st).take (i - st)],v),?_,?_,(by repeat (first|exact Ks.le_nil _|refine Ks.qh rfl ?_))⟩
  ·show s.length - (i+1)<s.length - i;omega
  ·exact ⟨S,Nat.le_refl _,hi,by rw [Nat.sub_self,List.take_zero,Y7 (Z4 _ _),List.append_assoc];exact p3,by simp;omega⟩
 ·have hi:i<s.length:=by omega
  (try simp only [Int.toNat_natCast] at *)
  have hx:¬ s.getD i 0=10:=fun q=>hc (by rw [q];rfl)
  rw [YX hi,if_neg hx,wS (Z4 _ _),← take_snoc p1 hi] at p3
  all_goals (repeat' (first|(refine qf 5 ?_;refine mv ?_;refine ad ?_;refine mv ?_;refine qg ?_)))
  refine ⟨(i+1,st,out,vo),?_,?_,(by repeat (first|exact Ks.le_nil _|refine Ks.qh rfl ?_))⟩
  ·show s.length - (i+1)<s.length - i;omega
  ·exact ⟨S,(by show st≤i+1;omega),hi,p3,(by show out.length≤i+1;omega)⟩
 ·have hi:i=s.length:=by omega
  subst hi
  rw [qbD,X4,List.append_nil] at p3
  have e:(s.drop st).take (s.length - st)=s.drop st:=List.take_of_length_le (by simp)
  rw [e] at p3
  skip
  all_goals (repeat' (first|refine qi ?_|refine ql rfl ?_|refine qo ?_|(refine qf 9 ?_;refine mv ?_;refine mv ?_;refine tl ?_;(first|(refine cS ?_ ?_<;>intro hc))<;>(refine qg ?_))|(refine qf 10 ?_;(iterate 3 refine mv ?_);refine tsl ?_;(refine one 1 S ?_;clear S;intro u h S))|(refine qf 11 ?_;(iterate 3 refine mv ?_);refine qg ?_)))
  ·refine app (y0:=((s.drop st).take (s.length - st))) S rfl rfl ?_;clear S;intro v h S;refine mv ?_;refine mv ?_;refine qg ?_
   rw [e] at S
   all_goals (repeat' (fail))
   refine qx ⟨_,rfl,?_⟩
   have hl:0<(s.drop st).length:=by simp;omega
   exact ⟨_,true,_,rfl,.inl ⟨rfl,out,s.drop st,rfl,p3,fun q=>by rw [q] at hl;simp at hl⟩,S⟩
  ·refine qx ⟨_,rfl,?_⟩
   have hn:s.drop st=[]:=List.drop_of_length_le (by omega)
   rw [hn] at p3
   exact ⟨_,false,_,rfl,.inr ⟨rfl,p3⟩,S⟩
theorem LineP.noE {ws:List (List UInt8)} (h:LineP ws):noE ws:=fun i hi q=>by
 obtain ⟨h1,h2,h3,h4,h5⟩:=h
 match i with
 | 0=>rw [h2] at q;cases q
 | 1=>exact h3 q
 | 2=>rw [q] at h4;exact h4 rfl
 | i+3=>have:=(h5 (i+3) (by omega) hi).1;rw [q] at this;simp at this
theorem qcc {h0:AH} (w:WfH h0) {i:Nat} (hi:i<4):Fn Tryz.prog Xh 107 [.int .u8 ((i+1:Nat):Int)] h0 (fun r h'=>r=str (lwd i)∧Hs h0 h' []):=by
 refine (YZ w ⟨[],((i+1:Nat):Int),0,0,⟨none,0,0⟩,[],0,0⟩ (by show ((i+1:Nat):Int)=1∨((i+1:Nat):Int)=2∨((i+1:Nat):Int)=3∨((i+1:Nat):Int)=4;omega)).mono fun r h' q=>⟨?_,q.2⟩
 rw [q.1]
 congr 1
 have:i=0∨i=1∨i=2∨i=3:=by omega
 rcases this with rfl|rfl|rfl|rfl<;>rfl
theorem wG {h0 h:AH} {rs:List Rs} {bt:Nat} {w:List UInt8} {z z':Int} (S:Hs h0 h (.blk bt (nT w z) 25 :: rs)) (hz:z'=z):Hs h0 h (.blk bt (nT w z') 25 :: rs):=hz ▸ S
set_option maxHeartbeats 1000000 in
theorem qaT {h0:AH} (w:WfH h0) (s:List UInt8) (hs:s.length≤100000):Fn Tryz.prog Xh 135 [str s] h0 (fun v h'=>∃ t b,v = .tuple #[jg t,.bool b]∧qb8 s t b∧(t.name.length≤1000000∧t.opn.length≤1000000)∧Hs h0 h' [.rd t.ov 1 eI t.opn]):=by
 have S:=Hs.start w
 have hlen:=Z5 32 s
 have hcs:s.countP (· == 32)≤s.length:=List.countP_le_length
 have hwl:=fun i (h:i<(jA 32 s).length)=>qdo h
 refine qF rfl Tryz.func135 rfl rfl ?_
 all_goals (repeat' (first|refine qi ?_|(refine qf 0 ?_;(refine al S ?_;clear S;intro b h S);refine mv ?_;refine qg ?_)|(refine qf 1 ?_;refine mv ?_)))
 obtain ⟨br,hnm⟩:∃ x,x=b:=⟨_,rfl⟩;subst hnm
 (refine qw rfl rfl rfl rfl rfl ((PM S.wf s hs).mono ?_);rintro _ h ⟨vw,b0,l,rfl,hw,x⟩)<;>(replace S:=S.jo x;clear x;refine mv ?_;refine vl ?_;refine vl ?_;refine mv ?_;refine mv ?_;refine qg ?_)
 obtain ⟨ws,hws⟩:∃ ws,ws=jA 32 s:=⟨_,rfl⟩
 unfold qb8
 rw [← hws] at hlen hwl hw ⊢
 rcases hw with ⟨rfl,hl,hne⟩|⟨rfl,hne⟩
 rotate_left
 ·replace S:=S.front (.there .here)
  all_goals (repeat' (first|refine qi ?_|refine ql rfl ?_|(refine qf 2 ?_;refine mv ?_;refine vl ?_;refine mv ?_;refine off ?_;refine off ?_;(refine off ?_)<;>(refine vl ?_;refine mv ?_;refine off ?_;refine off ?_;refine off ?_;(refine off ?_)<;>(refine vl ?_;refine qg ?_)))|(refine qf 3 ?_;refine vl ?_;(first|(refine sB S rfl rfl ?_;clear S;intro h S));refine mv ?_;refine qg ?_)))
  refine qx ⟨_,zK S rfl (by first|exact .here) (by exact rfl) (by exact rfl),?_⟩
  exact ⟨t0T,false,rfl,.inr ⟨rfl,fun q=>hne q.noE⟩,qaH,S.nil0⟩
 rw [hl] at S hne
 clear hl
 (repeat (refine qi ?_));first|refine JB (σ:=Unit) (fun _ h'=>Hs h0 h' [.sl vw 9 1 eS ws,.blk br zT 25]∧7≤ws.length∧Q3 ws 0=gu) (fun _=>[(2,PT br),(4,vw),(5,.bool true)]) ?_ ?_
 ·all_goals (repeat' (first|refine qi ?_|refine ql rfl ?_|refine qo ?_|(refine qf 2 ?_;refine mv ?_;refine vl ?_;refine mv ?_;refine mv ?_;(first|(refine ZC S rfl rfl ?_));(first|(first|(refine cS ?_ ?_<;>intro hc)))<;>(refine vl ?_;refine mv ?_;(first|refine off ?_|refine mv ?_);(first|refine off ?_|(refine qH S rfl rfl ?_));(first|refine off ?_|(refine qI S rfl rfl ?_));(first|refine off ?_|(refine tS ?_ ?_<;>intro hc))<;>(refine vl ?_;refine qg ?_)))|(refine qf 3 ?_;refine vl ?_;(first|(refine sB S rfl rfl ?_;clear S;intro h S));refine mv ?_;refine qg ?_)))
  ·refine qx ⟨_,zK S rfl (by first|exact .there .here) (by exact rfl) (by exact rfl),?_⟩
   exact ⟨t0T,false,rfl,.inr ⟨rfl,fun q=>by have:=q.1;omega⟩,qaH,S.nil0⟩
  ·exact ⟨(),⟨S,by omega,hc⟩,((by repeat (first|exact Ks.le_nil _|refine Ks.qh rfl ?_)))⟩
  ·refine qx ⟨_,zK S rfl (by first|exact .there .here) (by exact rfl) (by exact rfl),?_⟩
   exact ⟨t0T,false,rfl,.inr ⟨rfl,fun q=>hc q.2.1⟩,qaH,S.nil0⟩
 clear S
 rintro - h ⟨S,l7,w0⟩
 have w1:=hne 1 (by omega)
 skip
 all_goals (repeat' (first|refine qi ?_|refine qm ?_|(refine qf 4 ?_;refine mv ?_;refine qH S rfl rfl ?_;refine qI S rfl rfl ?_;refine vl ?_;(refine al S ?_;clear S;intro b h S);(first|(refine sB S rfl rfl ?_;clear S;intro h S));refine qg ?_)|(refine qf 5 ?_;refine mv ?_;refine qg ?_)))
 obtain ⟨bt,hnm⟩:∃ x,x=b:=⟨_,rfl⟩;subst hnm
 refine qE (σ:=Nat) (fun i h'=>Hs h0 h' [.blk bt (nT (Q3 ws 1) (qaO i (Q3 ws 2))) 25,.sl vw 9 1 eS ws,.blk br zT 25]∧i≤4) (fun i=>4 - i) (fun i=>[(2,PT br),(4,vw),(5,.bool true),(6,PT bt),(7,.int .i64 ((i+1:Nat):Int))]) 0 (by repeat (first|exact Ks.le_nil _|refine Ks.qh rfl ?_)) ?_ ?_
 ·exact ⟨S,Nat.zero_le _⟩
 clear S
 rintro i h ⟨S,hi1⟩
 all_goals (repeat' (first|refine qi ?_|refine ql rfl ?_|refine qo ?_|refine qA ?_|refine qm ?_|(refine qf 6 ?_;refine mv ?_;(first|(refine cS ?_ ?_<;>intro hc))<;>(refine qg ?_))))
 ·have hi:i<4:=by omega
  have hss:=wH hi (Q3 ws 2)
  (repeat (refine qi ?_));refine jG (id:=8) [(5,(0,1))] [some (Qi vw)] ?_;refine qj ?_;(first|(refine mv ?_<;>refine qg ⟨⟨by (first|exact True.intro),rfl⟩,?_⟩));refine qj ?_;(first|(refine cU ?_<;>refine qg ⟨⟨by (first|exact True.intro),rfl⟩,?_⟩))
  ((refine qj ?_;first|refine qw rfl rfl rfl rfl rfl ((qcc S.wf hi).mono ?_));rintro _ h ⟨rfl,x⟩)<;>((refine qg ⟨⟨True.intro,?_⟩,?_⟩;(focus ((show keepsX _ _ _ _ _;simp only [keepsX];(repeat' (first|exact True.intro|refine And.intro ?_ ?_));all_goals (intro hw;first|exact x.ext.old _ (S.bR (by first|omega)))))));replace S:=S.qy x;clear x;refine qj ?_;(first|(refine mv ?_<;>refine qg ⟨⟨by (first|exact True.intro),rfl⟩,?_⟩));refine qj ?_;(first|(refine qH S rfl rfl ?_<;>refine qg ⟨⟨by (first|exact True.intro),rfl⟩,?_⟩));refine qj ?_;(first|(refine qI S rfl rfl ?_<;>refine qg ⟨⟨by (first|exact Or.inr (congrArg some (zn _ _ _ _))),rfl⟩,?_⟩));refine qj ?_;(first|((refine tS ?_ ?_<;>intro hc)<;>refine qg ⟨⟨by (first|exact True.intro),rfl⟩,?_⟩))<;>(refine jd ?_))
  all_goals (repeat' (first|refine ql rfl ?_|refine qo ?_|(refine qf 9 ?_;refine mv ?_;refine cU ?_;refine vl ?_;(first|(refine sB S rfl rfl ?_;clear S;intro h S));refine qg ?_)))
  ·have hcw:lwd i=Q3 ws 2:=hc
   rw [if_pos hcw.symm] at hss
   all_goals (repeat' (first|(refine qf 7 ?_;refine mv ?_;refine ad ?_;refine mv ?_;refine qg ?_)))
   refine ⟨i+1,?_,?_,(by repeat (first|exact Ks.le_nil _|refine Ks.qh rfl ?_))⟩
   ·show 4 - (i+1)<4 - i;omega
   ·exact ⟨wG S hss,hi⟩
  ·have hcw:¬ lwd i=Q3 ws 2:=hc
   rw [if_neg (fun q=>hcw q.symm)] at hss
   all_goals (repeat' (first|(refine qf 7 ?_;refine mv ?_;refine ad ?_;refine mv ?_;refine qg ?_)))
   refine ⟨i+1,?_,?_,(by repeat (first|exact Ks.le_nil _|refine Ks.qh rfl ?_))⟩
   ·show 4 - (i+1)<4 - i;omega
   ·exact ⟨wG S hss,hi⟩
 obtain rfl:i=4:=by omega
 rw [pg] at S
 obtain ⟨z,hz⟩:∃ z,z=shp (Q3 ws 2):=⟨_,rfl⟩
 rw [← hz] at S
 skip
 all_goals (repeat' (first|refine qi ?_|refine qm ?_|(refine qf 10 ?_;refine mv ?_;refine qg ?_)|(refine qf 11 ?_;refine mv ?_;refine qg ?_)))
 refine qE (σ:=Nat×Bool×List Int×Value) (fun (j,b,nl,vn) h'=>Hs h0 h' [.sl vn 3 1 eI nl,.blk bt (nT (Q3 ws 1) z) 25,.sl vw 9 1 eS ws,.blk br zT 25]∧j≤ws.length - 3∧nl.length=j∧(b=true→NumsTo ws j nl)∧(b=false→¬ LineP ws)) (fun (j,b,nl,vn)=>ws.length - 3 - j) (fun (j,b,nl,vn)=>[(2,PT br),(4,vw),(5,.bool b),(6,PT bt),(8,vn),(9,.int .i64 ((3+j:Nat):Int))]) (0,true,[],.slice none 0 0) (by repeat (first|exact Ks.le_nil _|refine Ks.qh rfl ?_)) ?_ ?_
 ·exact ⟨S.jP,Nat.zero_le _,rfl,fun q=>⟨rfl,fun k hk=>absurd hk (Nat.not_lt_zero _)⟩,fun q=>by cases q⟩
 clear S
 rintro ⟨j,b,nl,vn⟩ h ⟨S,hj1,hnl,hb1,hb2⟩
 all_goals (repeat' (first|refine qi ?_|refine ql rfl ?_|refine qo ?_|refine qA ?_|refine qm ?_|(refine qf 12 ?_;refine mv ?_;refine mv ?_;refine ZC S rfl rfl ?_;(first|(refine cS ?_ ?_<;>intro hc))<;>(refine qg ?_))))
 ·have hj:j<ws.length - 3:=by omega
  have hwj:=hwl (3+j) (by omega)
  all_goals (repeat' (first|(refine qf 14 ?_;refine mv ?_;refine mv ?_;refine qH S rfl rfl ?_;refine qI S rfl rfl ?_)))
  (try simp only [Int.toNat_natCast])
  (refine qw rfl rfl rfl rfl rfl ((gZ S.wf (Q3 ws (3+j)) (by omega)).mono ?_);rintro _ h ⟨k,bb,rfl,hn,x⟩)<;>(replace S:=S.qy x;clear x;refine mv ?_;refine vl ?_;refine vl ?_;refine mv ?_;refine mv ?_;refine qg ?_)
  have e1:((3+j:Nat):Int)+1=((3+(j+1):Nat):Int):=by omega
  cases b
  ·all_goals (repeat' (first|refine qi ?_|(refine qf 15 ?_;refine mv ?_;refine mv ?_;refine off ?_;refine vl ?_;refine mv ?_;refine qg ?_)|(refine qf 16 ?_;refine mv ?_;refine mv ?_;(refine one 1 S ?_;clear S;intro u h S))))
   refine app (y0:=k) S rfl rfl ?_;clear S;intro v h S;refine mv ?_;refine qg ?_
   all_goals (repeat' (first|(refine qf 13 ?_;refine mv ?_;refine ad ?_;refine mv ?_;refine qg ?_)))
   refine ⟨(j+1,false,nl ++ [k],v),?_,?_,(by repeat (first|exact Ks.le_nil _|refine Ks.qh rfl ?_))⟩
   ·show ws.length - 3 - (j+1)<ws.length - 3 - j;omega
   ·exact ⟨S,by omega,by simp [hnl],fun q=>(by cases q),fun _=>hb2 rfl⟩
  ·have hnt:=hb1 rfl
   rcases hn with ⟨rfl,hn,hk⟩|⟨rfl,hn⟩
   ·all_goals (repeat' (first|refine qi ?_|(refine qf 15 ?_;(iterate 3 refine mv ?_);refine vl ?_;refine mv ?_;refine qg ?_)|(refine qf 16 ?_;refine mv ?_;refine mv ?_;(refine one 1 S ?_;clear S;intro u h S))))
    refine app (y0:=k) S rfl rfl ?_;clear S;intro v h S;refine mv ?_;refine qg ?_
    all_goals (repeat' (first|(refine qf 13 ?_;refine mv ?_;refine ad ?_;refine mv ?_;refine qg ?_)))
    refine ⟨(j+1,true,nl ++ [k],v),?_,?_,(by repeat (first|exact Ks.le_nil _|refine Ks.qh rfl ?_))⟩
    ·show ws.length - 3 - (j+1)<ws.length - 3 - j;omega
    ·refine ⟨S,by omega,by simp [hnl],fun _=>⟨by simp [hnl],qcA (fun i hi=>⟨(hnt.2 i hi).1,?_⟩) ⟨hn,?_⟩⟩,fun q=>(by cases q)⟩
     ·rw [jq _ _ (by omega)];exact (hnt.2 i hi).2
     ·rw [jC _ _ (by omega)];exact hk
   ·all_goals (repeat' (first|refine qi ?_|(refine qf 15 ?_;(iterate 3 refine mv ?_);refine vl ?_;refine mv ?_;refine qg ?_)|(refine qf 16 ?_;refine mv ?_;refine mv ?_;(refine one 1 S ?_;clear S;intro u h S))))
    refine app (y0:=k) S rfl rfl ?_;clear S;intro v h S;refine mv ?_;refine qg ?_
    all_goals (repeat' (first|(refine qf 13 ?_;refine mv ?_;refine ad ?_;refine mv ?_;refine qg ?_)))
    refine ⟨(j+1,false,nl ++ [k],v),?_,?_,(by repeat (first|exact Ks.le_nil _|refine Ks.qh rfl ?_))⟩
    ·show ws.length - 3 - (j+1)<ws.length - 3 - j;omega
    ·exact ⟨S,by omega,by simp [hnl],fun q=>(by cases q),fun _ l=>hn (l.2.2.2.2 (3+j) (by omega) (by omega))⟩
 have hj:j=ws.length - 3:=by omega
 subst hj
 obtain ⟨⟨sp,sn,sc⟩,rfl⟩:=(Rd.zo S .here).Xq
 have hvn:=S.qgQ .here (by omega)
 have hnl4:=hnl
 skip
 (repeat (refine qi ?_));refine jG (id:=17) [(5,(0,1)),(8,(0,2)),(11,(0,3))] [some (Qi (.slice sp sn sc)),some (Qi (.slice sp sn sc)),some (Qi (.slice sp sn sc))] ?_;refine qj ?_;(first|(refine mv ?_<;>refine qg ⟨⟨by (first|exact True.intro),rfl⟩,?_⟩));refine qj ?_;(first|(refine qH S rfl rfl ?_<;>refine qg ⟨⟨by (first|exact True.intro),rfl⟩,?_⟩));refine qj ?_;(first|(refine qI S rfl rfl ?_<;>refine qg ⟨⟨by (first|exact True.intro),rfl⟩,?_⟩));refine qj ?_;(first|(refine mv ?_<;>refine qg ⟨⟨by (first|exact True.intro),rfl⟩,?_⟩));refine qj ?_;(first|(refine qH S rfl rfl ?_<;>refine qg ⟨⟨by (first|exact True.intro),rfl⟩,?_⟩));refine qj ?_;(first|(refine qI S rfl rfl ?_<;>refine qg ⟨⟨by (first|exact Or.inr (congrArg some (zn _ _ _ _))),rfl⟩,?_⟩));refine qj ?_;(first|(refine mv ?_<;>refine qg ⟨⟨by (first|exact True.intro),rfl⟩,?_⟩));refine qj ?_;(first|(refine qH S rfl rfl ?_<;>refine qg ⟨⟨by (first|exact True.intro),rfl⟩,?_⟩));refine qj ?_;(first|(refine qI S rfl rfl ?_<;>refine qg ⟨⟨by (first|exact Or.inr (congrArg some (zn _ _ _ _))),rfl⟩,?_⟩));refine qj ?_;(first|(refine mv ?_<;>refine qg ⟨⟨by (first|exact True.intro),rfl⟩,?_⟩));refine qj ?_;(first|(refine qH S rfl rfl ?_<;>refine qg ⟨⟨by (first|exact True.intro),rfl⟩,?_⟩));refine qj ?_;(first|(refine qI S rfl rfl ?_<;>refine qg ⟨⟨by (first|exact Or.inr (congrArg some (zn _ _ _ _))),rfl⟩,?_⟩));refine qj ?_;(first|(refine vl ?_<;>refine qg ⟨⟨by (first|exact True.intro),rfl⟩,?_⟩));refine qj ?_;(first|(refine sBk S rfl rfl ?_;have S0:=S;clear S;intro h S hk;refine qg ⟨⟨True.intro,?_⟩,?_⟩;(focus ((show keepsX _ _ _ _ _;simp only [keepsX];(repeat' (first|exact True.intro|refine And.intro ?_ ?_));all_goals (intro hw;first|exact hk _ (S0.neB (by assumption))))));clear S0 hk));refine qj ?_;(first|(refine vl ?_<;>refine qg ⟨⟨by (first|exact True.intro),rfl⟩,?_⟩));refine qj ?_;(first|(refine sBk S rfl rfl ?_;have S0:=S;clear S;intro h S hk;refine qg ⟨⟨True.intro,?_⟩,?_⟩;(focus ((show keepsX _ _ _ _ _;simp only [keepsX];(repeat' (first|exact True.intro|refine And.intro ?_ ?_));all_goals (intro hw;first|exact hk _ (S0.neB (by assumption))))));clear S0 hk));refine qj ?_;(first|(refine vl ?_<;>refine qg ⟨⟨by (first|exact True.intro),rfl⟩,?_⟩));refine qj ?_;(first|(refine sBk S rfl rfl ?_;have S0:=S;clear S;intro h S hk;refine qg ⟨⟨True.intro,?_⟩,?_⟩;(focus ((show keepsX _ _ _ _ _;simp only [keepsX];(repeat' (first|exact True.intro|refine And.intro ?_ ?_));all_goals (intro hw;first|exact hk _ (S0.neB (by assumption))))));clear S0 hk));refine qj ?_;(first|(refine vl ?_<;>refine qg ⟨⟨by (first|exact True.intro),rfl⟩,?_⟩));refine qj ?_;(first|(refine sBk S rfl rfl ?_;have S0:=S;clear S;intro h S hk;refine qg ⟨⟨True.intro,?_⟩,?_⟩;(focus ((show keepsX _ _ _ _ _;simp only [keepsX];(repeat' (first|exact True.intro|refine And.intro ?_ ?_));all_goals (intro hw;first|exact hk _ (S0.neB (by assumption))))));clear S0 hk));refine jd ?_
 all_goals (repeat' (first|refine qi ?_|(refine qO 18 ?_;refine vl ?_;refine lB S rfl rfl ?_;refine mv ?_;(refine dr S rfl rfl ?_;clear S;intro vq S))))
 replace S:=S.jP (α:=Int) (e:=3) (z:=1) (enc:=eI)
 refine apd S rfl rfl (Rd.zo S (.there .here)) ?_
 clear S;intro vo h S
 obtain ⟨⟨qp,qn,qc⟩,rfl⟩:=(Rd.zo S .here).Xq
 (try simp only [show Int.toNat 4=4 from rfl,List.nil_append] at S)
 (refine vl ?_);(first|(refine sB S rfl rfl ?_;clear S;intro h S));refine qg ?_
 replace S:=(S.front (.there (.there (.there .here)))).front (.there (.there (.there (.there .here))))
 have hro:=Rd.zo S (.there (.there .here))
 have hn1:=hwl 1 (by omega)
 obtain ⟨t,ht⟩:∃ t:Tab,t=⟨Q3 ws 1,z,nl.getD 0 default,nl.getD 1 default,⟨qp,qn,qc⟩,nl.drop 4,nl.getD 2 default,nl.getD 3 default⟩:=⟨_,rfl⟩
 have hTL:∀ h',Hs h0 h' [.blk br (eT t) 25,.sl vw 9 1 eS ws,.sl (.slice qp qn qc) 3 1 eI (nl.drop 4),.sl vq 3 1 eI (nl.drop 4),.blk bt (eT t) 25]→Hs h0 h' [.rd t.ov 1 eI t.opn]:=fun h' S=>by
  subst ht
  exact (S.only (.there (.there .here))).qf1
 have hTN:t.name.length≤1000000∧t.opn.length≤1000000:=by
  subst ht
  exact ⟨by show (Q3 ws 1).length≤_;omega,by show (nl.drop 4).length≤_;simp;omega⟩
 cases b
 ·(repeat (refine qi ?_));refine jG (id:=19) [(4,(0,1))] [some (bt)] ?_;refine qj ?_;(first|(refine lB S rfl rfl ?_<;>refine qg ⟨⟨by (first|exact True.intro),rfl⟩,?_⟩));refine qj ?_;(first|(refine mv ?_<;>refine qg ⟨⟨by (first|exact True.intro),rfl⟩,?_⟩));refine qj ?_;(first|(refine mv ?_<;>refine qg ⟨⟨by (first|exact True.intro),rfl⟩,?_⟩));refine qj ?_;(first|(refine off ?_;refine qg ⟨⟨by (first|exact True.intro),rfl⟩,?_⟩));refine qj ?_;(first|(refine off ?_;refine qg ⟨⟨by (first|exact Or.inl rfl),rfl⟩,?_⟩));refine qj ?_;(first|(refine off ?_;refine qg ⟨⟨by (first|exact True.intro),rfl⟩,?_⟩))<;>(refine qj ?_;(first|(refine vl ?_<;>refine qg ⟨⟨by (first|exact True.intro),rfl⟩,?_⟩));refine qj ?_;(first|((refine sB S rfl rfl ?_;have S0:=S;clear S;intro h S);refine qg ⟨⟨True.intro,?_⟩,?_⟩;(focus ((show keepsX _ _ _ _ _;simp only [keepsX];(repeat' (first|exact True.intro|refine And.intro ?_ ?_));all_goals (intro hw;first|exact (S.gB).trans (S0.gB).symm))));clear S0));refine qj ?_;(first|(refine mv ?_<;>refine qg ⟨⟨by (first|exact True.intro),rfl⟩,?_⟩));refine jd ?_)
  refine qx ⟨_,zK S rfl (by first|exact .here) (by exact rfl) (by exact rfl),?_⟩
  exact ⟨t,false,by rw [ht];rfl,.inr ⟨rfl,hb2 rfl⟩,hTN,hTL _ (by rw [ht];exact S)⟩
 ·have hnt:=hb1 rfl
  (repeat (refine qi ?_));refine jG (id:=19) [(4,(0,1))] [some (bt)] ?_;refine qj ?_;(first|(refine lB S rfl rfl ?_<;>refine qg ⟨⟨by (first|exact True.intro),rfl⟩,?_⟩));refine qj ?_;(first|(refine mv ?_<;>refine qg ⟨⟨by (first|exact True.intro),rfl⟩,?_⟩));refine qj ?_;(first|(refine mv ?_<;>refine qg ⟨⟨by (first|exact True.intro),rfl⟩,?_⟩));refine qj ?_;(first|(refine vl ?_<;>refine qg ⟨⟨by (first|exact True.intro),rfl⟩,?_⟩));refine qj ?_;(first|(refine lB S rfl rfl ?_<;>refine qg ⟨⟨by (first|exact Or.inr rfl),rfl⟩,?_⟩));refine qj ?_;(first|((refine cS ?_ ?_<;>intro hc)<;>refine qg ⟨⟨by (first|exact True.intro),rfl⟩,?_⟩))<;>(refine qj ?_;(first|(refine vl ?_<;>refine qg ⟨⟨by (first|exact True.intro),rfl⟩,?_⟩));refine qj ?_;(first|((refine sB S rfl rfl ?_;have S0:=S;clear S;intro h S);refine qg ⟨⟨True.intro,?_⟩,?_⟩;(focus ((show keepsX _ _ _ _ _;simp only [keepsX];(repeat' (first|exact True.intro|refine And.intro ?_ ?_));all_goals (intro hw;first|exact (S.gB).trans (S0.gB).symm))));clear S0));refine qj ?_;(first|(refine mv ?_<;>refine qg ⟨⟨by (first|exact True.intro),rfl⟩,?_⟩));refine jd ?_)
  ·have hz0:z≠0:=hc
   refine qx ⟨_,zK S rfl (by first|exact .here) (by exact rfl) (by exact rfl),?_⟩
   refine ⟨t,true,by rw [ht];rfl,.inl ⟨rfl,hnt.line l7 w0 w1 (hz ▸ hz0),?_⟩,hTN,hTL _ (by rw [ht];exact S)⟩
   subst hz
   rw [ht]
   exact hnt.same l7 _
  ·have hz0:z=0:=Classical.not_not.1 hc
   refine qx ⟨_,zK S rfl (by first|exact .here) (by exact rfl) (by exact rfl),?_⟩
   refine ⟨t,false,by rw [ht];rfl,.inr ⟨rfl,fun q=>q.2.2.2.1 (hz ▸ hz0)⟩,hTN,hTL _ (by rw [ht];exact S)⟩
theorem qeV {n:Int} {l:List Int} (h:Yz n l):(l.length:Int)≤n∨l=[]:=by
 have key:∀ i,i<l.length→(i:Int)≤l.getD i default:=fun i hi=>by
  induction i with
  | zero=>have:=(h 0 hi).1.1;omega
  | succ i ih =>
   have h1:=ih (by omega)
   have h2:=(h (i+1) hi).2 (by omega)
   rw [Nat.add_sub_cancel] at h2
   omega
 rcases Nat.eq_zero_or_pos l.length with q|q
 ·exact .inr (List.length_eq_zero_iff.1 q)
 ·have h1:=key (l.length - 1) (by omega)
  have h2:=(h (l.length - 1) (by omega)).1.2
  left;omega
theorem qcX {t:Tab} (h:chk t=0):t.name.length≤12∧t.opn.length≤24:=by
 obtain ⟨h1,h2,h3,h4⟩:=qav h
 have:=qK t
 refine ⟨h1.2.1,?_⟩
 rcases qeV h3 with q|q
 ·omega
 ·rw [q];simp
theorem SameTab.chk {t u:Tab} (h:SameTab t u):chk t=chk u:=by unfold SameTab at h;rw [h];rfl
theorem SameTab.nm {t u:Tab} (h:SameTab t u):t.name=u.name:=by unfold SameTab at h;rw [h]
def ParsedR (s:List UInt8) (l2:List Tab) (i e:Int):Prop:=(∃ l,Jt s = .ok l∧SameAll l2 l∧i=0∧e=0)∨(∃ k:Nat,Jt s = .bad k e∧i=k∧l2=[]∧e≠0)
structure Acc (l2 l:List Tab):Prop where
 same:SameAll l2 l
 ok:∀ j,j<l2.length→chk (tb l2 j)=0
 len:l2.length≤16
theorem SameAll.nil:SameAll [] []:=⟨rfl,fun i hi=>absurd hi (Nat.not_lt_zero _)⟩
theorem Acc.nil:Acc [] []:=⟨.nil,fun j hj=>absurd hj (Nat.not_lt_zero _),Nat.zero_le _⟩
theorem Acc.push {l2 l:List Tab} {t u:Tab} (a:Acc l2 l) (h:SameTab t u) (hc:chk t=0) (hl:l2.length≠16):Acc (l2 ++ [t]) (l ++ [u]):=by
 have hll:=a.same.1
 have:=a.len
 refine ⟨⟨by simp [hll],fun j hj=>?_⟩,fun j hj=>?_,by simp;omega⟩
 ·simp only [List.length_append,List.length_cons,List.length_nil] at hj
  rcases Nat.lt_or_ge j l2.length with q|q
  ·rw [show tb (l2 ++ [t]) j=tb l2 j from jq _ _ q,show tb (l ++ [u]) j=tb l j from jq _ _ (by omega)]
   exact a.same.2 j q
  ·rw [show tb (l2 ++ [t]) j=t from jC _ _ (by omega),show tb (l ++ [u]) j=u from jC _ _ (by omega)]
   exact h
 ·simp only [List.length_append,List.length_cons,List.length_nil] at hj
  rcases Nat.lt_or_ge j l2.length with q|q
  ·rw [show tb (l2 ++ [t]) j=tb l2 j from jq _ _ q]
   exact a.ok j q
  ·rw [show tb (l2 ++ [t]) j=t from jC _ _ (by omega)]
   exact hc
theorem Acc.name {l2 l:List Tab} {t u:Tab} (a:Acc l2 l) (h:SameTab t u):(∃ j,j<l2.length∧(tb l2 j).name=t.name)↔∃ j,j<l.length∧(tb l j).name=u.name:=by
 have hll:=a.same.1
 rw [h.nm]
 constructor
 ·rintro ⟨j,hj,e⟩
  exact ⟨j,by omega,by rw [← (a.same.2 j hj).nm];exact e⟩
 ·rintro ⟨j,hj,e⟩
  exact ⟨j,by omega,by rw [(a.same.2 j (by omega)).nm];exact e⟩
theorem kE {h0 h:AH} {rs:List Rs} {v:Value} {l2 l:List Tab} (S:Hs h0 h rs) (a1:At rs (.sl v 25 7 eT l2)) (a2:At rs (.any (Gy l2))) (a:Acc l2 l):HallR h v l2:=by
 obtain ⟨fp,k⟩:=S.Xb a2
 refine ⟨Rd.zo S a1,fun j hj=>?_,by have:=a.len;omega,S.qcZ a1⟩
 have:=qcX (a.ok j hj)
 exact ⟨k j hj,by omega,by omega⟩
theorem X8 (h:AH):HallR h (.slice none 0 0) []:=⟨Rd.none_ h 7,fun i hi=>absurd hi (Nat.not_lt_zero _),by simp,Nat.le_refl _⟩
theorem Hs.qg2 {h0 h:AH} {rs:List Rs} (S:Hs h0 h rs):Hs h0 h (.any (Gy []) :: rs):=S.anyS fun h' j hj=>absurd hj (Nat.not_lt_zero _)
theorem qdK {h0:AH} (w:WfH h0) (s:List UInt8):Fn Tryz.prog Xh 61 [str s] h0 (fun v h'=>∃ u l2 i e,v = .tuple #[u,.int .i64 i,.int .i64 e]∧ParsedR s l2 i e∧HallR h' u l2∧Hs h0 h' []):=by
 have S:=Hs.start w
 refine qF rfl Tryz.func61 rfl rfl ?_
 all_goals (repeat' (first|refine qi ?_|refine ql rfl ?_|refine qo ?_|refine qR ?_|(refine qf 0 ?_;(iterate 3 refine mv ?_);refine qg ?_)|(refine qf 1 ?_;refine mv ?_;refine tl ?_;(first|(refine cS ?_ ?_<;>intro hc))<;>(refine qg ?_))|(refine qf 2 ?_;(iterate 3 refine mv ?_);refine qg ?_)))
 ·have hl:65536<s.length:=by omega
  refine qx ⟨_,rfl,?_⟩
  exact ⟨_,[],0,7,rfl,.inr ⟨0,by unfold Jt;rw [if_pos hl],rfl,rfl,by decide⟩,X8 _,S⟩
 have hl:s.length≤65536:=by omega
 have hp0:Jt s=xX [] 0 (jA 10 s):=by unfold Jt;rw [if_neg (by omega)]
 all_goals (repeat' (first|refine qi ?_|refine qm ?_|refine Jr ?_|(refine qf 3 ?_;refine mv ?_;refine qg ?_)|(refine qf 4 ?_;refine mv ?_;refine qg ?_)|(refine qf 5 ?_;refine mv ?_;refine qg ?_)))
 refine qE (σ:=List UInt8×Nat×List Tab×List Tab×Value) (fun (t,i,l2,l,vo) h'=>Hs h0 h' [.sl vo 25 7 eT l2,.any (Gy l2)]∧Jt s=xX l i (jA 10 t)∧t.length≤65536∧Acc l2 l∧i+t.length≤s.length) (fun (t,i,l2,l,vo)=>t.length) (fun (t,i,l2,l,vo)=>[(0,str t),(5,vo),(6,.int .i64 0),(7,.int .i64 i)]) (s,0,[],[],.slice none 0 0) (by repeat (first|exact Ks.le_nil _|refine Ks.qh rfl ?_)) ?_ ?_
 ·exact ⟨S.qg2.jP,hp0,hl,.nil,by omega⟩
 clear S
 rintro ⟨t,i,l2,l,vo⟩ h ⟨S,hp,hl2,ha,hi⟩
 all_goals (repeat' (first|refine qi ?_|refine ql rfl ?_|refine qo ?_|refine qA ?_|refine qm ?_|(refine qf 6 ?_;refine mv ?_;(refine tS ?_ ?_<;>intro hc)<;>(refine qg ?_))))
 ·subst hc
  rw [show jA 10 []=[[]] from rfl,qbK] at hp
  skip
  all_goals (repeat' (first|refine qi ?_|refine ql rfl ?_|refine qo ?_|(refine qf 24 ?_;refine mv ?_;(refine cF ?_)<;>(refine qg ?_))|(refine qf 26 ?_;(iterate 4 refine mv ?_);refine qg ?_)))
  refine qx ⟨_,rfl,?_⟩
  exact ⟨vo,l2,0,0,rfl,.inl ⟨l,hp,ha.same,rfl,rfl⟩,kE S .here (.there .here) ha,S.drop⟩
 have ht:t≠[]:=hc
 have bad:∀ (e:Int) (h':AH),Hs h0 h' []→xX l i (jA 10 t) = .bad i e→e≠0→∃ u l2 i' e',(Value.tuple #[.slice none 0 0,.int .i64 i,.int .i64 e]:Value) = .tuple #[u,.int .i64 i',.int .i64 e']∧ParsedR s l2 i' e'∧HallR h' u l2∧Hs h0 h' []:=fun e h' S q he =>
  ⟨_,[],_,_,rfl,.inr ⟨i,hp.trans q,rfl,rfl,he⟩,X8 _,S⟩
 rcases hf:QN 10 t with _|m
 ·have ecut:cutV 10 t = .tuple #[str t,str [],.bool false]:=by unfold cutV;rw [hf]
  have espl:=YY (YL.1 hf)
  have hb:=xW (acc:=l) (i:=i) ht
  rw [espl] at bad
  all_goals (repeat' (first|(refine qf 8 ?_;refine mv ?_)))
  (refine qw rfl rfl rfl rfl rfl ((qbI t [10] rfl (by omega)).mono ?_);rintro _ h ⟨hv,rfl⟩)<;>((change _=cutV 10 t at hv);rw [ecut] at hv;subst hv;refine mv ?_;refine vl ?_;refine vl ?_;refine vl ?_;(iterate 3 refine mv ?_);refine qg ?_)
  all_goals (repeat' (first|refine qi ?_|(refine qf 9 ?_;refine mv ?_)))
  (refine qw rfl rfl rfl rfl rfl ((GY S.wf t (by omega)).mono ?_);rintro _ h ⟨tt,bb,rfl,hL,hnl,x⟩)<;>(replace S:=S.jo x;clear x;refine mv ?_;refine vl ?_;refine vl ?_;(refine al S ?_;clear S;intro b h S);(first|(refine sB S rfl rfl ?_;clear S;intro h S));refine mv ?_;refine qg ?_)
  all_goals (repeat' (first|refine qi ?_|refine ql rfl ?_|refine qA ?_|(refine qf 10 ?_;refine mv ?_;refine vl ?_;refine mv ?_;refine off ?_;refine off ?_;refine vl ?_;refine qg ?_)|(refine qf 11 ?_;refine mv ?_;refine qg ?_)|(refine qf 24 ?_;refine mv ?_;(refine cT ?_)<;>(refine qg ?_))|(refine qf 25 ?_;(iterate 5 refine mv ?_);refine qg ?_)))
  refine qx ⟨_,rfl,?_⟩
  exact bad 3 _ S.drop hb (by decide)
 ·have ecut:cutV 10 t = .tuple #[str (t.take m),str (t.drop (m+1)),.bool true]:=by unfold cutV;rw [hf]
  have espl:=G8 hf
  have hm:=(Jb hf).1
  obtain ⟨lw,hlw⟩:∃ lw,lw=t.take m:=⟨_,rfl⟩
  obtain ⟨rst,hrst⟩:∃ r,r=t.drop (m+1):=⟨_,rfl⟩
  have hr1:rst.length+m+1=t.length:=by rw [hrst];simp;omega
  have hr2:lw.length≤65536:=by rw [hlw];simp;omega
  rw [← hlw,← hrst] at ecut espl
  clear hlw hrst
  have hne:=Z4 10 rst
  rw [espl] at bad hp
  all_goals (repeat' (first|(refine qf 8 ?_;refine mv ?_)))
  (refine qw rfl rfl rfl rfl rfl ((qbI t [10] rfl (by omega)).mono ?_);rintro _ h ⟨hv,rfl⟩)<;>((change _=cutV 10 t at hv);rw [ecut] at hv;subst hv;refine mv ?_;refine vl ?_;refine vl ?_;refine vl ?_;(iterate 3 refine mv ?_);refine qg ?_)
  all_goals (repeat' (first|refine qi ?_|(refine qf 9 ?_;refine mv ?_)))
  (refine qw rfl rfl rfl rfl rfl ((GY S.wf lw (by omega)).mono ?_);rintro _ h ⟨tt,bb,rfl,hL,hnl,x⟩)<;>(replace S:=S.jo x;clear x;refine mv ?_;refine vl ?_;refine vl ?_;(refine al S ?_;clear S;intro b h S);(first|(refine sB S rfl rfl ?_;clear S;intro h S));refine mv ?_;refine qg ?_)
  rcases hL with ⟨rfl,hP,hT⟩|⟨rfl,hP⟩
  rotate_left
  ·all_goals (repeat' (first|refine qi ?_|refine ql rfl ?_|refine qA ?_|(refine qf 10 ?_;refine mv ?_;refine vl ?_;refine mv ?_;refine mv ?_;refine vl ?_;refine vl ?_;refine qg ?_)|(refine qf 11 ?_;refine mv ?_;refine qg ?_)|(refine qf 24 ?_;refine mv ?_;(refine cT ?_)<;>(refine qg ?_))|(refine qf 25 ?_;(iterate 5 refine mv ?_);refine qg ?_)))
   refine qx ⟨_,rfl,?_⟩
   exact bad 3 _ S.drop (PS hne hP) (by decide)
  have hck:=hT.chk
  all_goals (repeat' (first|refine qi ?_|refine ql rfl ?_|refine qo ?_|(refine qf 10 ?_;refine mv ?_;refine vl ?_;refine mv ?_;refine mv ?_;refine vl ?_;refine vl ?_;refine qg ?_)|(refine qf 12 ?_;refine lB S rfl rfl ?_)))
  obtain ⟨bt,hnm⟩:∃ x,x=b:=⟨_,rfl⟩;subst hnm
  (refine qw rfl rfl rfl rfl rfl ((kS S.wf tt ⟨Rd.Y8 S (.there .here),hnl.1,hnl.2⟩).mono ?_);rintro _ h ⟨rfl,x⟩)<;>(replace S:=S.qy x;clear x;refine mv ?_;refine qg ?_)
  all_goals (repeat' (first|refine qi ?_|refine ql rfl ?_|refine qo ?_|refine qA ?_|(refine qf 13 ?_;refine mv ?_;(first|(refine cS ?_ ?_<;>intro hc))<;>(refine qg ?_))))
  ·all_goals (repeat' (first|refine qi ?_|refine ql rfl ?_|(refine qf 24 ?_;refine mv ?_;(refine cT ?_)<;>(refine qg ?_))|(refine qf 25 ?_;(iterate 5 refine mv ?_);refine qg ?_)))
   refine qx ⟨_,rfl,?_⟩
   have hc9:chk (Qp (jA 32 lw))≠0:=by rw [← hck];exact hc
   have:=qbM (acc:=l) (i:=i) hne hP hc9
   rw [← hck] at this
   exact bad _ _ S.drop this hc
  have hcz:chk tt=0:=Classical.not_not.1 hc
  rw [hcz] at hck
  rw [hcz]
  have hnm:=ha.name hT
  have h17:=ha.len
  skip
  all_goals (repeat' (first|refine qm ?_|(refine qf 14 ?_;refine mv ?_;refine ZC S rfl rfl ?_;refine mv ?_;refine qg ?_)))
  refine qE (σ:=Nat) (fun k h'=>Hs h0 h' [.blk bt (eT tt) 25,.rd tt.ov 1 eI tt.opn,.sl vo 25 7 eT l2,.any (Gy l2)]∧k≤l2.length∧∀ j,j<k→¬ (tb l2 j).name=tt.name) (fun k=>l2.length - k) (fun k=>[(0,str t),(5,vo),(6,.int .i64 0),(7,.int .i64 i),(9,str rst),(11,PT bt),(43,vo),(44,.int .i64 l2.length),(45,.int .i64 k)]) 0 (by repeat (first|exact Ks.le_nil _|refine Ks.qh rfl ?_)) ?_ ?_
  ·exact ⟨S,Nat.zero_le _,fun j hj=>absurd hj (Nat.not_lt_zero _)⟩
  clear S
  rintro k h ⟨S,hk1,hk2⟩
  all_goals (repeat' (first|refine qi ?_|refine ql rfl ?_|refine qo ?_|refine qA ?_|refine qm ?_|(refine qf 15 ?_;(first|(refine cS ?_ ?_<;>intro hc))<;>(refine qg ?_))|(refine qf 16 ?_;refine qH S rfl rfl ?_;refine qI S rfl rfl ?_;(refine al S ?_;clear S;intro b h S);(first|(refine sB S rfl rfl ?_;clear S;intro h S));refine qg ?_)|(refine qf 17 ?_;refine vl ?_;refine lB S rfl rfl ?_;refine vl ?_;refine lB S rfl rfl ?_;(refine tS ?_ ?_<;>intro hc)<;>(refine qg ?_))))
  ·have hk:k<l2.length:=by omega
   (try simp only [Int.toNat_natCast] at *)
   all_goals (repeat' (first|refine qi ?_|refine ql rfl ?_|refine qA ?_|(refine qf 18 ?_;refine mv ?_;refine qg ?_)|(refine qf 24 ?_;refine mv ?_;(refine cT ?_)<;>(refine qg ?_))|(refine qf 25 ?_;(iterate 5 refine mv ?_);refine qg ?_)))
   refine qx ⟨_,rfl,?_⟩
   exact bad 5 _ S.drop (qbL hne hP hck.symm (hnm.1 ⟨k,hk,by assumption⟩)) (by decide)
  ·have hk:k<l2.length:=by omega
   (try simp only [Int.toNat_natCast] at *)
   all_goals (repeat' (first|(refine qf 19 ?_;refine ad ?_;refine mv ?_;refine qg ?_)))
   refine ⟨k+1,?_,?_,(by repeat (first|exact Ks.le_nil _|refine Ks.qh rfl ?_))⟩
   ·show l2.length - (k+1)<l2.length - k;omega
   ·exact ⟨S.tail,by omega,qcA hk2 (by assumption)⟩
  have hnd:¬ ∃ j,j<l.length∧(tb l j).name=(Qp (jA 32 lw)).name:=fun q=>by
   obtain ⟨j,hj,e⟩:=hnm.2 q
   exact hk2 j (by omega) e
  have hll:=ha.same.1
  skip
  all_goals (repeat' (first|refine qi ?_|refine ql rfl ?_|refine qo ?_|(refine qf 20 ?_;refine mv ?_;refine ZC S rfl rfl ?_;(first|(refine cS ?_ ?_<;>intro hc))<;>(refine qg ?_))))
  ·all_goals (repeat' (first|refine qi ?_|refine ql rfl ?_|refine qA ?_|(refine qf 21 ?_;refine mv ?_;refine qg ?_)|(refine qf 24 ?_;refine mv ?_;(refine cT ?_)<;>(refine qg ?_))|(refine qf 25 ?_;(iterate 5 refine mv ?_);refine qg ?_)))
   refine qx ⟨_,rfl,?_⟩
   exact bad 7 _ S.drop (PR hne hP hck.symm hnd (by omega)) (by decide)
  ·have h16:l2.length≠16:=by omega
   all_goals (repeat' (first|(refine qf 22 ?_;refine mv ?_;refine lB S rfl rfl ?_;(refine one 7 S ?_;clear S;intro u h S))))
   refine app (y0:=tt) S rfl rfl ?_;clear S;intro v h S;refine mv ?_;refine qg ?_
   all_goals (repeat' (first|(refine qf 7 ?_;refine mv ?_;refine ad ?_;refine mv ?_;refine qg ?_)|(refine qf 23 ?_;refine mv ?_;refine mv ?_;refine qg ?_)))
   refine ⟨(rst,i+1,l2 ++ [tt],l ++ [Qp (jA 32 lw)],v),?_,?_,(by repeat (first|exact Ks.le_nil _|refine Ks.qh rfl ?_))⟩
   ·show rst.length<t.length;omega
   ·replace S:=S.del (.there .here)
    replace S:=(S.front (.there (.there .here))).front (.there (.there .here))
    exact ⟨(S.qbJ).front (.there .here),hp.trans (qdI hne hP hck.symm hnd (by omega)),(by show rst.length≤65536;omega),ha.push hT hcz h16,(by show i+1+rst.length≤s.length;omega)⟩
set_option maxHeartbeats 1000000 in
theorem PN {h0:AH} (w:WfH h0) (s:List UInt8):Fn Tryz.prog Xh 81 [str s] h0 (fun v h'=>∃ u l2 i e,v = .tuple #[u,.int .i64 i,.int .i64 e]∧ParsedR s l2 i e∧HallR h' u l2∧Hs h0 h' []):=by
 have S:=Hs.start w
 refine qF rfl Tryz.func81 rfl rfl ?_
 all_goals (repeat' (first|refine qi ?_|refine ql rfl ?_|refine qo ?_|(refine qf 0 ?_;(iterate 3 refine mv ?_);refine qg ?_)|(refine qf 1 ?_;refine mv ?_;refine tl ?_;(first|(refine cS ?_ ?_<;>intro hc))<;>(refine qg ?_))|(refine qf 2 ?_;(iterate 3 refine mv ?_);refine qg ?_)))
 ·have hl:65536<s.length:=by omega
  refine qx ⟨_,rfl,?_⟩
  exact ⟨_,[],0,7,rfl,.inr ⟨0,by unfold Jt;rw [if_pos hl],rfl,rfl,by decide⟩,X8 _,S⟩
 have hl:s.length≤65536:=by omega
 have hp0:Jt s=xX [] 0 (jA 10 s):=by unfold Jt;rw [if_neg (by omega)]
 all_goals (repeat' (first|(refine qf 3 ?_;refine mv ?_)))
 (refine qw rfl rfl rfl rfl rfl ((PO S.wf s (by omega)).mono ?_);rintro _ h ⟨vls,b0,ls,rfl,hls,x⟩)<;>(replace S:=S.jo x;clear x;refine mv ?_;refine vl ?_;refine vl ?_;refine mv ?_;refine mv ?_;refine qg ?_)
 have hlen:=Z5 10 s
 have hcs:s.countP (· == 10)≤s.length:=List.countP_le_length
 have hwl:=fun w (h:w∈jA 10 s)=>xG 10 s w h
 obtain ⟨L,hL⟩:∃ L,L=jA 10 s:=⟨_,rfl⟩
 rw [← hL] at hp0 hlen hwl hls
 have hpre:∀ i,i<ls.length→ls.getD i default=L.getD i default∧i<L.length∧(b0=true→i+1<ls.length→i+1<L.length)∧(b0=false→i+1<L.length):=fun i hi=>by
  rcases hls with ⟨rfl,ini,w,q1,q2,q3⟩|⟨rfl,q⟩
  ·rw [q2];exact ⟨rfl,hi,fun _ q=>q,fun q=>(by cases q)⟩
  ·rw [q]
   exact ⟨(jq _ _ hi).symm,(by simp;omega),fun q=>(by cases q),fun _=>(by simp;omega)⟩
 have hLl:ls.length≤L.length:=by
  rcases hls with ⟨rfl,ini,w,q1,q2,q3⟩|⟨rfl,q⟩
  ·rw [q2];exact Nat.le_refl _
  ·rw [q];simp
 all_goals (repeat' (first|refine qi ?_|refine qm ?_|(refine qf 4 ?_;refine mv ?_;refine qg ?_)|(refine qf 5 ?_;refine mv ?_;refine qg ?_)))
 refine qE (σ:=Nat×List Tab×List Tab×Value) (fun (i,l2,l,vo) h'=>Hs h0 h' [.sl vls 9 1 eS ls,.sl vo 25 7 eT l2,.any (Gy l2)]∧Jt s=xX l i (L.drop i)∧i≤ls.length∧Acc l2 l∧(b0=true→i<ls.length)) (fun (i,l2,l,vo)=>ls.length - i) (fun (i,l2,l,vo)=>[(0,str s),(5,vls),(6,.bool b0),(7,vo),(8,.int .i64 i)]) (0,[],[],.slice none 0 0) (by repeat (first|exact Ks.le_nil _|refine Ks.qh rfl ?_)) ?_ ?_
 ·refine ⟨(S.qg2.jP).front (.there (.there .here)),hp0,Nat.zero_le _,.nil,fun q=>?_⟩
  rcases hls with ⟨-,ini,w,q1,-⟩|⟨q1,-⟩
  ·show 0<ls.length;rw [q1];simp
  ·rw [q] at q1;cases q1
 clear S
 rintro ⟨i,l2,l,vo⟩ h ⟨S,hp,hi,ha,hb⟩
 have bad:∀ (e:Int) (h':AH),Hs h0 h' []→xX l i (L.drop i) = .bad i e→e≠0→∃ u l2 i' e',(Value.tuple #[.slice none 0 0,.int .i64 i,.int .i64 e]:Value) = .tuple #[u,.int .i64 i',.int .i64 e']∧ParsedR s l2 i' e'∧HallR h' u l2∧Hs h0 h' []:=fun e h' S q he =>
  ⟨_,[],_,_,rfl,.inr ⟨i,hp.trans q,rfl,rfl,he⟩,X8 _,S⟩
 all_goals (repeat' (first|refine qi ?_|refine ql rfl ?_|refine qo ?_|refine qA ?_|refine qm ?_|(refine qf 6 ?_;refine mv ?_;refine mv ?_;refine ZC S rfl rfl ?_;(first|(refine cS ?_ ?_<;>intro hc))<;>(refine qg ?_))))
 rotate_left
 ·have hie:i=ls.length:=by omega
  rcases hls with ⟨q,-⟩|⟨q,hq⟩
  ·have:=hb q;omega
  ·have e:L.drop i=[[]]:=by rw [hq,hie,List.drop_left]
   rw [e,qbK] at hp
   skip
   all_goals (repeat' (first|(refine qf 22 ?_;(iterate 4 refine mv ?_);refine qg ?_)))
   refine qx ⟨_,rfl,?_⟩
   exact ⟨vo,l2,0,0,rfl,.inl ⟨l,hp,ha.same,rfl,rfl⟩,kE S (.there .here) (.there (.there .here)) ha,S.drop⟩
 have hil:i<ls.length:=by omega
 obtain ⟨g1,g2,g3,g4⟩:=hpre i hil
 obtain ⟨lw,hlw⟩:∃ lw,lw=L.getD i default:=⟨_,rfl⟩
 have hld:L.drop i=lw :: L.drop (i+1):=by
  rw [List.drop_eq_getElem_cons g2,hlw]
  simp [List.getD_eq_getElem?_getD,g2]
 have hlw2:lw.length≤65536:=by
  have:lw∈L:=by rw [hlw];exact qg5 g2
  have:=hwl lw this
  omega
 rw [← hlw] at g1
 rw [hld] at bad hp
 all_goals (repeat' (first|(refine qf 8 ?_;refine mv ?_;refine mv ?_;refine qH S rfl rfl ?_;refine qI S rfl rfl ?_)))
 (try simp only [Int.toNat_natCast])
 rw [g1]
 (refine qw rfl rfl rfl rfl rfl ((qaT S.wf lw (by omega)).mono ?_);rintro _ h ⟨tt,bb,rfl,hR,hnl,x⟩)<;>(replace S:=S.jo x;clear x;refine mv ?_;refine vl ?_;refine vl ?_;(refine al S ?_;clear S;intro b h S);(first|(refine sB S rfl rfl ?_;clear S;intro h S));refine mv ?_;refine qg ?_)
 all_goals (repeat' (refine qi ?_))
 obtain ⟨bt,hnm⟩:∃ x,x=b:=⟨_,rfl⟩;subst hnm
 obtain ⟨r,hr⟩:∃ r,r=L.drop (i+1):=⟨_,rfl⟩
 have hrl:r=[]→lw≠[]:=fun q=>by
  have hlr:L.length≤i+1:=by
   have:=congrArg List.length hr
   rw [q] at this
   simp at this;omega
  rcases hls with ⟨rfl,ini,u,q1,q2,q3⟩|⟨rfl,hq⟩
  ·have e:i=ini.length:=by
    have h1:=congrArg List.length q1
    have h2:=congrArg List.length q2
    simp at h1;omega
   rw [hlw,q2,q1,e]
   simpa using q3
  ·have:=g4 rfl;omega
 have hrn:(b0=true→i+1<ls.length)→r≠[]:=fun q e=>by
  have h1:i+1<L.length:=by
   cases b0
   ·exact g4 rfl
   ·exact g3 rfl (q rfl)
  have:=congrArg List.length hr
  rw [e] at this
  simp at this;omega
 rw [← hr] at bad hp
 rcases hR with ⟨rfl,hP,hT⟩|⟨rfl,hP⟩
 rotate_left
 ·all_goals (repeat' (first|refine qi ?_|refine ql rfl ?_|(refine qf 9 ?_;refine mv ?_;refine vl ?_;refine mv ?_;refine off ?_;refine off ?_;refine off ?_;refine off ?_;refine off ?_;refine off ?_;(refine off ?_)<;>((refine off ?_);refine vl ?_;refine qg ?_))|(refine qf 10 ?_;(iterate 4 refine mv ?_);refine qg ?_)))
  refine qx ⟨_,rfl,?_⟩
  refine bad 3 _ S.drop ?_ (by decide)
  by_cases q:r=[]
  ·rw [q];exact xW (hrl q)
  ·exact PS q hP
 (repeat (refine qi ?_));first|refine JB (σ:=Unit) (fun _ h'=>Hs h0 h' [.blk bt (eT tt) 25,.rd tt.ov 1 eI tt.opn,.sl vls 9 1 eS ls,.sl vo 25 7 eT l2,.any (Gy l2)]∧(b0=true→i+1<ls.length)) (fun _=>[(0,str s),(5,vls),(6,.bool b0),(7,vo),(8,.int .i64 i),(9,PT bt)]) ?_ ?_
 ·cases b0
  ·all_goals (repeat' (first|refine ql rfl ?_|refine qo ?_|(refine qf 9 ?_;refine mv ?_;refine vl ?_;(iterate 3 refine mv ?_);refine off ?_;refine off ?_;refine off ?_;refine off ?_;(refine off ?_)<;>((refine vl ?_);refine vl ?_;refine qg ?_))))
   exact ⟨(),⟨S,fun q=>by cases q⟩,((by repeat (first|exact Ks.le_nil _|refine Ks.qh rfl ?_)))⟩
  ·all_goals (repeat' (first|refine qi ?_|refine ql rfl ?_|refine qo ?_|(refine qf 9 ?_;refine mv ?_;refine vl ?_;(iterate 5 refine mv ?_);(first|(refine ZC S rfl rfl ?_));(first|(refine sb ?_));(first|(first|(refine cS ?_ ?_<;>intro hc)))<;>((refine vl ?_);refine vl ?_;refine qg ?_))|(refine qf 10 ?_;(iterate 4 refine mv ?_);refine qg ?_)))
   ·refine qx ⟨_,rfl,?_⟩
    refine bad 3 _ S.drop ?_ (by decide)
    have e:r=[]:=by
     rcases hls with ⟨-,ini,u,q1,q2,q3⟩|⟨q,-⟩
     ·rw [hr,q2]
      exact List.drop_of_length_le (by omega)
     ·cases q
    rw [e];exact xW (hrl e)
   ·exact ⟨(),⟨S,fun _=>by omega⟩,((by repeat (first|exact Ks.le_nil _|refine Ks.qh rfl ?_)))⟩
 clear S
 rintro - h ⟨S,hb2⟩
 have hne:=hrn hb2
 have hck:=hT.chk
 skip
 all_goals (repeat' (first|refine qi ?_|(refine qf 11 ?_;refine lB S rfl rfl ?_)))
 (refine qw rfl rfl rfl rfl rfl ((Y5 S.wf tt ⟨Rd.Y8 S (.there .here),hnl.1,hnl.2⟩).mono ?_);rintro _ h ⟨rfl,x⟩)<;>(replace S:=S.qy x;clear x;refine mv ?_;refine qg ?_)
 all_goals (repeat' (first|refine qi ?_|refine ql rfl ?_|refine qo ?_|(refine qf 12 ?_;refine mv ?_;(first|(refine cS ?_ ?_<;>intro hc))<;>(refine qg ?_))))
 ·all_goals (repeat' (first|(refine qf 13 ?_;(iterate 5 refine mv ?_);refine qg ?_)))
  refine qx ⟨_,rfl,?_⟩
  have hc9:chk (Qp (jA 32 lw))≠0:=by rw [← hck];exact hc
  have:=qbM (acc:=l) (i:=i) hne hP hc9
  rw [← hck] at this
  exact bad _ _ S.drop this hc
 have hcz:chk tt=0:=Classical.not_not.1 hc
 rw [hcz] at hck
 have hnm:=ha.name hT
 have h17:=ha.len
 all_goals (repeat' (first|refine qm ?_|(refine qf 14 ?_;refine mv ?_;refine qg ?_)))
 refine qE (σ:=Nat) (fun k h'=>Hs h0 h' [.blk bt (eT tt) 25,.rd tt.ov 1 eI tt.opn,.sl vls 9 1 eS ls,.sl vo 25 7 eT l2,.any (Gy l2)]∧k≤l2.length∧∀ j,j<k→¬ (tb l2 j).name=tt.name) (fun k=>l2.length - k) (fun k=>[(0,str s),(5,vls),(6,.bool b0),(7,vo),(8,.int .i64 i),(9,PT bt),(12,.int .i64 k)]) 0 (by repeat (first|exact Ks.le_nil _|refine Ks.qh rfl ?_)) ?_ ?_
 ·exact ⟨S,Nat.zero_le _,fun j hj=>absurd hj (Nat.not_lt_zero _)⟩
 clear S
 rintro k h ⟨S,hk1,hk2⟩
 all_goals (repeat' (first|refine qi ?_|refine ql rfl ?_|refine qo ?_|refine qA ?_|refine qm ?_|(refine qf 15 ?_;refine mv ?_;refine mv ?_;refine ZC S rfl rfl ?_;(first|(refine cS ?_ ?_<;>intro hc))<;>(refine qg ?_))|(refine qO 17 ?_;refine mv ?_;refine mv ?_;refine qH S rfl rfl ?_;refine fS S rfl rfl ?_;refine qI S rfl rfl ?_;refine vl ?_;refine lB S rfl rfl ?_;(refine tS ?_ ?_<;>intro hc)<;>(refine qg ?_))))
 ·have hk:k<l2.length:=by omega
  (try simp only [Int.toNat_natCast] at *)
  all_goals (repeat' (first|(refine qf 18 ?_;(iterate 4 refine mv ?_);refine qg ?_)))
  refine qx ⟨_,rfl,?_⟩
  exact bad 5 _ S.drop (qbL hne hP hck.symm (hnm.1 ⟨k,hk,by assumption⟩)) (by decide)
 ·have hk:k<l2.length:=by omega
  (try simp only [Int.toNat_natCast] at *)
  all_goals (repeat' (first|(refine qf 16 ?_;refine mv ?_;refine ad ?_;refine mv ?_;refine qg ?_)))
  refine ⟨k+1,?_,?_,(by repeat (first|exact Ks.le_nil _|refine Ks.qh rfl ?_))⟩
  ·show l2.length - (k+1)<l2.length - k;omega
  ·exact ⟨S,by omega,qcA hk2 (by assumption)⟩
 have hnd:¬ ∃ j,j<l.length∧(tb l j).name=(Qp (jA 32 lw)).name:=fun q=>by
  obtain ⟨j,hj,e⟩:=hnm.2 q
  exact hk2 j (by omega) e
 have hll:=ha.same.1
 skip
 all_goals (repeat' (first|refine qi ?_|refine ql rfl ?_|refine qo ?_|(refine qf 19 ?_;refine mv ?_;refine ZC S rfl rfl ?_;(first|(refine cS ?_ ?_<;>intro hc))<;>(refine qg ?_))))
 ·all_goals (repeat' (first|(refine qf 20 ?_;(iterate 4 refine mv ?_);refine qg ?_)))
  refine qx ⟨_,rfl,?_⟩
  exact bad 7 _ S.drop (PR hne hP hck.symm hnd (by omega)) (by decide)
 ·have h16:l2.length≠16:=by omega
  all_goals (repeat' (first|(refine qf 21 ?_;refine mv ?_;refine lB S rfl rfl ?_;(refine one 7 S ?_;clear S;intro u h S))))
  refine app (y0:=tt) S rfl rfl ?_;clear S;intro v h S;refine mv ?_;refine qg ?_
  all_goals (repeat' (first|(refine qf 7 ?_;refine mv ?_;refine ad ?_;refine mv ?_;refine qg ?_)))
  refine ⟨(i+1,l2 ++ [tt],l ++ [Qp (jA 32 lw)],v),?_,?_,(by repeat (first|exact Ks.le_nil _|refine Ks.qh rfl ?_))⟩
  ·show ls.length - (i+1)<ls.length - i;omega
  ·replace S:=S.del (.there .here)
   replace S:=(S.front (.there (.there (.there .here)))).front (.there (.there .here))
   exact ⟨((S.qbJ).front (.there .here)).front (.there (.there .here)),hp.trans ((qdI hne hP hck.symm hnd (by omega)).trans (by rw [hr])),(by show i+1≤ls.length;omega),ha.push hT hcz h16,hb2⟩
theorem SameAll.both {a b l:List Tab} (h1:SameAll a l) (h2:SameAll b l):SameAll a b:=⟨by rw [h1.1,h2.1],fun i hi=>(jB _ _).2 (by
 have q1:=(jB _ _).1 (h1.2 i hi)
 have q2:=(jB _ _).1 (h2.2 i (by rw [h2.1,← h1.1];exact hi))
 exact ⟨q1.1.trans q2.1.symm,q1.2.1.trans q2.2.1.symm,q1.2.2.1.trans q2.2.2.1.symm,q1.2.2.2.1.trans q2.2.2.2.1.symm,q1.2.2.2.2.1.trans q2.2.2.2.2.1.symm,q1.2.2.2.2.2.1.trans q2.2.2.2.2.2.1.symm,q1.2.2.2.2.2.2.trans q2.2.2.2.2.2.2.symm⟩)⟩
theorem ParsedR.uniq {s:List UInt8} {l2 l3:List Tab} {i e i' e':Int} (a:ParsedR s l2 i e) (b:ParsedR s l3 i' e'):SameAll l2 l3∧i=i'∧e=e':=by
 rcases a with ⟨l,h1,h2,rfl,rfl⟩|⟨k,h1,rfl,rfl,h2⟩<;>rcases b with ⟨m,g1,g2,rfl,rfl⟩|⟨k',g1,rfl,rfl,g2⟩
 ·rw [h1] at g1;cases g1
  exact ⟨h2.both g2,rfl,rfl⟩
 ·rw [h1] at g1;cases g1
 ·rw [h1] at g1;cases g1
 ·rw [h1] at g1;cases g1
  exact ⟨.nil,rfl,rfl⟩
theorem Za {h0:AH} (w:WfH h0) (s:List UInt8):Fn Tryz.prog Xh 27 [str s] h0 (fun v h'=>v = .bool true∧Hs h0 h' []):=by
 have S:=Hs.start w
 refine qF rfl Tryz.func27 rfl rfl ?_
 all_goals (repeat' (first|refine qi ?_|(refine qf 0 ?_;refine mv ?_;refine qg ?_)|(refine qf 1 ?_;refine mv ?_)))
 (refine qw rfl rfl rfl rfl rfl ((qdK S.wf s).mono ?_);rintro _ h ⟨u,l2,i,e,rfl,hp,hu,x⟩)<;>(replace S:=S.qy x;clear x;refine mv ?_;refine vl ?_;refine vl ?_;refine vl ?_;(iterate 3 refine mv ?_);refine qg ?_)
 have w1:=S.wf
 have T:=S
 replace S:=Hs.start w1
 all_goals (repeat' (refine qi ?_))
 all_goals (repeat' (first|(refine qf 2 ?_;refine mv ?_)))
 (refine qw rfl rfl rfl rfl rfl ((PN S.wf s).mono ?_);rintro _ h ⟨u2,l3,i2,e2,rfl,hp2,hu2,x⟩)<;>(replace S:=S.qy x;clear x;refine mv ?_;refine vl ?_;refine vl ?_;refine vl ?_;(iterate 3 refine mv ?_);refine qg ?_)
 obtain ⟨hsa,rfl,rfl⟩:=hp.uniq hp2
 have hu':=hu.ext w1 S.ext
 all_goals (repeat' (first|refine qi ?_|(refine qf 3 ?_;refine mv ?_;refine mv ?_)))
 (refine qw rfl rfl rfl rfl rfl ((ZI S.wf u u2 l2 l3 hu'.rd hu2.rd hu'.tab hu2.tab hu'.len hu2.len).mono ?_);rintro _ h ⟨⟨rfl,q⟩|⟨rfl,q⟩,x⟩)<;>(replace S:=S.qy x;clear x;refine mv ?_;(first|refine off ?_|refine mv ?_);(first|refine off ?_|refine mv ?_);(first|refine off ?_|(refine cT ?_))<;>(refine vl ?_;refine mv ?_;(first|refine off ?_|refine mv ?_);(first|refine off ?_|refine mv ?_);(first|refine off ?_|(refine cT ?_))<;>(refine vl ?_;refine mv ?_;refine qg ?_)))
 rotate_left
 ·exact absurd hsa q
 all_goals (repeat' (fail))
 refine qx ⟨_,rfl,?_⟩
 exact ⟨rfl,T.qy S⟩
end Go.Proofs.Xx
