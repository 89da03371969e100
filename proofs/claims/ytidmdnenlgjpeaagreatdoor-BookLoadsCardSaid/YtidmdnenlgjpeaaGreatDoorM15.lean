/-
  The reference: sorted,Names,With,Shared,Common.
-/
import Derived.Test.YtidmdnenlgjpeaaGreatDoorM13
import Derived.Test.YtidmdnenlgjpeaaGreatDoorM12
import Derived.Test.YtidmdnenlgjpeaaGreatDoorM14
namespace Go.Proofs.Xx
open Go Go.Proofs
set_option linter.unusedSimpArgs false
set_option linter.unusedVariables false
set_option linter.unusedSectionVars false
set_option maxRecDepth 100000
set_option maxHeartbeats 4000000
theorem PQ {r:Rl} (H:RO r):(r.us.map (·.name)).Nodup:=by
 rw [List.Nodup,List.pairwise_iff_getElem]
 intro i j hi hj hij
 simp only [List.length_map] at hi hj
 have:=H.nd i j hij hj
 rw [List.getD_eq_getElem?_getD,List.getD_eq_getElem?_getD,List.getElem?_eq_getElem hj,List.getElem?_eq_getElem hi] at this
 simpa using this
theorem SS.filter {l:List (List UInt8)} (h:SS l) (p:List UInt8→Bool):SS (l.filter p):=by
 have hp:l.Pairwise zy:=by
  rw [List.pairwise_iff_getElem]
  intro i j hi hj hij
  have:=h i j hij hj
  rwa [List.getD_eq_getElem?_getD,List.getD_eq_getElem?_getD,List.getElem?_eq_getElem hj,List.getElem?_eq_getElem hi] at this
 have hq:=hp.filter p
 intro i j hij hj
 have:=List.pairwise_iff_getElem.1 hq i j (by omega) hj hij
 rw [List.getD_eq_getElem?_getD,List.getD_eq_getElem?_getD,List.getElem?_eq_getElem hj,List.getElem?_eq_getElem (show i<(l.filter p).length by omega)]
 exact this
variable [Flag]
theorem wF {h0:AH} (w:WfH h0) (v:Value) (l:List (List UInt8)) (hr:Qd h0 v 1 eS l) (hl:l.length≤1000000):Fn Tryz.prog Xh 139 [v] h0 (fun u h'=>∃ l',Sw 0 l.length l l'∧Srt zy 0 l.length l'∧Hs h0 h' [.sl u 9 1 eS l']):=by
 have W:WOrd zy:=jR
 have S:=Hs.start w
 refine zg rfl Tryz.func139 rfl rfl ?_
 all_goals (repeat' (first|refine qw ?_|refine qh rfl ?_|refine qi ?_|refine qp ?_|refine qg ?_|refine qj ?_|refine qo ?_|(refine qc 0 ?_;refine mv ?_;refine qf ?_)|(refine qc 1 ?_;refine mv ?_)))
 (refine qE rfl rfl rfl rfl rfl ((qaz S.wf v l (hr.ext w S.ext) (by omega)).mono ?_);rintro v3 h x)<;>(replace S:=S.jT x;clear x;refine mv ?_;refine qf ?_)
 all_goals (repeat' (first|refine qw ?_|refine qh rfl ?_|refine qi ?_|refine qp ?_|refine qg ?_|refine qj ?_|refine qo ?_|(refine qc 2 ?_;refine mv ?_;refine qf ?_)))
 refine qM (σ:=Nat×List (List UInt8)) (fun (i,m) h'=>Hs h0 h' [.sl v3 9 1 eS m]∧Sw 0 l.length l m∧Srt zy 0 (min i l.length) m) (fun (i,m)=>l.length - i) (fun (i,m)=>[(3,v3),(4,.int .i64 i)]) (0,l) (by repeat (first|exact Ks.le_nil _|refine Ks.qx rfl ?_|refine Ks.qA ?_)) ?_ ?_
 ·exact ⟨S,.refl _,fun i j q1 q2 q3=>by omega⟩
 clear S
 rintro ⟨i,m⟩ h ⟨S,g2,g3⟩
 have hml:=g2.len
 all_goals (repeat' (first|refine qw ?_|refine qh rfl ?_|refine qi ?_|refine qp ?_|refine qg ?_|refine qj ?_|refine qo ?_|(refine qc 3 ?_;refine mv ?_;refine mv ?_;(first|refine jA S ?_|refine jZ S rfl rfl ?_);(first|refine cT ?_|refine cF ?_|(refine cS ?_ ?_<;>intro hc))<;>(refine qf ?_))))
 ·have hib:i<l.length:=by omega
  rw [Nat.min_eq_left (by omega)] at g3
  all_goals (repeat' (first|refine qw ?_|refine qh rfl ?_|refine qi ?_|refine qp ?_|refine qg ?_|refine qj ?_|refine qo ?_|(refine qc 5 ?_;refine mv ?_;refine mv ?_;refine qf ?_)))
  refine qM (σ:=Nat×List (List UInt8)) (fun (j,n) h'=>Hs h0 h' [.sl v3 9 1 eS n]∧j≤i∧Sw 0 l.length l n∧InsI zy 0 i j n) (fun (j,n)=>j) (fun (j,n)=>[(3,v3),(4,.int .i64 i),(5,.int .i64 j)]) (i,m) (by repeat (first|exact Ks.le_nil _|refine Ks.qx rfl ?_|refine Ks.qA ?_)) ?_ ?_
  ·exact ⟨S,Nat.le_refl _,g2,InsI.start g3⟩
  clear S g2 g3 hml
  rintro ⟨j,n⟩ h ⟨S,k2,k3,k4⟩
  have hnl:=k3.len
  all_goals (repeat' (first|refine qw ?_|refine qh rfl ?_|refine qi ?_|refine qp ?_|refine qg ?_|refine qj ?_|refine qo ?_|(refine qL 6 ?_;refine mv ?_;(first|refine cT ?_|refine cF ?_|(refine cS ?_ ?_<;>intro hc))<;>(refine mv ?_;(first|refine off ?_|refine mv ?_);(first|refine off ?_|refine mv ?_);(first|refine off ?_|(first|refine zK S ?_|refine qC S rfl rfl ?_));(first|refine off ?_|(first|refine lB S rfl rfl ?_|refine qy S rfl rfl ?_|refine qU S ?_|refine lH S ?_));(first|refine off ?_|refine mv ?_);(first|refine off ?_|refine mv ?_);(first|refine off ?_|(first|refine sb ?_|refine vl ?_));(first|refine off ?_|(first|refine zK S ?_|refine qC S rfl rfl ?_));(first|refine off ?_|(first|refine lB S rfl rfl ?_|refine qy S rfl rfl ?_|refine qU S ?_|refine lH S ?_));(first|refine off ?_|(refine tO ?_ ?_<;>intro hc))<;>(refine vl ?_;refine qf ?_)))))
  all_goals (try simp only [qH,qG,qJ,Int.toNat_natCast] at *)
  ·have hj0:0<j:=by omega
   skip
   all_goals (repeat' (first|refine qw ?_|refine qh rfl ?_|refine qi ?_|refine qp ?_|refine qg ?_|refine qj ?_|refine qo ?_|(refine qc 7 ?_;refine mv ?_;(first|refine sb ?_|refine vl ?_);refine mv ?_;refine qf ?_)|(refine qL 8 ?_;(iterate 4 refine mv ?_);(first|refine sb ?_|refine vl ?_);refine mv ?_;refine mv ?_;(first|refine sb ?_|refine vl ?_);(first|refine zK S ?_|refine qC S rfl rfl ?_);(first|refine lB S rfl rfl ?_|refine qy S rfl rfl ?_|refine qU S ?_|refine lH S ?_);refine mv ?_;refine mv ?_;(first|refine zK S ?_|refine qC S rfl rfl ?_);(first|refine lB S rfl rfl ?_|refine qy S rfl rfl ?_|refine qU S ?_|refine lH S ?_);(first|refine zK S ?_|refine qC S rfl rfl ?_);(first|(refine sB S rfl rfl ?_;clear S;intro h S)|(refine zS S rfl rfl ?_;clear S;intro h S));(first|refine zK S ?_|refine qC S rfl rfl ?_);(first|(refine sB S rfl rfl ?_;clear S;intro h S)|(refine zS S rfl rfl ?_;clear S;intro h S));refine qf ?_)))
   (try simp only [qH,qG,qJ,Int.toNat_natCast] at S)
   refine ⟨(j - 1,swp n j (j - 1)),?_,?_,(by repeat (first|exact Ks.le_nil _|refine Ks.qx rfl ?_|refine Ks.qA ?_))⟩
   ·show j - 1<j;omega
   ·exact ⟨S,by (try dsimp only);omega,k3.step j (j - 1) ⟨by omega,by omega⟩ ⟨by omega,by omega⟩ (by omega),k4.next W hj0 k2 (by omega) hc⟩
  ·skip
   all_goals (repeat' (first|refine qw ?_|refine qh rfl ?_|refine qi ?_|refine qp ?_|refine qg ?_|refine qj ?_|refine qo ?_|(refine qc 4 ?_;refine mv ?_;(first|refine ad ?_|refine vl ?_);refine mv ?_;refine qf ?_)))
   refine ⟨(i+1,n),?_,?_,(by repeat (first|exact Ks.le_nil _|refine Ks.qx rfl ?_|refine Ks.qA ?_))⟩
   ·show l.length - (i+1)<l.length - i;omega
   ·simp only [Nat.min_eq_left (show i+1≤l.length by omega)]
    exact ⟨S,k3,k4.done W (.inr hc)⟩
  ·skip
   all_goals (repeat' (first|refine qw ?_|refine qh rfl ?_|refine qi ?_|refine qp ?_|refine qg ?_|refine qj ?_|refine qo ?_|(refine qc 4 ?_;refine mv ?_;(first|refine ad ?_|refine vl ?_);refine mv ?_;refine qf ?_)))
   refine ⟨(i+1,n),?_,?_,(by repeat (first|exact Ks.le_nil _|refine Ks.qx rfl ?_|refine Ks.qA ?_))⟩
   ·show l.length - (i+1)<l.length - i;omega
   ·simp only [Nat.min_eq_left (show i+1≤l.length by omega)]
    exact ⟨S,k3,k4.done W (.inl (by omega))⟩
 ·rw [Nat.min_eq_right (by omega)] at g3
  skip
  all_goals (repeat' (first|refine qw ?_|refine qh rfl ?_|refine qi ?_|refine qp ?_|refine qg ?_|refine qj ?_|refine qo ?_|(refine qc 9 ?_;refine mv ?_;refine mv ?_;refine qf ?_)))
  refine qI ⟨_,rfl,?_⟩
  exact ⟨m,g2,g3,S⟩
theorem pJ {h0:AH} (w:WfH h0) (v:RlV) (r:Rl) (HR:RlOk h0 v r) (H:RO r):Fn Tryz.prog Xh 133 [v.val] h0 (fun u h'=>∃ l,Hs h0 h' [.sl u 9 1 eS l]∧SS l∧(∀ x,x∈l↔gat r.us x≠none)∧l.length=r.us.length):=by
 have S:=Hs.start w
 have hrg:=HR.rg
 have hgl:=HR.len
 have h64:=H.l64
 unfold RlV.val
 refine zg rfl Tryz.func133 rfl rfl ?_
 all_goals (repeat' (first|refine qw ?_|refine qh rfl ?_|refine qi ?_|refine qp ?_|refine qg ?_|refine qj ?_|refine qo ?_|(refine qc 0 ?_;(refine bx S ?_;clear S;intro b h S);refine mv ?_;refine qf ?_)|(refine qc 1 ?_;refine mv ?_;refine qf ?_)|(refine qc 2 ?_;refine mv ?_;refine qf ?_)))
 have S:=S.Zv (e:=9) (z:=1) (enc:=eS)
 obtain ⟨b1,hnm⟩:∃ x,x=b:=⟨_,rfl⟩;subst hnm
 replace S:Hs h0 h (.sl (.slice none 0 0) 9 1 eS [] :: .blk b1 [v.vg.val,v.vt.val] 32 :: []):=S
 refine qM (σ:=Nat×Value) (fun (i,v3) h'=>Hs h0 h' [.sl v3 9 1 eS ((r.us.take i).map (·.name)),.blk b1 [v.vg.val,v.vt.val] 32]∧i≤r.us.length) (fun (i,v3)=>r.us.length - i) (fun (i,v3)=>[(1,.pointer (some ⟨b1,0,none⟩)),(3,v3),(4,.int .i64 i)]) (0,.slice none 0 0) (by repeat (first|exact Ks.le_nil _|refine Ks.qx rfl ?_|refine Ks.qA ?_)) ?_ ?_
 ·exact ⟨S,Nat.zero_le _⟩
 clear S
 rintro ⟨i,v3⟩ h ⟨S,g1⟩
 have htl:((r.us.take i).map (·.name)).length≤64:=by simp;omega
 all_goals (repeat' (first|refine qw ?_|refine qh rfl ?_|refine qi ?_|refine qp ?_|refine qg ?_|refine qj ?_|refine qo ?_|(refine qc 3 ?_;refine mv ?_;(first|refine vl ?_|refine fB S ?_|refine fS S rfl rfl ?_|refine fA ?_);(first|refine lB S rfl rfl ?_|refine qy S rfl rfl ?_|refine qU S ?_|refine lH S ?_);(first|refine jA S ?_|refine jZ S rfl rfl ?_);(first|refine cT ?_|refine cF ?_|(refine cS ?_ ?_<;>intro hc))<;>(refine qf ?_))))
 ·have hil:i<v.gs.length:=by omega
  have hg:=HR.at_ hil
  all_goals (repeat' (first|refine qw ?_|refine qh rfl ?_|refine qi ?_|refine qp ?_|refine qg ?_|refine qj ?_|refine qo ?_|(refine qc 5 ?_;refine mv ?_;(first|refine vl ?_|refine fB S ?_|refine fS S rfl rfl ?_|refine fA ?_);(first|refine lB S rfl rfl ?_|refine qy S rfl rfl ?_|refine qU S ?_|refine lH S ?_);refine mv ?_;(first|refine zK S ?_|refine qC S rfl rfl ?_);(first|refine vl ?_|refine fB S ?_|refine fS S rfl rfl ?_|refine fA ?_);(first|refine lB S rfl rfl ?_|refine qy S rfl rfl ?_|refine qU S ?_|refine lH S ?_);(refine one 1 S ?_;clear S;intro u h S))))
  simp only [Int.toNat_natCast] at *
  refine app (y0:=(v.gs.getD i default).name) S rfl rfl ?_;clear S;intro v3 h S;(refine mv ?_;refine qf ?_)
  all_goals (repeat' (first|refine qw ?_|refine qh rfl ?_|refine qi ?_|refine qp ?_|refine qg ?_|refine qj ?_|refine qo ?_|(refine qc 4 ?_;refine mv ?_;(first|refine ad ?_|refine vl ?_);refine mv ?_;refine qf ?_)))
  refine ⟨(i+1,v3),?_,?_,(by repeat (first|exact Ks.le_nil _|refine Ks.qx rfl ?_|refine Ks.qA ?_))⟩
  ·show r.us.length - (i+1)<r.us.length - i;omega
  ·have e:(r.us.take (i+1)).map (·.name)=(r.us.take i).map (·.name) ++ [(v.gs.getD i default).name]:=by rw [zk (by omega),← hg];simp
   refine ⟨?_,by (try dsimp only);omega⟩
   dsimp only
   rw [e];exact S.pick
 ·obtain rfl:i=r.us.length:=by omega
  rw [List.take_length] at S htl
  skip
  all_goals (repeat' (first|refine qw ?_|refine qh rfl ?_|refine qi ?_|refine qp ?_|refine qg ?_|refine qj ?_|refine qo ?_|(refine qc 6 ?_;refine mv ?_)))
  (refine qE rfl rfl rfl rfl rfl ((wF S.wf v3 (r.us.map (·.name)) (Rd.Jb S .here) (Nat.le_trans htl (by decide))).mono ?_);rintro u h ⟨l,z1,z2,x⟩)<;>(replace S:=S.jT x;clear x;refine mv ?_;refine qf ?_)
  all_goals (repeat' (first|refine qw ?_|refine qh rfl ?_|refine qi ?_|refine qp ?_|refine qg ?_|refine qj ?_|refine qo ?_))
  refine qI ⟨_,rfl,?_⟩
  refine ⟨l,S.only .here,SS.of z1 z2 (PQ H),fun x=>?_,(by rw [z1.len];simp)⟩
  rw [z1.perm.mem_iff,Yl,List.mem_map]
end Go.Proofs.Xx
namespace Go.Proofs.Xx
open Go Go.Proofs
set_option linter.unusedSimpArgs false
set_option linter.unusedVariables false
set_option linter.unusedSectionVars false
set_option maxRecDepth 100000
set_option maxHeartbeats 4000000
def adB (r:Rl) (k:Int) (n x:List UInt8):Bool:=match Zn r.ts n x with|some t=>decide (t.k=k)|none=>false
theorem TgOk.ss {l:List (List UInt8)} (h:TgOk l):SS l:=fun i j hij=>by
 induction j with
 | zero=>omega
 | succ j ih =>
  intro hj
  have h1:=(h (j+1) hj).2 (by omega)
  rw [Nat.add_sub_cancel] at h1
  rcases Nat.lt_or_ge i j with q|q
  ·exact jQ (ih q (by omega)) h1
  ·obtain rfl:i=j:=by omega
   exact h1
variable [Flag]
end Go.Proofs.Xx
namespace Go.Proofs.Xx
open Go Go.Proofs
set_option linter.unusedSimpArgs false
set_option linter.unusedVariables false
set_option linter.unusedSectionVars false
def lst (ns:List (List UInt8)) (P:List Nat):List (List UInt8):=P.map fun p=>ns.getD p default
theorem Yh {ns:List (List UInt8)} {P:List Nat} {i:Nat} (h:i<P.length):(lst ns P).getD i default=ns.getD (P.getD i default) default:=zq (f:=fun p=>ns.getD p default) h
theorem qbf {ns:List (List UInt8)} {P:List Nat} {i k:Nat} (h:k<P.length):(lst ns P).set i ((lst ns P).getD k default)=lst ns (P.set i (P.getD k default)):=by
 rw [Yh h];unfold lst;rw [List.map_set]
theorem SS.lt_iff {l:List (List UInt8)} (h:SS l) {i j:Nat} (hi:i<l.length) (hj:j<l.length):zy (l.getD i default) (l.getD j default)↔i<j:=by
 constructor
 ·intro q
  rcases Nat.lt_or_ge i j with z|z
  ·exact z
  ·exact absurd q (h.le z hi)
 ·exact fun q=>h i j q hj
theorem SS.inj {l:List (List UInt8)} (h:SS l) {i j:Nat} (hi:i<l.length) (hj:j<l.length) (e:l.getD i default=l.getD j default):i=j:=by
 rcases Nat.lt_trichotomy i j with q|q|q
 ·exact absurd e (Yf h.nodup q hj)
 ·exact q
 ·exact absurd e.symm (Yf h.nodup q hi)
structure LI (r:Rl) (ns:List (List UInt8)) (P:List Nat):Prop where
 len:P.length=ns.length
 le:∀ i,i<P.length→P.getD i default≤i
 rc:∀ i,i<P.length→Rch r 1 (ns.getD i default) (ns.getD (P.getD i default) default)
def LC (r:Rl) (ns:List (List UInt8)) (P:List Nat):Prop:=∀ i k,i<ns.length→k<ns.length→adj r 1 (ns.getD i default) (ns.getD k default)→P.getD i default≤P.getD k default
theorem LI.set {r:Rl} {ns:List (List UInt8)} {P:List Nat} (I:LI r ns P) {i k:Nat} (hi:i<P.length) (hk:k<P.length) (h:P.getD k default<P.getD i default) (a:adj r 1 (ns.getD i default) (ns.getD k default)):LI r ns (P.set i (P.getD k default)):=by
 have hg:∀ j,(P.set i (P.getD k default)).getD j default=if j=i then P.getD k default else P.getD j default:=fun j=>jW _ _ hi j
 refine ⟨by simp;exact I.len,fun j hj=>?_,fun j hj=>?_⟩
 ·simp at hj
  rw [hg];split
  ·rename_i e
   have:=I.le i hi
   omega
  ·exact I.le j hj
 ·simp at hj
  rw [hg];split
  ·rename_i e
   rw [e]
   exact (Rch.step .refl a).trans (I.rc k hk)
  ·exact I.rc j hj
theorem VI:∀ {l:List Nat} {i x:Nat},i<l.length→x<l.getD i default→(l.set i x).sum<l.sum
 | a :: l,0,x,h,hx=>by
  have hx:x<a:=hx
  simp;omega
 | a :: l,i+1,x,h,hx=>by
  have:=VI (l:=l) (i:=i) (x:=x) (by simp at h;exact h) hx
  simp;exact this
theorem LI.comp {r:Rl} (H:RO r) {ns:List (List UInt8)} {P:List Nat} (I:LI r ns P) (C:LC r ns P) (hns:∀ x,gat r.us x≠none→x∈ns) {i:Nat} (hi:i<ns.length) {x:List UInt8} (h:Rch r 1 (ns.getD i default) x):∃ k,k<ns.length∧ns.getD k default=x∧P.getD k default=P.getD i default:=by
 induction h with
 | refl=>exact ⟨i,hi,rfl,rfl⟩
 | step h a ih =>
  obtain ⟨k,k1,k2,k3⟩:=ih
  obtain ⟨m,m1,m2⟩:=qR.1 (hns _ (Qp H a).2.1)
  rw [← k2,← m2] at a
  have h1:=C k m k1 m1 a
  have h2:=C m k m1 k1 a.symm
  exact ⟨m,m1,m2,by omega⟩
theorem LI.fix {r:Rl} (H:RO r) {ns:List (List UInt8)} {P:List Nat} (I:LI r ns P) (C:LC r ns P) (hs:SS ns) (hns:∀ x,gat r.us x≠none→x∈ns) {i:Nat} (hi:i<ns.length):P.getD (P.getD i default) default=P.getD i default:=by
 have h1:=I.le i (by rw [I.len];exact hi)
 obtain ⟨k,k1,k2,k3⟩:=I.comp H C hns hi (I.rc i (by rw [I.len];exact hi))
 have:=hs.inj k1 (by omega) k2
 rw [this] at k3;exact k3
def ZA (ns:List (List UInt8)) (P:List Nat) (i n:Nat):List (List UInt8):=((List.range n).filter fun k=>decide (P.getD k default=i)).map fun k=>ns.getD k default
theorem Pq (ns:List (List UInt8)) (P:List Nat) (i n:Nat):ZA ns P i (n+1)=ZA ns P i n ++ if P.getD n default=i then [ns.getD n default] else []:=by
 unfold ZA
 rw [List.range_succ,List.filter_append,List.map_append]
 congr 1
 rw [List.filter_cons,List.filter_nil]
 by_cases h:P.getD n default=i
 ·rw [if_pos (decide_eq_true h),if_pos h];rfl
 ·rw [if_neg (by rw [decide_eq_false h];decide),if_neg h];rfl
theorem J7 {ns:List (List UInt8)} {P:List Nat} {i n:Nat} {x:List UInt8}:x∈ZA ns P i n↔∃ k,k<n∧P.getD k default=i∧ns.getD k default=x:=by
 unfold ZA
 simp only [List.mem_map,List.mem_filter,List.mem_range,decide_eq_true_eq]
 constructor
 ·rintro ⟨k,⟨h1,h2⟩,h3⟩;exact ⟨k,h1,h2,h3⟩
 ·rintro ⟨k,h1,h2,h3⟩;exact ⟨k,⟨h1,h2⟩,h3⟩
theorem SS.qdj {l:List (List UInt8)} (h:l.Pairwise zy):SS l:=by
 intro i j hij hj
 have:=List.pairwise_iff_getElem.1 h i j (by omega) hj hij
 rw [List.getD_eq_getElem?_getD,List.getD_eq_getElem?_getD,List.getElem?_eq_getElem hj,List.getElem?_eq_getElem (show i<l.length by omega)]
 exact this
theorem GM {ns:List (List UInt8)} (hs:SS ns) {P:List Nat} {i n:Nat} (hn:n≤ns.length):SS (ZA ns P i n):=by
 apply SS.qdj
 unfold ZA
 rw [List.pairwise_map]
 have h1:(List.range n).Pairwise fun a b=>a<b:=List.pairwise_lt_range
 have h2:=h1.filter fun k=>decide (P.getD k default=i)
 refine List.Pairwise.imp_of_mem ?_ h2
 intro a b ha hb hab
 have hb':=List.mem_range.1 (List.mem_filter.1 hb).1
 exact hs a b hab (by omega)
theorem qaC (ns:List (List UInt8)) (P:List Nat) (i n:Nat):(ZA ns P i n).length≤n:=by
 unfold ZA
 rw [List.length_map]
 have:=List.length_filter_le (fun k=>decide (P.getD k default=i)) (List.range n)
 simpa using this
def ZQ (ns:List (List UInt8)) (P:List Nat) (n:Nat):List (List (List UInt8)):=((List.range n).filter fun i=>decide (P.getD i default=i)).map fun i=>ZA ns P i ns.length
theorem KG (ns:List (List UInt8)) (P:List Nat) (n:Nat):ZQ ns P (n+1)=ZQ ns P n ++ if P.getD n default=n then [ZA ns P n ns.length] else []:=by
 unfold ZQ
 rw [List.range_succ,List.filter_append,List.map_append]
 congr 1
 rw [List.filter_cons,List.filter_nil]
 by_cases h:P.getD n default=n
 ·rw [if_pos (decide_eq_true h),if_pos h];rfl
 ·rw [if_neg (by rw [decide_eq_false h];decide),if_neg h];rfl
theorem Po (ns:List (List UInt8)) (P:List Nat) (n:Nat):(ZQ ns P n).length≤n:=by
 unfold ZQ
 rw [List.length_map]
 have:=List.length_filter_le (fun i=>decide (P.getD i default=i)) (List.range n)
 simpa using this
theorem LI.head {r:Rl} {ns:List (List UInt8)} {P:List Nat} (I:LI r ns P) (hs:SS ns) {i:Nat} (hi:i<ns.length) (e:P.getD i default=i):(ZA ns P i ns.length).getD 0 default=ns.getD i default:=by
 have hm:ns.getD i default∈ZA ns P i ns.length:=J7.2 ⟨i,hi,e,rfl⟩
 have hss:=GM hs (P:=P) (i:=i) (Nat.le_refl ns.length)
 have hpos:=List.length_pos_of_mem hm
 obtain ⟨k,k1,k2,k3⟩:=J7.1 (qQ hpos)
 obtain ⟨j,j1,j2⟩:=qR.1 hm
 have h1:=hss.le (Nat.zero_le j) j1
 rw [j2,← k3,hs.lt_iff hi k1] at h1
 have h2:=I.le k (by rw [I.len];exact k1)
 have:k=i:=by omega
 rw [← k3,this]
theorem LI.cir {r:Rl} (H:RO r) {ns:List (List UInt8)} {P:List Nat} (I:LI r ns P) (C:LC r ns P) (hs:SS ns) (hns:∀ x,x∈ns↔gat r.us x≠none) {cs:List Wd} (e:cs.map (·.ws)=ZQ ns P ns.length):CirOk r cs∧∀ x,gat r.us x≠none→∃ w∈cs,x∈w.ws:=by
 have hns':∀ x,gat r.us x≠none→x∈ns:=fun x hx=>(hns x).2 hx
 have key:∀ w∈cs,∃ i,i<ns.length∧P.getD i default=i∧w.ws=ZA ns P i ns.length:=fun w hw=>by
  have:w.ws∈ZQ ns P ns.length:=by rw [← e];exact List.mem_map.2 ⟨w,hw,rfl⟩
  unfold ZQ at this
  simp only [List.mem_map,List.mem_filter,List.mem_range,decide_eq_true_eq] at this
  obtain ⟨i,⟨h1,h2⟩,h3⟩:=this
  exact ⟨i,h1,h2,h3.symm⟩
 refine ⟨⟨fun w hw=>?_,?_⟩,fun x hx=>?_⟩
 ·obtain ⟨i,hi,hp,hw2⟩:=key w hw
  rw [hw2,I.head hs hi hp]
  refine ⟨GM hs (Nat.le_refl _),fun q=>?_,fun x=>?_⟩
  ·have:ns.getD i default∈ZA ns P i ns.length:=J7.2 ⟨i,hi,hp,rfl⟩
   rw [q] at this;cases this
  ·rw [J7]
   constructor
   ·rintro ⟨k,k1,k2,rfl⟩
    refine ⟨(hns _).1 (qQ hi),?_⟩
    have:=I.rc k (by rw [I.len];exact k1)
    rw [k2] at this
    exact this.symm
   ·rintro ⟨-,h2⟩
    obtain ⟨k,k1,k2,k3⟩:=I.comp H C hns' hi h2
    exact ⟨k,k1,by rw [k3,hp],k2⟩
 ·have hp:(ZQ ns P ns.length).Pairwise fun a b=>zy (a.getD 0 default) (b.getD 0 default):=by
   unfold ZQ
   rw [List.pairwise_map]
   have h1:(List.range ns.length).Pairwise fun a b=>a<b:=List.pairwise_lt_range
   have h2:=h1.filter fun i=>decide (P.getD i default=i)
   refine List.Pairwise.imp_of_mem ?_ h2
   intro a b ha hb hab
   have ha':=List.mem_filter.1 ha
   have hb':=List.mem_filter.1 hb
   have a1:=List.mem_range.1 ha'.1
   have b1:=List.mem_range.1 hb'.1
   rw [I.head hs a1 (of_decide_eq_true ha'.2),I.head hs b1 (of_decide_eq_true hb'.2)]
   exact hs a b hab b1
  rw [← e,List.pairwise_map] at hp
  intro i j hij hj
  have:=List.pairwise_iff_getElem.1 hp i j (by omega) hj hij
  have g:∀ i (h:i<cs.length),cs.getD i default=cs[i]:=fun i h=>by rw [List.getD_eq_getElem?_getD,List.getElem?_eq_getElem h];rfl
  rw [g i (by omega),g j hj]
  exact this
 ·obtain ⟨k,k1,k2⟩:=qR.1 (hns' x hx)
  have h1:=I.le k (by rw [I.len];exact k1)
  have h2:=I.fix H C hs hns' k1
  have hm:ZA ns P (P.getD k default) ns.length∈cs.map (·.ws):=by
   rw [e]
   unfold ZQ
   simp only [List.mem_map,List.mem_filter,List.mem_range,decide_eq_true_eq]
   exact ⟨_,⟨by omega,h2⟩,rfl⟩
  obtain ⟨w,w1,w2⟩:=List.mem_map.1 hm
  exact ⟨w,w1,by rw [w2];exact J7.2 ⟨k,k1,rfl,k2⟩⟩
theorem CirOk.uniq {r:Rl} {cs ds:List Wd} (C:CirOk r cs) (D:CirOk r ds) (hc:∀ x,gat r.us x≠none→∃ w∈cs,x∈w.ws) (hd:∀ x,gat r.us x≠none→∃ w∈ds,x∈w.ws):cs.map (·.ws)=ds.map (·.ws):=by
 have hk:∀ {cs:List Wd},CirOk r cs→SS (cs.map fun w=>w.ws.getD 0 default):=fun {cs} C i j hij hj=>by
  rw [List.length_map] at hj
  rw [zq (f:=fun w:Wd=>w.ws.getD 0 default) hj,zq (f:=fun w:Wd=>w.ws.getD 0 default) (show i<cs.length by omega)]
  exact C.hd i j hij hj
 have hsub:∀ {cs ds:List Wd},CirOk r cs→CirOk r ds→(∀ x,gat r.us x≠none→∃ w∈ds,x∈w.ws)→∀ w∈cs,∃ u∈ds,u.ws=w.ws:=fun {cs ds} C D hd w hw=>by
  obtain ⟨w1,w2,w3⟩:=C.ss w hw
  have h0:w.ws.getD 0 default∈w.ws:=qQ (List.length_pos_iff.2 w2)
  have hg:=((w3 _).1 h0).1
  obtain ⟨u,u1,u2⟩:=hd _ hg
  obtain ⟨v1,v2,v3⟩:=D.ss u u1
  refine ⟨u,u1,v1.eq w1 fun x=>?_⟩
  have hr:=((v3 _).1 u2).2
  rw [v3,w3]
  exact ⟨fun q=>⟨hg,hr.symm.trans q.2⟩,fun q=>⟨((v3 _).1 u2).1,hr.trans q.2⟩⟩
 have heads:(cs.map fun w=>w.ws.getD 0 default)=ds.map fun w=>w.ws.getD 0 default:=(hk C).eq (hk D) fun x=>by
  simp only [List.mem_map]
  constructor
  ·rintro ⟨w,w1,rfl⟩
   obtain ⟨u,u1,u2⟩:=hsub C D hd w w1
   exact ⟨u,u1,by rw [u2]⟩
  ·rintro ⟨w,w1,rfl⟩
   obtain ⟨u,u1,u2⟩:=hsub D C hc w w1
   exact ⟨u,u1,by rw [u2]⟩
 have hl:cs.length=ds.length:=by have:=congrArg List.length heads;simpa using this
 apply QX (by simpa using hl)
 intro i hi
 rw [List.length_map] at hi
 rw [zq (f:=fun w:Wd=>w.ws) hi,zq (f:=fun w:Wd=>w.ws) (show i<ds.length by omega)]
 obtain ⟨w1,w2,w3⟩:=C.ss _ (qQ hi)
 obtain ⟨v1,v2,v3⟩:=D.ss _ (qQ (show i<ds.length by omega))
 have e0:(cs.getD i default).ws.getD 0 default=(ds.getD i default).ws.getD 0 default:=by
  have:=congrArg (fun l=>l.getD i default) heads
  (try simp only at this)
  rwa [zq (f:=fun w:Wd=>w.ws.getD 0 default) hi,zq (f:=fun w:Wd=>w.ws.getD 0 default) (show i<ds.length by omega)] at this
 refine w1.eq v1 fun x=>?_
 rw [w3,v3,e0]
set_option maxRecDepth 100000
set_option maxHeartbeats 4000000
def Qv (r:Rl):List (List UInt8):=r.us.map (·.diet)
structure DietOk (r:Rl) (ds:List Ct):Prop where
 ss:SS (ds.map (·.d))
 n:∀ c∈ds,c.n=((Qv r).count c.d:Int)
 all:∀ x,x∈ds.map (·.d)↔x∈Qv r
theorem DietOk.uniq {r:Rl} {a b:List Ct} (A:DietOk r a) (B:DietOk r b):a=b:=by
 have e:=A.ss.eq B.ss fun x=>(A.all x).trans (B.all x).symm
 have hl:a.length=b.length:=by have:=congrArg List.length e;simpa using this
 apply QX hl
 intro i hi
 have e1:(a.getD i default).d=(b.getD i default).d:=by
  have:=congrArg (fun l=>l.getD i default) e
  (try simp only at this)
  rwa [zq (f:=fun c:Ct=>c.d) hi,zq (f:=fun c:Ct=>c.d) (show i<b.length by omega)] at this
 have e2:=A.n _ (qQ hi)
 have e3:=B.n _ (qQ (show i<b.length by omega))
 rw [e1,← e3] at e2
 cases h1:a.getD i default with
 | mk d n=>cases h2:b.getD i default with
  | mk d' n'=>rw [h1,h2] at e1 e2;simp only at e1 e2;rw [e1,e2]
def JX (mp:List (List UInt8×Int)) (d:List UInt8):Int:=match zH mp d with|some x=>x|none=>0
theorem xM {mp:List (List UInt8×Int)} {d:List UInt8} {x:Int} (h:zH mp d=some x):JX mp d=x:=by unfold JX;rw [h]
theorem xN {mp:List (List UInt8×Int)} {d:List UInt8} (h:zH mp d=none):JX mp d=0:=by unfold JX;rw [h]
theorem wV {mp:List (List UInt8×Int)} {k:List UInt8} {x:Int} (d:List UInt8):JX (jS mp k x) d=if d=k then x else JX mp d:=by
 unfold JX;rw [Jd]
 by_cases e:d=k
 ·rw [if_pos e,if_pos e]
 ·rw [if_neg e,if_neg e]
structure DP (r:Rl) (i:Nat) (mp:List (List UInt8×Int)) (out:List Ct):Prop where
 m:∀ d,JX mp d=if d∈(Qv r).take i then 0 else ((Qv r).count d:Int)
 nd:(out.map (·.d)).Nodup
 mem:∀ d,d∈out.map (·.d)↔d∈(Qv r).take i
 n:∀ c∈out,c.n=((Qv r).count c.d:Int)
 ln:out.length≤i
theorem jc {l:List (List UInt8)} {i:Nat} (hi:i<l.length) (d:List UInt8):d∈l.take (i+1)↔d∈l.take i∨d=l.getD i default:=by
 rw [zk hi,List.mem_append,List.mem_singleton]
theorem DP.yes {r:Rl} {i:Nat} {mp:List (List UInt8×Int)} {out:List Ct} (D:DP r i mp out) (hi:i<(Qv r).length) (h:0<JX mp ((Qv r).getD i default)):DP r (i+1) (jS mp ((Qv r).getD i default) 0) (out ++ [⟨(Qv r).getD i default,JX mp ((Qv r).getD i default)⟩]):=by
 have hn:(Qv r).getD i default ∉ (Qv r).take i:=fun q=>by
  have:=D.m ((Qv r).getD i default)
  rw [if_pos q] at this;omega
 have hv:=D.m ((Qv r).getD i default)
 rw [if_neg hn] at hv
 refine ⟨fun d=>?_,?_,fun d=>?_,fun c hc=>?_,by have:=D.ln;simp;omega⟩
 ·rw [wV]
  by_cases e:d=(Qv r).getD i default
  ·rw [if_pos e,if_pos ((jc hi d).2 (.inr e))]
  ·rw [if_neg e,D.m d]
   by_cases q:d∈(Qv r).take i
   ·rw [if_pos q,if_pos ((jc hi d).2 (.inl q))]
   ·rw [if_neg q,if_neg (fun z=>((jc hi d).1 z).elim q e)]
 ·rw [List.map_append,List.nodup_append]
  refine ⟨D.nd,by simp,fun a ha b hb e=>?_⟩
  simp only [List.map_cons,List.map_nil,List.mem_singleton] at hb
  subst e;subst hb
  exact hn ((D.mem _).1 ha)
 ·rw [List.map_append,List.mem_append,D.mem,jc hi]
  simp
 ·rcases List.mem_append.1 hc with q|q
  ·exact D.n c q
  ·rw [List.mem_singleton.1 q];exact hv
theorem DP.no {r:Rl} {i:Nat} {mp:List (List UInt8×Int)} {out:List Ct} (D:DP r i mp out) (hi:i<(Qv r).length) (h:¬ 0<JX mp ((Qv r).getD i default)):DP r (i+1) mp out:=by
 have hn:(Qv r).getD i default∈(Qv r).take i:=by
  apply Classical.byContradiction
  intro q
  have hv:=D.m ((Qv r).getD i default)
  rw [if_neg q] at hv
  have:0<(Qv r).count ((Qv r).getD i default):=List.count_pos_iff.2 (qQ hi)
  omega
 have key:∀ d,d∈(Qv r).take (i+1)↔d∈(Qv r).take i:=fun d=>by
  rw [jc hi]
  exact ⟨fun q=>q.elim id (fun e=>e ▸ hn),.inl⟩
 refine ⟨fun d=>?_,D.nd,fun d=>by rw [D.mem,key],D.n,by have:=D.ln;omega⟩
 rw [D.m d]
 simp only [key]
theorem DP.fin {r:Rl} {mp:List (List UInt8×Int)} {out ds:List Ct} (D:DP r (Qv r).length mp out) (s:Sw 0 out.length out ds) (h:Srt jD 0 out.length ds):DietOk r ds:=by
 have hl:=s.len
 have hp:=s.perm
 have hnd:(ds.map (·.d)).Nodup:=(hp.map _).nodup_iff.2 D.nd
 refine ⟨fun i j hij hj=>?_,fun c hc=>D.n c (hp.mem_iff.1 hc),fun x=>?_⟩
 ·have hj':j<ds.length:=by simpa using hj
  have h1:=h i j (Nat.zero_le _) hij (by omega)
  have h2:=Yf hnd hij hj
  rw [zq (f:=fun c:Ct=>c.d) hj',zq (f:=fun c:Ct=>c.d) (show i<ds.length by omega)] at *
  rcases Jt h1 with q|q
  ·exact absurd q h2
  ·exact q
 ·have:=D.mem x
  rw [List.take_length] at this
  rw [← this]
  exact (hp.map _).mem_iff
variable [Flag]
theorem qaw {h0:AH} (w:WfH h0) {p:Nat} {r:Rl} (B:BkRd h0 p r) (H:RO r):Fn Tryz.prog Xh 51 [.pointer (some ⟨p,0,none⟩)] h0 (fun u h'=>∃ ds,Hs h0 h' [.sl u 147 2 jL ds]∧DietOk r ds∧ds.length≤64):=by
 have S:=Hs.start w
 obtain ⟨s,B⟩:=B
 have hb:=B.bk
 have h64:=H.l64
 have hrg:=B.rg
 have hgl:=B.len
 have hdl:(Qv r).length=r.us.length:=by simp [Qv]
 have hgd:∀ i,i<s.gs.length→(s.gs.getD i default).diet=(Qv r).getD i default:=fun i hi=>by
  have:=B.g hi
  unfold Qv
  rw [zq (f:=fun g:Gu=>g.diet) (by omega),← this]
 refine zg rfl Tryz.func51 rfl rfl ?_
 all_goals (repeat' (first|refine qw ?_|refine qh rfl ?_|refine qi ?_|refine qp ?_|refine qg ?_|refine qj ?_|refine qo ?_|(refine qc 0 ?_;refine mv ?_;refine qf ?_)|(refine qc 1 ?_;refine mv ?_)))
 (refine qE rfl rfl rfl rfl rfl ((Q5 S.wf (S.ext.get w hb)).mono ?_);rintro _ h ⟨rfl,x⟩)<;>(replace S:=S.qW x;clear x;refine qf ?_)
 all_goals (repeat' (first|refine qw ?_|refine qh rfl ?_|refine qi ?_|refine qp ?_|refine qg ?_|refine qj ?_|refine qo ?_|(refine qc 2 ?_;refine mv ?_;refine qf ?_)))
 (repeat (refine qw ?_));refine qc 3 ?_
 refine mkm (α:=Int) (.int .i64) S ?_;clear S;intro m h S;(refine mv ?_;refine qf ?_)
 all_goals (repeat' (first|refine qw ?_|refine qh rfl ?_|refine qi ?_|refine qp ?_|refine qg ?_|refine qj ?_|refine qo ?_|(refine qc 4 ?_;refine mv ?_;refine vl ?_;(first|refine vl ?_|refine fB S ?_|refine fS S rfl rfl ?_|refine fA ?_);(first|refine vl ?_|refine fB S ?_|refine fS S rfl rfl ?_|refine fA ?_);(first|refine lB S rfl rfl ?_|refine qy S rfl rfl ?_|refine qU S ?_|refine lH S ?_);(first|refine jA S ?_|refine jZ S rfl rfl ?_);refine mv ?_;refine qf ?_)))
 refine qM (σ:=Nat×List (List UInt8×Int)) (fun (i,mp) h'=>Hs h0 h' [.mp m (.int .i64) mp]∧i≤r.us.length∧(∀ d,JX mp d=(((Qv r).take i).count d:Int))) (fun (i,mp)=>r.us.length - i) (fun (i,mp)=>[(0,.pointer (some ⟨p,0,none⟩)),(3,.map (some m)),(17,s.vg.val),(18,.int .i64 s.gs.length),(19,.int .i64 i)]) (0,[]) (by repeat (first|exact Ks.le_nil _|refine Ks.qx rfl ?_|refine Ks.qA ?_)) ?_ ?_
 ·exact ⟨S,Nat.zero_le _,fun d=>by simp [JX,zH,QN]⟩
 clear S
 rintro ⟨i,mp⟩ h ⟨S,g1,g2⟩
 all_goals (repeat' (first|refine qw ?_|refine qh rfl ?_|refine qi ?_|refine qp ?_|refine qg ?_|refine qj ?_|refine qo ?_|(refine qc 5 ?_;(first|refine cT ?_|refine cF ?_|(refine cS ?_ ?_<;>intro hc))<;>(refine qf ?_))))
 ·have hil:i<s.gs.length:=by omega
  have hd:=hgd i hil
  have hnx:∀ d,JX (jS mp ((Qv r).getD i default) (JX mp ((Qv r).getD i default)+1)) d=(((Qv r).take (i+1)).count d:Int):=fun d=>by
   rw [wV,zk (by omega),List.count_append,List.count_cons,List.count_nil]
   by_cases e:d=(Qv r).getD i default
   ·rw [if_pos e,e,g2];simp
   ·rw [if_neg e,g2]
    have:((Qv r).getD i default == d)=false:=by simpa using fun q=>e q.symm
    simp only [this];simp
  have hbd:0≤JX mp ((Qv r).getD i default)∧JX mp ((Qv r).getD i default)≤64:=by
   rw [g2]
   have:=List.count_le_length (a:=(Qv r).getD i default) (l:=(Qv r).take i)
   rw [List.length_take] at this;omega
  all_goals (repeat' (first|refine qw ?_|refine qh rfl ?_|refine qi ?_|refine qp ?_|refine qg ?_|refine qj ?_|refine qo ?_|(refine qc 6 ?_;(first|refine zK S ?_|refine qC S rfl rfl ?_);(first|refine lB S rfl rfl ?_|refine qy S rfl rfl ?_|refine qU S ?_|refine lH S ?_);(refine al S ?_;clear S;intro b h S);(first|(refine sB S rfl rfl ?_;clear S;intro h S)|(refine zS S rfl rfl ?_;clear S;intro h S));refine qf ?_)|(refine qc 7 ?_;refine mv ?_;(first|refine vl ?_|refine fB S ?_|refine fS S rfl rfl ?_|refine fA ?_);(first|refine lB S rfl rfl ?_|refine qy S rfl rfl ?_|refine qU S ?_|refine lH S ?_))))
  simp only [Int.toNat_natCast,hd] at *
  refine lk S (.there .here) (fun y hy=>?_) (fun hy=>?_)
  ·rw [xM hy] at hbd hnx
   simp only [okV]
   ((first|refine ad ?_|refine vl ?_))
   refine up (x:=y+1) (key:=(Qv r).getD i default) S (.there .here) (.there .here) (fun h S=>?_) (.inl rfl)
   (refine qf ?_)
   skip
   all_goals (repeat' (first|refine qw ?_|refine qh rfl ?_|refine qi ?_|refine qp ?_|refine qg ?_|refine qj ?_|refine qo ?_|(refine qc 8 ?_;(first|refine ad ?_|refine vl ?_);refine mv ?_;refine qf ?_)))
   refine ⟨(i+1,jS mp ((Qv r).getD i default) (y+1)),?_,?_,(by repeat (first|exact Ks.le_nil _|refine Ks.qx rfl ?_|refine Ks.qA ?_))⟩
   ·show r.us.length - (i+1)<r.us.length - i;omega
   ·exact ⟨S.tail,by (try dsimp only);omega,hnx⟩
  ·rw [xN hy] at hbd hnx
   simp only [okV]
   ((first|refine ad ?_|refine vl ?_))
   refine up (x:=(0:Int)+1) (key:=(Qv r).getD i default) S (.there .here) (.there .here) (fun h S=>?_) (.inl rfl)
   (refine qf ?_)
   skip
   all_goals (repeat' (first|refine qw ?_|refine qh rfl ?_|refine qi ?_|refine qp ?_|refine qg ?_|refine qj ?_|refine qo ?_|(refine qc 8 ?_;(first|refine ad ?_|refine vl ?_);refine mv ?_;refine qf ?_)))
   refine ⟨(i+1,jS mp ((Qv r).getD i default) (0+1)),?_,?_,(by repeat (first|exact Ks.le_nil _|refine Ks.qx rfl ?_|refine Ks.qA ?_))⟩
   ·show r.us.length - (i+1)<r.us.length - i;omega
   ·exact ⟨S.tail,by (try dsimp only);omega,hnx⟩
 ·have hi:i=r.us.length:=by omega
  rw [hi,← hdl,List.take_length] at g2
  skip
  all_goals (repeat' (first|refine qw ?_|refine qh rfl ?_|refine qi ?_|refine qp ?_|refine qg ?_|refine qj ?_|refine qo ?_|(refine qc 9 ?_;refine mv ?_;refine qf ?_)))
  have S:=S.Zv (e:=147) (z:=2) (enc:=jL)
  all_goals (repeat' (first|refine qw ?_|refine qh rfl ?_|refine qi ?_|refine qp ?_|refine qg ?_|refine qj ?_|refine qo ?_|(refine qc 10 ?_;refine mv ?_;refine vl ?_;(first|refine vl ?_|refine fB S ?_|refine fS S rfl rfl ?_|refine fA ?_);(first|refine vl ?_|refine fB S ?_|refine fS S rfl rfl ?_|refine fA ?_);(first|refine lB S rfl rfl ?_|refine qy S rfl rfl ?_|refine qU S ?_|refine lH S ?_);(first|refine jA S ?_|refine jZ S rfl rfl ?_);refine mv ?_;refine qf ?_)))
  refine qM (σ:=Nat×List (List UInt8×Int)×Value×List Ct) (fun (i,mp,v6,out) h'=>Hs h0 h' [.sl v6 147 2 jL out,.mp m (.int .i64) mp]∧i≤r.us.length∧DP r i mp out) (fun (i,mp,v6,out)=>r.us.length - i) (fun (i,mp,v6,out)=>[(0,.pointer (some ⟨p,0,none⟩)),(3,.map (some m)),(6,v6),(33,s.vg.val),(34,.int .i64 s.gs.length),(35,.int .i64 i)]) (0,mp,.slice none 0 0,[]) (by repeat (first|exact Ks.le_nil _|refine Ks.qx rfl ?_|refine Ks.qA ?_)) ?_ ?_
  ·exact ⟨S,Nat.zero_le _,⟨fun d=>by rw [List.take_zero,if_neg (by simp)];exact g2 d,by simp,by simp,by simp,Nat.le_refl _⟩⟩
  clear S g2
  rintro ⟨i,mp,v6,out⟩ h ⟨S,k1,D⟩
  have hln:=D.ln
  all_goals (repeat' (first|refine qw ?_|refine qh rfl ?_|refine qi ?_|refine qp ?_|refine qg ?_|refine qj ?_|refine qo ?_|(refine qc 11 ?_;(first|refine cT ?_|refine cF ?_|(refine cS ?_ ?_<;>intro hc))<;>(refine qf ?_))))
  ·have hil:i<s.gs.length:=by omega
   have hd:=hgd i hil
   have hmd:=D.m ((Qv r).getD i default)
   have hyes:=D.yes (show i<(Qv r).length by omega)
   have hnoo:=D.no (show i<(Qv r).length by omega)
   all_goals (repeat' (first|refine qw ?_|refine qh rfl ?_|refine qi ?_|refine qp ?_|refine qg ?_|refine qj ?_|refine qo ?_|(refine qc 12 ?_;(first|refine zK S ?_|refine qC S rfl rfl ?_);(first|refine lB S rfl rfl ?_|refine qy S rfl rfl ?_|refine qU S ?_|refine lH S ?_);(refine al S ?_;clear S;intro b h S);(first|(refine sB S rfl rfl ?_;clear S;intro h S)|(refine zS S rfl rfl ?_;clear S;intro h S));refine qf ?_)|(refine qc 13 ?_;refine mv ?_;(first|refine vl ?_|refine fB S ?_|refine fS S rfl rfl ?_|refine fA ?_);(first|refine lB S rfl rfl ?_|refine qy S rfl rfl ?_|refine qU S ?_|refine lH S ?_))))
   simp only [Int.toNat_natCast,hd] at *
   refine lk S (.there (.there .here)) (fun y hy=>?_) (fun hy=>?_)
   ·rw [xM hy] at hyes hnoo
    simp only [okV]
    (refine mv ?_;refine qf ?_)
    skip
    all_goals (repeat' (first|refine qw ?_|refine qh rfl ?_|refine qi ?_|refine qp ?_|refine qg ?_|refine qj ?_|refine qo ?_|(refine qc 14 ?_;refine mv ?_;(first|refine cT ?_|refine cF ?_|(refine cS ?_ ?_<;>intro hc))<;>(refine qf ?_))))
    ·have hyes:=hyes (by omega)
     all_goals (repeat' (first|refine qw ?_|refine qh rfl ?_|refine qi ?_|refine qp ?_|refine qg ?_|refine qj ?_|refine qo ?_|(refine qc 15 ?_;refine mv ?_;(first|refine vl ?_|refine fB S ?_|refine fS S rfl rfl ?_|refine fA ?_);(first|refine lB S rfl rfl ?_|refine qy S rfl rfl ?_|refine qU S ?_|refine lH S ?_);refine mv ?_;refine vl ?_;(refine one 2 S ?_;clear S;intro u h S))))
     have hd:=hgd i hil
     (try simp only [Int.toNat_natCast] at S)
     (try rw [hd] at S)
     refine app (y0:=(⟨(Qv r).getD i default,y⟩:Ct)) S rfl rfl ?_;clear S;intro v6 h S;(refine mv ?_;refine qf ?_)
     all_goals (repeat' (first|refine qw ?_|refine qh rfl ?_|refine qi ?_|refine qp ?_|refine qg ?_|refine qj ?_|refine qo ?_|(refine qc 16 ?_;refine mv ?_;(first|refine vl ?_|refine fB S ?_|refine fS S rfl rfl ?_|refine fA ?_);(first|refine lB S rfl rfl ?_|refine qy S rfl rfl ?_|refine qU S ?_|refine lH S ?_))))
     (try simp only [Int.toNat_natCast])
     (try rw [hd])
     refine up (x:=(0:Int)) (key:=(Qv r).getD i default) S (.there (.there .here)) (.there (.there .here)) (fun h S=>?_) (.inl rfl)
     (refine qf ?_)
     skip
     all_goals (repeat' (first|refine qw ?_|refine qh rfl ?_|refine qi ?_|refine qp ?_|refine qg ?_|refine qj ?_|refine qo ?_|(refine qc 17 ?_;(first|refine ad ?_|refine vl ?_);refine mv ?_;refine qf ?_)))
     refine ⟨(i+1,jS mp ((Qv r).getD i default) 0,v6,out ++ [⟨(Qv r).getD i default,y⟩]),?_,?_,(by repeat (first|exact Ks.le_nil _|refine Ks.qx rfl ?_|refine Ks.qA ?_))⟩
     ·show r.us.length - (i+1)<r.us.length - i;omega
     ·exact ⟨S.pick,by (try dsimp only);omega,hyes⟩
    ·have hnoo:=hnoo (by omega)
     skip
     all_goals (repeat' (first|refine qw ?_|refine qh rfl ?_|refine qi ?_|refine qp ?_|refine qg ?_|refine qj ?_|refine qo ?_|(refine qc 17 ?_;(first|refine ad ?_|refine vl ?_);refine mv ?_;refine qf ?_)))
     refine ⟨(i+1,mp,v6,out),?_,?_,(by repeat (first|exact Ks.le_nil _|refine Ks.qx rfl ?_|refine Ks.qA ?_))⟩
     ·show r.us.length - (i+1)<r.us.length - i;omega
     ·exact ⟨S.pick,by (try dsimp only);omega,hnoo⟩
   ·rw [xN hy] at hnoo
    have hnoo:=hnoo (by omega)
    simp only [okV]
    (refine mv ?_;refine qf ?_)
    skip
    all_goals (repeat' (first|refine qw ?_|refine qh rfl ?_|refine qi ?_|refine qp ?_|refine qg ?_|refine qj ?_|refine qo ?_|(refine qc 14 ?_;refine mv ?_;(first|refine cT ?_|refine cF ?_|(refine cS ?_ ?_<;>intro hc))<;>(refine qf ?_))|(refine qc 17 ?_;(first|refine ad ?_|refine vl ?_);refine mv ?_;refine qf ?_)))
    refine ⟨(i+1,mp,v6,out),?_,?_,(by repeat (first|exact Ks.le_nil _|refine Ks.qx rfl ?_|refine Ks.qA ?_))⟩
    ·show r.us.length - (i+1)<r.us.length - i;omega
    ·exact ⟨S.pick,by (try dsimp only);omega,hnoo⟩
  ·have hi:i=(Qv r).length:=by omega
   rw [hi] at D
   skip
   all_goals (repeat' (first|refine qw ?_|refine qh rfl ?_|refine qi ?_|refine qp ?_|refine qg ?_|refine qj ?_|refine qo ?_|(refine qc 18 ?_;refine mv ?_)))
   (refine qE rfl rfl rfl rfl rfl ((qb6 S (by omega)).mono ?_);rintro _ h ⟨ds,s1,s2,S⟩)<;>(refine qf ?_)
   all_goals (repeat' (first|refine qw ?_|refine qh rfl ?_|refine qi ?_|refine qp ?_|refine qg ?_|refine qj ?_|refine qo ?_|(refine qc 18 ?_;refine mv ?_)|(refine qc 19 ?_;refine mv ?_;refine mv ?_;refine qf ?_)))
   refine qI ⟨_,rfl,?_⟩
   exact ⟨ds,S.only .here,D.fin s1 s2,by rw [s1.len];omega⟩
end Go.Proofs.Xx
namespace Go.Proofs.Xx
open Go Go.Proofs
set_option linter.unusedSimpArgs false
set_option linter.unusedVariables false
set_option linter.unusedSectionVars false
set_option maxRecDepth 100000
set_option maxHeartbeats 4000000
structure RP (l:List (List UInt8)) (i:Nat) (out:List Ct):Prop where
 ss:SS (out.map (·.d))
 n:∀ c∈out,c.n=((l.take i).count c.d:Int)
 all:∀ x,x∈out.map (·.d)↔x∈l.take i
 last:0<i→0<out.length∧(out.getD (out.length - 1) default).d=l.getD (i - 1) default
 ln:out.length≤i
theorem JG {l:List (List UInt8)} {i:Nat} (hi:i<l.length) (d:List UInt8):(l.take (i+1)).count d=(l.take i).count d+if d=l.getD i default then 1 else 0:=by
 rw [zk hi,List.count_append,List.count_cons,List.count_nil]
 by_cases e:d=l.getD i default
 ·rw [if_pos e,e];simp
 ·rw [if_neg e]
  have:(l.getD i default == d)=false:=by simpa using fun q=>e q.symm
  simp only [this];simp
theorem RP.same {l:List (List UInt8)} {i:Nat} {out:List Ct} (R:RP l i out) (hi:i<l.length) (h0:0<i) (e:l.getD i default=l.getD (i - 1) default):RP l (i+1) (out.set (out.length - 1) ⟨(out.getD (out.length - 1) default).d,(out.getD (out.length - 1) default).n+1⟩):=by
 obtain ⟨k1,k2⟩:=R.last h0
 rw [← e] at k2
 obtain ⟨m,hm⟩:∃ m,out.length - 1=m:=⟨_,rfl⟩
 rw [hm] at k2 ⊢
 have hml:m<out.length:=by omega
 have hmap:(out.set m ⟨(out.getD m default).d,(out.getD m default).n+1⟩).map (·.d)=out.map (·.d):=by
  apply QX (by simp)
  intro j hj
  simp at hj
  rw [zq (f:=fun c:Ct=>c.d) (by simpa using hj),zq (f:=fun c:Ct=>c.d) hj,jW _ _ hml]
  split
  ·rename_i q;rw [q]
  ·rfl
 refine ⟨by rw [hmap];exact R.ss,fun c hc=>?_,fun x=>?_,fun _=>⟨by simp;omega,?_⟩,by have:=R.ln;simp;omega⟩
 ·obtain ⟨j,j1,j2⟩:=qR.1 hc
  simp at j1
  rw [jW _ _ hml] at j2
  rw [← j2,JG hi]
  by_cases q:j=m
  ·rw [if_pos q]
   show (out.getD m default).n+1=_
   have h1:=R.n _ (qQ hml)
   show (out.getD m default).n+1=((((l.take i).count (out.getD m default).d+if (out.getD m default).d=l.getD i default then 1 else 0:Nat)):Int)
   rw [if_pos k2];omega
  ·rw [if_neg q]
   have hne:(out.getD j default).d≠l.getD i default:=fun z=>by
    rw [← k2] at z
    have:=R.ss.inj (i:=j) (j:=m) (by simpa using j1) (by simpa using hml) (by
     rw [zq (f:=fun c:Ct=>c.d) j1,zq (f:=fun c:Ct=>c.d) hml];exact z)
    exact q this
   rw [if_neg hne,R.n _ (qQ j1)];omega
 ·rw [hmap,R.all,jc hi]
  constructor
  ·exact .inl
  ·rintro (q|q)
   ·exact q
   ·rw [q,← k2]
    exact (R.all _).1 (List.mem_map.2 ⟨_,qQ hml,rfl⟩)
 ·rw [List.length_set,hm,jW _ _ hml,if_pos rfl]
  exact k2
theorem RP.new {l:List (List UInt8)} {i:Nat} {out:List Ct} (R:RP l i out) (hs:Srt zy 0 l.length l) (hi:i<l.length) (h:i=0∨l.getD i default≠l.getD (i - 1) default):RP l (i+1) (out ++ [⟨l.getD i default,1⟩]):=by
 have hlt:∀ x∈l.take i,zy x (l.getD i default):=fun x hx=>by
  obtain ⟨j,j1,j2⟩:=qR.1 hx
  rw [List.length_take] at j1
  rw [getD_take (show j<i by omega)] at j2
  rcases h with h|h
  ·omega
  ·have a1:=hs (i - 1) i (Nat.zero_le _) (by omega) hi
   have a2:zy (l.getD (i - 1) default) (l.getD i default):=by
    rcases Jt a1 with q|q
    ·exact absurd q.symm h
    ·exact q
   rcases Nat.eq_or_lt_of_le (show j≤i - 1 by omega) with e|e
   ·rw [← j2,e];exact a2
   ·have a3:=hs j (i - 1) (Nat.zero_le _) e (by omega)
    rw [← j2]
    exact yG a3 a2
 have hni:l.getD i default ∉ l.take i:=fun q=>zu _ (hlt _ q)
 refine ⟨?_,fun c hc=>?_,fun x=>?_,fun _=>⟨by simp,?_⟩,by have:=R.ln;simp;omega⟩
 ·rw [List.map_append]
  intro a b hab hb
  rw [List.length_append,List.length_map] at hb
  simp at hb
  rcases Nat.lt_or_ge b out.length with q|q
  ·rw [gA1 (by simp;omega),gA1 (by simpa using q)]
   exact R.ss a b hab (by simpa using q)
  ·obtain rfl:b=out.length:=by omega
   rw [gA1 (by simpa using hab),gA2 (by simp),List.length_map,Nat.sub_self]
   exact hlt _ ((R.all _).1 (qQ (by simpa using hab)))
 ·rw [JG hi]
  rcases List.mem_append.1 hc with q|q
  ·have hne:c.d≠l.getD i default:=fun e=>hni (e ▸ (R.all _).1 (List.mem_map.2 ⟨c,q,rfl⟩))
   rw [if_neg hne,R.n c q];omega
  ·rw [List.mem_singleton.1 q]
   show (1:Int)=(((l.take i).count (l.getD i default)+if l.getD i default=l.getD i default then 1 else 0:Nat):Int)
   rw [if_pos rfl,List.count_eq_zero.2 hni];rfl
 ·rw [List.map_append,List.mem_append,R.all,jc hi]
  simp
 ·rw [List.length_append,List.length_singleton,Nat.add_sub_cancel,Nat.add_sub_cancel,gA2 (Nat.le_refl _),Nat.sub_self];rfl
theorem RP.fin {r:Rl} {l:List (List UInt8)} {out:List Ct} (R:RP l l.length out) (p:l.Perm (Qv r)):DietOk r out:=by
 refine ⟨R.ss,fun c hc=>?_,fun x=>?_⟩
 ·rw [R.n c hc,List.take_length,p.count_eq]
 ·rw [R.all,List.take_length,p.mem_iff]
variable [Flag]
theorem pM {h0:AH} (w:WfH h0) (v:RlV) (r:Rl) (HR:RlOk h0 v r) (H:RO r):Fn Tryz.prog Xh 101 [v.val] h0 (fun u h'=>∃ ds,Hs h0 h' [.sl u 149 2 jL ds]∧DietOk r ds∧ds.length≤64):=by
 have S:=Hs.start w
 have h64:=H.l64
 have hrg:=HR.rg
 have hgl:=HR.len
 have hdl:(Qv r).length=r.us.length:=by simp [Qv]
 have hgd:∀ i,i<v.gs.length→(v.gs.getD i default).diet=(Qv r).getD i default:=fun i hi=>by
  have:=HR.at_ hi
  unfold Qv
  rw [zq (f:=fun g:Gu=>g.diet) (by omega),← this]
 unfold RlV.val
 refine zg rfl Tryz.func101 rfl rfl ?_
 all_goals (repeat' (first|refine qw ?_|refine qh rfl ?_|refine qi ?_|refine qp ?_|refine qg ?_|refine qj ?_|refine qo ?_|(refine qc 0 ?_;(refine bx S ?_;clear S;intro b h S);refine mv ?_;refine qf ?_)))
 obtain ⟨b1,hnm⟩:∃ x,x=b:=⟨_,rfl⟩;subst hnm
 replace S:Hs h0 h (.blk b1 [v.vg.val,v.vt.val] 32 :: []):=S
 have S:=S.Zv (e:=9) (z:=1) (enc:=eS)
 all_goals (repeat' (first|refine qw ?_|refine qh rfl ?_|refine qi ?_|refine qp ?_|refine qg ?_|refine qj ?_|refine qo ?_|(refine qc 1 ?_;refine mv ?_;refine qf ?_)|(refine qc 2 ?_;refine mv ?_;refine qf ?_)))
 refine qM (σ:=Nat×Value) (fun (i,v3) h'=>Hs h0 h' [.sl v3 9 1 eS ((Qv r).take i),.blk b1 [v.vg.val,v.vt.val] 32]∧i≤r.us.length) (fun (i,v3)=>r.us.length - i) (fun (i,v3)=>[(1,.pointer (some ⟨b1,0,none⟩)),(3,v3),(4,.int .i64 i)]) (0,.slice none 0 0) (by repeat (first|exact Ks.le_nil _|refine Ks.qx rfl ?_|refine Ks.qA ?_)) ?_ ?_
 ·exact ⟨S,Nat.zero_le _⟩
 clear S
 rintro ⟨i,v3⟩ h ⟨S,g1⟩
 have htl:((Qv r).take i).length=i:=by simp;omega
 all_goals (repeat' (first|refine qw ?_|refine qh rfl ?_|refine qi ?_|refine qp ?_|refine qg ?_|refine qj ?_|refine qo ?_|(refine qc 3 ?_;refine mv ?_;(first|refine vl ?_|refine fB S ?_|refine fS S rfl rfl ?_|refine fA ?_);(first|refine lB S rfl rfl ?_|refine qy S rfl rfl ?_|refine qU S ?_|refine lH S ?_);(first|refine jA S ?_|refine jZ S rfl rfl ?_);(first|refine cT ?_|refine cF ?_|(refine cS ?_ ?_<;>intro hc))<;>(refine qf ?_))))
 ·have hil:i<v.gs.length:=by omega
  have hd:=hgd i hil
  all_goals (repeat' (first|refine qw ?_|refine qh rfl ?_|refine qi ?_|refine qp ?_|refine qg ?_|refine qj ?_|refine qo ?_|(refine qc 5 ?_;refine mv ?_;(first|refine vl ?_|refine fB S ?_|refine fS S rfl rfl ?_|refine fA ?_);(first|refine lB S rfl rfl ?_|refine qy S rfl rfl ?_|refine qU S ?_|refine lH S ?_);refine mv ?_;(first|refine zK S ?_|refine qC S rfl rfl ?_);(first|refine vl ?_|refine fB S ?_|refine fS S rfl rfl ?_|refine fA ?_);(first|refine lB S rfl rfl ?_|refine qy S rfl rfl ?_|refine qU S ?_|refine lH S ?_);(refine one 1 S ?_;clear S;intro u h S))))
  simp only [Int.toNat_natCast] at *
  refine app (y0:=(v.gs.getD i default).diet) S rfl rfl ?_;clear S;intro v3 h S;(refine mv ?_;refine qf ?_)
  skip
  all_goals (repeat' (first|refine qw ?_|refine qh rfl ?_|refine qi ?_|refine qp ?_|refine qg ?_|refine qj ?_|refine qo ?_|(refine qc 4 ?_;refine mv ?_;(first|refine ad ?_|refine vl ?_);refine mv ?_;refine qf ?_)))
  refine ⟨(i+1,v3),?_,?_,(by repeat (first|exact Ks.le_nil _|refine Ks.qx rfl ?_|refine Ks.qA ?_))⟩
  ·show r.us.length - (i+1)<r.us.length - i;omega
  ·refine ⟨?_,by (try dsimp only);omega⟩
   (try dsimp only)
   rw [zk (by omega),← hd];exact S.pick
 ·have hi:i=r.us.length:=by omega
  rw [hi,← hdl,List.take_length] at S
  skip
  all_goals (repeat' (first|refine qw ?_|refine qh rfl ?_|refine qi ?_|refine qp ?_|refine qg ?_|refine qj ?_|refine qo ?_|(refine qc 6 ?_;refine mv ?_)))
  (refine qE rfl rfl rfl rfl rfl ((wF S.wf v3 (Qv r) (Rd.Jb S .here) (by omega)).mono ?_);rintro u3 h ⟨l,z1,z2,x⟩)<;>(replace S:=S.jT x;clear x;refine mv ?_;refine qf ?_)
  have hll:l.length=r.us.length:=by rw [z1.len,hdl]
  rw [← z1.len] at z2
  have S:=S.Zv (e:=149) (z:=2) (enc:=jL)
  all_goals (repeat' (first|refine qw ?_|refine qh rfl ?_|refine qi ?_|refine qp ?_|refine qg ?_|refine qj ?_|refine qo ?_|(refine qc 6 ?_;refine mv ?_)|(refine qc 7 ?_;refine mv ?_;refine qf ?_)|(refine qc 8 ?_;refine mv ?_;refine qf ?_)))
  refine qM (σ:=Nat×Value×List Ct) (fun (i,v5,out) h'=>Hs h0 h' [.sl v5 149 2 jL out,.sl u3 9 1 eS l]∧i≤l.length∧RP l i out) (fun (i,v5,out)=>l.length - i) (fun (i,v5,out)=>[(3,u3),(5,v5),(6,.int .i64 i)]) (0,.slice none 0 0,[]) (by repeat (first|exact Ks.le_nil _|refine Ks.qx rfl ?_|refine Ks.qA ?_)) ?_ ?_
  ·exact ⟨S.pick,Nat.zero_le _,⟨fun a b _ hb=>absurd hb (Nat.not_lt_zero _),by simp,by simp,fun q=>absurd q (Nat.lt_irrefl _),Nat.le_refl _⟩⟩
  clear S
  rintro ⟨i,v5,out⟩ h ⟨S,k1,R⟩
  have hln:=R.ln
  all_goals (repeat' (first|refine qw ?_|refine qh rfl ?_|refine qi ?_|refine qp ?_|refine qg ?_|refine qj ?_|refine qo ?_|(refine qc 9 ?_;refine mv ?_;refine mv ?_;(first|refine jA S ?_|refine jZ S rfl rfl ?_);(first|refine cT ?_|refine cF ?_|(refine cS ?_ ?_<;>intro hc))<;>(refine qf ?_))))
  ·have hil:i<l.length:=by omega
   have hpr:((i:Int) - 1).toNat=i - 1:=by omega
   all_goals (repeat' (first|refine qw ?_|refine qh rfl ?_|refine qi ?_|refine qp ?_|refine qg ?_|refine qj ?_|refine qo ?_|(refine qL 11 ?_;refine mv ?_;(first|refine cT ?_|refine cF ?_|(refine cS ?_ ?_<;>intro hc))<;>(refine mv ?_;(first|refine off ?_|refine mv ?_);(first|refine off ?_|refine mv ?_);(first|refine off ?_|(first|refine zK S ?_|refine qC S rfl rfl ?_));(first|refine off ?_|(first|refine lB S rfl rfl ?_|refine qy S rfl rfl ?_|refine qU S ?_|refine lH S ?_));(first|refine off ?_|refine mv ?_);(first|refine off ?_|refine mv ?_);(first|refine off ?_|(first|refine sb ?_|refine vl ?_));(first|refine off ?_|(first|refine zK S ?_|refine qC S rfl rfl ?_));(first|refine off ?_|(first|refine lB S rfl rfl ?_|refine qy S rfl rfl ?_|refine qU S ?_|refine lH S ?_));(first|refine off ?_|(refine tS ?_ ?_<;>intro hc))<;>(refine vl ?_;refine qf ?_)))))
   all_goals (try simp only [Int.toNat_natCast,hpr] at *)
   ·have i0:0<i:=by omega
    obtain ⟨m1,m2⟩:=R.last i0
    have R2:=R.same hil i0 hc
    have hpo:((out.length:Int) - 1).toNat=out.length - 1:=by omega
    have hbd:0≤(out.getD ((out.length:Int) - 1).toNat default).n∧(out.getD ((out.length:Int) - 1).toNat default).n≤64:=by
     rw [hpo,R.n _ (qQ (by omega))]
     have:=List.count_le_length (a:=(out.getD (out.length - 1) default).d) (l:=l.take i)
     rw [List.length_take] at this
     omega
    skip
    (repeat (refine qw ?_));refine qc 12 ?_;refine mv ?_;refine mv ?_;refine jZ S rfl rfl ?_;refine sb ?_;refine qC S rfl rfl ?_;refine fS S rfl rfl ?_;refine qy S rfl rfl ?_;refine ad ?_;refine qC S rfl rfl ?_;refine fS S rfl rfl ?_;refine zS (y:=(⟨(out.getD ((out.length:Int) - 1).toNat default).d,(out.getD ((out.length:Int) - 1).toNat default).n+1⟩:Ct)) S rfl rfl ?_;clear S;intro h S
    (refine qf ?_)
    rw [hpo] at S
    skip
    all_goals (repeat' (first|refine qw ?_|refine qh rfl ?_|refine qi ?_|refine qp ?_|refine qg ?_|refine qj ?_|refine qo ?_|(refine qc 10 ?_;refine mv ?_;(first|refine ad ?_|refine vl ?_);refine mv ?_;refine qf ?_)))
    refine ⟨(i+1,v5,out.set (out.length - 1) ⟨(out.getD (out.length - 1) default).d,(out.getD (out.length - 1) default).n+1⟩),?_,?_,(by repeat (first|exact Ks.le_nil _|refine Ks.qx rfl ?_|refine Ks.qA ?_))⟩
    ·show l.length - (i+1)<l.length - i;omega
    ·exact ⟨S,by (try dsimp only);omega,R2⟩
   ·have R2:=R.new z2 hil (.inr hc)
    skip
    all_goals (repeat' (first|refine qw ?_|refine qh rfl ?_|refine qi ?_|refine qp ?_|refine qg ?_|refine qj ?_|refine qo ?_|(refine qc 13 ?_;(iterate 3 refine mv ?_);(first|refine zK S ?_|refine qC S rfl rfl ?_);(first|refine lB S rfl rfl ?_|refine qy S rfl rfl ?_|refine qU S ?_|refine lH S ?_);refine vl ?_;(refine one 2 S ?_;clear S;intro u h S))))
    simp only [Int.toNat_natCast] at *
    refine app (y0:=(⟨l.getD i default,1⟩:Ct)) S rfl rfl ?_;clear S;intro v5 h S;(refine mv ?_;refine qf ?_)
    skip
    all_goals (repeat' (first|refine qw ?_|refine qh rfl ?_|refine qi ?_|refine qp ?_|refine qg ?_|refine qj ?_|refine qo ?_|(refine qc 10 ?_;refine mv ?_;(first|refine ad ?_|refine vl ?_);refine mv ?_;refine qf ?_)))
    refine ⟨(i+1,v5,out ++ [⟨l.getD i default,1⟩]),?_,?_,(by repeat (first|exact Ks.le_nil _|refine Ks.qx rfl ?_|refine Ks.qA ?_))⟩
    ·show l.length - (i+1)<l.length - i;omega
    ·exact ⟨S.pick,by (try dsimp only);omega,R2⟩
   ·have R2:=R.new z2 hil (.inl (by omega))
    skip
    all_goals (repeat' (first|refine qw ?_|refine qh rfl ?_|refine qi ?_|refine qp ?_|refine qg ?_|refine qj ?_|refine qo ?_|(refine qc 13 ?_;(iterate 3 refine mv ?_);(first|refine zK S ?_|refine qC S rfl rfl ?_);(first|refine lB S rfl rfl ?_|refine qy S rfl rfl ?_|refine qU S ?_|refine lH S ?_);refine vl ?_;(refine one 2 S ?_;clear S;intro u h S))))
    simp only [Int.toNat_natCast] at *
    refine app (y0:=(⟨l.getD i default,1⟩:Ct)) S rfl rfl ?_;clear S;intro v5 h S;(refine mv ?_;refine qf ?_)
    skip
    all_goals (repeat' (first|refine qw ?_|refine qh rfl ?_|refine qi ?_|refine qp ?_|refine qg ?_|refine qj ?_|refine qo ?_|(refine qc 10 ?_;refine mv ?_;(first|refine ad ?_|refine vl ?_);refine mv ?_;refine qf ?_)))
    refine ⟨(i+1,v5,out ++ [⟨l.getD i default,1⟩]),?_,?_,(by repeat (first|exact Ks.le_nil _|refine Ks.qx rfl ?_|refine Ks.qA ?_))⟩
    ·show l.length - (i+1)<l.length - i;omega
    ·exact ⟨S.pick,by (try dsimp only);omega,R2⟩
  ·have hi:i=l.length:=by omega
   rw [hi] at R
   skip
   all_goals (repeat' (first|refine qw ?_|refine qh rfl ?_|refine qi ?_|refine qp ?_|refine qg ?_|refine qj ?_|refine qo ?_|(refine qc 14 ?_;refine mv ?_;refine mv ?_;refine qf ?_)))
   refine qI ⟨_,rfl,?_⟩
   exact ⟨out,S.only .here,R.fin z1.perm,by omega⟩
end Go.Proofs.Xx
namespace Go.Proofs.Xx
set_option linter.unusedSimpArgs false
set_option linter.unusedVariables false
set_option linter.unusedSectionVars false
structure RingOk (r:Rl) (R:List (List UInt8)):Prop where
 odd:R.length % 2=1
 three:3≤R.length
 nd:∀ i j,i<j→j<R.length→R.getD i default≠R.getD j default
 adj:∀ i,i<R.length→adj r 2 (R.getD i default) (R.getD ((i+1) % R.length) default)
structure Tree (r:Rl) (fr:List UInt8→List UInt8) (dep:List UInt8→Nat) (met:List UInt8→Prop):Prop where
 up:∀ x,met x→0<dep x→met (fr x)∧dep (fr x)+1=dep x∧Xx.adj r 2 (fr x) x
def anc (fr:List UInt8→List UInt8) (x:List UInt8):Nat→List UInt8
 | 0=>x
 | k+1=>fr (anc fr x k)
theorem XQ {r:Rl} {fr:List UInt8→List UInt8} {dep:List UInt8→Nat} {met:List UInt8→Prop} (T:Tree r fr dep met) {x:List UInt8} (hx:met x):∀ {k:Nat},k≤dep x→met (anc fr x k)∧dep (anc fr x k)+k=dep x
 | 0,_=>⟨hx,rfl⟩
 | k+1,h=>by
  obtain ⟨h1,h2⟩:=XQ T hx (k:=k) (by omega)
  obtain ⟨g1,g2,-⟩:=T.up _ h1 (by omega)
  exact ⟨g1,by show dep (fr (anc fr x k))+(k+1)=dep x;omega⟩
theorem vw {r:Rl} {fr:List UInt8→List UInt8} {dep:List UInt8→Nat} {met:List UInt8→Prop} (T:Tree r fr dep met) {x:List UInt8} (hx:met x) {k:Nat} (h:k<dep x):Xx.adj r 2 (anc fr x k) (anc fr x (k+1)):=by
 obtain ⟨h1,h2⟩:=XQ T hx (k:=k) (by omega)
 exact (T.up _ h1 (by omega)).2.2.symm
def xH (fr:List UInt8→List UInt8) (x y:List UInt8) (n:Nat):List (List UInt8):=(List.range n).map (anc fr x) ++ [anc fr x n] ++ ((List.range n).map (anc fr y)).reverse
theorem xG (fr:List UInt8→List UInt8) (x y:List UInt8) (n:Nat):(xH fr x y n).length=2*n+1:=by simp [xH];omega
theorem Zl {fr:List UInt8→List UInt8} {x y:List UInt8} {n k:Nat} (he:anc fr x n=anc fr y n) (hk:k<2*n+1):(xH fr x y n).getD k default=if k<n then anc fr x k else anc fr y (2*n - k):=by
 unfold xH
 rw [List.getD_eq_getElem?_getD]
 split
 ·rename_i h
  rw [List.append_assoc,List.getElem?_append_left (by simpa using h)]
  simp [h]
 ·rename_i h
  by_cases h2:k=n
  ·subst h2
   rw [List.getElem?_append_left (by simp),List.getElem?_append_right (by simp)]
   simp
   rw [he];congr 1;omega
  ·rw [List.getElem?_append_right (by simp;omega),List.getElem?_reverse (by simp;omega)]
   simp only [List.length_append,List.length_map,List.length_range,List.length_singleton,List.getElem?_map]
   rw [List.getElem?_range (by omega)]
   show anc fr y _=_
   congr 1;omega
theorem gZ {r:Rl} {fr:List UInt8→List UInt8} {dep:List UInt8→Nat} {met:List UInt8→Prop} (T:Tree r fr dep met) {x y:List UInt8} (hx:met x) (hy:met y) (hd:dep x=dep y) (ha:adj r 2 x y) (hxy:x≠y) {n:Nat} (hn:n≤dep x) (hne:∀ i,i<n→anc fr x i≠anc fr y i) (he:anc fr x n=anc fr y n):RingOk r (xH fr x y n):=by
 have hn0:0<n:=by
  rcases Nat.eq_zero_or_pos n with q|q
  ·subst q;exact absurd he hxy
  ·exact q
 have hlen:=xG fr x y n
 have dx:∀ k,k≤n→dep (anc fr x k)+k=dep x:=fun k hk=>(XQ T hx (by omega)).2
 have dy:∀ k,k≤n→dep (anc fr y k)+k=dep x:=fun k hk=>by rw [hd];exact (XQ T hy (by omega)).2
 refine ⟨by omega,by omega,fun i j hij hj q=>?_,fun i hi=>?_⟩
 ·rw [hlen] at hj
  rw [Zl he (by omega),Zl he hj] at q
  split at q
  ·rename_i h1
   split at q
   ·rename_i h2
    have a:=dx i (by omega)
    have b:=dx j (by omega)
    rw [q] at a;omega
   ·rename_i h2
    have a:=dx i (by omega)
    have b:=dy (2*n - j) (by omega)
    rw [q] at a
    have e:2*n - j=i:=by omega
    rw [e] at q
    exact hne i h1 q
  ·rename_i h1
   rw [if_neg (by omega)] at q
   have a:=dy (2*n - i) (by omega)
   have b:=dy (2*n - j) (by omega)
   rw [q] at a;omega
 ·rw [hlen] at hi ⊢
  by_cases hl:i=2*n
  ·subst hl
   rw [Nat.mod_self,Zl he (by omega),Zl he (by omega),if_neg (by omega),if_pos hn0,Nat.sub_self]
   exact ha.symm
  ·rw [Nat.mod_eq_of_lt (by omega),Zl he (by omega),Zl he (by omega)]
   by_cases h1:i+1<n
   ·rw [if_pos (by omega),if_pos h1]
    exact vw T hx (by omega)
   ·by_cases h2:i<n
    ·rw [if_pos h2,if_neg h1]
     have e:2*n - (i+1)=n:=by omega
     have e2:i+1=n:=by omega
     rw [e,← he,← e2]
     exact vw T hx (by omega)
    ·rw [if_neg h2,if_neg h1]
     have:=(vw T hy (k:=2*n - (i+1)) (by omega)).symm
     rwa [show 2*n - (i+1)+1=2*n - i by omega] at this
set_option maxRecDepth 100000
set_option maxHeartbeats 4000000
def PK (x:Int×List UInt8):Value:=.agg #[.int .i64 x.1,str x.2]
abbrev QF:=List (List UInt8×(Int×List UInt8))
def Xt (mp:QF) (x:List UInt8):List UInt8:=match zH mp x with|some p=>p.2|none=>[]
def JK (mp:QF) (x:List UInt8):Int:=match zH mp x with|some p=>p.1|none=>0
theorem kC {mp:QF} {x:List UInt8} {p:Int×List UInt8} (h:zH mp x=some p):Xt mp x=p.2:=by unfold Xt;rw [h]
theorem Jj {mp:QF} {x:List UInt8} {p:Int×List UInt8} (h:zH mp x=some p):JK mp x=p.1:=by unfold JK;rw [h]
variable [Flag]
theorem qba {h0:AH} (w:WfH h0) {m:Nat} {mp:QF} (B:MpRd h0 m PK mp) {r:Rl} {dep:List UInt8→Nat} (T:Tree r (Xt mp) dep (fun x=>zH mp x≠none)) {x y:List UInt8} (hx:zH mp x≠none) (hy:zH mp y≠none) (hd:dep x=dep y) (ha:adj r 2 x y) (hxy:x≠y) (hr:anc (Xt mp) x (dep x)=anc (Xt mp) y (dep x)) (h64:dep x≤64) :
 Fn Tryz.prog Xh 96 [.map (some m),str x,str y] h0 (fun u h'=>∃ R,Hs h0 h' [.sl u 9 1 eS R]∧RingOk r R∧R.length≤200):=by
 have S:=Hs.start w
 refine zg rfl Tryz.func96 rfl rfl ?_
 all_goals (repeat' (first|refine qw ?_|refine qh rfl ?_|refine qi ?_|refine qp ?_|refine qg ?_|refine qj ?_|refine qo ?_|(refine qc 0 ?_;refine mv ?_;refine qf ?_)|(refine qc 1 ?_;refine mv ?_;refine mv ?_;refine qf ?_)))
 have S:=(S.Zv (e:=9) (z:=1) (enc:=eS)).Zv (e:=9) (z:=1) (enc:=eS)
 refine qM (σ:=Nat×Value×Value) (fun (i,v7,v8) h'=>Hs h0 h' [.sl v7 9 1 eS ((List.range i).map (anc (Xt mp) x)),.sl v8 9 1 eS ((List.range i).map (anc (Xt mp) y))]∧i≤dep x∧(∀ k,k<i→anc (Xt mp) x k≠anc (Xt mp) y k)) (fun (i,_,_)=>dep x - i) (fun (i,v7,v8)=>[(0,.map (some m)),(1,str (anc (Xt mp) x i)),(2,str (anc (Xt mp) y i)),(7,v7),(8,v8)]) (0,.slice none 0 0,.slice none 0 0) (by repeat (first|exact Ks.le_nil _|refine Ks.qx rfl ?_|refine Ks.qA ?_)) ?_ ?_
 ·exact ⟨S,Nat.zero_le _,fun j hj=>absurd hj (Nat.not_lt_zero _)⟩
 clear S
 rintro ⟨i,v7,v8⟩ h ⟨S,g1,g2⟩
 have hll:∀ (z:List UInt8) (i:Nat),((List.range i).map (anc (Xt mp) z)).length=i:=fun z i=>by simp
 have hlx:=hll x i
 have hly:=hll y i
 all_goals (repeat' (first|refine qw ?_|refine qh rfl ?_|refine qi ?_|refine qp ?_|refine qj ?_|refine qo ?_|(refine qc 2 ?_;refine mv ?_;refine mv ?_;(refine tS ?_ ?_<;>intro hc)<;>(refine qf ?_))))
 ·skip
  all_goals (repeat' (first|refine qw ?_|refine qh rfl ?_|refine qi ?_|refine qp ?_|refine qg ?_|refine qj ?_|refine qo ?_))
  have S:=(show Hs h0 h [.sl v8 9 1 eS ((List.range i).map (anc (Xt mp) y)),.sl v7 9 1 eS ((List.range i).map (anc (Xt mp) x))] from S.pick)
  all_goals (repeat' (first|refine qw ?_|refine qh rfl ?_|refine qi ?_|refine qp ?_|refine qg ?_|refine qj ?_|refine qo ?_|(refine qc 6 ?_;refine mv ?_)))
  (refine qE rfl rfl rfl rfl rfl ((Ko S (by omega)).mono ?_);rintro _ h S)<;>(refine qf ?_)
  all_goals (repeat' (first|refine qw ?_|refine qh rfl ?_|refine qi ?_|refine qp ?_|refine qg ?_|refine qj ?_|refine qo ?_|(refine qc 7 ?_;refine mv ?_;refine mv ?_;(refine one 1 S ?_;clear S;intro u h S))))
  refine app (y0:=anc (Xt mp) x i) S rfl rfl ?_;clear S;intro v7 h S;(refine mv ?_)
  refine apd S rfl rfl (Rd.Jb S (.there .here)) ?_;clear S;intro v9 h S;(refine mv ?_;refine qf ?_)
  all_goals (repeat' (first|refine qw ?_|refine qh rfl ?_|refine qi ?_|refine qp ?_|refine qg ?_|refine qj ?_|refine qo ?_))
  refine qI ⟨_,rfl,?_⟩
  refine ⟨xH (Xt mp) x y i,S.only .here,gZ T hx hy hd ha hxy g1 g2 hc,by rw [xG];omega⟩
 ·have hi:i<dep x:=by
   rcases Nat.lt_or_ge i (dep x) with q|q
   ·exact q
   ·have e:i=dep x:=by omega
    rw [e] at hc
    exact absurd hr hc
  all_goals (repeat' (first|refine qw ?_|refine qh rfl ?_|refine qi ?_|refine qp ?_|refine qg ?_|refine qj ?_|refine qo ?_|(refine qc 3 ?_;refine mv ?_;refine mv ?_;(refine one 1 S ?_;clear S;intro u h S))))
  refine app (y0:=anc (Xt mp) x i) S rfl rfl ?_;clear S;intro v7 h S;(refine mv ?_;refine qf ?_)
  all_goals (repeat' (first|refine qw ?_|refine qh rfl ?_|refine qi ?_|refine qp ?_|refine qg ?_|refine qj ?_|refine qo ?_|(refine qc 4 ?_;refine mv ?_;refine mv ?_;(refine one 1 S ?_;clear S;intro u h S))))
  refine app (y0:=anc (Xt mp) y i) S rfl rfl ?_;clear S;intro v8 h S;(refine mv ?_;refine qf ?_)
  all_goals (repeat' (first|refine qw ?_|refine qh rfl ?_|refine qi ?_|refine qp ?_|refine qg ?_|refine qj ?_|refine qo ?_|(refine qL 5 ?_;refine mv ?_;refine mv ?_)))
  have hBx:=B.ext w S.ext
  have m1:=(XQ T hx (k:=i) (by omega)).1
  have m2:=(XQ T hy (k:=i) (by omega)).1
  refine lkR hBx (fun z1 hz1=>?_) (fun q=>absurd q m1)
  simp only [okV]
  (refine vl ?_;refine mv ?_;refine mv ?_)
  refine lkR hBx (fun z2 hz2=>?_) (fun q=>absurd q m2)
  simp only [okV]
  (refine vl ?_;refine mv ?_;refine mv ?_;refine qf ?_)
  rw [← kC hz1,← kC hz2]
  refine ⟨(i+1,v7,v8),?_,?_,(by repeat (first|exact Ks.le_nil _|refine Ks.qx rfl ?_|refine Ks.qA ?_))⟩
  ·show dep x - (i+1)<dep x - i;omega
  ·have e1:∀ z:List UInt8,(List.range (i+1)).map (anc (Xt mp) z)=(List.range i).map (anc (Xt mp) z) ++ [anc (Xt mp) z i]:=fun z=>by rw [List.range_succ,List.map_append];rfl
   refine ⟨?_,by (try dsimp only);omega,QZ g2 hc⟩
   dsimp only
   rw [e1,e1]
   exact S.pick
end Go.Proofs.Xx
namespace Go.Proofs.Xx
open Go Go.Proofs
set_option linter.unusedSimpArgs false
set_option linter.unusedVariables false
set_option linter.unusedSectionVars false
theorem yZ {mp:QF} {f:List UInt8} {p:Int×List UInt8} (x:List UInt8):Xt (jS mp f p) x=if x=f then p.2 else Xt mp x:=by
 unfold Xt;rw [Jd]
 by_cases e:x=f
 ·rw [if_pos e,if_pos e]
 ·rw [if_neg e,if_neg e]
theorem Qb {mp:QF} {f:List UInt8} {p:Int×List UInt8} (x:List UInt8):JK (jS mp f p) x=if x=f then p.1 else JK mp x:=by
 unfold JK;rw [Jd]
 by_cases e:x=f
 ·rw [if_pos e,if_pos e]
 ·rw [if_neg e,if_neg e]
theorem zX {mp:QF} {f:List UInt8} {p:Int×List UInt8} (x:List UInt8):zH (jS mp f p) x≠none↔(x=f∨zH mp x≠none):=by
 rw [Jd]
 by_cases e:x=f<;>simp [e]
theorem Ya {mp:QF} {f:List UInt8} {p:Int×List UInt8} (h:zH mp f=none):jS mp f p=mp ++ [(f,p)]:=by
 unfold jS;rw [YJ h]
theorem wW {α:Type} {k:List UInt8}:∀ {l:List (List UInt8×α)} {i:Nat},QN k l i≠none↔k∈l.map (·.1)
 | [],i=>by simp [QN]
 | p :: r,i=>by
  unfold QN
  by_cases e:p.1=k
  ·simp [e]
  ·rw [if_neg e,wW (l:=r)]
   rw [List.map_cons,List.mem_cons]
   exact ⟨.inr,fun q=>q.resolve_left fun z=>e z.symm⟩
theorem yM {mp:QF} {x:List UInt8}:zH mp x≠none↔x∈mp.map (·.1):=by
 rw [← wW (l:=mp) (i:=0)]
 unfold zH
 cases QN x mp 0<;>simp
structure CI (r:Rl) (mp:QF) (dep:List UInt8→Nat):Prop where
 tree:Tree r (Xt mp) dep (fun x=>zH mp x≠none)
 camp:∀ x,zH mp x≠none→JK mp x=((dep x % 2:Nat):Int)
 kn:∀ x,zH mp x≠none→gat r.us x≠none
 nd:(mp.map (·.1)).Nodup
 dl:∀ x,zH mp x≠none→dep x<mp.length
def Vo (dep:List UInt8→Nat) (f:List UInt8) (d:Nat):List UInt8→Nat:=fun x=>if x=f then d else dep x
theorem CI.len {r:Rl} (H:RO r) {mp:QF} {dep:List UInt8→Nat} (I:CI r mp dep):mp.length≤64:=by
 have:=Qm I.nd (m:=r.us.map (·.name)) fun x hx=>Jf (I.kn x (yM.2 hx))
 have:=H.l64
 simp at *;omega
theorem CI.put {r:Rl} {mp:QF} {dep:List UInt8→Nat} (I:CI r mp dep) {f n:List UInt8} {c:Int} {d:Nat} (hf:zH mp f=none) (hk:gat r.us f≠none) (h:(d=0∧c=0)∨(zH mp n≠none∧d=dep n+1∧adj r 2 n f∧c=1 - JK mp n)):CI r (jS mp f (c,n)) (Vo dep f d):=by
 refine ⟨⟨fun x hx h0=>?_⟩,fun x hx=>?_,fun x hx=>?_,?_,fun x hx=>?_⟩
 ·rw [zX] at hx
  rw [zX,yZ]
  unfold Vo at h0 ⊢
  by_cases e:x=f
  ·subst e
   rw [if_pos rfl] at h0
   rw [if_pos rfl,if_pos rfl]
   rcases h with ⟨h1,h2⟩|⟨h1,h2,h3,h4⟩
   ·omega
   ·have hn:n≠x:=fun q=>h1 (q ▸ hf)
    exact ⟨.inr h1,by rw [if_neg hn];exact h2.symm,h3⟩
  ·rw [if_neg e] at h0
   rw [if_neg e,if_neg e]
   obtain ⟨g1,g2,g3⟩:=I.tree.up x (hx.resolve_left e) h0
   have hn:Xt mp x≠f:=fun q=>g1 (q ▸ hf)
   exact ⟨.inr g1,by rw [if_neg hn];exact g2,g3⟩
 ·rw [zX] at hx
  rw [Qb]
  unfold Vo
  by_cases e:x=f
  ·rw [if_pos e,if_pos e]
   rcases h with ⟨h1,h2⟩|⟨h1,h2,h3,h4⟩
   ·rw [h1];exact h2
   ·show c=_
    rw [h4,I.camp n h1,h2];omega
  ·rw [if_neg e,if_neg e];exact I.camp x (hx.resolve_left e)
 ·rw [zX] at hx
  rcases hx with e|e
  ·rw [e];exact hk
  ·exact I.kn x e
 ·rw [Ya hf,List.map_append,List.nodup_append]
  refine ⟨I.nd,by simp,fun a ha b hb e=>?_⟩
  simp only [List.map_cons,List.map_nil,List.mem_singleton] at hb
  exact yM.2 ha (e ▸ hb ▸ hf)
 ·rw [zX] at hx
  unfold Vo
  rw [Ya hf,List.length_append,List.length_singleton]
  by_cases e:x=f
  ·rw [if_pos e]
   rcases h with ⟨h1,h2⟩|⟨h1,h2,h3,h4⟩
   ·omega
   ·have:=I.dl n h1;omega
  ·rw [if_neg e]
   have:=I.dl x (hx.resolve_left e);omega
theorem kM (fr:List UInt8→List UInt8) (x:List UInt8):∀ k,anc fr x (k+1)=anc fr (fr x) k
 | 0=>rfl
 | k+1=>congrArg fr (kM fr x k)
theorem CI.anc {r:Rl} {mp:QF} {dep:List UInt8→Nat} (I:CI r mp dep) {f:List UInt8} {p:Int×List UInt8} (hf:zH mp f=none) {x:List UInt8} (hx:zH mp x≠none):∀ {k:Nat},k≤dep x→Xx.anc (Xt (jS mp f p)) x k=Xx.anc (Xt mp) x k
 | 0,_=>rfl
 | k+1,h=>by
  show Xt _ (Xx.anc _ x k)=Xt _ (Xx.anc _ x k)
  rw [I.anc hf hx (by omega),yZ,if_neg]
  intro q
  have:=(XQ I.tree hx (k:=k) (by omega)).1
  exact this (q ▸ hf)
def jJ (r:Rl) (j:Nat):List UInt8:=(r.us.getD j default).name
structure OI (r:Rl) (i:Nat) (mp:QF) (dep:List UInt8→Nat):Prop where
 ci:CI r mp dep
 cl:∀ x,zH mp x≠none→∀ y,adj r 2 x y→zH mp y≠none∧JK mp y≠JK mp x
 gm:∀ j,j<i→zH mp (jJ r j)≠none
 z:∀ j,j<i→JK mp (jJ r j)=0∨∃ k,k<j∧Rch r 2 (jJ r k) (jJ r j)
 rc:∀ x,zH mp x≠none→∃ k,k<i∧Rch r 2 (jJ r k) x
structure SI (r:Rl) (i:Nat) (O:List UInt8→Prop) (mp:QF) (dep:List UInt8→Nat) (q:List (List UInt8)):Prop where
 ci:CI r mp dep
 om:∀ x,O x→zH mp x≠none
 oc:∀ x,O x→∀ y,adj r 2 x y→O y∧JK mp y≠JK mp x
 gm:∀ j,j≤i→zH mp (jJ r j)≠none
 z:∀ j,j≤i→JK mp (jJ r j)=0∨∃ k,k<j∧Rch r 2 (jJ r k) (jJ r j)
 orc:∀ x,O x→∃ k,k<i∧Rch r 2 (jJ r k) x
 rt:∀ x,zH mp x≠none→¬ O x→Xx.anc (Xt mp) x (dep x)=jJ r i∧Rch r 2 (jJ r i) x
 qm:∀ x∈q,zH mp x≠none∧¬ O x
 qs:∀ a b,a<b→b<q.length→dep (q.getD a default)≤dep (q.getD b default)
 qd:∀ x∈q,dep x≤dep (q.getD 0 default)+1
 dn:∀ x,zH mp x≠none→¬ O x→x ∉ q→(q≠[]→dep x≤dep (q.getD 0 default))∧∀ y,adj r 2 x y→zH mp y≠none∧JK mp y≠JK mp x
 ql:q.length≤mp.length
theorem OI.root {r:Rl} {i:Nat} {mp:QF} {dep:List UInt8→Nat} (I:OI r i mp dep) (hs:zH mp (jJ r i)=none) (hk:gat r.us (jJ r i)≠none):SI r i (fun x=>zH mp x≠none) (jS mp (jJ r i) (0,[])) (Vo dep (jJ r i) 0) [jJ r i]:=by
 have nm:∀ {x},zH mp x≠none→x≠jJ r i:=fun hx q=>hx (q ▸ hs)
 refine ⟨I.ci.put hs hk (.inl ⟨rfl,rfl⟩),fun x hx=>(zX x).2 (.inr hx),fun x hx y a=>?_,fun j hj=>?_,fun j hj=>?_,I.rc,fun x hx hn=>?_,fun x hx=>?_,fun a b h1 h2=>?_,fun x hx=>?_,fun x hx h1 h2=>?_,?_⟩
 ·obtain ⟨h1,h2⟩:=I.cl x hx y a
  rw [Qb,Qb,if_neg (nm h1),if_neg (nm hx)]
  exact ⟨h1,h2⟩
 ·rw [zX]
  rcases Nat.lt_or_ge j i with q|q
  ·exact .inr (I.gm j q)
  ·obtain rfl:j=i:=by omega
   exact .inl rfl
 ·rw [Qb]
  rcases Nat.lt_or_ge j i with q|q
  ·rw [if_neg (nm (I.gm j q))];exact I.z j q
  ·obtain rfl:j=i:=by omega
   exact .inl (if_pos rfl)
 ·have e:=((zX x).1 hx).resolve_right hn
  subst e
  have:Vo dep (jJ r i) 0 (jJ r i)=0:=if_pos rfl
  rw [this]
  exact ⟨rfl,.refl⟩
 ·rw [List.mem_singleton] at hx
  subst hx
  exact ⟨(zX _).2 (.inl rfl),fun q=>q hs⟩
 ·rw [List.length_singleton] at h2;omega
 ·rw [List.mem_singleton] at hx
  subst hx
  exact Nat.le_succ _
 ·exact absurd (List.mem_singleton.2 (((zX x).1 hx).resolve_right h1)) h2
 ·rw [Ya hs];simp
theorem YM {l:List (List UInt8)} {x:List UInt8} (h:l≠[]):(l ++ [x]).getD 0 default=l.getD 0 default:=by
 cases l with
 | nil=>exact absurd rfl h
 | cons y l=>rfl
theorem SI.add {r:Rl} {i:Nat} {O:List UInt8→Prop} {mp:QF} {dep:List UInt8→Nat} {q:List (List UInt8)} (I:SI r i O mp dep q) (hq:q≠[]) {n f:List UInt8} (hn:q.getD 0 default=n) (hf:zH mp f=none) (hk:gat r.us f≠none) (ha:adj r 2 n f):SI r i O (jS mp f (1 - JK mp n,n)) (Vo dep f (dep n+1)) (q ++ [f]):=by
 have hn2:n∈q:=by
  rw [← hn];exact qQ (List.length_pos_iff.2 hq)
 obtain ⟨nm,no⟩:=I.qm n hn2
 have ne:∀ {x},zH mp x≠none→x≠f:=fun hx e=>hx (e ▸ hf)
 have du:∀ {x},zH mp x≠none→Vo dep f (dep n+1) x=dep x:=fun hx=>if_neg (ne hx)
 have duf:Vo dep f (dep n+1) f=dep n+1:=if_pos rfl
 have fO:¬ O f:=fun h=>I.om f h hf
 refine ⟨I.ci.put hf hk (.inr ⟨nm,rfl,ha,rfl⟩),fun x hx=>(zX x).2 (.inr (I.om x hx)),fun x hx y a=>?_,fun j hj=>(zX _).2 (.inr (I.gm j hj)),fun j hj=>?_,I.orc,fun x hx hn=>?_,fun x hx=>?_,fun a b h1 h2=>?_,fun x hx=>?_,fun x hx h1 h2=>?_,?_⟩
 ·obtain ⟨h1,h2⟩:=I.oc x hx y a
  rw [Qb,Qb,if_neg (ne (I.om _ h1)),if_neg (ne (I.om _ hx))]
  exact ⟨h1,h2⟩
 ·rw [Qb,if_neg (ne (I.gm j hj))];exact I.z j hj
 ·rw [zX] at hx
  by_cases e:x=f
  ·subst e
   rw [duf,kM,yZ,if_pos rfl]
   show Xx.anc _ n (dep n)=_∧_
   rw [I.ci.anc hf nm (Nat.le_refl _)]
   obtain ⟨h1,h2⟩:=I.rt n nm no
   exact ⟨h1,h2.step ha⟩
  ·have hx:=hx.resolve_left e
   rw [du hx,I.ci.anc hf hx (Nat.le_refl _)]
   exact I.rt x hx hn
 ·rw [zX]
  rcases List.mem_append.1 hx with h|h
  ·exact ⟨.inr (I.qm x h).1,(I.qm x h).2⟩
  ·rw [List.mem_singleton] at h
   exact ⟨.inl h,h ▸ fO⟩
 ·rw [List.length_append,List.length_singleton] at h2
  rw [gA1 (show a<q.length by omega),du (I.qm _ (qQ (show a<q.length by omega))).1]
  rcases Nat.lt_or_ge b q.length with h|h
  ·rw [gA1 h,du (I.qm _ (qQ h)).1];exact I.qs a b h1 h
  ·rw [gA2 h,show b - q.length=0 by omega]
   show _≤Vo _ _ _ f
   rw [duf]
   have:=I.qd _ (qQ (show a<q.length by omega))
   rw [hn] at this;exact this
 ·rw [YM hq,hn,du nm]
  rcases List.mem_append.1 hx with h|h
  ·rw [du (I.qm x h).1,← hn];exact I.qd x h
  ·rw [List.mem_singleton.1 h,duf];exact Nat.le_refl _
 ·rw [List.mem_append,List.mem_singleton,not_or] at h2
  have hx:=((zX x).1 hx).resolve_left h2.2
  obtain ⟨g1,g2⟩:=I.dn x hx h1 h2.1
  rw [YM hq,hn,du nm,du hx,← hn]
  refine ⟨fun _=>g1 hq,fun y a=>?_⟩
  obtain ⟨k1,k2⟩:=g2 y a
  rw [Qb,Qb,if_neg (ne k1),if_neg (ne hx)]
  exact ⟨(zX y).2 (.inr k1),k2⟩
 ·have:=I.ql
  rw [Ya hf];simp;exact this
theorem SI.pop {r:Rl} {i:Nat} {O:List UInt8→Prop} {mp:QF} {dep:List UInt8→Nat} {n:List UInt8} {q:List (List UInt8)} (I:SI r i O mp dep (n :: q)) (hd:∀ y,adj r 2 n y→zH mp y≠none∧JK mp y≠JK mp n):SI r i O mp dep q:=by
 have hq0:q≠[]→dep n≤dep (q.getD 0 default):=fun hq=>by
  have:=I.qs 0 1 (by omega) (by have:=List.length_pos_iff.2 hq;simp;omega)
  exact this
 refine ⟨I.ci,I.om,I.oc,I.gm,I.z,I.orc,I.rt,fun x hx=>I.qm x (.tail _ hx),fun a b h1 h2=>I.qs (a+1) (b+1) (by omega) (by simp;omega),fun x hx=>?_,fun x hx h1 h2=>?_,by have:=I.ql;simp at this;omega⟩
 ·have h1:dep x≤dep n+1:=I.qd x (.tail _ hx)
  have h2:=hq0 (List.ne_nil_of_mem hx)
  omega
 ·by_cases e:x=n
  ·subst e
   exact ⟨hq0,hd⟩
  ·obtain ⟨g1,g2⟩:=I.dn x hx h1 (by simp [e,h2])
   refine ⟨fun hq=>?_,g2⟩
   have h3:dep x≤dep n:=g1 (by simp)
   have:=hq0 hq
   omega
theorem SI.fin {r:Rl} {i:Nat} {O:List UInt8→Prop} {mp:QF} {dep:List UInt8→Nat} (I:SI r i O mp dep []):OI r (i+1) mp dep:=by
 refine ⟨I.ci,fun x hx y a=>?_,fun j hj=>I.gm j (by omega),fun j hj=>I.z j (by omega),fun x hx=>?_⟩
 ·by_cases h:O x
  ·obtain ⟨h1,h2⟩:=I.oc x h y a
   exact ⟨I.om y h1,h2⟩
  ·exact (I.dn x hx h (by simp)).2 y a
 ·by_cases h:O x
  ·obtain ⟨k,h1,h2⟩:=I.orc x h
   exact ⟨k,by omega,h2⟩
  ·exact ⟨i,by omega,(I.rt x hx h).2⟩
theorem OI.skip {r:Rl} {i:Nat} {mp:QF} {dep:List UInt8→Nat} (I:OI r i mp dep) (h:zH mp (jJ r i)≠none):OI r (i+1) mp dep:=by
 refine ⟨I.ci,I.cl,fun j hj=>?_,fun j hj=>?_,fun x hx=>?_⟩
 ·rcases Nat.lt_or_ge j i with q|q
  ·exact I.gm j q
  ·obtain rfl:j=i:=by omega
   exact h
 ·rcases Nat.lt_or_ge j i with q|q
  ·exact I.z j q
  ·obtain rfl:j=i:=by omega
   exact .inr (I.rc _ h)
 ·obtain ⟨k,h1,h2⟩:=I.rc x hx
  exact ⟨k,by omega,h2⟩
theorem SI.clash {r:Rl} (H:RO r) {i:Nat} {O:List UInt8→Prop} {mp:QF} {dep:List UInt8→Nat} {q:List (List UInt8)} (I:SI r i O mp dep q) (hq:q≠[]) {n f:List UInt8} (hn:q.getD 0 default=n) (hf:zH mp f≠none) (ha:adj r 2 n f) (hc:JK mp f=JK mp n):zH mp n≠none∧dep n=dep f∧n≠f∧Xx.anc (Xt mp) n (dep n)=Xx.anc (Xt mp) f (dep n)∧dep n≤64:=by
 have hn2:n∈q:=by
  rw [← hn];exact qQ (List.length_pos_iff.2 hq)
 obtain ⟨nm,no⟩:=I.qm n hn2
 have fO:¬ O f:=fun h=>no (I.oc f h n ha.symm).1
 have fq:f∈q:=by
  apply Classical.byContradiction
  intro h
  exact ((I.dn f hf fO h).2 n ha.symm).2 hc.symm
 have h1:=I.qd f fq
 have h2:dep (q.getD 0 default)≤dep f:=by
  obtain ⟨j,j1,j2⟩:=qR.1 fq
  rcases Nat.eq_zero_or_pos j with e|e
  ·subst e;rw [j2];exact Nat.le_refl _
  ·have:=I.qs 0 j e j1
   rw [j2] at this;exact this
 rw [hn] at h1 h2
 have h3:=I.ci.camp f hf
 have h4:=I.ci.camp n nm
 rw [hc,h4] at h3
 have hd:dep n=dep f:=by omega
 have hl:=I.ci.len H
 have:=I.ci.dl n nm
 refine ⟨nm,hd,(Qp H ha).2.2,?_,by omega⟩
 rw [(I.rt n nm no).1,hd,(I.rt f hf fO).1]
structure ZX (r:Rl) (cs:List Int):Prop where
 len:cs.length=r.us.length
 b:∀ i,i<cs.length→cs.getD i default=0∨cs.getD i default=1
 ne:∀ i j,i<cs.length→j<cs.length→adj r 2 (jJ r i) (jJ r j)→cs.getD i default≠cs.getD j default
 z:∀ j,j<cs.length→cs.getD j default=0∨∃ k,k<j∧Rch r 2 (jJ r k) (jJ r j)
theorem OI.qbU {r:Rl} {mp:QF} {dep:List UInt8→Nat} (I:OI r r.us.length mp dep):ZX r ((List.range r.us.length).map fun i=>JK mp (jJ r i)):=by
 have g:∀ i,i<r.us.length→((List.range r.us.length).map fun i=>JK mp (jJ r i)).getD i default=JK mp (jJ r i):=fun i hi=>by
  rw [List.getD_eq_getElem?_getD];simp [hi]
 refine ⟨by simp,fun i hi=>?_,fun i j hi hj a=>?_,fun j hj=>?_⟩
 ·simp at hi
  rw [g i hi,I.ci.camp _ (I.gm i hi)];omega
 ·simp at hi hj
  rw [g i hi,g j hj]
  exact fun q=>(I.cl _ (I.gm i hi) _ a).2 q.symm
 ·simp at hj
  rw [g j hj];exact I.z j hj
structure KA (r:Rl) (out:List Int):Prop where
 len:out.length=r.us.length
 rng:∀ j,j<out.length→out.getD j default = -1∨out.getD j default=0∨out.getD j default=1
 z:∀ j,j<out.length→0≤out.getD j default→out.getD j default=0∨∃ k,k<j∧Rch r 2 (jJ r k) (jJ r j)
 u:∀ cs,ZX r cs→∀ j,j<out.length→0≤out.getD j default→out.getD j default=cs.getD j default
def KC (r:Rl) (out:List Int):Prop:=∀ a b,a<out.length→b<out.length→adj r 2 (jJ r a) (jJ r b)→0≤out.getD a default→0≤out.getD b default∧out.getD a default≠out.getD b default
theorem Gz {r:Rl} {x:List UInt8} (h:gat r.us x≠none):∃ j,j<r.us.length∧jJ r j=x:=by
 obtain ⟨g,h1,h2⟩:=Yl.1 h
 obtain ⟨j,j1,j2⟩:=qR.1 h1
 exact ⟨j,j1,by unfold jJ;rw [j2];exact h2⟩
theorem VC {r:Rl} (H:RO r) {i j:Nat} (hi:i<r.us.length) (hj:j<r.us.length) (e:jJ r i=jJ r j):i=j:=by
 rcases Nat.lt_trichotomy i j with q|q|q
 ·exact absurd e (H.nd i j q hj)
 ·exact q
 ·exact absurd e.symm (H.nd j i q hi)
theorem KC.rch {r:Rl} (H:RO r) {out:List Int} (hl:out.length=r.us.length) (C:KC r out) {k:Nat} (hk:k<out.length) (h0:0≤out.getD k default) {x:List UInt8} (h:Rch r 2 (jJ r k) x):∃ j,j<out.length∧jJ r j=x∧0≤out.getD j default:=by
 induction h with
 | refl=>exact ⟨k,hk,rfl,h0⟩
 | step h a ih =>
  obtain ⟨j,j1,j2,j3⟩:=ih
  obtain ⟨m,m1,m2⟩:=Gz (Qp H a).2.1
  rw [← j2,← m2] at a
  exact ⟨m,by omega,m2,(C j m j1 (by omega) a j3).1⟩
structure KP (r:Rl) (i:Nat) (out0 out:List Int):Prop where
 a:KA r out
 l0:out0.length=r.us.length
 c0:KC r out0
 m0:∀ j,j<i→0≤out0.getD j default
 i0:0≤out.getD i default
 old:∀ j,j<out.length→0≤out0.getD j default→0≤out.getD j default
 nw:∀ j,j<out.length→0≤out.getD j default→0≤out0.getD j default∨Rch r 2 (jJ r i) (jJ r j)
theorem KP.root {r:Rl} (H:RO r) {i:Nat} {out:List Int} (A:KA r out) (C:KC r out) (hm:∀ j,j<i→0≤out.getD j default) (hi:i<out.length) (hn:out.getD i default<0):KP r i out (out.set i 0):=by
 have hg:∀ j,(out.set i (0:Int)).getD j default=if j=i then 0 else out.getD j default:=fun j=>jW _ _ hi j
 refine ⟨⟨by simp;exact A.len,fun j hj=>?_,fun j hj h=>?_,fun cs hc j hj h=>?_⟩,A.len,C,hm,by rw [hg,if_pos rfl];exact Int.le_refl _,fun j hj h=>?_,fun j hj h=>?_⟩
 ·simp at hj
  rw [hg];split
  ·exact .inr (.inl rfl)
  ·exact A.rng j hj
 ·simp at hj
  rw [hg] at h ⊢
  by_cases e:j=i
  ·rw [if_pos e];exact .inl rfl
  ·rw [if_neg e] at h ⊢;exact A.z j hj h
 ·simp at hj
  rw [hg] at h ⊢
  by_cases e:j=i
  ·rw [if_pos e,e]
   rcases hc.z i (by rw [hc.len,← A.len];exact hi) with z|⟨k,k1,k2⟩
   ·exact z.symm
   ·exfalso
    obtain ⟨m,m1,m2,m3⟩:=C.rch H A.len (by omega) (hm k k1) k2
    have:=VC H (by rw [← A.len];exact m1) (by rw [← A.len];exact hi) m2
    rw [this] at m3;omega
  ·rw [if_neg e] at h ⊢;exact A.u cs hc j hj h
 ·rw [hg];split
  ·exact Int.le_refl _
  ·exact h
 ·rw [hg] at h
  by_cases e:j=i
  ·rw [e];exact .inr .refl
  ·rw [if_neg e] at h;exact .inl h
theorem KP.step {r:Rl} {i:Nat} {out0 out:List Int} (K:KP r i out0 out) {a b:Nat} (ha:a<out.length) (hb:b<out.length) (h:adj r 2 (jJ r a) (jJ r b)) (h1:0≤out.getD a default) (h2:out.getD b default<0):KP r i out0 (out.set b (1 - out.getD a default)):=by
 have hl:=K.a.len
 have hl0:=K.l0
 have hg:∀ j,(out.set b (1 - out.getD a default)).getD j default=if j=b then 1 - out.getD a default else out.getD j default:=fun j=>jW _ _ hb j
 have hra:=K.a.rng a ha
 have hb0:¬ 0≤out0.getD b default:=fun q=>by have:=K.old b hb q;omega
 have hRa:Rch r 2 (jJ r i) (jJ r a):=by
  rcases K.nw a ha h1 with q|q
  ·exact absurd (K.c0 a b (by omega) (by omega) h q).1 hb0
  ·exact q
 have hib:i<b:=by
  rcases Nat.lt_trichotomy i b with q|q|q
  ·exact q
  ·have:=K.i0;rw [q] at this;omega
  ·exact absurd (K.m0 b q) hb0
 refine ⟨⟨by simp;exact hl,fun j hj=>?_,fun j hj q=>?_,fun cs hc j hj q=>?_⟩,hl0,K.c0,K.m0,?_,fun j hj q=>?_,fun j hj q=>?_⟩
 ·simp at hj
  rw [hg];split
  ·omega
  ·exact K.a.rng j hj
 ·simp at hj
  rw [hg] at q ⊢
  by_cases e:j=b
  ·rw [e];exact .inr ⟨i,hib,hRa.step h⟩
  ·rw [if_neg e] at q ⊢;exact K.a.z j hj q
 ·simp at hj
  rw [hg] at q ⊢
  by_cases e:j=b
  ·rw [if_pos e,e]
   have e1:=K.a.u cs hc a ha h1
   have e2:=hc.ne a b (by rw [hc.len];omega) (by rw [hc.len];omega) h
   have e3:=hc.b b (by rw [hc.len];omega)
   have e4:=hc.b a (by rw [hc.len];omega)
   omega
  ·rw [if_neg e] at q ⊢;exact K.a.u cs hc j hj q
 ·rw [hg];split
  ·omega
  ·exact K.i0
 ·simp at hj
  rw [hg];split
  ·omega
  ·exact K.old j hj q
 ·simp at hj
  rw [hg] at q
  by_cases e:j=b
  ·rw [e];exact .inr (hRa.step h)
  ·rw [if_neg e] at q;exact K.nw j hj q
theorem KA.no {r:Rl} {out:List Int} (A:KA r out) {a b:Nat} (ha:a<out.length) (hb:b<out.length) (h:adj r 2 (jJ r a) (jJ r b)) (h1:0≤out.getD a default) (e:out.getD a default=out.getD b default) (cs:List Int):¬ ZX r cs:=fun hc=>by
 have e1:=A.u cs hc a ha h1
 have e2:=A.u cs hc b hb (by omega)
 have hl:=A.len
 exact hc.ne a b (by rw [hc.len];omega) (by rw [hc.len];omega) h (by omega)
def PD (r:Rl) (out:List Int) (t:Ti):Prop:=t.k=2→∀ a b,a<out.length→b<out.length→jJ r a=t.a→jJ r b=t.b→(0≤out.getD a default↔0≤out.getD b default)∧(0≤out.getD a default→out.getD a default≠out.getD b default)
theorem KC.of {r:Rl} {out:List Int} (h:∀ t∈r.ts,PD r out t):KC r out:=fun a b ha hb q h0=>by
 obtain ⟨t,t1,t2,t3⟩:=q
 rcases t3 with ⟨q1,q2⟩|⟨q1,q2⟩
 ·obtain ⟨g1,g2⟩:=h t t1 t2 a b ha hb q1.symm q2.symm
  exact ⟨g1.1 h0,g2 h0⟩
 ·obtain ⟨g1,g2⟩:=h t t1 t2 b a hb ha q2.symm q1.symm
  have:=g1.2 h0
  exact ⟨this,fun e=>g2 this e.symm⟩
def ZV (out:List Int):Nat:=(out.map fun x=>(-x).toNat).sum
theorem wR {out:List Int} {i:Nat} {x:Int} (hi:i<out.length) (h:out.getD i default<0) (hx:0≤x):ZV (out.set i x)<ZV out:=by
 unfold ZV
 rw [List.map_set]
 refine VI (by simpa using hi) ?_
 rw [zq (f:=fun x:Int=>(-x).toNat) hi]
 omega
theorem KA.fin {r:Rl} {out:List Int} (A:KA r out) (C:KC r out) (hm:∀ j,j<out.length→0≤out.getD j default):ZX r out∧∀ cs,ZX r cs→cs=out:=by
 have hl:=A.len
 refine ⟨⟨hl,fun i hi=>?_,fun i j hi hj a=>(C i j hi hj a (hm i hi)).2,fun j hj=>A.z j hj (hm j hj)⟩,fun cs hc=>?_⟩
 ·have:=A.rng i hi
  have:=hm i hi
  omega
 ·apply QX (by rw [hc.len,hl])
  intro i hi
  rw [hc.len] at hi
  exact (A.u cs hc i (by omega) (hm i (by omega))).symm
theorem RingOk.no {r:Rl} (H:RO r) {R:List (List UInt8)} (h:RingOk r R) (cs:List Int):¬ ZX r cs:=fun hc=>by
 have h3:=h.three
 have hidx:∀ i,i<R.length→∃ j,j<cs.length∧jJ r j=R.getD i default:=fun i hi=>by
  obtain ⟨j,j1,j2⟩:=Gz (Qp H (h.adj i hi)).1
  exact ⟨j,by rw [hc.len];exact j1,j2⟩
 have hne:∀ i j,i<R.length→Xx.adj r 2 (R.getD i default) (R.getD j default)→j<R.length→∀ a b,a<cs.length→b<cs.length→jJ r a=R.getD i default→jJ r b=R.getD j default→cs.getD a default≠cs.getD b default:=fun i j hi ha hj a b h1 h2 e1 e2=>hc.ne a b h1 h2 (by rw [e1,e2];exact ha)
 obtain ⟨a0,a1,a2⟩:=hidx 0 (by omega)
 have key:∀ i,i<R.length→∀ a,a<cs.length→jJ r a=R.getD i default→cs.getD a default=if i % 2=0 then cs.getD a0 default else 1 - cs.getD a0 default:=by
  intro i
  induction i with
  | zero =>
   intro hi a h1 h2
   have:a=a0:=VC H (by rw [← hc.len];exact h1) (by rw [← hc.len];exact a1) (h2.trans a2.symm)
   rw [this];rfl
  | succ i ih =>
   intro hi a h1 h2
   obtain ⟨b,b1,b2⟩:=hidx i (by omega)
   have e:=ih (by omega) b b1 b2
   have ha:=h.adj i (by omega)
   rw [Nat.mod_eq_of_lt hi] at ha
   have hn:=hne i (i+1) (by omega) ha hi b a b1 h1 b2 h2
   have c1:=hc.b a h1
   have c2:=hc.b b b1
   have c3:=hc.b a0 a1
   by_cases p:i % 2=0
   ·rw [if_pos p] at e
    rw [if_neg (by omega)];omega
   ·rw [if_neg p] at e
    rw [if_pos (by omega)];omega
 obtain ⟨b,b1,b2⟩:=hidx (R.length - 1) (by omega)
 have e:=key (R.length - 1) (by omega) b b1 b2
 have hodd:=h.odd
 rw [if_pos (by omega)] at e
 have ha:=h.adj (R.length - 1) (by omega)
 rw [show R.length - 1+1=R.length by omega,Nat.mod_self] at ha
 exact hne (R.length - 1) 0 (by omega) ha (by omega) b a0 b1 a1 b2 a2 e
end Go.Proofs.Xx
