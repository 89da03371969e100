/-
  Guests;the check of a guest,the program's and the reference's.
-/
import Derived.Test.YtgehpahpnidimaaGreatDoorM7
import Derived.Test.YtgehpahpnidimaaGreatDoorM6
set_option linter.unusedSectionVars false
set_option linter.unusedSimpArgs false
set_option linter.unusedVariables false
set_option maxRecDepth 100000
namespace Go.Proofs.Xx
open Go Go.Proofs
structure Gu where
 name:List UInt8
 rank:List UInt8
 court:List UInt8
 since:Int
 side:Int
 diet:List UInt8
 host:Bool
 access:Bool
 tg:List (List UInt8)
instance:Inhabited Gu:=⟨⟨[],[],[],0,0,[],false,false,[]⟩⟩
structure JL extends Gu where
 tv:SlV
instance:Inhabited JL:=⟨⟨default,⟨none,0,0⟩⟩⟩
def gV (g:JL):Value:=.agg #[str g.name,str g.rank,str g.court,.int .i64 g.since,.int .i64 g.side,str g.diet,.bool g.host,.bool g.access,g.tv.val]
def eG (g:JL):List Value:=[str g.name,str g.rank,str g.court,.int .i64 g.since,.int .i64 g.side,str g.diet,.bool g.host,.bool g.access,g.tv.val]
def qg2 (h:AH) (g:JL):Prop:=zo h g.tv.val 1 eS g.tg∧g.tg.length≤9223372036854775807
def qea (l:List (List UInt8)):Prop:=∀ i,i<l.length→jC (l.getD i default)∧(0<i→Qh (l.getD (i - 1) default) (l.getD i default))
def YK (g:Gu):Prop:=jC g.name∧WE g.rank∧WE g.court∧WE g.diet
open Classical in
noncomputable def Qw (g:Gu):Int :=
 if ¬ YK g then 4
 else if ¬ (0≤g.since∧g.since≤9999) then 21
 else if ¬ (0≤g.side∧g.side≤2) then 20
 else if ¬ (g.tg.length≤4∧qea g.tg) then 22
 else 0
theorem qe0 {g:Gu} (h:¬ YK g):Qw g=4:=by unfold Qw;rw [if_pos h]
theorem qdW {g:Gu} (h:YK g) (h2:¬ (0≤g.since∧g.since≤9999)):Qw g=21:=by unfold Qw;rw [if_neg (by simpa using h),if_pos h2]
theorem qdX {g:Gu} (h:YK g) (h2:0≤g.since∧g.since≤9999) (h3:¬ (0≤g.side∧g.side≤2)):Qw g=20:=by
 unfold Qw;rw [if_neg (by simpa using h),if_neg (by simpa using h2),if_pos h3]
theorem kC {g:Gu} (h:YK g) (h2:0≤g.since∧g.since≤9999) (h3:0≤g.side∧g.side≤2) (h4:¬ (g.tg.length≤4∧qea g.tg)):Qw g=22:=by
 unfold Qw;rw [if_neg (by simpa using h),if_neg (by simpa using h2),if_neg (by simpa using h3),if_pos h4]
theorem qcH {g:Gu} (h:YK g) (h2:0≤g.since∧g.since≤9999) (h3:0≤g.side∧g.side≤2) (h4:g.tg.length≤4∧qea g.tg):Qw g=0:=by
 unfold Qw;rw [if_neg (by simpa using h),if_neg (by simpa using h2),if_neg (by simpa using h3),if_neg (by simpa using h4)]
variable [Flag]
theorem qcI {h0:AH} (w:WfH h0) (g:JL) (r:qg2 h0 g):Fn Tryz.prog Xh 296 [gV g] h0 (fun v h'=>v = .int .i64 (Qw g.toGu)∧Hs h0 h' []):=by
 have S:=Hs.start w;have hr:zo h0 g.tv.val 1 eS g.tg:=r.1;have hbig:=r.2;unfold gV;refine qM (by first|rfl) Tryz.func296 rfl rfl ?_;all_goals (repeat' (first|refine qg ?_|refine qp ?_|(refine qc 0 ?_;(refine bx S ?_;clear S;intro b h S);refine mv ?_;refine qf ?_)))
 all_goals (repeat' (first|(refine qc 1 ?_;refine vl ?_;refine lB S rfl rfl ?_)))
 (refine qx rfl rfl rfl rfl rfl ((wF g.name).mono ?_);rintro _ _ ⟨⟨rfl,q1⟩|⟨rfl,q1⟩,rfl⟩)<;>(refine vl ?_;refine mv ?_;(first|refine off ?_|(refine vl ?_));(first|refine off ?_|(refine lB S rfl rfl ?_));(first|(refine off ?_;refine off ?_;refine vl ?_;refine mv ?_;refine off ?_;refine off ?_;(first|(refine off ?_;refine off ?_;refine vl ?_;refine mv ?_;refine off ?_;refine off ?_;(first|(refine off ?_;refine off ?_;refine vl ?_;refine mv ?_;refine qf ?_)))))|skip))
 any_goals ((refine qx rfl rfl rfl rfl rfl ((wo g.rank).mono ?_);rintro _ _ ⟨⟨rfl,q2⟩|⟨rfl,q2⟩,rfl⟩)<;>((refine vl ?_);refine vl ?_;refine mv ?_;(first|refine off ?_|(refine vl ?_));(first|refine off ?_|(refine lB S rfl rfl ?_));(first|(refine off ?_;refine off ?_;refine vl ?_;refine mv ?_;refine off ?_;refine off ?_;(first|(refine off ?_;refine off ?_;refine vl ?_;refine mv ?_;refine qf ?_)))|skip)))
 any_goals ((refine qx rfl rfl rfl rfl rfl ((wo g.court).mono ?_);rintro _ _ ⟨⟨rfl,q3⟩|⟨rfl,q3⟩,rfl⟩)<;>((refine vl ?_);refine vl ?_;refine mv ?_;(first|refine off ?_|(refine vl ?_));(first|refine off ?_|(refine lB S rfl rfl ?_));(first|(refine off ?_;refine off ?_;refine vl ?_;refine mv ?_;refine qf ?_)|skip)))
 any_goals ((refine qx rfl rfl rfl rfl rfl ((wo g.diet).mono ?_);rintro _ _ ⟨⟨rfl,q4⟩|⟨rfl,q4⟩,rfl⟩)<;>((refine vl ?_);refine vl ?_;refine mv ?_;refine qf ?_))
 all_goals (repeat' (first|refine qg ?_|refine qi rfl ?_|refine qj ?_|refine qp ?_|(refine qc 2 ?_;refine mv ?_;refine qf ?_)|(refine qc 3 ?_;refine vl ?_;refine lB S rfl rfl ?_;(first|(refine cS ?_ ?_<;>intro hc))<;>(refine mv ?_;(first|refine off ?_|(refine vl ?_));(first|refine off ?_|(refine lB S rfl rfl ?_));(first|refine off ?_|(first|(refine cS ?_ ?_<;>intro hc)))<;>(refine vl ?_;refine mv ?_;refine qf ?_)))|(refine qc 4 ?_;refine mv ?_;refine qf ?_)|(refine qc 5 ?_;refine vl ?_;refine lB S rfl rfl ?_;(first|(refine cS ?_ ?_<;>intro hc))<;>(refine mv ?_;(first|refine off ?_|(refine vl ?_));(first|refine off ?_|(refine lB S rfl rfl ?_));(first|refine off ?_|(first|(refine cS ?_ ?_<;>intro hc)))<;>(refine vl ?_;refine mv ?_;refine qf ?_)))|(refine qc 6 ?_;refine mv ?_;refine qf ?_)|(refine qc 7 ?_;refine vl ?_;refine lB S rfl rfl ?_;refine jZ S ?_;(first|(refine cS ?_ ?_<;>intro hc))<;>(refine mv ?_;refine qf ?_))|(refine qc 8 ?_;refine mv ?_;refine qf ?_)|(refine qc 9 ?_;refine vl ?_;refine lB S rfl rfl ?_;refine jZ S ?_;refine mv ?_;refine qf ?_)))
 any_goals
  refine qw ⟨_,rfl,?_⟩;refine ⟨?_,S.drop⟩;first
   | (rw [qe0 (fun q=>by unfold YK at q;grind)];rfl)
   | (rw [qdW ⟨q1,q2,q3,q4⟩ (by omega)];rfl)
   | (rw [qdX ⟨q1,q2,q3,q4⟩ (by omega) (by omega)];rfl)
   | (rw [kC ⟨q1,q2,q3,q4⟩ (by omega) (by omega) (fun q=>by have:=q.1;omega)];rfl)
 have h1:0≤g.since∧g.since≤9999:=by omega
 have h2:0≤g.side∧g.side≤2:=by omega
 have h3:g.tg.length≤4:=by omega
 refine qL (σ:=Nat) (fun i h'=>Hs h0 h' [.blk b (eG g) 125]∧i≤g.tg.length∧∀ j,j<i→jC (g.tg.getD j default)∧(0<j→Qh (g.tg.getD (j - 1) default) (g.tg.getD j default))) (fun i=>g.tg.length - i) (fun i=>[(1,.pointer (some ⟨b,0,none⟩)),(52,g.tv.val),(53,.int .i64 g.tg.length),(54,.int .i64 i)]) 0 qy ?_ ?_
 ·exact ⟨S,zB0 _,fun j hj=>absurd hj (zB7 _)⟩
 clear S;rintro i h ⟨S,g1,g2⟩;all_goals (repeat' (first|refine qg ?_|refine qi rfl ?_|refine qj ?_|refine qA ?_|refine qp ?_|(refine qc 10 ?_;(first|(refine cS ?_ ?_<;>intro hc))<;>(refine qf ?_))|(refine qc 11 ?_;refine mv ?_;refine QE S ?_;refine Qk S ?_;refine mv ?_;refine mv ?_;refine qf ?_)|(refine qc 12 ?_;refine mv ?_)|(refine qc 15 ?_;refine mv ?_;refine qf ?_)))
 ·(try simp only [zA0] at *)
  (refine qx rfl rfl rfl rfl rfl ((wF _).mono ?_);rintro _ _ ⟨⟨rfl,q5⟩|⟨rfl,q5⟩,rfl⟩)<;>(refine vl ?_;refine mv ?_;(first|refine off ?_|refine mv ?_);(first|refine off ?_|(first|(refine cS ?_ ?_<;>intro hc)))<;>((first|refine off ?_|refine mv ?_);(first|refine off ?_|(refine vl ?_));(first|refine off ?_|(refine lB S rfl rfl ?_));(first|refine off ?_|refine mv ?_);(first|refine off ?_|(refine sb ?_));(first|refine off ?_|(refine QE S ?_));(first|refine off ?_|(refine Qk S ?_));(first|refine off ?_|refine mv ?_);(first|refine off ?_|(refine tO ?_ ?_<;>intro hc))<;>((first|refine off ?_|refine vl ?_);refine vl ?_;refine qf ?_)))
  all_goals (all_goals (repeat' (first|refine qg ?_|refine qi rfl ?_|refine qj ?_|(refine qc 13 ?_;refine mv ?_;refine qf ?_)|(refine qc 14 ?_;refine ad ?_;refine mv ?_;refine qf ?_))))
  ·refine qw ⟨_,rfl,?_⟩;rw [show ((i:Int) - 1).toNat=i - 1 by omega] at hc;exact ⟨by rw [kC ⟨q1,q2,q3,q4⟩ h1 h2 (fun q=>hc ((q.2 i (by omega)).2 (by omega)))];rfl,S.drop⟩
  ·rw [show ((i:Int) - 1).toNat=i - 1 by omega] at hc;refine ⟨i+1,?_,?_,qy⟩
   ·show g.tg.length - (i+1)<g.tg.length - i;omega
   ·exact ⟨S,by omega,Zf g2 ⟨q5,fun _=>zF3.1 hc⟩⟩
  ·refine ⟨i+1,?_,?_,qy⟩
   ·show g.tg.length - (i+1)<g.tg.length - i;omega
   ·exact ⟨S,by omega,Zf g2 ⟨q5,fun q=>by omega⟩⟩
  ·refine qw ⟨_,rfl,?_⟩;exact ⟨by rw [kC ⟨q1,q2,q3,q4⟩ h1 h2 (fun q=>q5 (q.2 i (by omega)).1)];rfl,S.drop⟩
 ·refine qw ⟨_,rfl,?_⟩;exact ⟨by rw [qcH ⟨q1,q2,q3,q4⟩ h1 h2 ⟨h3,fun j hj=>g2 j (by omega)⟩];rfl,S.drop⟩
end Go.Proofs.Xx
namespace Go.Proofs.Xx
open Go
def Star (h:AH):List Rs→Fp→Prop
 | [],_=>True
 | r :: rs,U=>∃ fp:Fp,r.ok h fp∧(∀ b,fp b→U b)∧Star h rs (fun b=>U b∧¬ fp b)
theorem Star.mono {h:AH}:∀ {rs:List Rs} {U U':Fp},(∀ b,U b→U' b)→Star h rs U→Star h rs U'
 | [],_,_,_,_=>trivial
 | r :: rs,U,U',hu,⟨fp,h1,h2,h3⟩=>⟨fp,h1,fun b hb=>hu b (h2 b hb),h3.mono fun b hb=>⟨hu b hb.1,hb.2⟩⟩
theorem Star.local {h h':AH}:∀ {rs:List Rs} {U:Fp},Star h rs U→(∀ b,U b→h'.get b=h.get b)→Star h' rs U
 | [],_,_,_=>trivial
 | r :: rs,U,⟨fp,h1,h2,h3⟩,hs=>⟨fp,h1.local fun b hb=>hs b (h2 b hb),h2,h3.local fun b hb=>hs b hb.1⟩
theorem Star.sep {lo:Nat} {h:AH} {rs:List Rs}:∀ {l:List Rs} {U V:Fp},Star h l U→(∀ b,U b→lo≤b∧b<h.next∧V b)→Sep lo h rs (fun b=>V b∧¬ U b)→Sep lo h (l ++ rs) V
 | [],U,V,_,_,k=>k.mono fun b hb=>hb.1
 | r :: l,U,V,⟨fp,h1,h2,h3⟩,hu,k=>⟨fp,h1,fun b hb=>hu b (h2 b hb),h3.sep (fun b hb=>⟨(hu b hb.1).1,(hu b hb.1).2.1,(hu b hb.1).2.2,hb.2⟩) (k.mono fun b hb=>⟨⟨hb.1,fun q=>hb.2 (h2 b q)⟩,fun q=>hb.2 q.1⟩)⟩
theorem Sep.star {lo:Nat} {h:AH} {rs:List Rs}:∀ {l:List Rs} {V:Fp},Sep lo h (l ++ rs) V→∃ U:Fp,Star h l U∧(∀ b,U b→lo≤b∧b<h.next∧V b)∧Sep lo h rs (fun b=>V b∧¬ U b)
 | [],V,k=>⟨fun _=>False,trivial,fun b hb=>hb.elim,k.mono fun b hb=>⟨hb,id⟩⟩
 | r :: l,V,⟨fp,h1,h2,h3⟩=>by
  obtain ⟨U,k1,k2,k3⟩:=h3.star;refine ⟨fun b=>fp b∨U b,⟨fp,h1,fun b hb=>.inl hb,k1.mono fun b hb=>⟨.inr hb,(k2 b hb).2.2.2⟩⟩,fun b hb=>?_,k3.mono fun b hb=>⟨hb.1.1,fun q=>?_⟩⟩
  ·rcases hb with hb|hb
   ·exact h2 b hb
   ·exact ⟨(k2 b hb).1,(k2 b hb).2.1,(k2 b hb).2.2.1⟩
  ·rcases q with q|q
   ·exact hb.1.2 q
   ·exact hb.2 q
abbrev qbZ {σ:Type} (φ:σ→Prop) (f:σ→List Rs):Rs:=.any (fun h fp=>∃ s,φ s∧Star h (f s) fp)
theorem Hs.unpack {σ:Type} {φ:σ→Prop} {f:σ→List Rs} {h0 h:AH} {rs:List Rs} (S:Hs h0 h (qbZ φ f :: rs)):∃ s,φ s∧Hs h0 h (f s ++ rs):=by
 obtain ⟨fp,k1,k2,k3⟩:=S.sep;obtain ⟨s,hs,hst⟩:=k1 h fun _ _=>rfl;exact ⟨s,hs,S.ext,hst.sep k2 k3⟩
theorem Hs.pack {σ:Type} {φ:σ→Prop} {f:σ→List Rs} {h0 h:AH} {rs:List Rs} (s:σ) (hs:φ s) (S:Hs h0 h (f s ++ rs)):Hs h0 h (qbZ φ f :: rs):=by
 obtain ⟨U,k1,k2,k3⟩:=S.sep.star;exact ⟨S.ext,U,fun h' q=>⟨s,hs,k1.local q⟩,k2,k3⟩
section
variable {P:Program} {X:Extern} {sz:Nat} {L:Ks} {h h0:AH} {rs:List Rs} {ops:Array Oper} {os:List Oper} {o:Oper} {R:Ks→AH→Prop}
theorem tk {α:Type} {x hi:Operand} {ty e:TypeId} {v vh:Value} {z:Nat} {enc:α→List Value} {l:List α} {f:Rs→List Rs} {dd:List Rs} {d:Tmp} (b:Nat) (S:Hs h0 h rs) (ho:o.op = .slice ty x none (some hi) none) (hx:kA L x=some v) [i:HasS rs v α e z enc l f dd]
 (w:∀ v',Hs h0 h (f (.sl v' e z enc (l.take b)))→KO P X sz ops os (L.put d v') h R) (hg:qo ops L.tree o.guard=some true:=by exact rfl) (hhi:kA L hi=some vh:=by exact rfl) (hbo:qR (some vh) l.length=some b:=by exact rfl) (hb:b≤l.length:=by first|omega|grind)
 (hz:∀ x,(enc x).length=z:=by intro _;rfl) (hu:Qx P ty=some z:=by exact rfl) (hdst:o.dst=some d:=by exact rfl) (hds:Nat.blt d sz=true:=by exact rfl):KO P X sz ops (o :: os) L h R:=by
 obtain ⟨fp,k1,k2,-⟩:=(i.ut (.sl v e z enc l)).ok (h':=h) S.ext.next (zA3 _) S.sep
 have hue:∃ e',P.underlying ty=some (.slice e')∧zq P e'=some z:=by
  unfold Qx at hu;split at hu
  ·exact ⟨_,by assumption,hu⟩
  ·cases hu
 obtain ⟨e',hu1,hu2⟩:=hue;have hhi':zI L.tree hi=some vh:=qB hhi;have go:∀ v',zh P ty v none (some vh) none h=some v'→(∀ fq,(Rs.sl v e z enc l).ok h fq→(Rs.sl v' e z enc (l.take b)).ok h fq)→KO P X sz ops (o :: os) L h R:=fun v' q1 q2=>by
  refine qW (v:=v') (h':=h) hg ?_ (by simp only [qE,hdst,hds]) (w v' (S.same (i.ut _) q2));rw [ho];simp only [zD,qB hx,zH,hhi',q1,qH,zB]
 have h0b:qR none 0=some 0:=rfl;rcases k1 with ⟨rfl,rfl⟩|⟨bb,o',cc,slk,cap,g1,g2,g3,g4,g5,g6⟩
 ·obtain rfl:b=0:=by simpa using hb
  refine go (.slice none 0 0) ?_ fun fq q=>.inl ⟨rfl,by simp⟩;have:qR (some vh) 0=some 0:=hbo;simp only [zh,hu1,hu2,this,h0b]
 ·subst g1;have t1:Nat.ble 0 b=true:=by simp
  have t2:Nat.ble b cap=true:=zB3 (zD0 hb g5.1);have hlen:(l.take b).length=b:=by simp;omega
  have sub:=jG (i:=0) (m:=b*z) g4 (by rw [zG1];exact zD3 z hb);rw [List.drop_zero,← jQ hz,Nat.add_zero] at sub;have key:∀ fq,(Rs.sl (.slice (some ⟨bb,o',none⟩) l.length cap) e z enc l).ok h fq→(Rs.sl (.slice (some ⟨bb,o',none⟩) (b - 0) (cap - 0)) e z enc (l.take b)).ok h fq:=fun fq q=>by
   rcases q with ⟨q1,-⟩|⟨b2,o2,cc2,sl2,cap2,q1,q2,q3,q4,q5,q6⟩
   ·cases q1
   ·cases q1
    exact .inr ⟨bb,o',cc,slk,cap,by rw [hlen,Nat.sub_zero,Nat.sub_zero],g2,q3,by rw [hlen];exact sub,⟨by rw [hlen];exact zD0 hb g5.1,g5.2⟩,g6⟩
  cases hk:(slk.isNone && Nat.beq 0 cap) with
  | false =>
   refine go (.slice (some ⟨bb,o',none⟩) (b - 0) (cap - 0)) ?_ key;simp only [zh,hu1,hu2,g2,h0b,hbo,t1,t2,hk,zF9,Nat.zero_mul,Nat.add_zero]
  | true =>
   refine go (.slice (some ⟨bb,o',none⟩) (b - 0) (cap - 0)) ?_ key;simp only [zh,hu1,hu2,g2,h0b,hbo,t1,t2,hk,zF9]
theorem bsn {ty:TypeId} {n:Nat} {ps:Array (Nat×Operand)} {vs:List (Nat×Value)} {c:List Value} {e:TypeId} {α:Type} {z:Nat} {d:Tmp} (enc:α→List Value) (l:List α) (S:Hs h0 h rs) (w:∀ u h',Hs h0 h' (.sl u e z enc l :: rs)→KO P X sz ops os (L.put d u) h' R) (ho:o.op = .buildSlice ty n ps:=by exact rfl) (hg:qo ops L.tree o.guard=some true:=by exact rfl)
 (hx:J5 L ps.toList=some vs:=by exact rfl) (hv:zZ P ty n vs h=some (.slice (some ⟨h.next,0,none⟩) n n,h.add (.cells c e none false)):=by exact rfl) (hl:l.length=n:=by exact rfl) (hc:c=l.flatMap enc:=by exact rfl) (hz:c.length=l.length*z:=by exact rfl) (hdst:o.dst=some d:=by exact rfl) (hds:Nat.blt d sz=true:=by exact rfl):KO P X sz ops (o :: os) L h R:=by
 subst hl;exact Vu ho hg hx hv (by simp only [qE,hdst,hds]) (w _ _ ((S.add c e).asSl (z:=z) enc l hc hz))
end
class SubR (rs rs':List Rs):Prop where
 sub:∀ {h0 h:AH},Hs h0 h rs→Hs h0 h rs'
instance (priority:=2000) SubR.here {rs:List Rs}:SubR rs rs:=⟨id⟩
instance SubR.there {r:Rs} {rs rs':List Rs} [i:SubR rs rs']:SubR (r :: rs) rs':=⟨fun S=>i.sub S.tail⟩
theorem Hs.sub {h0 h:AH} {rs rs':List Rs} [i:SubR rs rs'] (S:Hs h0 h rs):Hs h0 h rs':=i.sub S
class DtI (rs:List Rs) (r:Rs) (rs':outParam (List Rs)):Prop where
 dt:Dt rs r rs'
instance (priority:=2000) DtI.here {r:Rs} {rs:List Rs}:DtI (r :: rs) r rs:=⟨.here⟩
instance DtI.there {r s:Rs} {rs rs':List Rs} [i:DtI rs r rs']:DtI (s :: rs) r (s :: rs'):=⟨.there i.dt⟩
class SelR (rs l:List Rs):Prop where
 sel:∀ {lo:Nat} {h:AH} {U:Fp},Sep lo h rs U→Sep lo h l U
instance (priority:=2000) SelR.here {rs:List Rs}:SelR rs rs:=⟨id⟩
instance SelR.nil {rs:List Rs}:SelR rs []:=⟨fun _=>trivial⟩
instance SelR.cons {rs rs' l:List Rs} {r:Rs} [i:DtI rs r rs'] [j:SelR rs' l]:SelR rs (r :: l):=⟨fun k=>by
 obtain ⟨fp,k1,k2,k3⟩:=i.dt.sep k;exact ⟨fp,k1,k2,j.sel k3⟩⟩
instance (priority:=500) SelR.there {rs l:List Rs} {r:Rs} [j:SelR rs l]:SelR (r :: rs) l:=⟨fun ⟨_,_,_,k⟩=>j.sel (k.mono fun _ q=>q.1)⟩
theorem Hs.pick {h0 h:AH} {rs l:List Rs} [i:SelR rs l] (S:Hs h0 h rs):Hs h0 h l:=⟨S.ext,i.sel S.sep⟩
abbrev RdS {α:Type} (h0:AH) (rs:List Rs) (v:Value) (z:Nat) (enc:α→List Value) (l:List α):Prop:=∀ h,Hs h0 h rs→zo h v z enc l
theorem RdS.base {α:Type} {h0:AH} {rs:List Rs} {v:Value} {z:Nat} {enc:α→List Value} {l:List α} (w:WfH h0) (r:zo h0 v z enc l):RdS h0 rs v z enc l:=fun h S=>r.ext w S.ext
structure Ti where
 a:List UInt8
 b:List UInt8
 k:Int
instance:Inhabited Ti:=⟨⟨[],[],0⟩⟩
def jD (t:Ti):List Value:=[str t.a,str t.b,.int .u8 t.k]
def tiV (t:Ti):Value:=.agg #[str t.a,str t.b,.int .u8 t.k]
def gat:List Gu→List UInt8→Option Nat
 | [],_=>none
 | g :: r,n=>if g.name=n then some 0 else (gat r n).map (· + 1)
structure Rl where
 us:List Gu
 ts:List Ti
instance:Inhabited Rl:=⟨⟨[],[]⟩⟩
open Classical in
noncomputable def YE (r:Rl) (g:Gu):Rl×Int :=
 if Qw g≠0 then (r,Qw g) else if gat r.us g.name≠none then (r,5) else if 64≤r.us.length then (r,7) else (⟨r.us ++ [g],r.ts⟩,0)
theorem qcP {r:Rl} {g:Gu} (h:Qw g≠0):YE r g=(r,Qw g):=by unfold YE;rw [if_pos h]
theorem qcR {r:Rl} {g:Gu} (h:Qw g=0) (h2:gat r.us g.name≠none):YE r g=(r,5):=by unfold YE;rw [if_neg (by simpa using h),if_pos h2]
theorem qcQ {r:Rl} {g:Gu} (h:Qw g=0) (h2:gat r.us g.name=none) (h3:64≤r.us.length):YE r g=(r,7):=by unfold YE;rw [if_neg (by simpa using h),if_neg (by simpa using h2),if_pos h3]
theorem PE {r:Rl} {g:Gu} (h:Qw g=0) (h2:gat r.us g.name=none) (h3:¬ 64≤r.us.length):YE r g=(⟨r.us ++ [g],r.ts⟩,0):=by unfold YE;rw [if_neg (by simpa using h),if_neg (by simpa using h2),if_neg h3]
def AtOk (m:List (List UInt8×Int)) (us:List Gu):Prop:=∀ n,Y6 m n=(gat us n).map Int.ofNat
theorem qdL {us:List Gu} {g:Gu} (n:List UInt8):gat (us ++ [g]) n=match gat us n with|some i=>some i|none=>if g.name=n then some us.length else none:=by
 induction us with
 | nil=>simp [gat]
 | cons x r ih =>
  simp only [zC6,gat];by_cases h:x.name=n
  ·simp [h]
  ·simp only [if_neg h,ih];cases gat r n<;>simp<;>split<;>simp
theorem AtOk.app {m:List (List UInt8×Int)} {us:List Gu} {g:Gu} (a:AtOk m us) (hn:gat us g.name=none):AtOk (wI m g.name us.length) (us ++ [g]):=fun n=>by
 rw [qcf,qdL];by_cases h:n=g.name
 ·subst h;simp [hn]
 ·rw [if_neg h,a n];cases gat us n with
  | none=>simp;exact fun q=>h q.symm
  | some i=>simp
def TgsOk (gs:List JL) (h:AH) (fp:Fp):Prop:=∀ g∈gs,(Rs.rd g.tv.val 1 eS g.tg).ok h fp
abbrev Jw (gs:List JL):Rs:=.any (TgsOk gs)
structure BkS where
 vg:SlV
 vt:SlV
 m:Nat
 mp:List (List UInt8×Int)
 gs:List JL
abbrev bkL (b:Nat) (ts:List Ti) (s:BkS):List Rs:=[.blk b [s.vg.val,s.vt.val,.map (some s.m)] 298,.sl s.vg.val 125 9 eG s.gs,.sl s.vt.val 174 3 jD ts,.mp s.m (.int .i64) s.mp,Jw s.gs]
abbrev JD (b:Nat) (r:Rl):Rs:=qbZ (fun s:BkS=>s.gs.map (·.toGu)=r.us∧AtOk s.mp r.us) (bkL b r.ts)
theorem Hs.bk {h0 h:AH} {rs0 rs:List Rs} {b:Nat} {r:Rl} (S:Hs h0 h rs0) (vg vt:SlV) (m:Nat) (mp:List (List UInt8×Int)) (gs:List JL) (q1:gs.map (·.toGu)=r.us) (q2:AtOk mp r.us)
 [i:SelR rs0 (.blk b [vg.val,vt.val,.map (some m)] 298 :: .sl vg.val 125 9 eG gs :: .sl vt.val 174 3 jD r.ts :: .mp m (.int .i64) mp :: Jw gs :: rs)]:Hs h0 h (JD b r :: rs) :=
 Hs.pack (s:=⟨vg,vt,m,mp,gs⟩) ⟨q1,q2⟩ (show Hs h0 h (.blk b [vg.val,vt.val,.map (some m)] 298 :: .sl vg.val 125 9 eG gs :: .sl vt.val 174 3 jD r.ts :: .mp m (.int .i64) mp :: Jw gs :: rs) from S.pick)
theorem TgsOk.rd {h:AH} {fp:Fp} {gs:List JL} (k:TgsOk gs h fp) {i:Nat} (hi:i<gs.length):zo h (gs.getD i default).tv.val 1 eS (gs.getD i default).tg:=by
 have q:=k _ (List.getElem_mem hi);rw [show gs.getD i default=gs[i] by rw [zA2,zA4 hi];rfl];rcases q with ⟨q1,q2⟩|⟨b,o,cap,cc,e,s,r,q1,q2,q3,q4⟩
 ·exact .inl ⟨q1,by rw [q2];rfl,by rw [q2];rfl⟩
 ·exact .inr ⟨b,o,cap,cc,e,s,r,q1,q2,q4⟩
theorem We {α:Type} {v:Value} {z:Nat} {enc:α→List Value} {l:List α} {h:AH} {fp fp':Fp} (k:(Rs.rd v z enc l).ok h fp) (hf:∀ b,fp b→fp' b):(Rs.rd v z enc l).ok h fp':=by
 rcases k with k|⟨b,o,cap,cc,e,s,r,q1,q2,q3,q4⟩
 ·exact .inl k
 ·exact .inr ⟨b,o,cap,cc,e,s,r,q1,q2,hf b q3,q4⟩
theorem qef {α:Type} {v:Value} {e:TypeId} {z:Nat} {enc:α→List Value} {l:List α} {h:AH} {fp:Fp} (k:(Rs.sl v e z enc l).ok h fp):(Rs.rd v z enc l).ok h fp:=by
 rcases k with k|⟨b,o,cc,slk,cap,h1,h2,h3,h4,-⟩
 ·exact .inl k
 ·exact .inr ⟨b,o,_,cc,e,slk,false,h1,h2,h3,h4⟩
theorem Hs.tgApp {h0 h:AH} {rs:List Rs} {gs:List JL} {g:JL} {e:TypeId} (S:Hs h0 h (.sl g.tv.val e 1 eS g.tg :: Jw gs :: rs)):Hs h0 h (Jw (gs ++ [g]) :: rs):=by
 obtain ⟨f1,k1,k2,f2,k3,k4,k5⟩:=S.sep;refine ⟨S.ext,fun b=>f1 b∨f2 b,fun h' q g' hg=>?_,fun b hb=>?_,k5.mono fun b hb=>⟨trivial,fun q=>?_⟩⟩
 ·rcases zB8.1 hg with hg|hg
  ·exact We (k3 h' (fun b hb=>q b (.inr hb)) g' hg) fun b hb=>.inr hb
  ·obtain rfl:=zB5.1 hg;exact We (qef (k1.local fun b hb=>q b (.inl hb))) fun b hb=>.inl hb
 ·rcases hb with hb|hb
  ·exact k2 b hb
  ·exact ⟨(k4 b hb).1,(k4 b hb).2.1,trivial⟩
 ·rcases q with q|q
  ·exact hb.1.2 q
  ·exact hb.2 q
theorem qam {g:Gu} (h:Qw g=0):YK g∧(0≤g.since∧g.since≤9999)∧(0≤g.side∧g.side≤2)∧g.tg.length≤4∧qea g.tg:=by
 unfold Qw at h;split at h
 ·cases h
 ·split at h
  ·cases h
  ·split at h
   ·cases h
   ·split at h
    ·cases h
    ·rename_i a b c d
     exact ⟨zF3.1 a,zF3.1 b,zF3.1 c,(zF3.1 d).1,(zF3.1 d).2⟩
variable [Flag]
theorem Gs {h0:AH} (w:WfH h0) {b m:Nat} {vg vt:Value} (hb:h0.get b=some (.cells [vg,vt,.map (some m)] 298 none false)):Fn Tryz.prog Xh 295 [.pointer (some ⟨b,0,none⟩)] h0 (fun v h'=>v = .bool false∧Hs h0 h' []):=by
 have S:=Hs.start w;refine qM (by first|rfl) Tryz.func295 rfl rfl ?_;all_goals (repeat' (first|refine qg ?_|(refine qc 0 ?_;refine mv ?_;refine qf ?_)|(refine qc 1 ?_;refine mv ?_;refine vl ?_;refine mv ?_;refine mv ?_;refine vl ?_;(first|(refine vl ?_));(first|(refine lH S ?_));refine vl ?_;refine vl ?_;refine mv ?_;refine qf ?_)))
 refine qw ⟨_,rfl,?_⟩;exact ⟨rfl,S⟩
theorem qa7 {h0:AH} (w:WfH h0) (v:Value) (a:List (List UInt8)) (r:zo h0 v 1 eS a) (hl:a.length≤1000000):Fn Tryz.prog Xh 318 [v] h0 (fun u h'=>Hs h0 h' [.sl u 9 1 eS a]):=by
 have S:=Hs.start w;have r0:=r;rcases r with ⟨rfl,h1,-⟩|⟨b,o,cap,cc,e,s,q,rfl,h1,h2⟩
 ·obtain rfl:a=[]:=zE9.1 h1;refine qM (by first|rfl) Tryz.func318 rfl rfl ?_;all_goals (repeat' (first|refine qg ?_|refine qi rfl ?_|(refine qc 0 ?_;refine mv ?_;refine qf ?_)|(refine qc 1 ?_;refine mv ?_;refine vl ?_;refine qf ?_)|(refine qc 2 ?_;refine mv ?_;refine qf ?_)))
  refine qw ⟨_,rfl,?_⟩;exact S.nilS
 ·refine qM (by first|rfl) Tryz.func318 rfl rfl ?_;all_goals (repeat' (first|refine qg ?_|refine qi rfl ?_|refine qj ?_|(refine qc 0 ?_;refine mv ?_;refine qf ?_)|(refine qc 1 ?_;refine mv ?_;refine vl ?_;refine qf ?_)|(refine qc 3 ?_;skip)))
  refine nw 1 eS S ?_;clear S;intro u h S;(refine mv ?_);refine apd S rfl rfl (r0.ext w S.ext) ?_;clear S;intro v' h S;(refine mv ?_;refine qf ?_);all_goals (repeat' (fail))
  refine qw ⟨_,rfl,?_⟩;exact S
theorem qa6 {h0:AH} (w:WfH h0) (g:JL) (r:zo h0 g.tv.val 1 eS g.tg) (hl:g.tg.length≤1000000):Fn Tryz.prog Xh 297 [gV g] h0 (fun v h'=>∃ tv:SlV,v=gV { g with tv:=tv }∧Hs h0 h' [.sl tv.val 9 1 eS g.tg]):=by
 have S:=Hs.start w;unfold gV;refine qM (by first|rfl) Tryz.func297 rfl rfl ?_;all_goals (repeat' (first|refine qg ?_|(refine qc 0 ?_;(refine bx S ?_;clear S;intro b h S);(refine al S ?_;clear S;intro b h S);refine qf ?_)|(refine qc 1 ?_;refine vl ?_;refine lB S rfl rfl ?_)))
 (refine qx rfl rfl rfl rfl rfl ((qa7 S.wf g.tv.val g.tg (r.ext w S.ext) hl).mono ?_);rintro v h x)<;>(replace S:=S.join1 x;clear x;obtain ⟨tv,rfl⟩:=S.slRd.sV v;refine vl ?_;(first|(refine sB S rfl rfl ?_;clear S;intro h S));refine qf ?_)
 all_goals (repeat' (first|refine qg ?_|(refine qc 2 ?_;refine lB S rfl rfl ?_;(first|(refine sB S rfl rfl ?_;clear S;intro h S));refine qf ?_)))
 refine qw ⟨_,zk S rfl (by first|exact .there .here) (by exact rfl) (by exact rfl),?_⟩;exact ⟨tv,rfl,S.only .here⟩
theorem qeG {h0:AH} (w:WfH h0):Fn Tryz.prog Xh 258 [] h0 (fun v h'=>∃ b,v = .pointer (some ⟨b,0,none⟩)∧Hs h0 h' [JD b ⟨[],[]⟩]):=by
 have S:=Hs.start w;refine qM (by first|rfl) Tryz.func258 rfl rfl ?_;all_goals (repeat' (first|refine qg ?_|(refine qc 0 ?_;refine mv ?_;refine qf ?_)))
 refine qc 1 ?_;refine mkm (α:=Int) (.int .i64) S ?_;clear S;intro m h S;(refine vl ?_;(refine bx S ?_;clear S;intro b h S);refine mv ?_;refine qf ?_);all_goals (repeat' (fail))
 refine qw ⟨_,rfl,?_⟩;refine ⟨_,rfl,?_⟩;have S:=((S.nilS (e:=125) (z:=9) (enc:=eG)).nilS (e:=174) (z:=3) (enc:=jD)).anyS (p:=TgsOk []) fun h' g hg=>by cases hg
 replace S:Hs h0 _ [Jw [],.sl (SlV.val ⟨none,0,0⟩) 174 3 jD [],.sl (SlV.val ⟨none,0,0⟩) 125 9 eG [],.blk b [SlV.val ⟨none,0,0⟩,SlV.val ⟨none,0,0⟩,.map (some m)] 298,.mp m (.int .i64) []]:=S;exact S.bk (r:=⟨[],[]⟩) ⟨none,0,0⟩ ⟨none,0,0⟩ m [] [] rfl fun n=>rfl
theorem qe4 {h0 h:AH} {rs:List Rs} {p:Nat} {r:Rl} (S:Hs h0 h (JD p r :: rs)) (g:JL) (hr:RdS h0 rs g.tv.val 1 eS g.tg) (hl:g.tg.length≤9223372036854775807) (hu:r.us.length≤64) :
 Fn Tryz.prog Xh 259 [.pointer (some ⟨p,0,none⟩),gV g] h (fun v h'=>v = .int .i64 (YE r g.toGu).2∧Hs h0 h' (JD p (YE r g.toGu).1 :: rs)):=by
 obtain ⟨⟨vg,vt,m,mp,gs⟩,⟨q1,q2⟩,S⟩:=S.unpack;have e1:gs.length=r.us.length:=by rw [← q1];simp
 dsimp only [bkL,List.cons_append,List.nil_append] at q1 q2 S;unfold gV;refine qM (by first|rfl) Tryz.func259 rfl rfl ?_;all_goals (repeat' (first|refine qg ?_|(refine qc 0 ?_;(refine bx S ?_;clear S;intro b h S);refine mv ?_;refine qf ?_)|(refine qc 1 ?_;refine mv ?_)))
 (refine qx rfl rfl rfl rfl rfl ((Gs S.wf (YD S (.there .here))).mono ?_);rintro _ h ⟨rfl,x⟩)<;>(replace S:=S.join0 x;clear x;refine qf ?_)
 all_goals (repeat' (first|refine qg ?_|refine qi rfl ?_|refine qj ?_|(refine qc 3 ?_;refine lB S rfl rfl ?_)))
 (refine qx rfl rfl rfl rfl rfl ((qcI S.wf g ⟨hr _ S.sub,hl⟩).mono ?_);rintro _ h ⟨rfl,x⟩)<;>(replace S:=S.join0 x;clear x;refine mv ?_;refine qf ?_)
 all_goals (repeat' (first|refine qg ?_|refine qi rfl ?_|refine qj ?_|(refine qc 4 ?_;refine mv ?_;(first|(refine cS ?_ ?_<;>intro hc))<;>(refine qf ?_))|(refine qc 5 ?_;refine mv ?_;refine mv ?_;refine qf ?_)|(refine zi 6 ?_;refine mv ?_;refine vl ?_;refine vl ?_;refine lB S rfl rfl ?_;refine vl ?_;refine lB S rfl rfl ?_)))
 ·refine qw ⟨_,rfl,?_⟩;rw [qcP hc];exact ⟨rfl,S.bk vg vt m mp gs q1 q2⟩
 ·have hc0:Qw g.toGu=0:=by simpa using hc
  replace S:Hs h0 h (.blk b (eG g) 125 :: .blk p [vg.val,vt.val,.map (some m)] 298 :: .sl vg.val 125 9 eG gs :: .sl vt.val 174 3 jD r.ts :: .mp m (.int .i64) mp :: Jw gs :: rs):=S;refine lk S (.there (.there (.there (.there .here)))) (fun i hi=>?_) (fun hi=>?_)
  ·simp only [okV];(refine mv ?_;refine vl ?_;refine vl ?_;refine mv ?_;refine mv ?_;refine qf ?_);all_goals (repeat' (first|refine qg ?_|refine qi rfl ?_|(refine qc 7 ?_;refine mv ?_;refine qf ?_)|(refine qc 8 ?_;refine mv ?_;refine qf ?_)))
   refine qw ⟨_,rfl,?_⟩;rw [qcR hc0 (by rw [q2] at hi;intro q;rw [q] at hi;cases hi)];exact ⟨rfl,S.bk vg vt m mp gs q1 q2⟩
  ·simp only [okV];(refine mv ?_;refine vl ?_;refine vl ?_;refine mv ?_;refine mv ?_;refine qf ?_);all_goals (repeat' (first|refine qg ?_|refine qi rfl ?_|refine qj ?_|(refine qc 7 ?_;refine mv ?_;refine qf ?_)|(refine qc 9 ?_;refine mv ?_;refine vl ?_;refine vl ?_;refine vl ?_;refine lB S rfl rfl ?_;refine yc S rfl rfl ?_;(first|(refine cS ?_ ?_<;>intro hc))<;>(refine qf ?_))|(refine qc 10 ?_;refine mv ?_;refine qf ?_)|(refine zi 11 ?_;refine mv ?_;refine vl ?_;refine vl ?_;refine lB S rfl rfl ?_;refine vl ?_;refine lB S rfl rfl ?_;refine mv ?_;refine vl ?_;refine vl ?_;refine vl ?_;refine lB S rfl rfl ?_;refine yc S rfl rfl ?_)))
   ·refine qw ⟨_,rfl,?_⟩;rw [qcQ hc0 (by rw [q2] at hi;cases hq:gat r.us g.name with|none=>rfl|some i=>rw [hq] at hi;cases hi) (by omega)];exact ⟨rfl,S.bk vg vt m mp gs q1 q2⟩
   ·have hn:gat r.us g.name=none:=by rw [q2] at hi;cases hq:gat r.us g.name with|none=>rfl|some i=>rw [hq] at hi;cases hi
    have hn64:¬ 64≤r.us.length:=by omega
    refine up (x:=(gs.length:Int)) (key:=g.name) S (.there (.there (.there (.there .here)))) (.there (.there (.there (.there .here)))) (fun h S=>?_) (.inl rfl);(refine qf ?_);have ht4:=(qam hc0).2.2.2.1;(repeat (refine qg ?_));refine jm (id:=12) [(5,(0,2))] [some (p)] ?_;refine qh ?_;(first|(refine mv ?_<;>refine qf ⟨⟨by (first|exact True.intro),rfl⟩,?_⟩));refine qh ?_;(first|(refine mv ?_<;>refine qf ⟨⟨by (first|exact True.intro),rfl⟩,?_⟩));refine qh ?_;(first|(refine vl ?_<;>refine qf ⟨⟨by (first|exact True.intro),rfl⟩,?_⟩));refine qh ?_;(first|(refine vl ?_<;>refine qf ⟨⟨by (first|exact True.intro),rfl⟩,?_⟩));refine qh ?_;(first|(refine vl ?_<;>refine qf ⟨⟨by (first|exact True.intro),rfl⟩,?_⟩));refine qh ?_;(first|(refine lB S rfl rfl ?_<;>refine qf ⟨⟨by (first|exact Or.inr rfl),rfl⟩,?_⟩));refine qh ?_;(first|(refine lB S rfl rfl ?_<;>refine qf ⟨⟨by (first|exact True.intro),rfl⟩,?_⟩));((refine qh ?_;first|refine qx rfl rfl rfl rfl rfl ((qa6 S.wf g (hr _ S.sub) (by omega)).mono ?_));rintro _ h ⟨tv,rfl,x⟩)<;>((refine qf ⟨⟨True.intro,?_⟩,?_⟩;(focus ((show keepsX _ _ _ _ _;simp only [keepsX];(repeat' (first|exact True.intro|refine And.intro ?_ ?_));all_goals (intro hw;first|exact x.ext.old _ S.bB)))));replace S:=S.join1 x;clear x;refine qh ?_;(first|((refine one 9 S ?_;have S0:=S;clear S;intro u h S);refine qf ⟨⟨True.intro,?_⟩,?_⟩;(focus ((show keepsX _ _ _ _ _;simp only [keepsX];(repeat' (first|exact True.intro|refine And.intro ?_ ?_));all_goals (intro hw;first|exact (S.gB).trans (S0.gB).symm))));clear S0)))
    refine qh ?_;refine app (y0:={ g with tv:=tv }) S rfl rfl ?_;have S0:=S;clear S;intro v h S;obtain ⟨vg',rfl⟩:=S.sV v;refine qf ⟨⟨True.intro,?_⟩,?_⟩;(focus ((show keepsX _ _ _ _ _;simp only [keepsX];(repeat' (first|exact True.intro|refine And.intro ?_ ?_));all_goals (intro hw;first|exact absurd hw (by decide +kernel)))));clear S0;(refine qh ?_;(first|(refine vl ?_<;>refine qf ⟨⟨by (first|exact True.intro),rfl⟩,?_⟩));refine qh ?_;(first|(refine vl ?_<;>refine qf ⟨⟨by (first|exact True.intro),rfl⟩,?_⟩));refine qh ?_;(first|(refine vl ?_<;>refine qf ⟨⟨by (first|exact True.intro),rfl⟩,?_⟩));refine qh ?_;(first|((refine sB S rfl rfl ?_;have S0:=S;clear S;intro h S);refine qf ⟨⟨True.intro,?_⟩,?_⟩;(focus ((show keepsX _ _ _ _ _;simp only [keepsX];(repeat' (first|exact True.intro|refine And.intro ?_ ?_));all_goals (intro hw;first|exact absurd hw (by decide +kernel)))));clear S0));refine jw ?_);all_goals (repeat' (first|refine qg ?_|(refine qc 13 ?_;refine mv ?_;refine qf ?_)))
    refine qw ⟨_,rfl,?_⟩;rw [PE hc0 hn hn64];replace S:Hs h0 h (.sl vg'.val 125 9 eG (gs ++ [{ g with tv:=tv }]) :: .sl tv.val 9 1 eS g.tg :: .blk b (eG g) 125 :: .blk p [vg'.val,vt.val,.map (some m)] 298 :: .sl vt.val 174 3 jD r.ts :: .mp m (.int .i64) (wI mp g.name gs.length) :: Jw gs :: rs):=S;have S:=(show Hs h0 h (.sl tv.val 9 1 eS g.tg :: Jw gs :: .sl vg'.val 125 9 eG (gs ++ [{ g with tv:=tv }]) :: .blk p [vg'.val,vt.val,.map (some m)] 298 :: .sl vt.val 174 3 jD r.ts :: .mp m (.int .i64) (wI mp g.name gs.length) :: rs) from S.pick)
    have S:=Hs.tgApp (g:={ g with tv:=tv }) S;refine ⟨rfl,S.bk vg' vt m (wI mp g.name gs.length) (gs ++ [{ g with tv:=tv }]) (by simp [q1]) ?_⟩;rw [e1];exact q2.app hn
end Go.Proofs.Xx
namespace Go.Proofs.Xx
open Go Go.Proofs
theorem qgU (a b:List UInt8):(Lib.compareBytes a b<0↔Qh a b)∧(Lib.compareBytes a b=0↔a=b):=by
 induction a generalizing b with
 | nil =>
  cases b with
  | nil=>exact ⟨⟨fun h=>by simp [Lib.compareBytes] at h,fun h=>absurd h (Yk _)⟩,by simp [Lib.compareBytes]⟩
  | cons y b=>exact ⟨⟨fun _=>Wn _ _,fun _=>by simp [Lib.compareBytes]⟩,by simp [Lib.compareBytes]⟩
 | cons x a ih =>
  cases b with
  | nil=>exact ⟨⟨fun h=>by simp [Lib.compareBytes] at h,fun h=>absurd h (Yk _)⟩,by simp [Lib.compareBytes]⟩
  | cons y b =>
   obtain ⟨i1,i2⟩:=ih b;have hc:Lib.compareBytes (x :: a) (y :: b)=if x<y then -1 else if y<x then 1 else Lib.compareBytes a b:=rfl
   rw [Zd,hc];by_cases h1:x<y
   ·rw [if_pos h1];refine ⟨⟨fun _=>.inl h1,fun _=>by omega⟩,fun q=>by omega,fun q=>?_⟩;injection q with q _;subst q;exact absurd h1 (UInt8.lt_irrefl _)
   ·rw [if_neg h1];by_cases h2:y<x
    ·rw [if_pos h2];refine ⟨⟨fun q=>by omega,fun q=>?_⟩,fun q=>by omega,fun q=>?_⟩
     ·rcases q with q|⟨rfl,-⟩
      ·exact absurd q h1
      ·exact absurd h2 (UInt8.lt_irrefl _)
     ·injection q with q _;subst q;exact absurd h2 (UInt8.lt_irrefl _)
    ·rw [if_neg h2];have e:x=y:=UInt8.le_antisymm (UInt8.not_lt.1 h2) (UInt8.not_lt.1 h1);subst e;refine ⟨⟨fun q=>.inr ⟨rfl,i1.1 q⟩,fun q=>?_⟩,⟨fun q=>by rw [i2.1 q],fun q=>i2.2 (by injection q)⟩⟩;rcases q with q|q
     ·exact absurd q h1
     ·exact i1.2 q.2
def Z7 (x y:Ti):Prop:=Qh x.a y.a∨(x.a=y.a∧Qh x.b y.b)
theorem qan (x:Ti):¬ Z7 x x:=fun h=>by rcases h with h|h;exact zG _ h;exact zG _ h.2
theorem Za {x y z:Ti} (h1:Z7 x y) (h2:Z7 y z):Z7 x z:=by
 rcases h1 with h1|⟨e1,h1⟩
 ·rcases h2 with h2|⟨e2,h2⟩
  ·exact .inl (Q9 h1 h2)
  ·exact .inl (e2 ▸ h1)
 ·rcases h2 with h2|⟨e2,h2⟩
  ·exact .inl (e1 ▸ h2)
  ·exact .inr ⟨e1.trans e2,Q9 h1 h2⟩
theorem kE (x y:Ti):Z7 x y∨(x.a=y.a∧x.b=y.b)∨Z7 y x:=by
 rcases Yj x.a y.a with h|h|h
 ·exact .inl (.inl h)
 ·rcases Yj x.b y.b with g|g|g
  ·exact .inl (.inr ⟨h,g⟩)
  ·exact .inr (.inl ⟨h,g⟩)
  ·exact .inr (.inr (.inr ⟨h.symm,g⟩))
 ·exact .inr (.inr (.inl h))
def TS (ts:List Ti):Prop:=ts.Pairwise Z7
theorem TS.lt {ts:List Ti} (h:TS ts) {i j:Nat} (hij:i<j) (hj:j<ts.length):Z7 (ts.getD i default) (ts.getD j default):=by
 have:=zD2.1 h i j (by omega) hj hij;rw [zA2,zA2,zA4 hj,zA4 (show i<ts.length by omega)];exact this
def Plc (l:List Ti) (y:Ti) (i:Nat):Prop:=i≤l.length∧(∀ j,j<i→Z7 (l.getD j default) y)∧∀ j,i≤j→j<l.length→¬ Z7 (l.getD j default) y
variable [Flag]
theorem qdU {h:AH} (a b:List UInt8):Fn Tryz.prog Xh 319 [str a,str b] h (fun v h'=>(∃ c,v = .int .i64 c∧(c<0↔Qh a b)∧(c=0↔a=b))∧h'=h):=by
 refine qM (by first|rfl) Tryz.func319 rfl rfl ?_;all_goals (repeat' (first|refine qg ?_|(refine qc 0 ?_;refine mv ?_;refine qf ?_)|(refine qc 1 ?_;refine mv ?_;refine mv ?_)))
 (refine qx rfl rfl rfl rfl rfl (((Zn (R:=fun v h'=>v = .int .i64 (Lib.compareBytes a b)∧h'=h) rfl ⟨rfl,rfl⟩)).mono ?_);rintro _ _ ⟨rfl,rfl⟩)<;>(refine mv ?_;refine qf ?_)
 all_goals (repeat' (fail))
 refine qw ⟨_,rfl,?_⟩;exact ⟨⟨_,rfl,qgU a b⟩,rfl⟩
theorem qcF {h:AH} (a b:List UInt8):Fn Tryz.prog Xh 298 [str a,str b] h (fun v h'=>(∃ c,v = .int .i64 c∧(c<0↔Qh a b)∧(c=0↔a=b))∧h'=h):=by
 refine qM (by first|rfl) Tryz.func298 rfl rfl ?_;all_goals (repeat' (first|refine qg ?_|(refine qc 0 ?_;refine mv ?_;refine qf ?_)|(refine qc 1 ?_;refine mv ?_;refine mv ?_)))
 (refine qx rfl rfl rfl rfl rfl ((qdU a b).mono ?_);rintro _ _ ⟨⟨c,rfl,q⟩,rfl⟩)<;>(refine mv ?_;refine qf ?_)
 all_goals (repeat' (fail))
 refine qw ⟨_,rfl,?_⟩;exact ⟨⟨c,rfl,q⟩,rfl⟩
theorem WS {h0:AH} (w:WfH h0) (x y:Ti):Fn Tryz.prog Xh 260 [tiV x,tiV y] h0 (fun v h'=>(∃ c,v = .int .i64 c∧(c<0↔Z7 x y)∧(c=0↔x.a=y.a∧x.b=y.b))∧Hs h0 h' []):=by
 have S:=Hs.start w;unfold tiV;refine qM (by first|rfl) Tryz.func260 rfl rfl ?_;all_goals (repeat' (first|refine qg ?_|(refine qc 0 ?_;(refine bx S ?_;clear S;intro b h S);(refine bx S ?_;clear S;intro b h S);refine mv ?_;refine qf ?_)|(refine qc 1 ?_;refine vl ?_;refine lB S rfl rfl ?_;refine vl ?_;refine lB S rfl rfl ?_)))
 (refine qx rfl rfl rfl rfl rfl ((qcF x.a y.a).mono ?_);rintro _ _ ⟨⟨c,rfl,q1,q2⟩,rfl⟩)<;>(refine mv ?_;refine qf ?_)
 all_goals (repeat' (first|refine qg ?_|refine qi rfl ?_|refine qj ?_|(refine qc 2 ?_;refine mv ?_;(first|(refine cS ?_ ?_<;>intro hc))<;>(refine qf ?_))|(refine qc 3 ?_;refine mv ?_;refine mv ?_;refine qf ?_)|(refine qc 4 ?_;refine vl ?_;refine lB S rfl rfl ?_;refine vl ?_;refine lB S rfl rfl ?_)))
 ·refine qw ⟨_,rfl,?_⟩;refine ⟨⟨c,rfl,?_,?_⟩,S.drop⟩
  ·unfold Z7;rw [q1];exact ⟨.inl,fun h=>h.elim id fun h=>absurd (q2.2 h.1) hc⟩
  ·exact ⟨fun h=>absurd h hc,fun h=>q2.2 h.1⟩
 ·(refine qx rfl rfl rfl rfl rfl ((qcF x.b y.b).mono ?_);rintro _ _ ⟨⟨d,rfl,q3,q4⟩,rfl⟩)<;>(refine mv ?_;refine qf ?_)
  all_goals (repeat' (fail))
  refine qw ⟨_,rfl,?_⟩;have e:=q2.1 (by omega);refine ⟨⟨d,rfl,?_,?_⟩,S.drop⟩
  ·unfold Z7;rw [q3];exact ⟨fun h=>.inr ⟨e,h⟩,fun h=>h.elim (fun h=>absurd (e ▸ h) (zG _)) (·.2)⟩
  ·rw [q4];exact ⟨fun h=>⟨e,h⟩,(·.2)⟩
theorem qac {h0:AH} (w:WfH h0) (a b:List UInt8) (k:Int):Fn Tryz.prog Xh 301 [str a,str b,.int .u8 k] h0 (fun v h'=>v=tiV ⟨YV a b,YW a b,k⟩∧Hs h0 h' []):=by
 have S:=Hs.start w;refine qM (by first|rfl) Tryz.func301 rfl rfl ?_;all_goals (repeat' (first|refine qg ?_|(refine qc 0 ?_;(refine al S ?_;clear S;intro b h S);refine qf ?_)|(refine qc 1 ?_;refine mv ?_;refine mv ?_;refine mnS ?_;refine mv ?_;refine mv ?_;refine mxS ?_;refine mv ?_;refine vl ?_;(first|(refine sB S rfl rfl ?_;clear S;intro h S));refine qf ?_)))
 refine qw ⟨_,zk S rfl (by first|exact .here) (by exact rfl) (by exact rfl),?_⟩;exact ⟨rfl,S.drop⟩
theorem Py {h0:AH} (w:WfH h0) {v:Value} {l:List Ti} (hr:zo h0 v 3 jD l) (hl:l.length≤1000000) (hs:TS l) (y:Ti) :
 Fn Tryz.prog Xh 320 [v,tiV y,.func (.func 260) #[] #[]] h0 (fun u h'=>(∃ (i:Nat) (f:Bool),u = .tuple #[.int .i64 i,.bool f]∧Plc l y i∧(f=true↔i<l.length∧(l.getD i default).a=y.a∧(l.getD i default).b=y.b))∧Hs h0 h' []):=by
 have S:=Hs.start w;unfold tiV;refine qM (by first|rfl) Tryz.func320 rfl rfl ?_;all_goals (repeat' (first|refine qg ?_|refine qp ?_|(refine qc 0 ?_;(refine bx S ?_;clear S;intro b h S);refine mv ?_;refine mv ?_;refine qf ?_)|(refine qc 1 ?_;refine mv ?_;refine jZ S ?_;refine mv ?_;refine qf ?_)|(refine qc 2 ?_;(iterate 3 refine mv ?_);refine qf ?_)))
 replace S:Hs h0 h [.blk b (jD y) 174]:=S;refine qL (σ:=Nat×Nat) (fun (lo,hi) h'=>Hs h0 h' [.blk b (jD y) 174]∧lo≤hi∧hi≤l.length∧(∀ j,j<lo→Z7 (l.getD j default) y)∧(∀ j,hi≤j→j<l.length→¬ Z7 (l.getD j default) y)) (fun (lo,hi)=>hi - lo) (fun (lo,hi)=>[(0,v),(2,.func (.func 260) #[] #[]),(4,.pointer (some ⟨b,0,none⟩)),(8,.int .i64 l.length),(9,.int .i64 lo),(10,.int .i64 hi)]) (0,l.length) qy ?_ ?_
 ·exact ⟨S,zB0 _,zA3 _,fun j hj=>absurd hj (zB7 _),fun j h1 h2=>absurd h2 (by omega)⟩
 clear S;rintro ⟨lo,hi⟩ h ⟨S,g1,g2,g3,g4⟩;all_goals (repeat' (first|refine qg ?_|refine qi rfl ?_|refine qj ?_|refine qA ?_|refine qp ?_|(refine qc 3 ?_;refine mv ?_;refine mv ?_;(first|(refine cS ?_ ?_<;>intro hc))<;>(refine qf ?_))|(refine qc 4 ?_;refine mv ?_;refine mv ?_;refine ad ?_;refine cW ?_;refine sR1 ?_;refine cI ?_;refine mv ?_;refine qf ?_)|(refine zi 5 ?_;(iterate 3 refine mv ?_);refine QE S ?_;refine Qk S ?_;refine lB S rfl rfl ?_)|(refine zi 8 ?_;(iterate 3 refine mv ?_);(first|(refine cS ?_ ?_<;>intro hc))<;>(refine mv ?_;(first|refine off ?_|refine mv ?_);(first|refine off ?_|refine mv ?_);(first|refine off ?_|refine mv ?_);(first|refine off ?_|(refine QE S ?_));(first|refine off ?_|(refine Qk S ?_));(first|refine off ?_|(refine lB S rfl rfl ?_));(first|(refine off ?_;(refine off ?_)<;>(refine vl ?_;refine mv ?_;refine mv ?_;refine qf ?_))|skip)))))
 ·obtain ⟨mid,hm,hm2,hm3⟩:∃ mid:Nat,((lo:Int)+hi) / 2=mid∧lo≤mid∧mid<hi:=⟨(lo+hi) / 2,by omega,by omega,by omega⟩
  simp only [hm,zA0];(refine QM rfl rfl rfl rfl ((WS S.wf (l.getD mid default) y).mono ?_);rintro _ h ⟨⟨c,rfl,e1,e2⟩,x⟩)<;>(replace S:=S.join0 x;clear x;(first|(refine cS ?_ ?_<;>intro hc))<;>(refine qf ?_))
  all_goals (repeat' (first|refine qi rfl ?_|(refine qc 6 ?_;refine mv ?_;refine ad ?_;refine mv ?_;refine qf ?_)|(refine qc 7 ?_;refine mv ?_;refine mv ?_;refine qf ?_)))
  ·refine ⟨(mid+1,hi),?_,?_,qy⟩
   ·show hi - (mid+1)<hi - lo;omega
   ·refine ⟨S,by omega,g2,fun j hj=>?_,g4⟩;rcases zA7 j mid with q|q
    ·exact Za (hs.lt q (by omega)) (e1.1 hc)
    ·obtain rfl:j=mid:=by omega
     exact e1.1 hc
  ·refine ⟨(lo,mid),?_,?_,qy⟩
   ·show mid - lo<hi - lo;omega
   ·refine ⟨S,hm2,by omega,g3,fun j h1 h2 q=>?_⟩;rcases zA7 mid j with q2|q2
    ·exact hc (e1.2 (Za (hs.lt q2 h2) q))
    ·obtain rfl:j=mid:=by omega
     exact hc (e1.2 q)
 ·obtain rfl:hi=lo:=by omega
  simp only [zA0];(refine QM rfl rfl rfl rfl ((WS S.wf (l.getD hi default) y).mono ?_);rintro _ h ⟨⟨c,rfl,e1,e2⟩,x⟩)<;>(replace S:=S.join0 x;clear x;(first|(first|(refine cS ?_ ?_<;>intro hc)))<;>(refine vl ?_;refine mv ?_;refine mv ?_;refine qf ?_))
  all_goals (all_goals (repeat' (fail)))
  all_goals (refine qw ⟨_,rfl,?_⟩)
  ·exact ⟨⟨hi,true,rfl,⟨g2,g3,g4⟩,fun _=>⟨by omega,e2.1 hc⟩,fun _=>rfl⟩,S.drop⟩
  ·exact ⟨⟨hi,false,rfl,⟨g2,g3,g4⟩,fun q=>(by cases q),fun q=>absurd (e2.2 q.2) hc⟩,S.drop⟩
 ·obtain rfl:hi=lo:=by omega
  all_goals (repeat' (fail))
  refine qw ⟨_,rfl,?_⟩;exact ⟨⟨hi,false,rfl,⟨g2,g3,g4⟩,fun q=>(by cases q),fun q=>absurd q.1 (by omega)⟩,S.drop⟩
theorem qbV {h0:AH} (w:WfH h0) {p m:Nat} {vg vt:Value} {ts:List Ti} (hb:h0.get p=some (.cells [vg,vt,.map (some m)] 298 none false)) (hr:zo h0 vt 3 jD ts) (hl:ts.length≤1000000) (hs:TS ts) (a b:List UInt8) :
 Fn Tryz.prog Xh 299 [.pointer (some ⟨p,0,none⟩),str a,str b] h0 (fun u h'=>(∃ (i:Nat) (f:Bool),u = .tuple #[.int .i64 i,.bool f]∧Plc ts ⟨YV a b,YW a b,0⟩ i∧(f=true↔i<ts.length∧(ts.getD i default).a=YV a b∧(ts.getD i default).b=YW a b))∧Hs h0 h' []):=by
 have S:=Hs.start w;refine qM (by first|rfl) Tryz.func299 rfl rfl ?_;all_goals (repeat' (first|refine qg ?_|(refine qc 0 ?_;refine mv ?_;refine mv ?_;refine qf ?_)))
 (repeat (refine qg ?_));refine jm (id:=1) [(4,(0,1))] [some (p)] ?_;refine qh ?_;(first|(refine mv ?_<;>refine qf ⟨⟨by (first|exact True.intro),rfl⟩,?_⟩));refine qh ?_;(first|(refine vl ?_<;>refine qf ⟨⟨by (first|exact True.intro),rfl⟩,?_⟩));refine qh ?_;(first|(refine vl ?_<;>refine qf ⟨⟨by (first|exact True.intro),rfl⟩,?_⟩));refine qh ?_;(first|(refine vl ?_<;>refine qf ⟨⟨by (first|exact True.intro),rfl⟩,?_⟩));refine qh ?_;(first|(refine lH S ?_<;>refine qf ⟨⟨by (first|exact Or.inr rfl),rfl⟩,?_⟩));refine qh ?_;(first|(refine mv ?_<;>refine qf ⟨⟨by (first|exact True.intro),rfl⟩,?_⟩));refine qh ?_;(first|(refine mv ?_<;>refine qf ⟨⟨by (first|exact True.intro),rfl⟩,?_⟩));((refine qh ?_;first|refine qx rfl rfl rfl rfl rfl ((qac S.wf a b 0).mono ?_));rintro _ h ⟨rfl,x⟩)<;>((refine qf ⟨⟨True.intro,?_⟩,?_⟩;(focus ((show keepsX _ _ _ _ _;simp only [keepsX];(repeat' (first|exact True.intro|refine And.intro ?_ ?_));all_goals (intro hw;first|exact x.ext.old _ (S.bY (by assumption) (by assumption)))))));replace S:=S.join0 x;clear x)
 ((refine qh ?_;first|refine qx rfl rfl rfl rfl rfl ((Py S.wf (hr.ext w S.ext) hl hs ⟨YV a b,YW a b,0⟩).mono ?_));rintro _ h ⟨⟨i,f,rfl,q1,q2⟩,x⟩)<;>((refine qf ⟨⟨True.intro,?_⟩,?_⟩;(focus ((show keepsX _ _ _ _ _;simp only [keepsX];(repeat' (first|exact True.intro|refine And.intro ?_ ?_));all_goals (intro hw;first|exact absurd hw (by decide +kernel))))));replace S:=S.join0 x;clear x;refine qh ?_;(first|(refine vl ?_<;>refine qf ⟨⟨by (first|exact True.intro),rfl⟩,?_⟩));refine qh ?_;(first|(refine vl ?_<;>refine qf ⟨⟨by (first|exact True.intro),rfl⟩,?_⟩));refine qh ?_;(first|(refine mv ?_<;>refine qf ⟨⟨by (first|exact True.intro),rfl⟩,?_⟩));refine qh ?_;(first|(refine mv ?_<;>refine qf ⟨⟨by (first|exact True.intro),rfl⟩,?_⟩));refine jw ?_)
 all_goals (repeat' (fail))
 refine qw ⟨_,rfl,?_⟩;exact ⟨⟨i,f,rfl,q1,q2⟩,S.drop⟩
end Go.Proofs.Xx
namespace Go.Proofs.Xx
open Go Go.Proofs
instance (x y:Ti):Decidable (Z7 x y):=inferInstanceAs (Decidable (_∨_))
def vP (a b:List UInt8) (k:Int):Ti:=⟨YV a b,YW a b,k⟩
def tied (ts:List Ti) (a b:List UInt8):Prop:=∃ t∈ts,t.a=YV a b∧t.b=YW a b
def pX:List Ti→Ti→List Ti
 | [],t=>[t]
 | x :: r,t=>if Z7 x t then x :: pX r t else t :: x :: r
open Classical in
noncomputable def ZF (r:Rl) (a b:List UInt8) (k:Int):Rl×Int :=
 if (k≠1∧k≠2)∨a=b then (r,23) else if gat r.us a=none∨gat r.us b=none then (r,6) else if tied r.ts a b then (r,5) else if 256≤r.ts.length then (r,7) else (⟨r.us,pX r.ts (vP a b k)⟩,0)
theorem WL {t:Ti}:∀ {l:List Ti} {i:Nat},Plc l t i→pX l t=l.take i ++ t :: l.drop i
 | [],i,h=>by simp [pX]
 | x :: r,0,h=>by
  have:=h.2.2 0 (zA3 _) (by simp);show (if Z7 x t then _ else _)=_
  rw [if_neg (show ¬ Z7 x t from this)];rfl
 | x :: r,i+1,h=>by
  have h0:=h.2.1 0 (Nat.succ_pos _);show (if Z7 x t then _ else _)=_
  rw [if_pos (show Z7 x t from h0),WL (l:=r) (i:=i) ⟨by have:=h.1;simp at this;omega,fun j hj=>h.2.1 (j+1) (by omega),fun j h1 h2=>h.2.2 (j+1) (by omega) (by simp;omega)⟩];rfl
theorem Plc.tied {l:List Ti} {a b:List UInt8} {i:Nat} (hs:TS l) (h:Plc l ⟨YV a b,YW a b,0⟩ i):tied l a b↔i<l.length∧(l.getD i default).a=YV a b∧(l.getD i default).b=YW a b:=by
 constructor
 ·rintro ⟨t,ht,e1,e2⟩;obtain ⟨j,hj,rfl⟩:=List.mem_iff_getElem.1 ht;have eg:l.getD j default=l[j]:=by rw [zA2,zA4 hj];rfl
  have hji:i≤j:=by
   rcases zA7 j i with q|q
   ·have:=h.2.1 j q;rw [eg] at this;rcases this with q|q
    ·rw [e1] at q;exact absurd q (zG _)
    ·rw [e2] at q;exact absurd q.2 (zG _)
   ·exact q
  rcases zA7 i j with q|q
  ·have q1:=hs.lt q hj;rw [eg] at q1;refine absurd ?_ (h.2.2 i (zA3 _) (by omega));unfold Z7 at q1 ⊢;rw [e1,e2] at q1;exact q1
  ·obtain rfl:i=j:=by omega
   rw [eg];exact ⟨hj,e1,e2⟩
 ·rintro ⟨h1,h2,h3⟩;refine ⟨_,List.getElem_mem h1,?_⟩;rw [show l[i]=l.getD i default by rw [zA2,zA4 h1];rfl];exact ⟨h2,h3⟩
theorem PW {r:Rl} {a b:List UInt8} {k:Int} (h:(k≠1∧k≠2)∨a=b):ZF r a b k=(r,23):=by unfold ZF;rw [if_pos h]
theorem G5 {r:Rl} {a b:List UInt8} {k:Int} (h:¬ ((k≠1∧k≠2)∨a=b)) (h2:gat r.us a=none∨gat r.us b=none):ZF r a b k=(r,6):=by unfold ZF;rw [if_neg h,if_pos h2]
theorem G6 {r:Rl} {a b:List UInt8} {k:Int} (h:¬ ((k≠1∧k≠2)∨a=b)) (h2:¬ (gat r.us a=none∨gat r.us b=none)) (h3:tied r.ts a b):ZF r a b k=(r,5):=by unfold ZF;rw [if_neg h,if_neg h2,if_pos h3]
theorem GZ {r:Rl} {a b:List UInt8} {k:Int} (h:¬ ((k≠1∧k≠2)∨a=b)) (h2:¬ (gat r.us a=none∨gat r.us b=none)) (h3:¬ tied r.ts a b) (h4:256≤r.ts.length):ZF r a b k=(r,7):=by unfold ZF;rw [if_neg h,if_neg h2,if_neg h3,if_pos h4]
theorem vO {r:Rl} {a b:List UInt8} {k:Int} (h:¬ ((k≠1∧k≠2)∨a=b)) (h2:¬ (gat r.us a=none∨gat r.us b=none)) (h3:¬ tied r.ts a b) (h4:¬ 256≤r.ts.length):ZF r a b k=(⟨r.us,pX r.ts (vP a b k)⟩,0):=by unfold ZF;rw [if_neg h,if_neg h2,if_neg h3,if_neg h4]
variable [Flag]
theorem qdH {h0 h:AH} {rs:List Rs} {vt:SlV} {v1:Value} {l:List Ti} {t:Ti} (i:Nat) (hi:i≤l.length) (hl:l.length≤1000000) (S:Hs h0 h (.sl v1 174 3 Yz [jD t] :: .sl vt.val 174 3 jD l :: rs)) :
 Fn Tryz.prog Xh 300 [vt.val,.int .i64 i,v1] h (fun u h'=>Hs h0 h' (.sl u 174 3 jD (l.take i ++ t :: l.drop i) :: rs)):=by
 have hfl:=qO (enc:=jD) (z:=3) (by intro _;rfl) l;obtain ⟨f1,k1,k2,f2,k3,k4,k5⟩:=S.sep;rcases k1 with ⟨-,k⟩|⟨vb,vo,vcc,vslk,vcap,rfl,g1,fv,t1,c1,s1⟩
 ·cases k
 replace S:Hs h0 h (.sl (.slice (some ⟨vb,vo,none⟩) 1 vcap) 174 3 Yz [jD t] :: .sl vt.val 174 3 jD l :: rs):=S;show Fn Tryz.prog Xh 300 [vt.val,.int .i64 i,.slice (some ⟨vb,vo,none⟩) 1 vcap] h _
 by_cases hlt:i<l.length
 ·rcases k3 with ⟨-,rfl⟩|⟨b,o,cc,slk,cap,e2,g2,fb,t2,c2,s2⟩
  ·exact absurd hlt (by simp)
  rw [e2];have hne:(!Nat.beq b vb)=true:=by
   cases hq:Nat.beq b vb with
   | false=>rfl
   | true=>have:=zA6 hq;subst this;exact absurd fv (k4 b fb).2.2.2
  have hone:((l.flatMap jD).all one?)=true:=by
   rw [zC8];intro x hx;obtain ⟨y,-,hy⟩:=zH0.1 hx;simp [jD] at hy
   rcases hy with rfl|rfl|rfl<;>rfl
  refine Zn (v:=.slice (some ⟨h.next,0,none⟩) (l.length+1) (l.length+1)) (h':=(h.put b .dead).add (.cells ((l.flatMap jD).take (i*3) ++ (jD t ++ (l.flatMap jD).drop (i*3))) 174 (some 3) false)) ?_ ?_
  ·show Zr X0 300 300 [.slice (some ⟨b,o,none⟩) l.length cap,.int .i64 (.ofNat i),.slice (some ⟨vb,vo,none⟩) 1 vcap] h=_
   unfold Zr;have hb1:Nat.blt i l.length=true:=by rw [Nat.blt_eq];exact hlt
   have t1':qX vcc vo 3=some (jD t):=by simpa [Yz] using t1
   have hc2:Nat.ble (o+cap*3) cc.length=true:=zB3 c2.2;have hsz:Nat.ble ((l.length+1)*40) 140737488355328=true:=zB3 (by omega);have hot:((jD t).all one?)=true:=rfl;simp only [show Nat.beq 300 300=true from rfl,hb1,g2,g1,t2,t1',hc2,hsz,hone,hot,hne,Bool.and_true,show Nat.beq 174 174=true from rfl];rcases s2 with rfl|rfl<;>rfl
  ·have W:=(S.wf.put (k4 b fb).2.1 .dead)
   have S2:Hs h0 ((h.put b .dead).add (.cells ((l.flatMap jD).take (i*3) ++ (jD t ++ (l.flatMap jD).drop (i*3))) 174 (some 3) false)) (.sl (.slice (some ⟨vb,vo,none⟩) 1 vcap) 174 3 Yz [jD t] :: .sl (.slice (some ⟨h.next,0,none⟩) (l.length+1) (l.length+1)) 174 3 jD (l.take i ++ t :: l.drop i) :: rs):=by
    refine S.turn (.there .here) (Nat.le_succ _) (W.add _) fun fp q1 q2=>?_;rcases q1 with ⟨q1,-⟩|⟨b2,o2,cc2,sl2,cap2,q1,-,q3,-⟩
    ·rw [q1] at e2;cases e2
    obtain rfl:b2=b:=by rw [q1] at e2;cases e2;rfl
    refine ⟨fun j hj hf=>?_,fun j=>j=h.next,.inr ⟨h.next,0,(l.flatMap jD).take (i*3) ++ (jD t ++ (l.flatMap jD).drop (i*3)),some 3,l.length+1,?_,?_,rfl,?_,⟨?_,?_⟩,.inr rfl⟩,fun j hj=>?_⟩
    ·rw [AH.get_add,if_neg (by show j≠h.next;omega),AH.get_put,if_neg];intro q;subst q;exact hf q3
    ·simp;omega
    ·rw [AH.get_add];exact if_pos rfl
    ·have e:((l.flatMap jD).take (i*3) ++ (jD t ++ (l.flatMap jD).drop (i*3)))=(l.take i ++ t :: l.drop i).flatMap jD:=by
      rw [List.flatMap_append,zG2,jQ (z:=3) (by intro _;rfl),Qv (z:=3) (by intro _;rfl)]
     rw [e];rw [← qO (enc:=jD) (z:=3) (by intro _;rfl)];exact zT _
    ·simp;omega
    ·simp [hfl,jD];omega
    ·subst hj;exact ⟨zG0 _,.inr (zA3 _)⟩
   exact S2.tail
 ·obtain rfl:i=l.length:=by omega
  have hX:Xh 300 [vt.val,.int .i64 l.length,.slice (some ⟨vb,vo,none⟩) 1 vcap] h=none:=by
   rcases k3 with ⟨e2,rfl⟩|⟨b,o,cc,slk,cap,e2,-⟩
   ·rw [e2];rfl
   ·rw [e2];show Zr X0 300 300 [.slice (some ⟨b,o,none⟩) l.length cap,.int .i64 (.ofNat l.length),.slice (some ⟨vb,vo,none⟩) 1 vcap] h=_
    unfold Zr;have hb1:Nat.blt l.length l.length=false:=by rw [← Bool.not_eq_true,Nat.blt_eq];omega
    simp only [show Nat.beq 300 300=true from rfl,hb1];rfl
  have hr:=Rd.of_sl S (.there .here);have hcap:=S.capS (.there .here);refine qM (hX) Tryz.func300 rfl rfl ?_;all_goals (repeat' (first|refine qg ?_|(refine qc 0 ?_;refine mv ?_;refine qf ?_)))
  (repeat (refine qg ?_));refine qc 1 ?_;refine mv ?_;refine mv ?_;refine su l.length l.length hr hcap (fun v' _ _=>?_);(refine qf ?_);all_goals (repeat' (first|refine qg ?_|refine qi rfl ?_|refine qj ?_|(refine qc 2 ?_;refine mv ?_;refine yc S rfl rfl ?_;refine mv ?_;refine qf ?_)|(refine qc 3 ?_;refine mv ?_;(first|(refine cS ?_ ?_<;>intro hc))<;>(refine qf ?_))|(refine qc 4 ?_;refine mv ?_;refine mv ?_;refine qf ?_)|(refine qc 5 ?_;refine mv ?_;refine yc S rfl rfl ?_;refine mv ?_;refine qf ?_)|(refine qc 6 ?_;refine mv ?_;refine mv ?_;(refine cT ?_)<;>(refine qf ?_))|(refine qc 7 ?_;refine mv ?_;refine mv ?_)))
  ·simp at hc
  ·refine app (y0:=t) S rfl rfl ?_;clear S;intro v h S;(refine mv ?_;refine qf ?_);all_goals (repeat' (fail))
   refine qw ⟨_,rfl,?_⟩;simp only [zD4,List.drop_length];exact S
  all_goals exact absurd rfl (by assumption)
theorem qbr {h0 h:AH} {rs:List Rs} {p:Nat} {r:Rl} (S:Hs h0 h (JD p r :: rs)) (a b:List UInt8) (k:Int) (hl:r.ts.length≤256) (hs:TS r.ts) :
 Fn Tryz.prog Xh 261 [.pointer (some ⟨p,0,none⟩),str a,str b,.int .u8 k] h (fun v h'=>v = .int .i64 (ZF r a b k).2∧Hs h0 h' (JD p (ZF r a b k).1 :: rs)):=by
 obtain ⟨⟨vg,vt,m,mp,gs⟩,⟨q1,q2⟩,S⟩:=S.unpack;have e1:gs.length=r.us.length:=by rw [← q1];simp
 dsimp only [bkL,List.cons_append,List.nil_append] at q1 q2 S;refine qM (by first|rfl) Tryz.func261 rfl rfl ?_;all_goals (repeat' (first|refine qg ?_|(refine qc 0 ?_;refine mv ?_;refine qf ?_)|(refine qc 1 ?_;refine mv ?_)))
 (refine qx rfl rfl rfl rfl rfl ((Gs S.wf (YD S .here)).mono ?_);rintro _ h ⟨rfl,x⟩)<;>(replace S:=S.join0 x;clear x;refine qf ?_)
 all_goals (repeat' (first|refine qg ?_|refine qi rfl ?_|refine qj ?_))
 (repeat (refine qg ?_));first|refine Qg (σ:=Unit) (fun _ h'=>¬ ((k≠1∧k≠2)∨a=b)∧Hs h0 h' (.blk p [vg.val,vt.val,.map (some m)] 298 :: .sl vg.val 125 9 eG gs :: .sl vt.val 174 3 jD r.ts :: .mp m (.int .i64) mp :: Jw gs :: rs)) (fun _=>[(0,.pointer (some ⟨p,0,none⟩)),(1,str a),(2,str b),(3,.int .u8 k)]) ?_ ?_
 ·all_goals (repeat' (first|refine qg ?_|refine qi rfl ?_|refine qj ?_|(refine qc 3 ?_;refine mv ?_;(first|(refine cS ?_ ?_<;>intro hc))<;>(refine mv ?_;(first|refine off ?_|refine mv ?_);(first|refine off ?_|(first|(refine cS ?_ ?_<;>intro hc)))<;>(refine vl ?_;refine mv ?_;(first|refine off ?_|refine mv ?_);(first|refine off ?_|refine mv ?_);(first|refine off ?_|(refine tS ?_ ?_<;>intro hc))<;>(refine vl ?_;refine qf ?_))))|(refine qc 4 ?_;refine mv ?_;refine qf ?_)))
  all_goals first
   | exact ⟨(),⟨by omega,S⟩,((by repeat (fail)))⟩
   | exact ⟨(),⟨by grind,S⟩,(qy)⟩
   | ((refine qw ⟨_,rfl,?_⟩);rw [PW (by first|omega|grind)];exact ⟨rfl,S.bk vg vt m mp gs q1 q2⟩)
 clear S;rintro - h ⟨hk,S⟩;all_goals (repeat' (first|refine qg ?_|(refine qc 5 ?_;refine mv ?_;refine mv ?_)))
 refine bsn (α:=List UInt8) (z:=1) eS [a,b] S ?_;clear S;intro u h S;((refine yc S rfl rfl ?_);refine mv ?_;refine qf ?_);all_goals (repeat' (refine qp ?_))
 refine qL (σ:=Nat) (fun i h'=>Hs h0 h' (.sl u 9 1 eS [a,b] :: .blk p [vg.val,vt.val,.map (some m)] 298 :: .sl vg.val 125 9 eG gs :: .sl vt.val 174 3 jD r.ts :: .mp m (.int .i64) mp :: Jw gs :: rs)∧i≤2∧∀ j,j<i→gat r.us ([a,b].getD j default)≠none) (fun i=>2 - i) (fun i=>[(0,.pointer (some ⟨p,0,none⟩)),(1,str a),(2,str b),(3,.int .u8 k),(30,u),(31,.int .i64 ([a,b].length:Nat)),(32,.int .i64 i)]) 0 qy ?_ ?_
 ·exact ⟨S,zB0 _,fun j hj=>absurd hj (zB7 _)⟩
 clear S;rintro i h ⟨S,g1,g2⟩;all_goals (repeat' (first|refine qg ?_|refine qi rfl ?_|refine qj ?_|refine qA ?_|refine qp ?_|(refine qc 6 ?_;(first|(refine cS ?_ ?_<;>intro hc))<;>(refine qf ?_))|(refine qc 7 ?_;refine jI S rfl rfl ?_;refine jT S rfl rfl ?_;refine mv ?_;refine qf ?_)|(refine qc 8 ?_;refine mv ?_;refine vl ?_;refine vl ?_;refine lB S rfl rfl ?_;refine mv ?_)|(refine qc 12 ?_;(iterate 3 refine mv ?_);skip)))
 ·have hi2:i<2:=by simp at hc;omega
  simp only [zA0];refine lk S (.there (.there (.there (.there .here)))) (fun y hy=>?_) (fun hy=>?_)
  ·simp only [okV];(refine mv ?_;refine vl ?_;refine vl ?_;refine mv ?_;refine mv ?_;refine qf ?_);all_goals (repeat' (first|refine qg ?_|refine qi rfl ?_|refine qj ?_|(refine qc 9 ?_;refine mv ?_;refine vl ?_;refine qf ?_)|(refine qc 11 ?_;refine ad ?_;refine mv ?_;refine qf ?_)))
   refine ⟨i+1,?_,?_,qy⟩
   ·show 2 - (i+1)<2 - i;omega
   ·refine ⟨S,by omega,Zf g2 fun q=>?_⟩;rw [q2,q] at hy;cases hy
  ·simp only [okV];(refine mv ?_;refine vl ?_;refine vl ?_;refine mv ?_;refine mv ?_;refine qf ?_);all_goals (repeat' (first|refine qg ?_|refine qi rfl ?_|(refine qc 9 ?_;refine mv ?_;refine vl ?_;refine qf ?_)|(refine qc 10 ?_;refine mv ?_;refine qf ?_)))
   refine qw ⟨_,rfl,?_⟩;rw [q2] at hy;have hn:gat r.us ([a,b].getD i default)=none:=by
    cases hq:gat r.us ([a,b].getD i default) with
    | none=>rfl
    | some z=>rw [hq] at hy;cases hy
   rw [G5 hk (by
    rcases (show i=0∨i=1 by omega) with rfl|rfl
    ·exact .inl hn
    ·exact .inr hn)]
   exact ⟨rfl,S.bk vg vt m mp gs q1 q2⟩
 ·have hi2:i=2:=by simp at hc;omega
  have hk2:¬ (gat r.us a=none∨gat r.us b=none):=fun q=>by
   rcases q with q|q
   ·exact g2 0 (by omega) q
   ·exact g2 1 (by omega) q
  (refine qx rfl rfl rfl rfl rfl ((qbV S.wf (YD S (.there .here)) (Rd.of_sl S (.there (.there (.there .here)))) (by omega) hs a b).mono ?_);rintro _ h ⟨⟨j,_ | _,rfl,p1,p2⟩,x⟩)<;>(replace S:=S.join0 x;clear x;refine mv ?_;refine vl ?_;refine vl ?_;refine mv ?_;refine mv ?_;refine qf ?_)
  ·have hk3:¬ tied r.ts a b:=fun q=>by have:=p2.2 ((p1.tied hs).1 q);cases this
   all_goals (repeat' (first|refine qg ?_|refine qi rfl ?_|refine qj ?_|(refine qc 13 ?_;refine mv ?_;refine qf ?_)|(refine qc 15 ?_;refine mv ?_;refine vl ?_;refine vl ?_;refine vl ?_;refine lB S rfl rfl ?_;refine yc S rfl rfl ?_;(first|(refine cS ?_ ?_<;>intro hc))<;>(refine qf ?_))|(refine qc 16 ?_;refine mv ?_;refine qf ?_)))
   ·refine qw ⟨_,rfl,?_⟩;rw [GZ hk hk2 hk3 (by omega)];exact ⟨rfl,S.bk vg vt m mp gs q1 q2⟩
   ·have hk4:¬ 256≤r.ts.length:=by omega
    (repeat (refine qg ?_));refine jm (id:=17) [(5,(0,2))] [some (p)] ?_;refine qh ?_;(first|(refine mv ?_<;>refine qf ⟨⟨by (first|exact True.intro),rfl⟩,?_⟩));refine qh ?_;(first|(refine mv ?_<;>refine qf ⟨⟨by (first|exact True.intro),rfl⟩,?_⟩));refine qh ?_;(first|(refine vl ?_<;>refine qf ⟨⟨by (first|exact True.intro),rfl⟩,?_⟩));refine qh ?_;(first|(refine vl ?_<;>refine qf ⟨⟨by (first|exact True.intro),rfl⟩,?_⟩));refine qh ?_;(first|(refine vl ?_<;>refine qf ⟨⟨by (first|exact True.intro),rfl⟩,?_⟩));refine qh ?_;(first|(refine lB S rfl rfl ?_<;>refine qf ⟨⟨by (first|exact Or.inr rfl),rfl⟩,?_⟩));refine qh ?_;(first|(refine mv ?_<;>refine qf ⟨⟨by (first|exact True.intro),rfl⟩,?_⟩));refine qh ?_;(first|(refine mv ?_<;>refine qf ⟨⟨by (first|exact True.intro),rfl⟩,?_⟩));refine qh ?_;(first|(refine mv ?_<;>refine qf ⟨⟨by (first|exact True.intro),rfl⟩,?_⟩));refine qh ?_;(first|(refine mv ?_<;>refine qf ⟨⟨by (first|exact True.intro),rfl⟩,?_⟩));((refine qh ?_;first|refine qx rfl rfl rfl rfl rfl ((qac S.wf a b k).mono ?_));rintro _ h ⟨rfl,x⟩)<;>((refine qf ⟨⟨True.intro,?_⟩,?_⟩;(focus ((show keepsX _ _ _ _ _;simp only [keepsX];(repeat' (first|exact True.intro|refine And.intro ?_ ?_));all_goals (intro hw;first|exact x.ext.old _ S.bB)))));replace S:=S.join0 x;clear x;refine qh ?_;(first|((refine one 3 S ?_;have S0:=S;clear S;intro u h S);refine qf ⟨⟨True.intro,?_⟩,?_⟩;(focus ((show keepsX _ _ _ _ _;simp only [keepsX];(repeat' (first|exact True.intro|refine And.intro ?_ ?_));all_goals (intro hw;first|exact (S.gB).trans (S0.gB).symm))));clear S0)))
    replace S:Hs h0 _ (.sl u 174 3 Yz [jD (vP a b k)] :: _):=S;have S:=(show Hs h0 _ (.sl u 174 3 Yz [jD (vP a b k)] :: .sl vt.val 174 3 jD r.ts :: .blk p [vg.val,vt.val,.map (some m)] 298 :: .sl vg.val 125 9 eG gs :: .mp m (.int .i64) mp :: Jw gs :: rs) from S.pick)
    refine qh ?_;refine qx rfl rfl rfl rfl rfl ((qdH j p1.1 (by omega) S).mono ?_);have S0:=S;clear S;rintro v h S;obtain ⟨vt',rfl⟩:=S.sV v;refine qf ⟨⟨True.intro,?_⟩,?_⟩;(focus ((show keepsX _ _ _ _ _;simp only [keepsX];(repeat' (first|exact True.intro|refine And.intro ?_ ?_));all_goals (intro hw;first|exact absurd hw (by decide +kernel)))));clear S0;(refine qh ?_;(first|(refine vl ?_<;>refine qf ⟨⟨by (first|exact True.intro),rfl⟩,?_⟩));refine qh ?_;(first|(refine vl ?_<;>refine qf ⟨⟨by (first|exact True.intro),rfl⟩,?_⟩));refine qh ?_;(first|(refine vl ?_<;>refine qf ⟨⟨by (first|exact True.intro),rfl⟩,?_⟩));refine qh ?_;(first|((refine sB S rfl rfl ?_;have S0:=S;clear S;intro h S);refine qf ⟨⟨True.intro,?_⟩,?_⟩;(focus ((show keepsX _ _ _ _ _;simp only [keepsX];(repeat' (first|exact True.intro|refine And.intro ?_ ?_));all_goals (intro hw;first|exact absurd hw (by decide +kernel)))));clear S0));refine jw ?_);all_goals (repeat' (first|refine qg ?_|(refine qc 18 ?_;refine mv ?_;refine qf ?_)))
    refine qw ⟨_,rfl,?_⟩;rw [vO hk hk2 hk3 hk4,WL (t:=vP a b k) p1];replace S:Hs h0 h (.sl vt'.val 174 3 jD (r.ts.take j ++ vP a b k :: r.ts.drop j) :: .blk p [vg.val,vt'.val,.map (some m)] 298 :: _):=S;exact ⟨rfl,S.bk vg vt' m mp gs q1 q2⟩
  ·have hk3:tied r.ts a b:=(p1.tied hs).2 (p2.1 rfl);all_goals (repeat' (first|refine qg ?_|refine qi rfl ?_|(refine qc 13 ?_;refine mv ?_;refine qf ?_)|(refine qc 14 ?_;refine mv ?_;refine qf ?_)))
   refine qw ⟨_,rfl,?_⟩;rw [G6 hk hk2 hk3];exact ⟨rfl,S.bk vg vt m mp gs q1 q2⟩
end Go.Proofs.Xx
namespace Go.Proofs.Xx
open Go Go.Proofs
structure RlV where
 vg:SlV
 vt:SlV
 gs:List JL
def RlV.val (v:RlV):Value:=.agg #[v.vg.val,v.vt.val]
structure RlOk (h:AH) (v:RlV) (r:Rl):Prop where
 rg:zo h v.vg.val 9 eG v.gs
 rt:zo h v.vt.val 3 jD r.ts
 tg:∀ i,i<v.gs.length→zo h (v.gs.getD i default).tv.val 1 eS (v.gs.getD i default).tg∧(v.gs.getD i default).tg.length≤9223372036854775807
 us:v.gs.map (·.toGu)=r.us
 lg:r.us.length≤9223372036854775807
 lt:r.ts.length≤9223372036854775807
theorem RlOk.ext {h h':AH} {v:RlV} {r:Rl} (a:RlOk h v r) (w:WfH h) (x:Ext h h'):RlOk h' v r:=⟨a.rg.ext w x,a.rt.ext w x,fun i hi=>⟨(a.tg i hi).1.ext w x,(a.tg i hi).2⟩,a.us,a.lg,a.lt⟩
theorem RlOk.len {h:AH} {v:RlV} {r:Rl} (a:RlOk h v r):v.gs.length=r.us.length:=by rw [← a.us];simp
theorem zu {α β:Type} [Inhabited α] [Inhabited β] {f:α→β} {l:List α} {i:Nat} (hi:i<l.length):(l.map f).getD i default=f (l.getD i default):=by
 rw [zA2,zA2,zH8,zA4 hi];rfl
theorem RlOk.at_ {h:AH} {v:RlV} {r:Rl} (a:RlOk h v r) {i:Nat} (hi:i<v.gs.length):(v.gs.getD i default).toGu=r.us.getD i default:=by rw [← a.us,zu hi]
noncomputable def gE0 (us:List Gu) (i:Nat):Int:=(YE ⟨us.take i,[]⟩ (us.getD i default)).2
open Classical in
noncomputable def Yb (r:Rl) (i:Nat):Int :=
 if Qh (r.ts.getD i default).a (r.ts.getD i default).b∧(i=0∨¬ Z7 (r.ts.getD i default) (r.ts.getD (i - 1) default)) then (ZF ⟨r.us,r.ts.take i⟩ (r.ts.getD i default).a (r.ts.getD i default).b (r.ts.getD i default).k).2 else 23
def VRl (r:Rl):Prop:=(∀ i,i<r.us.length→gE0 r.us i=0)∧∀ i,i<r.ts.length→Yb r i=0
def Bad (r:Rl) (i e:Int):Prop:=e≠0∧((∃ j:Nat,j<r.us.length∧(∀ k,k<j→gE0 r.us k=0)∧gE0 r.us j=e∧i=j)∨((∀ k,k<r.us.length→gE0 r.us k=0)∧∃ j:Nat,j<r.ts.length∧(∀ k,k<j→Yb r k=0)∧Yb r j=e∧i=r.us.length+j))
theorem xu {p:Nat→Int} {j k:Nat} (h1:∀ i,i<j→p i=0) (h2:p j≠0) (h3:∀ i,i<k→p i=0) (h4:p k≠0):j=k:=by
 rcases zE7 j k with q|q|q
 ·exact absurd (h3 j q) h2
 ·exact q
 ·exact absurd (h1 k q) h4
theorem Bad.uniq {r:Rl} {i e i' e':Int} (a:Bad r i e) (b:Bad r i' e'):i=i'∧e=e':=by
 obtain ⟨h1,a⟩:=a;obtain ⟨h2,b⟩:=b;rcases a with ⟨j,a1,a2,a3,a4⟩|⟨a0,j,a1,a2,a3,a4⟩<;>rcases b with ⟨k,b1,b2,b3,b4⟩|⟨b0,k,b1,b2,b3,b4⟩
 ·obtain rfl:=xu a2 (a3 ▸ h1) b2 (b3 ▸ h2);exact ⟨a4.trans b4.symm,a3.symm.trans b3⟩
 ·exact absurd (b0 j a1) (a3 ▸ h1)
 ·exact absurd (a0 k b1) (b3 ▸ h2)
 ·obtain rfl:=xu a2 (a3 ▸ h1) b2 (b3 ▸ h2);exact ⟨a4.trans b4.symm,a3.symm.trans b3⟩
theorem Bad.not {r:Rl} {i e:Int} (a:Bad r i e):¬ VRl r:=fun v=>by
 obtain ⟨h1,⟨j,a1,a2,a3,a4⟩|⟨a0,j,a1,a2,a3,a4⟩⟩:=a
 ·exact h1 (a3 ▸ v.1 j a1)
 ·exact h1 (a3 ▸ v.2 j a1)
theorem Vk {r:Rl} {g:Gu} (h:(YE r g).2=0):Qw g=0∧gat r.us g.name=none∧r.us.length<64∧(YE r g).1=⟨r.us ++ [g],r.ts⟩:=by
 by_cases h1:Qw g=0
 ·by_cases h2:gat r.us g.name=none
  ·by_cases h3:64≤r.us.length
   ·rw [qcQ h1 h2 h3] at h;cases h
   ·rw [PE h1 h2 h3];exact ⟨h1,h2,by omega,rfl⟩
  ·rw [qcR h1 h2] at h;cases h
 ·rw [qcP h1] at h;exact absurd h h1
theorem Xk {r:Rl} {a b:List UInt8} {k:Int} (h:(ZF r a b k).2=0):(k=1∨k=2)∧a≠b∧gat r.us a≠none∧gat r.us b≠none∧¬ tied r.ts a b∧r.ts.length<256∧(ZF r a b k).1=⟨r.us,pX r.ts (vP a b k)⟩:=by
 by_cases h1:(k≠1∧k≠2)∨a=b
 ·rw [PW h1] at h;cases h
 ·by_cases h2:gat r.us a=none∨gat r.us b=none
  ·rw [G5 h1 h2] at h;cases h
  ·by_cases h3:tied r.ts a b
   ·rw [G6 h1 h2 h3] at h;cases h
   ·by_cases h4:256≤r.ts.length
    ·rw [GZ h1 h2 h3 h4] at h;cases h
    ·rw [vO h1 h2 h3 h4];exact ⟨by omega,fun q=>h1 (.inr q),fun q=>h2 (.inl q),fun q=>h2 (.inr q),h3,by omega,rfl⟩
theorem zS {α:Type} [Inhabited α] {l:List α} {i:Nat} (hi:i<l.length):l.take (i+1)=l.take i ++ [l.getD i default]:=by
 rw [List.take_add_one,zA2,zA4 hi];rfl
theorem qai {us:List Gu} {i:Nat} (hi:i≤us.length) (h:∀ k,k<i→gE0 us k=0):i≤64:=by
 cases i with
 | zero=>omega
 | succ i =>
  have:=(Vk (h i (zG0 i))).2.2.1;simp at this;omega
theorem getD_take {α:Type} [Inhabited α] {l:List α} {i j:Nat} (h:j<i):(l.take i).getD j default=l.getD j default:=by
 rw [zA2,zA2,zC7,if_pos h]
theorem TS.mk_ {ts:List Ti} (h:∀ i j,i<j→j<ts.length→Z7 (ts.getD i default) (ts.getD j default)):TS ts:=by
 rw [TS,zD2];intro i j hi hj hij;have:=h i j hij hj;rw [zA2,zA2,zA4 hj,zA4 hi] at this;exact this
theorem TS.app {ts:List Ti} {t:Ti} (h:TS ts) (h2:∀ j,j<ts.length→Z7 (ts.getD j default) t):TS (ts ++ [t]):=TS.mk_ fun i j hij hj=>by
 simp at hj;rw [wU (show i<ts.length by omega)];rcases zA7 j ts.length with q|q
 ·rw [wU q];exact h.lt hij q
 ·obtain rfl:j=ts.length:=by omega
  rw [gA2 (zA3 _),zG6];exact h2 i (by omega)
theorem Ya {r:Rl} {i:Nat} (h:Yb r i=0):Qh (r.ts.getD i default).a (r.ts.getD i default).b∧(i=0∨¬ Z7 (r.ts.getD i default) (r.ts.getD (i - 1) default))∧(ZF ⟨r.us,r.ts.take i⟩ (r.ts.getD i default).a (r.ts.getD i default).b (r.ts.getD i default).k).2=0:=by
 unfold Yb at h;split at h
 ·rename_i q;exact ⟨q.1,q.2,h⟩
 ·cases h
theorem V8 {a b:List UInt8} (h:Qh a b):YV a b=a:=by unfold YV;rw [if_neg (YX h)]
theorem V9 {a b:List UInt8} (h:Qh a b):YW a b=b:=by unfold YW;rw [if_pos h]
theorem G9 {r:Rl}:∀ {i:Nat},i≤r.ts.length→(∀ k,k<i→Yb r k=0)→TS (r.ts.take i)∧(i<r.ts.length→Yb r i=0→∀ j,j<i→Z7 (r.ts.getD j default) (r.ts.getD i default))
 | i,hi,h=>by
  have key:∀ i,i≤r.ts.length→(∀ k,k<i→Yb r k=0)→TS (r.ts.take i)→i<r.ts.length→Yb r i=0→∀ j,j<i→Z7 (r.ts.getD j default) (r.ts.getD i default):=by
   intro i hi h hs hl h0 j hj;obtain ⟨z1,z2,z3⟩:=Ya h0;have z4:=(Xk z3).2.2.2.2.1;have hp:Z7 (r.ts.getD (i - 1) default) (r.ts.getD i default):=by
    rcases kE (r.ts.getD (i - 1) default) (r.ts.getD i default) with q|⟨e1,e2⟩|q
    ·exact q
    ·refine absurd ⟨r.ts.getD (i - 1) default,?_,?_⟩ z4
     ·rw [← getD_take (show i - 1<i by omega)];have hl2:i - 1<(r.ts.take i).length:=by simp;omega
      rw [zA2,zA4 hl2];exact List.getElem_mem hl2
     ·rw [V8 z1,V9 z1];exact ⟨e1,e2⟩
    ·rcases z2 with z2|z2
     ·omega
     ·exact absurd q z2
   rcases zA7 j (i - 1) with q|q
   ·have hl2:i - 1<(r.ts.take i).length:=by simp;omega
    have:=hs.lt q hl2;rw [getD_take (by omega),getD_take (by omega)] at this;exact Za this hp
   ·obtain rfl:j=i - 1:=by omega
    exact hp
  have all:∀ i,i≤r.ts.length→(∀ k,k<i→Yb r k=0)→TS (r.ts.take i):=by
   intro i;induction i with
   | zero=>intro _ _;simp [TS]
   | succ i ih =>
    intro hi h;have hs:=ih (by omega) fun k hk=>h k (by omega);rw [zS (by omega)];refine hs.app fun j hj=>?_;simp at hj;rw [getD_take (by omega)];exact key i (by omega) (fun k hk=>h k (by omega)) hs (by omega) (h i (by omega)) j (by omega)
  exact ⟨all i hi h,key i hi h (all i hi h)⟩
theorem PX {r:Rl} {i:Nat} (hi:i≤r.ts.length) (h:∀ k,k<i→Yb r k=0):i≤256:=by
 cases i with
 | zero=>omega
 | succ i =>
  have:=(Xk (Ya (h i (zG0 i))).2.2).2.2.2.2.2.1;simp at this;omega
theorem qde {r:Rl} {i:Nat} (hi:i<r.ts.length) (h:∀ k,k<i→Yb r k=0) (h0:Yb r i=0):(ZF ⟨r.us,r.ts.take i⟩ (r.ts.getD i default).a (r.ts.getD i default).b (r.ts.getD i default).k).1=⟨r.us,r.ts.take (i+1)⟩:=by
 obtain ⟨z1,z2,z3⟩:=Ya h0;rw [(Xk z3).2.2.2.2.2.2];have e:vP (r.ts.getD i default).a (r.ts.getD i default).b (r.ts.getD i default).k=r.ts.getD i default:=by unfold vP;rw [V8 z1,V9 z1]
 have hl:(r.ts.take i).length=i:=by simp;omega
 show (⟨r.us,pX (r.ts.take i) _⟩:Rl)=_
 rw [e,WL (i:=i) ⟨by omega,fun j hj=>by rw [getD_take hj];exact (G9 (by omega) h).2 hi h0 j hj,fun j h1 h2=>by omega⟩,zS hi];simp [List.take_take]
theorem qeZ {c:Int} {x t:Ti} (e1:c<0↔Z7 x t) (e2:c=0↔x.a=t.a∧x.b=t.b):c≤0↔¬ Z7 t x:=by
 constructor
 ·intro z q;rcases Int.lt_or_eq_of_le z with z|z
  ·exact qan _ (Za (e1.1 z) q)
  ·have:=e2.1 z;rcases q with q|q
   ·rw [this.1] at q;exact zG _ q
   ·rw [this.2] at q;exact zG _ q.2
 ·intro z;rcases kE x t with q|q|q
  ·have:=e1.2 q;omega
  ·have:=e2.2 q;omega
  ·exact absurd q z
variable [Flag]
theorem qdA {h0:AH} (w:WfH h0) (v:RlV) (r:Rl) (H:RlOk h0 v r) :
 Fn Tryz.prog Xh 216 [v.val] h0 (fun u h'=>(∃ p,u = .tuple #[.pointer (some ⟨p,0,none⟩),.int .i64 0,.int .i64 0]∧VRl r∧Hs h0 h' [JD p r])∨(∃ i e,u = .tuple #[.pointer none,.int .i64 i,.int .i64 e]∧Bad r i e∧Hs h0 h' [])):=by
 have S:=Hs.start w;have hgl:=H.len;have hrg:=H.rg;have hrt:=H.rt;have hlg:=H.lg;have hlt:=H.lt;unfold RlV.val;refine qM (by first|rfl) Tryz.func216 rfl rfl ?_;all_goals (repeat' (first|refine qg ?_|(refine qc 0 ?_;(refine bx S ?_;clear S;intro b h S);(iterate 3 refine mv ?_);refine qf ?_)|(refine qc 1 ?_;skip)))
 (refine qx rfl rfl rfl rfl rfl ((qeG S.wf).mono ?_);rintro _ h ⟨p,rfl,x⟩)<;>(replace S:=S.join1 x;clear x;refine mv ?_;refine qf ?_)
 all_goals (repeat' (first|refine qg ?_|refine qp ?_|(refine qc 2 ?_;refine vl ?_;refine lB S rfl rfl ?_;refine jZ S ?_;refine mv ?_;refine qf ?_)))
 obtain ⟨q,hnm⟩:∃ x,x=b:=⟨_,rfl⟩;subst hnm;replace S:Hs h0 h [JD p ⟨[],[]⟩,.blk q [v.vg.val,v.vt.val] 151]:=S;refine qL (σ:=Nat) (fun i h'=>Hs h0 h' [JD p ⟨r.us.take i,[]⟩,.blk q [v.vg.val,v.vt.val] 151]∧i≤r.us.length∧∀ k,k<i→gE0 r.us k=0) (fun i=>r.us.length - i) (fun i=>[(1,.pointer (some ⟨q,0,none⟩)),(5,.pointer (some ⟨p,0,none⟩)),(14,v.vg.val),(15,.int .i64 v.gs.length),(16,.int .i64 i)]) 0 qy ?_ ?_
 ·exact ⟨S,zB0 _,fun j hj=>absurd hj (zB7 _)⟩
 clear S;rintro i h ⟨S,g1,g2⟩;have hi64:=qai g1 g2;all_goals (repeat' (first|refine qg ?_|refine qi rfl ?_|refine qj ?_|refine qA ?_|refine qp ?_|(refine qc 3 ?_;(first|(refine cS ?_ ?_<;>intro hc))<;>(refine qf ?_))|(refine qc 4 ?_;refine mv ?_;refine QE S ?_;refine Qk S ?_;(refine al S ?_;clear S;intro b h S);refine mv ?_;(first|(refine sB S rfl rfl ?_;clear S;intro h S));refine qf ?_)|(refine qc 5 ?_;refine mv ?_;refine lB S rfl rfl ?_)|(refine qc 9 ?_;refine vl ?_;refine lB S rfl rfl ?_;refine jZ S ?_;refine mv ?_;refine qf ?_)))
 ·have hil:i<v.gs.length:=by omega
  have hat:=H.at_ hil;simp only [zA0] at S;simp only [zA0];have htl:(r.us.take i).length≤64:=by simp;omega
  (refine qx rfl rfl rfl rfl rfl ((qe4 (S.front (.there .here)) (v.gs.getD i default) (RdS.base w (H.tg i hil).1) (H.tg i hil).2 htl).mono ?_);rintro _ h ⟨rfl,S⟩)<;>(refine mv ?_;refine qf ?_)
  rw [hat] at S;simp only [hat];all_goals (repeat' (first|refine qg ?_|refine qi rfl ?_|refine qj ?_|(refine qc 6 ?_;refine mv ?_;(first|(refine cS ?_ ?_<;>intro hc))<;>(refine qf ?_))|(refine qc 7 ?_;(iterate 5 refine mv ?_);refine qf ?_)|(refine qc 8 ?_;refine ad ?_;refine mv ?_;refine qf ?_)))
  ·refine qw ⟨_,rfl,?_⟩;exact .inr ⟨i,_,rfl,⟨hc,.inl ⟨i,by omega,g2,rfl,rfl⟩⟩,S.drop⟩
  ·have hz:gE0 r.us i=0:=zF3.1 hc;rw [(Vk hz).2.2.2] at S;refine ⟨i+1,?_,?_,qy⟩
   ·show r.us.length - (i+1)<r.us.length - i;omega
   ·refine ⟨?_,by omega,Zf g2 hz⟩;rw [zS (by omega)];exact S.pick
 ·obtain rfl:i=r.us.length:=by omega
  rw [zD4] at S;refine qL (σ:=Nat) (fun i h'=>Hs h0 h' [JD p ⟨r.us,r.ts.take i⟩,.blk q [v.vg.val,v.vt.val] 151]∧i≤r.ts.length∧∀ k,k<i→Yb r k=0) (fun i=>r.ts.length - i) (fun i=>[(1,.pointer (some ⟨q,0,none⟩)),(5,.pointer (some ⟨p,0,none⟩)),(30,v.vt.val),(31,.int .i64 r.ts.length),(32,.int .i64 i)]) 0 qy ?_ ?_
  ·exact ⟨S,zB0 _,fun j hj=>absurd hj (zB7 _)⟩
  clear S;rintro i h ⟨S,k1,k2⟩;have hi256:=PX k1 k2;have hTS:=(G9 k1 k2).1;have htl:(r.ts.take i).length≤256:=by simp;omega
  all_goals (repeat' (first|refine qg ?_|refine qi rfl ?_|refine qj ?_|refine qA ?_|refine qp ?_|(refine qc 10 ?_;(first|(refine cS ?_ ?_<;>intro hc))<;>(refine qf ?_))|(refine qc 11 ?_;refine mv ?_;refine QE S ?_;refine Qk S ?_;(refine al S ?_;clear S;intro b h S);refine mv ?_;(first|(refine sB S rfl rfl ?_;clear S;intro h S));refine qf ?_)|(refine qc 12 ?_;refine mv ?_;refine qf ?_)|(refine qc 18 ?_;(iterate 4 refine mv ?_);refine qf ?_)))
  ·obtain ⟨t,ht⟩:∃ t,t=r.ts.getD i default:=⟨_,rfl⟩
   simp only [zA0] at S;simp only [zA0];replace S:Hs h0 h [.blk b (jD t) 174,JD p ⟨r.us,r.ts.take i⟩,.blk q [v.vg.val,v.vt.val] 151]:=by rw [ht];exact S
   (repeat (refine qg ?_));first|refine Qg (σ:=Rl) (fun r' h'=>Hs h0 h' [JD p r',.blk q [v.vg.val,v.vt.val] 151]∧(Yb r i=0→r'=⟨r.us,r.ts.take (i+1)⟩)) (fun r'=>[(1,.pointer (some ⟨q,0,none⟩)),(5,.pointer (some ⟨p,0,none⟩)),(9,.int .i64 i),(11,.int .i64 (Yb r i)),(30,v.vt.val),(31,.int .i64 r.ts.length),(32,.int .i64 i)]) ?_ ?_
   ·have he1:Qh t.a t.b→(i=0∨¬ Z7 t (r.ts.getD (i - 1) default))→Yb r i=(ZF ⟨r.us,r.ts.take i⟩ t.a t.b t.k).2:=fun z1 z2=>by rw [ht] at z1 z2 ⊢;unfold Yb;rw [if_pos ⟨z1,z2⟩]
    have he2:¬ (Qh t.a t.b∧(i=0∨¬ Z7 t (r.ts.getD (i - 1) default)))→Yb r i=23:=fun z=>by rw [ht] at z;unfold Yb;rw [if_neg z]
    have he3:Yb r i=0→(ZF ⟨r.us,r.ts.take i⟩ t.a t.b t.k).1=⟨r.us,r.ts.take (i+1)⟩:=fun z=>by rw [ht];exact qde (by omega) k2 z
    all_goals (repeat' (first|refine qi rfl ?_|refine qj ?_|(refine zi 13 ?_;refine vl ?_;refine lB S rfl rfl ?_;refine vl ?_;refine lB S rfl rfl ?_;(refine tO ?_ ?_<;>intro hc)<;>(refine mv ?_;(first|refine off ?_|refine mv ?_);(first|refine off ?_|(first|(refine cS ?_ ?_<;>intro hc)))<;>((first|refine off ?_|refine mv ?_);(first|refine off ?_|(refine vl ?_));(first|refine off ?_|(refine lB S rfl rfl ?_));(first|refine off ?_|refine mv ?_);(first|refine off ?_|(refine sb ?_));(first|refine off ?_|(refine QE S ?_));(first|refine off ?_|(refine Qk S ?_));(first|refine off ?_|(refine lB S rfl rfl ?_));(first|(refine off ?_;(refine off ?_)<;>((first|refine off ?_|refine vl ?_);refine vl ?_;refine qf ?_))|skip))))))
    ·all_goals (repeat' (first|(refine qc 14 ?_;refine mv ?_;refine vl ?_;refine lB S rfl rfl ?_;refine vl ?_;refine lB S rfl rfl ?_;refine vl ?_;refine lB S rfl rfl ?_)))
     (refine qx rfl rfl rfl rfl rfl ((qbr (S.front (.there .here)) t.a t.b t.k htl hTS).mono ?_);rintro _ h ⟨rfl,S⟩)<;>(refine mv ?_;refine qf ?_)
     have he:=he1 (by assumption) (.inl (by omega));refine ⟨_,⟨S.pick,he3⟩,?_⟩;rw [he];exact qy
    ·(refine qx rfl rfl rfl rfl rfl ((WS S.wf (r.ts.getD ((i:Int) - 1).toNat default) t).mono ?_);rintro _ h ⟨⟨c,rfl,e1,e2⟩,x⟩)<;>(replace S:=S.join0 x;clear x;(first|(first|(refine cS ?_ ?_<;>intro hc)))<;>((refine vl ?_);refine vl ?_;refine qf ?_))
     all_goals rw [show ((i:Int) - 1).toNat=i - 1 by omega] at e1 e2
     all_goals have ec:=qeZ e1 e2
     all_goals (repeat' (first|refine qi rfl ?_|refine qj ?_))
     ·all_goals (repeat' (first|(refine qc 14 ?_;refine mv ?_;refine vl ?_;refine lB S rfl rfl ?_;refine vl ?_;refine lB S rfl rfl ?_;refine vl ?_;refine lB S rfl rfl ?_)))
      (refine qx rfl rfl rfl rfl rfl ((qbr (S.front (.there .here)) t.a t.b t.k htl hTS).mono ?_);rintro _ h ⟨rfl,S⟩)<;>(refine mv ?_;refine qf ?_)
      have he:=he1 (by assumption) (.inr (ec.1 (by assumption)));refine ⟨_,⟨S.pick,he3⟩,?_⟩;rw [he];exact qy
     ·have he:=he2 (fun z=>z.2.elim (fun q=>by omega) (fun q=>absurd (ec.2 q) (by assumption)));refine ⟨⟨r.us,r.ts.take i⟩,⟨S.pick,fun q=>by rw [he] at q;cases q⟩,?_⟩;rw [he];exact qy
    ·have he:=he2 (fun z=>absurd z.1 (by assumption));refine ⟨⟨r.us,r.ts.take i⟩,⟨S.pick,fun q=>by rw [he] at q;cases q⟩,?_⟩;rw [he];exact qy
   ·clear S;rintro r' h ⟨S,hr'⟩;all_goals (repeat' (first|refine qg ?_|refine qi rfl ?_|refine qj ?_|(refine qc 15 ?_;refine mv ?_;(first|(refine cS ?_ ?_<;>intro hc))<;>(refine qf ?_))|(refine zi 16 ?_;refine vl ?_;refine lB S rfl rfl ?_;refine jZ S ?_;refine mv ?_;refine ad ?_;(iterate 4 refine mv ?_);refine qf ?_)|(refine qc 17 ?_;refine ad ?_;refine mv ?_;refine qf ?_)))
    ·refine qw ⟨_,rfl,?_⟩;exact .inr ⟨_,_,rfl,⟨hc,.inr ⟨g2,i,by omega,k2,rfl,by rw [hgl]⟩⟩,S.drop⟩
    ·have hz:Yb r i=0:=zF3.1 hc;obtain rfl:=hr' hz;refine ⟨i+1,?_,?_,qy⟩
     ·show r.ts.length - (i+1)<r.ts.length - i;omega
     ·exact ⟨S,by omega,Zf k2 hz⟩
  ·refine qw ⟨_,rfl,?_⟩;obtain rfl:i=r.ts.length:=by omega
   rw [zD4] at S;exact .inl ⟨p,rfl,⟨g2,k2⟩,S.pick⟩
end Go.Proofs.Xx
namespace Go.Proofs.Xx
open Go Go.Proofs
theorem Yt {us:List Gu} {n:List UInt8}:gat us n=none↔∀ g∈us,g.name≠n:=by
 induction us with
 | nil=>simp [gat]
 | cons x r ih =>
  simp only [gat];by_cases h:x.name=n
  ·simp [h]
  ·simp only [if_neg h,Option.map_eq_none_iff,ih,zE8];constructor
   ·rintro q g (rfl|hg)
    ·exact h
    ·exact q g hg
   ·exact fun q g hg=>q g (.inr hg)
theorem xk {us:List Gu} {n:List UInt8} {i:Nat} (h:gat us n=some i):i<us.length∧(us.getD i default).name=n∧∀ j,j<i→(us.getD j default).name≠n:=by
 induction us generalizing i with
 | nil=>cases h
 | cons x r ih =>
  simp only [gat] at h;by_cases hx:x.name=n
  ·rw [if_pos hx] at h;cases h
   exact ⟨by simp,hx,fun j hj=>absurd hj (zB7 _)⟩
  ·rw [if_neg hx] at h;cases hr:gat r n with
   | none=>rw [hr] at h;cases h
   | some k =>
    rw [hr] at h;cases h
    obtain ⟨h1,h2,h3⟩:=ih hr;refine ⟨by simp;omega,h2,fun j hj=>?_⟩;cases j with
    | zero=>exact hx
    | succ j=>exact h3 j (by simp only at hj;omega)
theorem qah {us:List Gu} {n:List UInt8}:gat us n≠none↔∃ g∈us,g.name=n:=by
 rw [Ne,Yt];constructor
 ·intro h;apply zG8
  intro q;exact h fun g hg e=>q ⟨g,hg,e⟩
 ·rintro ⟨g,hg,e⟩ q;exact q g hg e
theorem qJ {α:Type} [Inhabited α] {l:List α} {i:Nat} (h:i<l.length):l.getD i default∈l:=by
 rw [zA2,zA4 h];exact List.getElem_mem h
theorem qI {α:Type} [Inhabited α] {l:List α} {x:α}:x∈l↔∃ i,i<l.length∧l.getD i default=x:=by
 constructor
 ·intro h;obtain ⟨i,hi,rfl⟩:=List.mem_iff_getElem.1 h;exact ⟨i,hi,by rw [zA2,zA4 hi];rfl⟩
 ·rintro ⟨i,hi,rfl⟩;exact qJ hi
structure RO (r:Rl):Prop where
 chk:∀ g∈r.us,Qw g=0
 nd:∀ i j,i<j→j<r.us.length→(r.us.getD i default).name≠(r.us.getD j default).name
 l64:r.us.length≤64
 ts:TS r.ts
 tt:∀ t∈r.ts,Qh t.a t.b∧(t.k=1∨t.k=2)∧gat r.us t.a≠none∧gat r.us t.b≠none
 l256:r.ts.length≤256
theorem RO.gat {r:Rl} (h:RO r) {i:Nat} (hi:i<r.us.length):gat r.us (r.us.getD i default).name=some i:=by
 cases hq:Xx.gat r.us (r.us.getD i default).name with
 | none=>exact absurd rfl (Yt.1 hq _ (qJ hi))
 | some j =>
  obtain ⟨h1,h2,h3⟩:=xk hq;rcases zE7 i j with q|q|q
  ·exact absurd rfl (h3 i q)
  ·rw [q]
  ·exact absurd h2 (h.nd j i q hi)
theorem wS {us:List Gu} {i:Nat} (hi:i<us.length):gE0 us i=0↔Qw (us.getD i default)=0∧(∀ j,j<i→(us.getD j default).name≠(us.getD i default).name)∧i<64:=by
 unfold gE0;have hl:(us.take i).length=i:=by simp;omega
 have hg:Xx.gat (us.take i) (us.getD i default).name=none↔∀ j,j<i→(us.getD j default).name≠(us.getD i default).name:=by
  rw [Yt];constructor
  ·intro h j hj;have:=h _ (qJ (show j<(us.take i).length by omega));rwa [getD_take hj] at this
  ·intro h g hg;obtain ⟨j,hj,rfl⟩:=qI.1 hg;rw [getD_take (by omega)];exact h j (by omega)
 constructor
 ·intro h;obtain ⟨h1,h2,h3,-⟩:=Vk h;exact ⟨h1,hg.1 h2,by simpa [hl] using h3⟩
 ·rintro ⟨h1,h2,h3⟩;rw [PE h1 (hg.2 h2) (by show ¬ 64≤(us.take i).length;omega)]
theorem qbq {ts:List Ti} {a b:List UInt8} (h:Qh a b):tied ts a b↔∃ t∈ts,t.a=a∧t.b=b:=by unfold tied;rw [V8 h,V9 h]
theorem Wp {r:Rl}:VRl r↔RO r:=by
 constructor
 ·rintro ⟨h1,h2⟩;refine ⟨fun g hg=>?_,fun i j hij hj=>((wS hj).1 (h1 j hj)).2.1 i hij,qai (zA3 _) h1,?_,fun t ht=>?_,PX (zA3 _) h2⟩
  ·obtain ⟨i,hi,rfl⟩:=qI.1 hg;exact ((wS hi).1 (h1 i hi)).1
  ·have:=(G9 (zA3 _) h2).1;rwa [zD4] at this
  ·obtain ⟨i,hi,rfl⟩:=qI.1 ht;obtain ⟨z1,z2,z3⟩:=Ya (h2 i hi);obtain ⟨y1,y2,y3,y4,y5,y6,y7⟩:=Xk z3;exact ⟨z1,y1,y3,y4⟩
 ·intro h;refine ⟨fun i hi=>(wS hi).2 ⟨h.chk _ (qJ hi),fun j hj=>h.nd j i hj hi,by have:=h.l64;omega⟩,fun i hi=>?_⟩;obtain ⟨z1,z2,z3,z4⟩:=h.tt _ (qJ hi);have hb:∀ j,j<i→Z7 (r.ts.getD j default) (r.ts.getD i default):=fun j hj=>h.ts.lt hj hi;have hz:i=0∨¬ Z7 (r.ts.getD i default) (r.ts.getD (i - 1) default):=by
   rcases zF4 i with q|q
   ·exact .inl q
   ·exact .inr fun q2=>qan _ (Za (hb (i - 1) (by omega)) q2)
  unfold Yb;rw [if_pos ⟨z1,hz⟩,vO]
  ·rintro (q|q)
   ·omega
   ·rw [q] at z1;exact zG _ z1
  ·rintro (q|q)
   ·exact z3 q
   ·exact z4 q
  ·rw [qbq z1];rintro ⟨t,ht,e1,e2⟩;obtain ⟨j,hj,rfl⟩:=qI.1 ht;have hl:(r.ts.take i).length=i:=by simp;omega
   replace hj:j<i:=by rw [← hl];exact hj
   rw [getD_take (by omega)] at e1 e2;rcases hb j (by omega) with q|q
   ·rw [e1] at q;exact zG _ q
   ·rw [e2] at q;exact zG _ q.2
  ·have:=h.l256;simp;omega
def num (j:Nat):List UInt8:=[UInt8.ofNat (97+j / 26 % 26),UInt8.ofNat (97+j % 26)]
theorem qfv {a b:Nat} (ha:a<256) (hb:b<256):UInt8.ofNat a<UInt8.ofNat b↔a<b:=by
 rw [UInt8.lt_iff_toNat_lt];simp [UInt8.toNat_ofNat,Nat.mod_eq_of_lt ha,Nat.mod_eq_of_lt hb]
theorem qgy {a b:Nat} (ha:a<256) (hb:b<256):UInt8.ofNat a=UInt8.ofNat b↔a=b:=by
 constructor
 ·intro h;have:=congrArg UInt8.toNat h;simpa [UInt8.toNat_ofNat,Nat.mod_eq_of_lt ha,Nat.mod_eq_of_lt hb] using this
 ·rintro rfl;rfl
theorem XN {i j:Nat} (hi:i<676) (hj:j<676):Qh (num i) (num j)↔i<j:=by
 unfold num;rw [Zd,Zd,qfv (by omega) (by omega),qgy (by omega) (by omega),qfv (by omega) (by omega)];constructor
 ·rintro (h|⟨h1,h2|⟨h2,h3⟩⟩)
  ·omega
  ·omega
  ·exact absurd h3 (zG _)
 ·intro h;rcases zA7 (i / 26) (j / 26) with q|q
  ·exact .inl (by omega)
  ·exact .inr ⟨by omega,.inl (by omega)⟩
theorem qad {i j:Nat} (hi:i<676) (hj:j<676) (h:num i=num j):i=j:=by
 rcases zE7 i j with q|q|q
 ·have:=(XN hi hj).2 q;rw [h] at this;exact absurd this (zG _)
 ·exact q
 ·have:=(XN hj hi).2 q;rw [h] at this;exact absurd this (zG _)
theorem J3 (j:Nat):jC (num j):=by
 refine ⟨by simp [num],by simp [num],fun i hi=>?_⟩;have h1:j / 26 % 26<26:=Nat.mod_lt _ (by decide);have h2:j % 26<26:=Nat.mod_lt _ (by decide);have hi:i<2:=by simpa [num] using hi
 rcases (show i=0∨i=1 by omega) with rfl|rfl
 ·show QO (UInt8.ofNat (97+j / 26 % 26))
  unfold QO;rw [UInt8.toNat_ofNat',Nat.mod_eq_of_lt (by omega)];omega
 ·show QO (UInt8.ofNat (97+j % 26))
  unfold QO;rw [UInt8.toNat_ofNat',Nat.mod_eq_of_lt (by omega)];omega
variable [Flag]
theorem ZV {h0:AH} (w:WfH h0) (j:Nat) (hj:j≤1000000):Fn Tryz.prog Xh 149 [.int .i64 j] h0 (fun v h'=>v=str (num j)∧Hs h0 h' []):=by
 have S:=Hs.start w;refine qM (by first|rfl) Tryz.func149 rfl rfl ?_;all_goals (repeat' (first|refine qg ?_|(refine qc 0 ?_;refine mv ?_;refine qf ?_)|(refine qc 1 ?_;refine mv ?_;refine qu ?_;refine rm ?_;refine ad ?_;refine cU ?_;refine mv ?_;refine rm ?_;refine ad ?_;refine cU ?_)))
 refine bsn (α:=Nat) (z:=1) eU [97+j / 26 % 26,97+j % 26] S ?_;clear S;intro u h S;refine bS (Rd.of_sl S .here) ?_;(refine mv ?_;refine qf ?_);all_goals (repeat' (fail))
 refine qw ⟨_,rfl,?_⟩;exact ⟨rfl,S.drop⟩
theorem Ji {h0:AH} (w:WfH h0) {z:Int} (j:Nat) (hz:z=j) (hj:j≤1000000):Fn Tryz.prog Xh 149 [.int .i64 z] h0 (fun v h'=>v=str (num j)∧Hs h0 h' []):=by
 subst hz;exact ZV w j hj
theorem gq {h0:AH} (w:WfH h0) (vg vt:SlV) (gs:List JL) (hrg:zo h0 vg.val 9 eG gs) (hl:gs.length≤1000000) (j:Nat) (hj:j≤1000000) :
 Fn Tryz.prog Xh 150 [.agg #[vg.val,vt.val],.int .i64 j] h0 (fun v h'=>zy v (∃ i,i<gs.length∧(gs.getD i default).name=num j)∧Hs h0 h' []):=by
 have S:=Hs.start w;refine qM (by first|rfl) Tryz.func150 rfl rfl ?_;all_goals (repeat' (first|refine qg ?_|refine qp ?_|(refine qc 0 ?_;(refine bx S ?_;clear S;intro b h S);refine mv ?_;refine qf ?_)|(refine qc 1 ?_;refine mv ?_;refine qf ?_)))
 replace S:Hs h0 h [.blk b [vg.val,vt.val] 151]:=S;obtain ⟨q,hnm⟩:∃ x,x=b:=⟨_,rfl⟩;subst hnm;refine qL (σ:=Nat) (fun i h'=>Hs h0 h' [.blk q [vg.val,vt.val] 151]∧i≤gs.length∧∀ k,k<i→(gs.getD k default).name≠num j) (fun i=>gs.length - i) (fun i=>[(1,.int .i64 j),(2,.pointer (some ⟨q,0,none⟩)),(5,.int .i64 i)]) 0 qy ?_ ?_
 ·exact ⟨S,zB0 _,fun j hj=>absurd hj (zB7 _)⟩
 clear S;rintro i h ⟨S,g1,g2⟩;all_goals (repeat' (first|refine qg ?_|refine qi rfl ?_|refine qj ?_|refine qA ?_|refine qp ?_|(refine qc 2 ?_;refine mv ?_;refine vl ?_;refine lB S rfl rfl ?_;refine jZ S ?_;(first|(refine cS ?_ ?_<;>intro hc))<;>(refine qf ?_))|(refine qc 6 ?_;refine mv ?_;refine qf ?_)))
 ·(repeat (refine qg ?_));refine jm (id:=4) [(1,(0,1)),(5,(0,1))] [some (q),some (Xr vg.val)] ?_;refine qh ?_;(first|(refine vl ?_<;>refine qf ⟨⟨by (first|exact True.intro),rfl⟩,?_⟩));refine qh ?_;(first|(refine lB S rfl rfl ?_<;>refine qf ⟨⟨by (first|exact Or.inr rfl),rfl⟩,?_⟩));refine qh ?_;(first|(refine mv ?_<;>refine qf ⟨⟨by (first|exact True.intro),rfl⟩,?_⟩));refine qh ?_;(first|(refine QE S ?_<;>refine qf ⟨⟨by (first|exact True.intro),rfl⟩,?_⟩));refine qh ?_;(first|(refine fB S ?_<;>refine qf ⟨⟨by (first|exact True.intro),rfl⟩,?_⟩));refine qh ?_;(first|(refine Qk S ?_<;>refine qf ⟨⟨by (first|exact Or.inr (congrArg some (QG _ _ _ _))),rfl⟩,?_⟩));refine qh ?_;(first|(refine mv ?_<;>refine qf ⟨⟨by (first|exact True.intro),rfl⟩,?_⟩));((refine qh ?_;first|refine qx rfl rfl rfl rfl rfl ((ZV S.wf j hj).mono ?_));rintro _ h ⟨rfl,x⟩)<;>((refine qf ⟨⟨True.intro,?_⟩,?_⟩;(focus ((show keepsX _ _ _ _ _;simp only [keepsX];(repeat' (first|exact True.intro|refine And.intro ?_ ?_));all_goals (intro hw;first|exact x.ext.old _ S.bB|exact x.ext.old _ (S.bX (by assumption) (by assumption) (by first|omega)))))));replace S:=S.join0 x;clear x;refine qh ?_;(first|((refine tS ?_ ?_<;>intro hc)<;>refine qf ⟨⟨by (first|exact True.intro),rfl⟩,?_⟩))<;>(refine jw ?_))
  ·all_goals (repeat' (first|refine qg ?_|refine qi rfl ?_|(refine qc 5 ?_;refine mv ?_;refine qf ?_)))
   refine qw ⟨_,rfl,?_⟩;exact ⟨.inl ⟨rfl,i,by omega,by simpa using hc⟩,S.drop⟩
  ·all_goals (repeat' (first|refine qi rfl ?_|refine qj ?_|(refine qc 3 ?_;refine mv ?_;refine ad ?_;refine mv ?_;refine qf ?_)))
   refine ⟨i+1,?_,?_,qy⟩
   ·show gs.length - (i+1)<gs.length - i;omega
   ·exact ⟨S,by omega,Zf g2 (by simpa using hc)⟩
 ·refine qw ⟨_,rfl,?_⟩;exact ⟨.inr ⟨rfl,fun ⟨k,h1,h2⟩=>g2 k (by omega) h2⟩,S.drop⟩
end Go.Proofs.Xx
