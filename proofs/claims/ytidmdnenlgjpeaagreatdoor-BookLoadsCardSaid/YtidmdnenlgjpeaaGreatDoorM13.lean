/-
  The reference: At,between,Tied,words copied and sorted,Names,With,Shared,Common.
-/
import Derived.Test.YtidmdnenlgjpeaaGreatDoorM12
import Derived.Test.YtidmdnenlgjpeaaGreatDoorM10
import Derived.Test.YtidmdnenlgjpeaaGreatDoorM9
import Derived.Test.YtidmdnenlgjpeaaGreatDoorM11
namespace Go.Proofs.Xx
open Go Go.Proofs
set_option linter.unusedSimpArgs false
set_option linter.unusedVariables false
set_option linter.unusedSectionVars false
set_option maxRecDepth 100000
set_option maxHeartbeats 4000000
theorem SS.eq:∀ {l m:List (List UInt8)},SS l→SS m→(∀ x,x∈l↔x∈m)→l=m:=by
 intro l m hl hm h
 have le:l.length=m.length:=Nat.le_antisymm (Qm hl.nodup fun x hx=>(h x).1 hx) (Qm hm.nodup fun x hx=>(h x).2 hx)
 apply QX le
 intro i
 induction i using Nat.strongRecOn with
 | _ i ih =>
  intro hi
  have key:∀ {a b:List (List UInt8)},SS a→SS b→(∀ x,x∈a→x∈b)→i<a.length→(∀ j,j<i→j<a.length→a.getD j default=b.getD j default)→¬ zy (a.getD i default) (b.getD i default):=fun {a b} ha hb hab hi hj q=>by
   obtain ⟨j,j1,j2⟩:=qR.1 (hab _ (qQ hi))
   rcases Nat.lt_or_ge j i with z|z
   ·have:=hj j z (by omega)
    have n:=ha j i z hi
    rw [this,j2] at n
    exact zu _ n
   ·have:=hb.le z j1
    rw [j2] at this
    exact this q
  have k1:=key hl hm (fun x=>(h x).1) hi fun j hj hj2=>ih j hj hj2
  have k2:=key hm hl (fun x=>(h x).2) (by omega) fun j hj hj2=>(ih j hj (by omega)).symm
  rcases Jt k1 with q|q
  ·exact q.symm
  ·exact absurd q k2
def btw (t:Ti) (a b:List UInt8):Prop:=(t.a=a∧t.b=b)∨(t.a=b∧t.b=a)
theorem Pv {r:Rl} (H:RO r) {a b:List UInt8} {t:Ti} (ht:t∈r.ts) (h:btw t a b):Zn r.ts a b=some t:=by
 have hlt:=(H.tt t ht).1
 rcases h with ⟨rfl,rfl⟩|⟨rfl,rfl⟩
 ·exact XZ H.ts ht (QS hlt).symm (QT hlt).symm
 ·rw [VG];exact XZ H.ts ht (QS hlt).symm (QT hlt).symm
theorem G9 {r:Rl} {a b:List UInt8} {t:Ti} (h:Zn r.ts a b=some t):btw t a b:=by
 obtain ⟨x,h1,h2,h3⟩:=yg h
 obtain ⟨g1,g2,g3⟩:=Jq h
 unfold btw
 by_cases q:zy b a
 ·have e1:Qs a b=b:=if_pos q
  have e2:Qu a b=a:=if_neg (zY q)
  exact .inr ⟨by rw [g2,e1],by rw [g3,e2]⟩
 ·have e1:Qs a b=a:=if_neg q
  refine .inl ⟨by rw [g2,e1],?_⟩
  rw [g3];unfold Qu
  split
  ·rfl
  ·rename_i q2
   rcases Jt q with e|e
   ·exact e
   ·exact absurd e q2
variable [Flag]
theorem JS {h0:AH} (w:WfH h0) (v:Value) (gs:List Ze) (hr:Qd h0 v 9 eG gs) (hl:gs.length≤9223372036854775807) (n:List UInt8):Fn Tryz.prog Xh 80 [v,str n] h0 (fun u h'=>((∃ i:Nat,gat (gs.map (·.toGu)) n=some i∧i<gs.length∧u = .int .i64 i)∨(gat (gs.map (·.toGu)) n=none∧u = .int .i64 (-1)))∧Hs h0 h' []):=by
 have S:=Hs.start w
 refine zg rfl Tryz.func80 rfl rfl ?_
 all_goals (repeat' (first|refine qw ?_|refine qh rfl ?_|refine qi ?_|refine qp ?_|refine qg ?_|refine qj ?_|refine qo ?_|(refine qc 0 ?_;refine mv ?_;refine qf ?_)|(refine qc 1 ?_;refine mv ?_;refine qf ?_)))
 refine qM (σ:=Nat) (fun i h'=>Hs h0 h' []∧i≤gs.length∧∀ j,j<i→(gs.getD j default).name≠n) (fun i=>gs.length - i) (fun i=>[(0,v),(1,str n),(5,.int .i64 i)]) 0 (by repeat (first|exact Ks.le_nil _|refine Ks.qx rfl ?_|refine Ks.qA ?_)) ?_ ?_
 ·exact ⟨S,Nat.zero_le _,fun j hj=>absurd hj (Nat.not_lt_zero _)⟩
 clear S
 rintro i h ⟨S,g1,g2⟩
 have e:∀ j,j<gs.length→((gs.map (fun g:Ze=>g.toGu)).getD j default).name=(gs.getD j default).name:=fun j hj=>by rw [zq (f:=fun g:Ze=>g.toGu) hj]
 all_goals (repeat' (first|refine qw ?_|refine qh rfl ?_|refine qi ?_|refine qp ?_|refine qg ?_|refine qj ?_|refine qo ?_|(refine qc 2 ?_;refine mv ?_;refine mv ?_;(first|refine jA S ?_|refine jZ S rfl rfl ?_);(first|refine cT ?_|refine cF ?_|(refine cS ?_ ?_<;>intro hc))<;>(refine qf ?_))))
 ·have hil:i<gs.length:=by omega
  all_goals (repeat' (first|refine qw ?_|refine qh rfl ?_|refine qi ?_|refine qp ?_|refine qg ?_|refine qj ?_|refine qo ?_|(refine qc 4 ?_;refine mv ?_;refine mv ?_;(first|refine zK S ?_|refine qC S rfl rfl ?_);(first|refine vl ?_|refine fB S ?_|refine fS S rfl rfl ?_|refine fA ?_);(first|refine lB S rfl rfl ?_|refine qy S rfl rfl ?_|refine qU S ?_|refine lH S ?_);refine mv ?_;(refine tS ?_ ?_<;>intro hc)<;>(refine qf ?_))|(refine qc 5 ?_;refine mv ?_;refine mv ?_;refine qf ?_)))
  all_goals (try simp only [Int.toNat_natCast] at *)
  ·refine qI ⟨_,rfl,?_⟩
   refine ⟨.inl ⟨i,?_,hil,rfl⟩,S⟩
   cases hq:gat (gs.map (·.toGu)) n with
   | none=>exact absurd (by rw [e i hil];exact hc) (JZ.1 hq _ (qQ (show i<(gs.map (·.toGu)).length by simp;exact hil)))
   | some k =>
    obtain ⟨h1,h2,h3⟩:=Yk hq
    simp only [List.length_map] at h1
    rw [e k h1] at h2
    rcases Nat.lt_trichotomy i k with q|q|q
    ·exact absurd (by rw [e i hil];exact hc) (h3 i q)
    ·rw [q]
    ·exact absurd h2 (g2 k q)
  ·all_goals (repeat' (first|refine qw ?_|refine qh rfl ?_|refine qi ?_|refine qp ?_|refine qg ?_|refine qj ?_|refine qo ?_|(refine qc 3 ?_;refine mv ?_;(first|refine ad ?_|refine vl ?_);refine mv ?_;refine qf ?_)))
   refine ⟨i+1,?_,?_,(by repeat (first|exact Ks.le_nil _|refine Ks.qx rfl ?_|refine Ks.qA ?_))⟩
   ·show gs.length - (i+1)<gs.length - i;omega
   ·exact ⟨S,by omega,QZ g2 hc⟩
 ·skip
  all_goals (repeat' (first|refine qw ?_|refine qh rfl ?_|refine qi ?_|refine qp ?_|refine qg ?_|refine qj ?_|refine qo ?_|(refine qc 6 ?_;refine mv ?_;refine qf ?_)))
  refine qI ⟨_,rfl,?_⟩
  refine ⟨.inr ⟨JZ.2 fun g hg=>?_,rfl⟩,S⟩
  obtain ⟨j,hj,rfl⟩:=qR.1 hg
  simp only [List.length_map] at hj
  rw [e j hj];exact g2 j (by omega)
theorem qbu {h0:AH} (w:WfH h0) (v:Value) (ts:List Ti) (hr:Qd h0 v 3 jK ts) (hl:ts.length≤9223372036854775807) (a b:List UInt8):Fn Tryz.prog Xh 131 [v,str a,str b] h0 (fun u h'=>((∃ i:Nat,i<ts.length∧btw (ts.getD i default) a b∧(∀ j,j<i→¬ btw (ts.getD j default) a b)∧u = .int .i64 i)∨((∀ j,j<ts.length→¬ btw (ts.getD j default) a b)∧u = .int .i64 (-1)))∧Hs h0 h' []):=by
 have S:=Hs.start w
 refine zg rfl Tryz.func131 rfl rfl ?_
 all_goals (repeat' (first|refine qw ?_|refine qh rfl ?_|refine qi ?_|refine qp ?_|refine qg ?_|refine qj ?_|refine qo ?_|(refine qc 0 ?_;refine mv ?_;refine qf ?_)|(refine qc 1 ?_;refine mv ?_;refine qf ?_)))
 refine qM (σ:=Nat) (fun i h'=>Hs h0 h' []∧i≤ts.length∧∀ j,j<i→¬ btw (ts.getD j default) a b) (fun i=>ts.length - i) (fun i=>[(0,v),(1,str a),(2,str b),(7,.int .i64 i)]) 0 (by repeat (first|exact Ks.le_nil _|refine Ks.qx rfl ?_|refine Ks.qA ?_)) ?_ ?_
 ·exact ⟨S,Nat.zero_le _,fun j hj=>absurd hj (Nat.not_lt_zero _)⟩
 clear S
 rintro i h ⟨S,g1,g2⟩
 all_goals (repeat' (first|refine qw ?_|refine qh rfl ?_|refine qi ?_|refine qp ?_|refine qj ?_|refine qo ?_|(refine qc 2 ?_;refine mv ?_;refine mv ?_;(first|refine jA S ?_|refine jZ S rfl rfl ?_);(first|refine cT ?_|refine cF ?_|(refine cS ?_ ?_<;>intro hc))<;>(refine qf ?_))))
 ·have hil:i<ts.length:=by omega
  (repeat (refine qw ?_));first|refine Xq (σ:=Unit) (fun _ h'=>Hs h0 h' []∧¬ btw (ts.getD i default) a b) (fun _=>[(0,v),(1,str a),(2,str b),(7,.int .i64 i)]) ?_ ?_|refine je (σ:=Unit) (fun _ h'=>Hs h0 h' []∧¬ btw (ts.getD i default) a b) (fun _=>[(0,v),(1,str a),(2,str b),(7,.int .i64 i)]) ?_ ?_
  ·all_goals (repeat' (first|refine qw ?_|refine qh rfl ?_|refine qi ?_|refine qp ?_|refine qg ?_|refine qj ?_|refine qo ?_|(refine qc 4 ?_;refine mv ?_;refine mv ?_;(first|refine zK S ?_|refine qC S rfl rfl ?_);(first|refine vl ?_|refine fB S ?_|refine fS S rfl rfl ?_|refine fA ?_);(first|refine lB S rfl rfl ?_|refine qy S rfl rfl ?_|refine qU S ?_|refine lH S ?_);refine mv ?_;(refine tS ?_ ?_<;>intro hc)<;>(refine mv ?_;(first|refine off ?_|refine mv ?_);(first|refine off ?_|refine mv ?_);(first|refine off ?_|(first|refine zK S ?_|refine qC S rfl rfl ?_));(first|refine off ?_|(first|refine vl ?_|refine fB S ?_|refine fS S rfl rfl ?_|refine fA ?_));(first|refine off ?_|(first|refine lB S rfl rfl ?_|refine qy S rfl rfl ?_|refine qU S ?_|refine lH S ?_));(first|refine off ?_|refine mv ?_);(first|refine off ?_|(refine tS ?_ ?_<;>intro hc))<;>(refine vl ?_;refine mv ?_;(first|refine off ?_|refine mv ?_);(first|refine off ?_|refine mv ?_);(first|refine off ?_|(first|refine zK S ?_|refine qC S rfl rfl ?_));(first|refine off ?_|(first|refine vl ?_|refine fB S ?_|refine fS S rfl rfl ?_|refine fA ?_));(first|refine off ?_|(first|refine lB S rfl rfl ?_|refine qy S rfl rfl ?_|refine qU S ?_|refine lH S ?_));(first|refine off ?_|refine mv ?_);(first|refine off ?_|(refine tS ?_ ?_<;>intro hc))<;>((first|refine off ?_|refine mv ?_);(first|refine off ?_|refine mv ?_);(first|refine off ?_|refine mv ?_);(first|refine off ?_|(first|refine zK S ?_|refine qC S rfl rfl ?_));(first|refine off ?_|(first|refine vl ?_|refine fB S ?_|refine fS S rfl rfl ?_|refine fA ?_));(first|refine off ?_|(first|refine lB S rfl rfl ?_|refine qy S rfl rfl ?_|refine qU S ?_|refine lH S ?_));(first|refine off ?_|refine mv ?_);(first|refine off ?_|(refine tS ?_ ?_<;>intro hc))<;>((first|refine off ?_|refine vl ?_);refine vl ?_;refine qf ?_)))))|(refine qc 5 ?_;refine mv ?_;refine mv ?_;refine qf ?_)))
   all_goals (try simp only [Int.toNat_natCast] at *)
   all_goals first
    | exact ⟨(),⟨S,by unfold btw;grind⟩,((by repeat (first|exact Ks.le_nil _|refine Ks.qx rfl ?_|refine Ks.qA ?_)))⟩
    | (refine qI ⟨_,rfl,?_⟩;exact ⟨.inl ⟨i,hil,by unfold btw;grind,g2,rfl⟩,S⟩)
  ·clear S
   rintro - h ⟨S,hb⟩
   skip
   all_goals (repeat' (first|refine qw ?_|refine qh rfl ?_|refine qi ?_|refine qp ?_|refine qg ?_|refine qj ?_|refine qo ?_|(refine qc 3 ?_;refine mv ?_;(first|refine ad ?_|refine vl ?_);refine mv ?_;refine qf ?_)))
   refine ⟨i+1,?_,?_,(by repeat (first|exact Ks.le_nil _|refine Ks.qx rfl ?_|refine Ks.qA ?_))⟩
   ·show ts.length - (i+1)<ts.length - i;omega
   ·exact ⟨S,by omega,QZ g2 hb⟩
 ·skip
  all_goals (repeat' (first|refine qw ?_|refine qh rfl ?_|refine qi ?_|refine qp ?_|refine qg ?_|refine qj ?_|refine qo ?_|(refine qc 6 ?_;refine mv ?_;refine qf ?_)))
  refine qI ⟨_,rfl,?_⟩
  exact ⟨.inr ⟨fun j hj=>g2 j (by omega),rfl⟩,S⟩
theorem qac {h0:AH} (w:WfH h0) (v:RlV) (r:Rl) (HR:RlOk h0 v r) (H:RO r) (na nb:List UInt8):Fn Tryz.prog Xh 83 [v.val,str na,str nb] h0 (fun u h'=>((∃ t,Zn r.ts na nb=some t∧u = .tuple #[.int .u8 t.k,.bool true])∨(Zn r.ts na nb=none∧u = .tuple #[.int .u8 0,.bool false]))∧Hs h0 h' []):=by
 have S:=Hs.start w
 have hrt:=HR.rt
 have hlt:=HR.lt
 unfold RlV.val
 refine zg rfl Tryz.func83 rfl rfl ?_
 all_goals (repeat' (first|refine qw ?_|refine qh rfl ?_|refine qi ?_|refine qp ?_|refine qg ?_|refine qj ?_|refine qo ?_|(refine qc 0 ?_;(refine bx S ?_;clear S;intro b h S);refine mv ?_;refine mv ?_;refine qf ?_)|(refine qc 1 ?_;(first|refine vl ?_|refine fB S ?_|refine fS S rfl rfl ?_|refine fA ?_);(first|refine lB S rfl rfl ?_|refine qy S rfl rfl ?_|refine qU S ?_|refine lH S ?_);refine mv ?_;refine mv ?_)))
 (refine qE rfl rfl rfl rfl rfl ((qbu S.wf v.vt.val r.ts (hrt.ext w S.ext) hlt na nb).mono ?_);rintro _ h ⟨⟨i,i1,i2,i3,rfl⟩|⟨i1,rfl⟩,x⟩)<;>(replace S:=S.qW x;clear x;refine mv ?_;refine qf ?_)
 ·all_goals (repeat' (first|refine qw ?_|refine qh rfl ?_|refine qi ?_|refine qp ?_|refine qg ?_|refine qj ?_|refine qo ?_|(refine qc 2 ?_;refine mv ?_;(first|refine cT ?_|refine cF ?_|(refine cS ?_ ?_<;>intro hc))<;>(refine qf ?_))|(refine qc 3 ?_;refine mv ?_;refine mv ?_;refine qf ?_)|(refine qc 4 ?_;(first|refine vl ?_|refine fB S ?_|refine fS S rfl rfl ?_|refine fA ?_);(first|refine lB S rfl rfl ?_|refine qy S rfl rfl ?_|refine qU S ?_|refine lH S ?_);refine mv ?_;(first|refine zK S ?_|refine qC S rfl rfl ?_);(first|refine vl ?_|refine fB S ?_|refine fS S rfl rfl ?_|refine fA ?_);(first|refine lB S rfl rfl ?_|refine qy S rfl rfl ?_|refine qU S ?_|refine lH S ?_);refine mv ?_;refine mv ?_;refine qf ?_)))
  refine qI ⟨_,rfl,?_⟩
  exact ⟨.inl ⟨_,Pv H (qQ i1) i2,rfl⟩,S.drop⟩
 ·skip
  all_goals (repeat' (first|refine qw ?_|refine qh rfl ?_|refine qi ?_|refine qp ?_|refine qg ?_|refine qj ?_|refine qo ?_|(refine qc 2 ?_;refine mv ?_;(first|refine cT ?_|refine cF ?_|(refine cS ?_ ?_<;>intro hc))<;>(refine qf ?_))|(refine qc 3 ?_;refine mv ?_;refine mv ?_;refine qf ?_)|(refine qc 4 ?_;(first|refine vl ?_|refine fB S ?_|refine fS S rfl rfl ?_|refine fA ?_);(first|refine lB S rfl rfl ?_|refine qy S rfl rfl ?_|refine qU S ?_|refine lH S ?_);refine mv ?_;(first|refine zK S ?_|refine qC S rfl rfl ?_);(first|refine vl ?_|refine fB S ?_|refine fS S rfl rfl ?_|refine fA ?_);(first|refine lB S rfl rfl ?_|refine qy S rfl rfl ?_|refine qU S ?_|refine lH S ?_);refine mv ?_;refine mv ?_;refine qf ?_)))
  refine qI ⟨_,rfl,?_⟩
  refine ⟨.inr ⟨?_,rfl⟩,S.drop⟩
  cases hq:Zn r.ts na nb with
  | none=>rfl
  | some t =>
   obtain ⟨j,j1,j2⟩:=qR.1 (Jq hq).1
   exact absurd (j2 ▸ G9 hq) (i1 j j1)
theorem qaz {h0:AH} (w:WfH h0) (v:Value) (l:List (List UInt8)) (hr:Qd h0 v 1 eS l) (hl:l.length≤8796093021952):Fn Tryz.prog Xh 124 [v] h0 (fun u h'=>Hs h0 h' [.sl u 9 1 eS l]):=by
 have S:=Hs.start w
 refine zg rfl Tryz.func124 rfl rfl ?_
 all_goals (repeat' (first|refine qw ?_|refine qh rfl ?_|refine qi ?_|refine qp ?_|refine qg ?_|refine qj ?_|refine qo ?_|(refine qc 0 ?_;refine mv ?_;refine qf ?_)|(refine qc 1 ?_;refine mv ?_;refine qf ?_)|(refine qc 2 ?_;refine mv ?_;refine qf ?_)))
 have S:=S.Zv (e:=9) (z:=1) (enc:=eS)
 refine qM (σ:=Nat×Value) (fun (i,v3) h'=>Hs h0 h' [.sl v3 9 1 eS (l.take i)]∧i≤l.length) (fun (i,v3)=>l.length - i) (fun (i,v3)=>[(0,v),(3,v3),(4,.int .i64 i)]) (0,.slice none 0 0) (by repeat (first|exact Ks.le_nil _|refine Ks.qx rfl ?_|refine Ks.qA ?_)) ?_ ?_
 ·exact ⟨S,Nat.zero_le _⟩
 clear S
 rintro ⟨i,v3⟩ h ⟨S,g1⟩
 have htl:(l.take i).length≤8796093021952:=by simp;omega
 all_goals (repeat' (first|refine qw ?_|refine qh rfl ?_|refine qi ?_|refine qp ?_|refine qg ?_|refine qj ?_|refine qo ?_|(refine qc 3 ?_;refine mv ?_;refine mv ?_;(first|refine jA S ?_|refine jZ S rfl rfl ?_);(first|refine cT ?_|refine cF ?_|(refine cS ?_ ?_<;>intro hc))<;>(refine qf ?_))))
 ·have hil:i<l.length:=by omega
  all_goals (repeat' (first|refine qw ?_|refine qh rfl ?_|refine qi ?_|refine qp ?_|refine qg ?_|refine qj ?_|refine qo ?_|(refine qc 5 ?_;(iterate 3 refine mv ?_);(first|refine zK S ?_|refine qC S rfl rfl ?_);(first|refine lB S rfl rfl ?_|refine qy S rfl rfl ?_|refine qU S ?_|refine lH S ?_);(refine one 1 S ?_;clear S;intro u h S))))
  simp only [Int.toNat_natCast] at *
  refine app (y0:=l.getD i default) S rfl rfl ?_;clear S;intro v3 h S;(refine mv ?_;refine qf ?_)
  all_goals (repeat' (first|refine qw ?_|refine qh rfl ?_|refine qi ?_|refine qp ?_|refine qg ?_|refine qj ?_|refine qo ?_|(refine qc 4 ?_;refine mv ?_;(first|refine ad ?_|refine vl ?_);refine mv ?_;refine qf ?_)))
  refine ⟨(i+1,v3),?_,?_,(by repeat (first|exact Ks.le_nil _|refine Ks.qx rfl ?_|refine Ks.qA ?_))⟩
  ·show l.length - (i+1)<l.length - i;omega
  ·refine ⟨?_,by (try dsimp only);omega⟩
   dsimp only
   rw [zk hil];exact S
 ·obtain rfl:i=l.length:=by omega
  rw [List.take_length] at S
  skip
  all_goals (repeat' (first|refine qw ?_|refine qh rfl ?_|refine qi ?_|refine qp ?_|refine qg ?_|refine qj ?_|refine qo ?_|(refine qc 6 ?_;refine mv ?_;refine mv ?_;refine qf ?_)))
  refine qI ⟨_,rfl,?_⟩
  exact S
end Go.Proofs.Xx
namespace Go.Proofs.Xx
open Go Go.Proofs
set_option linter.unusedSimpArgs false
set_option linter.unusedVariables false
set_option linter.unusedSectionVars false
set_option maxRecDepth 100000
set_option maxHeartbeats 4000000
theorem qb5 {r:Rl} {i:Nat} (h:¬ ((r.ts.getD i default).k=1∨(r.ts.getD i default).k=2)∨¬ zy (r.ts.getD i default).a (r.ts.getD i default).b∨(0<i∧Zm (r.ts.getD i default) (r.ts.getD (i - 1) default))):Xr r i=23:=by
 unfold Xr
 split
 ·rename_i q
  rcases h with h|h|h
  ·unfold Zo
   rw [if_pos (.inl (by omega))]
  ·exact absurd q.1 h
  ·rcases q.2 with z|z
   ·omega
   ·exact absurd h.2 z
 ·rfl
structure TGd (r:Rl) (i:Nat):Prop where
 k:(r.ts.getD i default).k=1∨(r.ts.getD i default).k=2
 lt:zy (r.ts.getD i default).a (r.ts.getD i default).b
 pl:i=0∨¬ Zm (r.ts.getD i default) (r.ts.getD (i - 1) default)
theorem TGd.eq {r:Rl} {i:Nat} (g:TGd r i):Xr r i=(Zo ⟨r.us,r.ts.take i⟩ (r.ts.getD i default).a (r.ts.getD i default).b (r.ts.getD i default).k).2:=by
 unfold Xr;rw [if_pos ⟨g.lt,g.pl⟩]
theorem TGd.nk {r:Rl} {i:Nat} (g:TGd r i):¬ (((r.ts.getD i default).k≠1∧(r.ts.getD i default).k≠2)∨(r.ts.getD i default).a=(r.ts.getD i default).b):=by
 rintro (q|q)
 ·have:=g.k;omega
 ·exact yH g.lt q
theorem TGd.e6 {r:Rl} {i:Nat} (g:TGd r i) (h:gat r.us (r.ts.getD i default).a=none∨gat r.us (r.ts.getD i default).b=none):Xr r i=6:=by
 rw [g.eq,kX (r:=⟨r.us,r.ts.take i⟩) g.nk h]
theorem TGd.tied {r:Rl} {i:Nat} (g:TGd r i) (hi:i<r.ts.length) (hp:TS (r.ts.take i)):tied (r.ts.take i) (r.ts.getD i default).a (r.ts.getD i default).b↔(0<i∧¬ Zm (r.ts.getD (i - 1) default) (r.ts.getD i default)):=by
 unfold Xx.tied
 rw [QS g.lt,QT g.lt]
 have hl:(r.ts.take i).length=i:=by simp;omega
 constructor
 ·rintro ⟨t,h1,h2,h3⟩
  obtain ⟨j,j1,j2⟩:=qR.1 h1
  rw [hl] at j1
  rw [getD_take j1] at j2
  refine ⟨by omega,fun q=>?_⟩
  have hb:Zm t (r.ts.getD i default):=by
   rcases Nat.eq_or_lt_of_le (show j≤i - 1 by omega) with e|e
   ·rw [← j2,e];exact q
   ·have:=hp.lt e (by rw [hl];omega)
    rw [getD_take j1,getD_take (by omega),j2] at this
    exact QQ this q
  rcases hb with q|q
  ·rw [h2] at q;exact zu _ q
  ·rw [h3] at q;exact zu _ q.2
 ·rintro ⟨h0,h1⟩
  rcases VD (r.ts.getD (i - 1) default) (r.ts.getD i default) with q|q|q
  ·exact absurd q h1
  ·refine ⟨r.ts.getD (i - 1) default,?_,q⟩
   have:=qQ (l:=r.ts.take i) (i:=i - 1) (by rw [hl];omega)
   rwa [getD_take (by omega)] at this
  ·exact absurd q (g.pl.resolve_left (by omega))
theorem TGd.e5 {r:Rl} {i:Nat} (g:TGd r i) (hi:i<r.ts.length) (hp:TS (r.ts.take i)) (h:¬ (gat r.us (r.ts.getD i default).a=none∨gat r.us (r.ts.getD i default).b=none)) (hb:0<i∧¬ Zm (r.ts.getD (i - 1) default) (r.ts.getD i default)):Xr r i=5:=by
 rw [g.eq,kY (r:=⟨r.us,r.ts.take i⟩) g.nk h ((g.tied hi hp).2 hb)]
theorem TGd.e7 {r:Rl} {i:Nat} (g:TGd r i) (hi:i<r.ts.length) (hp:TS (r.ts.take i)) (h:¬ (gat r.us (r.ts.getD i default).a=none∨gat r.us (r.ts.getD i default).b=none)) (hb:¬ (0<i∧¬ Zm (r.ts.getD (i - 1) default) (r.ts.getD i default))) (h7:256≤i):Xr r i=7:=by
 rw [g.eq,kW (r:=⟨r.us,r.ts.take i⟩) g.nk h (fun q=>hb ((g.tied hi hp).1 q)) (by simp;omega)]
theorem TGd.e0 {r:Rl} {i:Nat} (g:TGd r i) (hi:i<r.ts.length) (hp:TS (r.ts.take i)) (h:¬ (gat r.us (r.ts.getD i default).a=none∨gat r.us (r.ts.getD i default).b=none)) (hb:¬ (0<i∧¬ Zm (r.ts.getD (i - 1) default) (r.ts.getD i default))) (h7:¬ 256≤i):Xr r i=0:=by
 rw [g.eq,yu (r:=⟨r.us,r.ts.take i⟩) g.nk h (fun q=>hb ((g.tied hi hp).1 q)) (by simp;omega)]
variable [Flag]
theorem yf {h0:AH} (w:WfH h0) (x y:Ti):Fn Tryz.prog Xh 81 [tiV x,tiV y] h0 (fun u h'=>Zd u (Zm x y)∧Hs h0 h' []):=by
 have S:=Hs.start w
 unfold tiV
 refine zg rfl Tryz.func81 rfl rfl ?_
 all_goals (repeat' (first|refine qw ?_|refine qh rfl ?_|refine qi ?_|refine qp ?_|refine qg ?_|refine qj ?_|refine qo ?_|(refine qc 0 ?_;(refine bx S ?_;clear S;intro b h S);(refine bx S ?_;clear S;intro b h S);refine mv ?_;refine qf ?_)|(refine qc 1 ?_;(first|refine vl ?_|refine fB S ?_|refine fS S rfl rfl ?_|refine fA ?_);(first|refine lB S rfl rfl ?_|refine qy S rfl rfl ?_|refine qU S ?_|refine lH S ?_);(first|refine vl ?_|refine fB S ?_|refine fS S rfl rfl ?_|refine fA ?_);(first|refine lB S rfl rfl ?_|refine qy S rfl rfl ?_|refine qU S ?_|refine lH S ?_);(refine tO ?_ ?_<;>intro hc)<;>(refine mv ?_;(first|refine off ?_|(first|refine vl ?_|refine fB S ?_|refine fS S rfl rfl ?_|refine fA ?_));(first|refine off ?_|(first|refine lB S rfl rfl ?_|refine qy S rfl rfl ?_|refine qU S ?_|refine lH S ?_));(first|refine off ?_|(first|refine vl ?_|refine fB S ?_|refine fS S rfl rfl ?_|refine fA ?_));(first|refine off ?_|(first|refine lB S rfl rfl ?_|refine qy S rfl rfl ?_|refine qU S ?_|refine lH S ?_));(first|refine off ?_|(refine tS ?_ ?_<;>intro hc))<;>((first|refine off ?_|refine mv ?_);(first|refine off ?_|(first|refine vl ?_|refine fB S ?_|refine fS S rfl rfl ?_|refine fA ?_));(first|refine off ?_|(first|refine lB S rfl rfl ?_|refine qy S rfl rfl ?_|refine qU S ?_|refine lH S ?_));(first|refine off ?_|(first|refine vl ?_|refine fB S ?_|refine fS S rfl rfl ?_|refine fA ?_));(first|refine off ?_|(first|refine lB S rfl rfl ?_|refine qy S rfl rfl ?_|refine qU S ?_|refine lH S ?_));(first|refine off ?_|(refine tO ?_ ?_<;>intro hc))<;>((first|refine off ?_|refine vl ?_);refine vl ?_;refine mv ?_;refine qf ?_))))))
 all_goals (refine qI ⟨_,rfl,?_⟩)
 all_goals first
  | exact ⟨.inl ⟨rfl,by unfold Zm;grind⟩,S.drop⟩
  | exact ⟨.inr ⟨rfl,by unfold Zm;grind⟩,S.drop⟩
theorem qaJ {h0:AH} (w:WfH h0) (v:RlV) (r:Rl) (HR:RlOk h0 v r):Fn Tryz.prog Xh 31 [v.val] h0 (fun u h'=>Zd u (r.us.length≤200∧r.ts.length≤600)∧Hs h0 h' []):=by
 have S:=Hs.start w
 have hrg:=HR.rg
 have hrt:=HR.rt
 have hgl:=HR.len
 have hlg:=HR.lg
 have hlt:=HR.lt
 unfold RlV.val
 refine zg rfl Tryz.func31 rfl rfl ?_
 all_goals (repeat' (first|refine qw ?_|refine qh rfl ?_|refine qi ?_|refine qp ?_|refine qg ?_|refine qj ?_|refine qo ?_|(refine qc 0 ?_;(refine bx S ?_;clear S;intro b h S);refine mv ?_;refine qf ?_)|(refine qc 1 ?_;(first|refine vl ?_|refine fB S ?_|refine fS S rfl rfl ?_|refine fA ?_);(first|refine lB S rfl rfl ?_|refine qy S rfl rfl ?_|refine qU S ?_|refine lH S ?_);(first|refine jA S ?_|refine jZ S rfl rfl ?_);(first|refine cT ?_|refine cF ?_|(refine cS ?_ ?_<;>intro hc))<;>(refine mv ?_;(first|refine off ?_|(first|refine vl ?_|refine fB S ?_|refine fS S rfl rfl ?_|refine fA ?_));(first|refine off ?_|(first|refine lB S rfl rfl ?_|refine qy S rfl rfl ?_|refine qU S ?_|refine lH S ?_));(first|refine off ?_|(first|refine jA S ?_|refine jZ S rfl rfl ?_));(first|refine off ?_|(first|refine cT ?_|refine cF ?_|(refine cS ?_ ?_<;>intro hc)))<;>(refine vl ?_;refine mv ?_;refine qf ?_)))))
 all_goals (refine qI ⟨_,rfl,?_⟩)
 all_goals first
  | exact ⟨.inl ⟨rfl,by omega⟩,S.drop⟩
  | exact ⟨.inr ⟨rfl,by omega⟩,S.drop⟩
end Go.Proofs.Xx
namespace Go.Proofs.Xx
open Go Go.Proofs
set_option linter.unusedSimpArgs false
set_option linter.unusedVariables false
set_option linter.unusedSectionVars false
set_option maxRecDepth 100000
set_option maxHeartbeats 4000000
variable [Flag]
theorem xI {h0:AH} (w:WfH h0) (v:RlV) (r:Rl) (HR:RlOk h0 v r) (hcap:Jl v.vg.val) (hb:r.us.length≤200∧r.ts.length≤600):Fn Tryz.prog Xh 32 [v.val] h0 (fun u h'=>((u = .tuple #[.int .i64 0,.int .i64 0]∧VRl r)∨∃ i e,u = .tuple #[.int .i64 i,.int .i64 e]∧Bad r i e)∧Hs h0 h' []):=by
 have S:=Hs.start w
 have hrg:=HR.rg
 have hrt:=HR.rt
 have hgl:=HR.len
 unfold RlV.val
 refine zg rfl Tryz.func32 rfl rfl ?_
 all_goals (repeat' (first|refine qw ?_|refine qh rfl ?_|refine qi ?_|refine qp ?_|refine qg ?_|refine qj ?_|refine qo ?_|(refine qc 0 ?_;(refine bx S ?_;clear S;intro b h S);refine mv ?_;refine mv ?_;refine qf ?_)))
 obtain ⟨b1,hnm⟩:∃ x,x=b:=⟨_,rfl⟩;subst hnm
 replace S:Hs h0 h (.blk b1 [v.vg.val,v.vt.val] 32 :: []):=S
 all_goals (repeat' (first|refine qw ?_|refine qh rfl ?_|refine qi ?_|refine qp ?_|refine qg ?_|refine qj ?_|refine qo ?_|(refine qc 1 ?_;refine mv ?_;refine qf ?_)))
 refine qM (σ:=Nat) (fun i h'=>Hs h0 h' [.blk b1 [v.vg.val,v.vt.val] 32]∧i≤r.us.length∧(∀ k,k<i→PH r.us k=0)) (fun i=>r.us.length - i) (fun i=>[(1,.pointer (some ⟨b1,0,none⟩)),(4,.int .i64 i)]) 0 (by repeat (first|exact Ks.le_nil _|refine Ks.qx rfl ?_|refine Ks.qA ?_)) ?_ ?_
 ·exact ⟨S,Nat.zero_le _,fun j hj=>absurd hj (Nat.not_lt_zero _)⟩
 clear S
 rintro i h ⟨S,g1,g2⟩
 all_goals (repeat' (first|refine qw ?_|refine qh rfl ?_|refine qi ?_|refine qp ?_|refine qg ?_|refine qj ?_|refine qo ?_|(refine qc 2 ?_;refine mv ?_;(first|refine vl ?_|refine fB S ?_|refine fS S rfl rfl ?_|refine fA ?_);(first|refine lB S rfl rfl ?_|refine qy S rfl rfl ?_|refine qU S ?_|refine lH S ?_);(first|refine jA S ?_|refine jZ S rfl rfl ?_);(first|refine cT ?_|refine cF ?_|(refine cS ?_ ?_<;>intro hc))<;>(refine qf ?_))))
 ·have hil:i<v.gs.length:=by omega
  have hg:(v.gs.getD i default).toGu=r.us.getD i default:=HR.at_ hil
  have hge:PH r.us i=(Yu ⟨r.us.take i,[]⟩ (r.us.getD i default)).2:=rfl
  have hbad:∀ e,PH r.us i=e→e≠0→Bad r i e:=fun e h1 h2=>⟨h2,.inl ⟨i,by omega,g2,h1,rfl⟩⟩
  all_goals (repeat' (first|refine qw ?_|refine qh rfl ?_|refine qi ?_|refine qp ?_|refine qg ?_|refine qj ?_|refine qo ?_|(refine qc 4 ?_;(first|refine vl ?_|refine fB S ?_|refine fS S rfl rfl ?_|refine fA ?_);(first|refine lB S rfl rfl ?_|refine qy S rfl rfl ?_|refine qU S ?_|refine lH S ?_);refine mv ?_;(first|refine zK S ?_|refine qC S rfl rfl ?_);(first|refine lB S rfl rfl ?_|refine qy S rfl rfl ?_|refine qU S ?_|refine lH S ?_))))
  simp only [Int.toNat_natCast]
  (refine qE rfl rfl rfl rfl rfl ((wG S.wf (v.gs.getD i default) ⟨(HR.tg i hil).1.ext w S.ext,(HR.tg i hil).2⟩).mono ?_);rintro _ h ⟨rfl,x⟩)<;>(replace S:=S.qW x;clear x;refine mv ?_;refine qf ?_)
  rw [hg]
  all_goals (repeat' (first|refine qw ?_|refine qh rfl ?_|refine qi ?_|refine qp ?_|refine qg ?_|refine qj ?_|refine qo ?_|(refine qc 4 ?_;(first|refine vl ?_|refine fB S ?_|refine fS S rfl rfl ?_|refine fA ?_);(first|refine lB S rfl rfl ?_|refine qy S rfl rfl ?_|refine qU S ?_|refine lH S ?_);refine mv ?_;(first|refine zK S ?_|refine qC S rfl rfl ?_);(first|refine lB S rfl rfl ?_|refine qy S rfl rfl ?_|refine qU S ?_|refine lH S ?_))|(refine qc 5 ?_;refine mv ?_;(first|refine cT ?_|refine cF ?_|(refine cS ?_ ?_<;>intro hc))<;>(refine qf ?_))))
  ·have hne:QG (r.us.getD i default)≠0:=by assumption
   all_goals (repeat' (first|refine qw ?_|refine qh rfl ?_|refine qi ?_|refine qp ?_|refine qg ?_|refine qj ?_|refine qo ?_|(refine qc 6 ?_;(iterate 4 refine mv ?_);refine qf ?_)))
   refine qI ⟨_,rfl,?_⟩
   exact ⟨.inr ⟨_,_,rfl,hbad _ (by rw [hge,KU hne]) hne⟩,S.drop⟩
  ·have hz:QG (r.us.getD i default)=0:=by omega
   have hnm:(v.gs.getD i default).name=(r.us.getD i default).name:=by rw [← hg]
   skip
   all_goals (repeat' (first|refine qw ?_|refine qh rfl ?_|refine qi ?_|refine qp ?_|refine qg ?_|refine qj ?_|refine qo ?_|(refine qL 7 ?_;(first|refine vl ?_|refine fB S ?_|refine fS S rfl rfl ?_|refine fA ?_);(first|refine lB S rfl rfl ?_|refine qy S rfl rfl ?_|refine qU S ?_|refine lH S ?_);refine mv ?_)))
   refine su 0 i (hrg.ext w S.ext) hcap (fun va' ra' ca'=>?_)
   ((first|refine vl ?_|refine fB S ?_|refine fS S rfl rfl ?_|refine fA ?_);(first|refine lB S rfl rfl ?_|refine qy S rfl rfl ?_|refine qU S ?_|refine lH S ?_);refine mv ?_;(first|refine zK S ?_|refine qC S rfl rfl ?_);(first|refine vl ?_|refine fB S ?_|refine fS S rfl rfl ?_|refine fA ?_);(first|refine lB S rfl rfl ?_|refine qy S rfl rfl ?_|refine qU S ?_|refine lH S ?_))
   simp only [Int.toNat_natCast,hnm]
   have hmp:((v.gs.drop 0).take (i - 0)).map (·.toGu)=r.us.take i:=by rw [List.drop_zero,Nat.sub_zero,List.map_take,HR.us]
   have hll:((v.gs.drop 0).take (i - 0)).length≤9223372036854775807:=by simp;omega
   (refine qE rfl rfl rfl rfl rfl ((JS S.wf va' ((v.gs.drop 0).take (i - 0)) ra' hll (r.us.getD i default).name).mono ?_);rintro _ h ⟨⟨j,j1,j2,rfl⟩|⟨j1,rfl⟩,x⟩)<;>(replace S:=S.qW x;clear x;(first|refine cT ?_|refine cF ?_|(refine cS ?_ ?_<;>intro hc))<;>(refine qf ?_))
   all_goals rw [hmp] at j1
   ·all_goals (repeat' (first|refine qw ?_|refine qh rfl ?_|refine qi ?_|refine qp ?_|refine qg ?_|refine qj ?_|refine qo ?_|(refine qL 7 ?_;(first|refine vl ?_|refine fB S ?_|refine fS S rfl rfl ?_|refine fA ?_);(first|refine lB S rfl rfl ?_|refine qy S rfl rfl ?_|refine qU S ?_|refine lH S ?_);refine mv ?_)|(refine qc 8 ?_;(iterate 3 refine mv ?_);refine qf ?_)))
    refine qI ⟨_,rfl,?_⟩
    exact ⟨.inr ⟨_,_,rfl,hbad _ (by rw [hge,KX hz (by show gat (r.us.take i) _≠none;rw [j1];simp)]) (by decide)⟩,S.drop⟩
   ·skip
    all_goals (repeat' (first|refine qw ?_|refine qh rfl ?_|refine qi ?_|refine qp ?_|refine qg ?_|refine qj ?_|refine qo ?_|(refine qL 7 ?_;(first|refine vl ?_|refine fB S ?_|refine fS S rfl rfl ?_|refine fA ?_);(first|refine lB S rfl rfl ?_|refine qy S rfl rfl ?_|refine qU S ?_|refine lH S ?_);refine mv ?_)|(refine qc 9 ?_;refine mv ?_;(first|refine cT ?_|refine cF ?_|(refine cS ?_ ?_<;>intro hc))<;>(refine qf ?_))))
    ·all_goals (repeat' (first|refine qw ?_|refine qh rfl ?_|refine qi ?_|refine qp ?_|refine qg ?_|refine qj ?_|refine qo ?_|(refine qc 10 ?_;(iterate 3 refine mv ?_);refine qf ?_)))
     refine qI ⟨_,rfl,?_⟩
     exact ⟨.inr ⟨_,_,rfl,hbad _ (by rw [hge,KW hz j1 (by show 64≤(r.us.take i).length;simp;omega)]) (by decide)⟩,S.drop⟩
    ·skip
     all_goals (repeat' (first|refine qw ?_|refine qh rfl ?_|refine qi ?_|refine qp ?_|refine qg ?_|refine qj ?_|refine qo ?_|(refine qc 3 ?_;refine mv ?_;(first|refine ad ?_|refine vl ?_);refine mv ?_;refine qf ?_)))
     refine ⟨i+1,?_,?_,(by repeat (first|exact Ks.le_nil _|refine Ks.qx rfl ?_|refine Ks.qA ?_))⟩
     ·show r.us.length - (i+1)<r.us.length - i;omega
     ·exact ⟨S,by omega,QZ g2 (by rw [hge,vz hz j1 (by show ¬ 64≤(r.us.take i).length;simp;omega)])⟩
 ·have hi:i=r.us.length:=by omega
  rw [hi] at g2
  clear hi
  skip
  all_goals (repeat' (first|refine qw ?_|refine qh rfl ?_|refine qi ?_|refine qp ?_|refine qg ?_|refine qj ?_|refine qo ?_|(refine qc 11 ?_;refine mv ?_;refine qf ?_)))
  refine qM (σ:=Nat) (fun i h'=>Hs h0 h' [.blk b1 [v.vg.val,v.vt.val] 32]∧i≤r.ts.length∧(∀ k,k<i→Xr r k=0)) (fun i=>r.ts.length - i) (fun i=>[(1,.pointer (some ⟨b1,0,none⟩)),(6,.int .i64 i)]) 0 (by repeat (first|exact Ks.le_nil _|refine Ks.qx rfl ?_|refine Ks.qA ?_)) ?_ ?_
  ·exact ⟨S,Nat.zero_le _,fun j hj=>absurd hj (Nat.not_lt_zero _)⟩
  clear S
  rintro i h ⟨S,k1,k2⟩
  all_goals (repeat' (first|refine qw ?_|refine qh rfl ?_|refine qi ?_|refine qp ?_|refine qg ?_|refine qj ?_|refine qo ?_|(refine qc 12 ?_;refine mv ?_;(first|refine vl ?_|refine fB S ?_|refine fS S rfl rfl ?_|refine fA ?_);(first|refine lB S rfl rfl ?_|refine qy S rfl rfl ?_|refine qU S ?_|refine lH S ?_);(first|refine jA S ?_|refine jZ S rfl rfl ?_);(first|refine cT ?_|refine cF ?_|(refine cS ?_ ?_<;>intro hc))<;>(refine qf ?_))))
  ·have hil:i<r.ts.length:=by omega
   have hts:=(yw k1 k2).1
   have hbad:∀ e,Xr r i=e→e≠0→Bad r ((v.gs.length:Int)+i) e:=fun e h1 h2=>⟨h2,.inr ⟨g2,i,hil,k2,h1,by rw [hgl]⟩⟩
   all_goals (repeat' (first|refine qw ?_|refine qh rfl ?_|refine qi ?_|refine qp ?_|refine qg ?_|refine qj ?_|refine qo ?_|(refine qc 14 ?_;(first|refine vl ?_|refine fB S ?_|refine fS S rfl rfl ?_|refine fA ?_);(first|refine lB S rfl rfl ?_|refine qy S rfl rfl ?_|refine qU S ?_|refine lH S ?_);refine mv ?_;(first|refine zK S ?_|refine qC S rfl rfl ?_);(first|refine lB S rfl rfl ?_|refine qy S rfl rfl ?_|refine qU S ?_|refine lH S ?_);(refine al S ?_;clear S;intro b h S);(first|(refine sB S rfl rfl ?_;clear S;intro h S)|(refine zS S rfl rfl ?_;clear S;intro h S));refine qf ?_)))
   obtain ⟨b7,hnm⟩:∃ x,x=b:=⟨_,rfl⟩;subst hnm
   simp only [Int.toNat_natCast] at S
   obtain ⟨t,ht⟩:∃ t,r.ts.getD i default=t:=⟨_,rfl⟩
   rw [ht] at S
   replace S:Hs h0 h [.blk b7 [str t.a,str t.b,.int .u8 t.k] 111,.blk b1 [v.vg.val,v.vt.val] 32]:=S
   all_goals (repeat' (first|refine qw ?_|refine qh rfl ?_|refine qi ?_|refine qp ?_|refine qg ?_|refine qj ?_|refine qo ?_|(refine qc 15 ?_;(first|refine vl ?_|refine fB S ?_|refine fS S rfl rfl ?_|refine fA ?_);(first|refine lB S rfl rfl ?_|refine qy S rfl rfl ?_|refine qU S ?_|refine lH S ?_);(first|refine jA S ?_|refine jZ S rfl rfl ?_);refine mv ?_;(first|refine ad ?_|refine vl ?_);refine mv ?_;refine qf ?_)))
   (repeat (refine qw ?_));first|refine VF (σ:=Unit) (fun _ h'=>Hs h0 h' [.blk b7 [str t.a,str t.b,.int .u8 t.k] 111,.blk b1 [v.vg.val,v.vt.val] 32]∧TGd r i) (fun _=>[(1,.pointer (some ⟨b1,0,none⟩)),(6,.int .i64 i),(7,.pointer (some ⟨b7,0,none⟩)),(8,.int .i64 ((v.gs.length:Int)+i))]) ?_ ?_|refine Zc (σ:=Unit) (fun _ h'=>Hs h0 h' [.blk b7 [str t.a,str t.b,.int .u8 t.k] 111,.blk b1 [v.vg.val,v.vt.val] 32]∧TGd r i) (fun _=>[(1,.pointer (some ⟨b1,0,none⟩)),(6,.int .i64 i),(7,.pointer (some ⟨b7,0,none⟩)),(8,.int .i64 ((v.gs.length:Int)+i))]) ?_ ?_
   ·have hpr:((i:Int) - 1).toNat=i - 1:=by omega
    all_goals (repeat' (first|refine qw ?_|refine qh rfl ?_|refine qi ?_|refine qp ?_|refine qg ?_|refine qj ?_|refine qo ?_|(refine qL 16 ?_;(first|refine vl ?_|refine fB S ?_|refine fS S rfl rfl ?_|refine fA ?_);(first|refine lB S rfl rfl ?_|refine qy S rfl rfl ?_|refine qU S ?_|refine lH S ?_);(first|refine cT ?_|refine cF ?_|(refine cS ?_ ?_<;>intro hc))<;>(refine mv ?_;(first|refine off ?_|(first|refine vl ?_|refine fB S ?_|refine fS S rfl rfl ?_|refine fA ?_));(first|refine off ?_|(first|refine lB S rfl rfl ?_|refine qy S rfl rfl ?_|refine qU S ?_|refine lH S ?_));(first|refine off ?_|(first|refine cT ?_|refine cF ?_|(refine cS ?_ ?_<;>intro hc)))<;>(refine vl ?_;refine mv ?_;(first|refine off ?_|(first|refine vl ?_|refine fB S ?_|refine fS S rfl rfl ?_|refine fA ?_));(first|refine off ?_|(first|refine lB S rfl rfl ?_|refine qy S rfl rfl ?_|refine qU S ?_|refine lH S ?_));(first|refine off ?_|(first|refine vl ?_|refine fB S ?_|refine fS S rfl rfl ?_|refine fA ?_));(first|refine off ?_|(first|refine lB S rfl rfl ?_|refine qy S rfl rfl ?_|refine qU S ?_|refine lH S ?_));(first|refine off ?_|(refine tO ?_ ?_<;>intro hc))<;>(refine vl ?_;refine mv ?_;(first|refine off ?_|refine mv ?_);(first|refine off ?_|(first|refine cT ?_|refine cF ?_|(refine cS ?_ ?_<;>intro hc)))<;>((first|refine off ?_|refine mv ?_);(first|refine off ?_|(first|refine lB S rfl rfl ?_|refine qy S rfl rfl ?_|refine qU S ?_|refine lH S ?_));(first|refine off ?_|(first|refine vl ?_|refine fB S ?_|refine fS S rfl rfl ?_|refine fA ?_));(first|refine off ?_|(first|refine lB S rfl rfl ?_|refine qy S rfl rfl ?_|refine qU S ?_|refine lH S ?_));(first|refine off ?_|refine mv ?_);(first|refine off ?_|(first|refine sb ?_|refine vl ?_));(first|refine off ?_|(first|refine zK S ?_|refine qC S rfl rfl ?_));(first|refine off ?_|(first|refine lB S rfl rfl ?_|refine qy S rfl rfl ?_|refine qU S ?_|refine lH S ?_));(first|(refine off ?_;(first|refine off ?_|refine vl ?_);refine vl ?_;refine qf ?_)|skip))))))))
    all_goals first
     | exact ⟨(),⟨S,⟨by rw [ht];omega,by rw [ht];exact Classical.not_not.1 (by assumption),.inl (by omega)⟩⟩,((by repeat (first|exact Ks.le_nil _|refine Ks.qx rfl ?_|refine Ks.qA ?_)))⟩
     | skip
    all_goals (try simp only [hpr])
    all_goals (try ((refine qE rfl rfl rfl rfl rfl ((yf S.wf t (r.ts.getD (i - 1) default)).mono ?_);rintro _ h ⟨⟨rfl,z⟩|⟨rfl,z⟩,x⟩)<;>(replace S:=S.qW x;clear x;(first|refine off ?_|refine vl ?_);refine vl ?_;refine qf ?_)))
    all_goals (all_goals (repeat' (first|refine qw ?_|refine qh rfl ?_|refine qi ?_|refine qp ?_|refine qg ?_|refine qj ?_|refine qo ?_|(refine qL 16 ?_;(first|refine vl ?_|refine fB S ?_|refine fS S rfl rfl ?_|refine fA ?_);(first|refine lB S rfl rfl ?_|refine qy S rfl rfl ?_|refine qU S ?_|refine lH S ?_);(first|refine cT ?_|refine cF ?_|(refine cS ?_ ?_<;>intro hc))<;>(refine mv ?_;(first|refine off ?_|(first|refine vl ?_|refine fB S ?_|refine fS S rfl rfl ?_|refine fA ?_));(first|refine off ?_|(first|refine lB S rfl rfl ?_|refine qy S rfl rfl ?_|refine qU S ?_|refine lH S ?_));(first|refine off ?_|(first|refine cT ?_|refine cF ?_|(refine cS ?_ ?_<;>intro hc)))<;>(refine vl ?_;refine mv ?_;(first|refine off ?_|(first|refine vl ?_|refine fB S ?_|refine fS S rfl rfl ?_|refine fA ?_));(first|refine off ?_|(first|refine lB S rfl rfl ?_|refine qy S rfl rfl ?_|refine qU S ?_|refine lH S ?_));(first|refine off ?_|(first|refine vl ?_|refine fB S ?_|refine fS S rfl rfl ?_|refine fA ?_));(first|refine off ?_|(first|refine lB S rfl rfl ?_|refine qy S rfl rfl ?_|refine qU S ?_|refine lH S ?_));(first|refine off ?_|(refine tO ?_ ?_<;>intro hc))<;>(refine vl ?_;refine mv ?_;(first|refine off ?_|refine mv ?_);(first|refine off ?_|(first|refine cT ?_|refine cF ?_|(refine cS ?_ ?_<;>intro hc)))<;>((first|refine off ?_|refine mv ?_);(first|refine off ?_|(first|refine lB S rfl rfl ?_|refine qy S rfl rfl ?_|refine qU S ?_|refine lH S ?_));(first|refine off ?_|(first|refine vl ?_|refine fB S ?_|refine fS S rfl rfl ?_|refine fA ?_));(first|refine off ?_|(first|refine lB S rfl rfl ?_|refine qy S rfl rfl ?_|refine qU S ?_|refine lH S ?_));(first|refine off ?_|refine mv ?_);(first|refine off ?_|(first|refine sb ?_|refine vl ?_));(first|refine off ?_|(first|refine zK S ?_|refine qC S rfl rfl ?_));(first|refine off ?_|(first|refine lB S rfl rfl ?_|refine qy S rfl rfl ?_|refine qU S ?_|refine lH S ?_));(first|(refine off ?_;(first|refine off ?_|refine vl ?_);refine vl ?_;refine qf ?_)|skip))))))|(refine qc 17 ?_;(iterate 3 refine mv ?_);refine qf ?_))))
    all_goals first
     | exact ⟨(),⟨S,⟨by rw [ht];omega,by rw [ht];exact Classical.not_not.1 (by assumption),.inr (by rw [ht];exact z)⟩⟩,((by repeat (first|exact Ks.le_nil _|refine Ks.qx rfl ?_|refine Ks.qA ?_)))⟩
     | (refine qI ⟨_,rfl,?_⟩;exact ⟨.inr ⟨_,_,rfl,hbad _ (qb5 (by rw [ht];first|exact .inl (by omega)|exact .inr (.inl (by assumption))|exact .inr (.inr ⟨by omega,z⟩))) (by decide)⟩,S.drop⟩)
   clear S
   rintro - h ⟨S,G⟩
   skip
   all_goals (repeat' (first|refine qw ?_|refine qh rfl ?_|refine qi ?_|refine qp ?_|refine qg ?_|refine qj ?_|refine qo ?_|(refine qc 18 ?_;(first|refine vl ?_|refine fB S ?_|refine fS S rfl rfl ?_|refine fA ?_);(first|refine lB S rfl rfl ?_|refine qy S rfl rfl ?_|refine qU S ?_|refine lH S ?_);(first|refine vl ?_|refine fB S ?_|refine fS S rfl rfl ?_|refine fA ?_);(first|refine lB S rfl rfl ?_|refine qy S rfl rfl ?_|refine qU S ?_|refine lH S ?_))))
   (refine qE rfl rfl rfl rfl rfl ((JS S.wf v.vg.val v.gs (hrg.ext w S.ext) (by omega) t.a).mono ?_);rintro _ h ⟨⟨j,j1,j2,rfl⟩|⟨j1,rfl⟩,x⟩)<;>(replace S:=S.qW x;clear x;(first|refine cT ?_|refine cF ?_|(refine cS ?_ ?_<;>intro hc))<;>(refine mv ?_;(first|refine off ?_|(first|refine vl ?_|refine fB S ?_|refine fS S rfl rfl ?_|refine fA ?_));(first|refine off ?_|(first|refine lB S rfl rfl ?_|refine qy S rfl rfl ?_|refine qU S ?_|refine lH S ?_));(first|refine off ?_|(first|refine vl ?_|refine fB S ?_|refine fS S rfl rfl ?_|refine fA ?_));(first|refine off ?_|(first|refine lB S rfl rfl ?_|refine qy S rfl rfl ?_|refine qU S ?_|refine lH S ?_));(first|(refine off ?_;(first|refine off ?_|(first|refine cT ?_|refine cF ?_|(refine cS ?_ ?_<;>intro hc)))<;>(refine vl ?_;refine qf ?_))|skip)))
   all_goals rw [HR.us] at j1
   rotate_left
   ·skip
    all_goals (repeat' (first|refine qw ?_|refine qh rfl ?_|refine qi ?_|refine qp ?_|refine qg ?_|refine qj ?_|refine qo ?_|(refine qc 18 ?_;(first|refine vl ?_|refine fB S ?_|refine fS S rfl rfl ?_|refine fA ?_);(first|refine lB S rfl rfl ?_|refine qy S rfl rfl ?_|refine qU S ?_|refine lH S ?_);(first|refine vl ?_|refine fB S ?_|refine fS S rfl rfl ?_|refine fA ?_);(first|refine lB S rfl rfl ?_|refine qy S rfl rfl ?_|refine qU S ?_|refine lH S ?_))|(refine qc 19 ?_;(iterate 3 refine mv ?_);refine qf ?_)))
    refine qI ⟨_,rfl,?_⟩
    exact ⟨.inr ⟨_,_,rfl,hbad _ (G.e6 (.inl (by rw [ht];exact j1))) (by decide)⟩,S.drop⟩
   skip
   all_goals (repeat' (first|refine qw ?_|refine qh rfl ?_|refine qi ?_|refine qp ?_|refine qg ?_|refine qj ?_|refine qo ?_|(refine qc 18 ?_;(first|refine vl ?_|refine fB S ?_|refine fS S rfl rfl ?_|refine fA ?_);(first|refine lB S rfl rfl ?_|refine qy S rfl rfl ?_|refine qU S ?_|refine lH S ?_);(first|refine vl ?_|refine fB S ?_|refine fS S rfl rfl ?_|refine fA ?_);(first|refine lB S rfl rfl ?_|refine qy S rfl rfl ?_|refine qU S ?_|refine lH S ?_))))
   (refine qE rfl rfl rfl rfl rfl ((JS S.wf v.vg.val v.gs (hrg.ext w S.ext) (by omega) t.b).mono ?_);rintro _ h ⟨⟨j',m1,m2,rfl⟩|⟨m1,rfl⟩,x⟩)<;>(replace S:=S.qW x;clear x;(first|refine off ?_|(first|refine cT ?_|refine cF ?_|(refine cS ?_ ?_<;>intro hc)))<;>(refine vl ?_;refine qf ?_))
   all_goals rw [HR.us] at m1
   rotate_left
   ·skip
    all_goals (repeat' (first|refine qw ?_|refine qh rfl ?_|refine qi ?_|refine qp ?_|refine qg ?_|refine qj ?_|refine qo ?_|(refine qc 18 ?_;(first|refine vl ?_|refine fB S ?_|refine fS S rfl rfl ?_|refine fA ?_);(first|refine lB S rfl rfl ?_|refine qy S rfl rfl ?_|refine qU S ?_|refine lH S ?_);(first|refine vl ?_|refine fB S ?_|refine fS S rfl rfl ?_|refine fA ?_);(first|refine lB S rfl rfl ?_|refine qy S rfl rfl ?_|refine qU S ?_|refine lH S ?_))|(refine qc 19 ?_;(iterate 3 refine mv ?_);refine qf ?_)))
    refine qI ⟨_,rfl,?_⟩
    exact ⟨.inr ⟨_,_,rfl,hbad _ (G.e6 (.inr (by rw [ht];exact m1))) (by decide)⟩,S.drop⟩
   have hkn:¬ (gat r.us (r.ts.getD i default).a=none∨gat r.us (r.ts.getD i default).b=none):=by
    rw [ht,j1,m1];simp
   have hpr:((i:Int) - 1).toNat=i - 1:=by omega
   skip
   all_goals (repeat' (first|refine qw ?_|refine qh rfl ?_|refine qi ?_|refine qp ?_|refine qg ?_|refine qj ?_|refine qo ?_|(refine qc 18 ?_;(first|refine vl ?_|refine fB S ?_|refine fS S rfl rfl ?_|refine fA ?_);(first|refine lB S rfl rfl ?_|refine qy S rfl rfl ?_|refine qU S ?_|refine lH S ?_);(first|refine vl ?_|refine fB S ?_|refine fS S rfl rfl ?_|refine fA ?_);(first|refine lB S rfl rfl ?_|refine qy S rfl rfl ?_|refine qU S ?_|refine lH S ?_))))
   (repeat (refine qw ?_));first|refine VF (σ:=Unit) (fun _ h'=>Hs h0 h' [.blk b7 [str t.a,str t.b,.int .u8 t.k] 111,.blk b1 [v.vg.val,v.vt.val] 32]∧¬ (0<i∧¬ Zm (r.ts.getD (i - 1) default) (r.ts.getD i default))) (fun _=>[(1,.pointer (some ⟨b1,0,none⟩)),(6,.int .i64 i),(7,.pointer (some ⟨b7,0,none⟩)),(8,.int .i64 ((v.gs.length:Int)+i))]) ?_ ?_|refine Zc (σ:=Unit) (fun _ h'=>Hs h0 h' [.blk b7 [str t.a,str t.b,.int .u8 t.k] 111,.blk b1 [v.vg.val,v.vt.val] 32]∧¬ (0<i∧¬ Zm (r.ts.getD (i - 1) default) (r.ts.getD i default))) (fun _=>[(1,.pointer (some ⟨b1,0,none⟩)),(6,.int .i64 i),(7,.pointer (some ⟨b7,0,none⟩)),(8,.int .i64 ((v.gs.length:Int)+i))]) ?_ ?_
   ·all_goals (repeat' (first|refine qw ?_|refine qh rfl ?_|refine qi ?_|refine qp ?_|refine qg ?_|refine qj ?_|refine qo ?_|(refine qL 20 ?_;refine mv ?_;(first|refine cT ?_|refine cF ?_|(refine cS ?_ ?_<;>intro hc))<;>(refine mv ?_;(first|refine off ?_|(first|refine vl ?_|refine fB S ?_|refine fS S rfl rfl ?_|refine fA ?_));(first|refine off ?_|(first|refine lB S rfl rfl ?_|refine qy S rfl rfl ?_|refine qU S ?_|refine lH S ?_));(first|refine off ?_|refine mv ?_);(first|refine off ?_|(first|refine sb ?_|refine vl ?_));(first|refine off ?_|(first|refine zK S ?_|refine qC S rfl rfl ?_));(first|refine off ?_|(first|refine lB S rfl rfl ?_|refine qy S rfl rfl ?_|refine qU S ?_|refine lH S ?_));(first|refine off ?_|(first|refine lB S rfl rfl ?_|refine qy S rfl rfl ?_|refine qU S ?_|refine lH S ?_));(first|(refine off ?_;(first|refine off ?_|refine vl ?_);refine vl ?_;refine qf ?_)|skip)))))
    ·simp only [hpr]
     (refine qE rfl rfl rfl rfl rfl ((yf S.wf (r.ts.getD (i - 1) default) t).mono ?_);rintro _ h ⟨⟨rfl,z⟩|⟨rfl,z⟩,x⟩)<;>(replace S:=S.qW x;clear x;(first|refine off ?_|refine vl ?_);refine vl ?_;refine qf ?_)
     ·all_goals (repeat' (first|refine qw ?_|refine qh rfl ?_|refine qi ?_|refine qp ?_|refine qg ?_|refine qj ?_|refine qo ?_|(refine qL 20 ?_;refine mv ?_;(first|refine cT ?_|refine cF ?_|(refine cS ?_ ?_<;>intro hc))<;>(refine mv ?_;(first|refine off ?_|(first|refine vl ?_|refine fB S ?_|refine fS S rfl rfl ?_|refine fA ?_));(first|refine off ?_|(first|refine lB S rfl rfl ?_|refine qy S rfl rfl ?_|refine qU S ?_|refine lH S ?_));(first|refine off ?_|refine mv ?_);(first|refine off ?_|(first|refine sb ?_|refine vl ?_));(first|refine off ?_|(first|refine zK S ?_|refine qC S rfl rfl ?_));(first|refine off ?_|(first|refine lB S rfl rfl ?_|refine qy S rfl rfl ?_|refine qU S ?_|refine lH S ?_));(first|refine off ?_|(first|refine lB S rfl rfl ?_|refine qy S rfl rfl ?_|refine qU S ?_|refine lH S ?_));(first|(refine off ?_;(first|refine off ?_|refine vl ?_);refine vl ?_;refine qf ?_)|skip)))))
      exact ⟨(),⟨S,fun q=>q.2 (by rw [ht];exact z)⟩,((by repeat (first|exact Ks.le_nil _|refine Ks.qx rfl ?_|refine Ks.qA ?_)))⟩
     ·skip
      all_goals (repeat' (first|refine qw ?_|refine qh rfl ?_|refine qi ?_|refine qp ?_|refine qg ?_|refine qj ?_|refine qo ?_|(refine qL 20 ?_;refine mv ?_;(first|refine cT ?_|refine cF ?_|(refine cS ?_ ?_<;>intro hc))<;>(refine mv ?_;(first|refine off ?_|(first|refine vl ?_|refine fB S ?_|refine fS S rfl rfl ?_|refine fA ?_));(first|refine off ?_|(first|refine lB S rfl rfl ?_|refine qy S rfl rfl ?_|refine qU S ?_|refine lH S ?_));(first|refine off ?_|refine mv ?_);(first|refine off ?_|(first|refine sb ?_|refine vl ?_));(first|refine off ?_|(first|refine zK S ?_|refine qC S rfl rfl ?_));(first|refine off ?_|(first|refine lB S rfl rfl ?_|refine qy S rfl rfl ?_|refine qU S ?_|refine lH S ?_));(first|refine off ?_|(first|refine lB S rfl rfl ?_|refine qy S rfl rfl ?_|refine qU S ?_|refine lH S ?_));(first|(refine off ?_;(first|refine off ?_|refine vl ?_);refine vl ?_;refine qf ?_)|skip)))|(refine qc 21 ?_;(iterate 3 refine mv ?_);refine qf ?_)))
      refine qI ⟨_,rfl,?_⟩
      exact ⟨.inr ⟨_,_,rfl,hbad _ (G.e5 hil hts hkn ⟨by omega,by rw [ht];exact z⟩) (by decide)⟩,S.drop⟩
    ·exact ⟨(),⟨S,fun q=>by omega⟩,((by repeat (first|exact Ks.le_nil _|refine Ks.qx rfl ?_|refine Ks.qA ?_)))⟩
   clear S
   rintro - h ⟨S,hb5⟩
   skip
   all_goals (repeat' (first|refine qw ?_|refine qh rfl ?_|refine qi ?_|refine qp ?_|refine qg ?_|refine qj ?_|refine qo ?_|(refine qc 22 ?_;refine mv ?_;(first|refine cT ?_|refine cF ?_|(refine cS ?_ ?_<;>intro hc))<;>(refine qf ?_))))
   ·all_goals (repeat' (first|refine qw ?_|refine qh rfl ?_|refine qi ?_|refine qp ?_|refine qg ?_|refine qj ?_|refine qo ?_|(refine qc 23 ?_;(iterate 3 refine mv ?_);refine qf ?_)))
    refine qI ⟨_,rfl,?_⟩
    exact ⟨.inr ⟨_,_,rfl,hbad _ (G.e7 hil hts hkn hb5 (by omega)) (by decide)⟩,S.drop⟩
   ·skip
    all_goals (repeat' (first|refine qw ?_|refine qh rfl ?_|refine qi ?_|refine qp ?_|refine qg ?_|refine qj ?_|refine qo ?_|(refine qc 13 ?_;refine mv ?_;(first|refine ad ?_|refine vl ?_);refine mv ?_;refine qf ?_)))
    refine ⟨i+1,?_,?_,(by repeat (first|exact Ks.le_nil _|refine Ks.qx rfl ?_|refine Ks.qA ?_))⟩
    ·show r.ts.length - (i+1)<r.ts.length - i;omega
    ·exact ⟨S.tail,by omega,QZ k2 (G.e0 hil hts hkn hb5 (by omega))⟩
  ·have hi:i=r.ts.length:=by omega
   rw [hi] at k2
   skip
   all_goals (repeat' (first|refine qw ?_|refine qh rfl ?_|refine qi ?_|refine qp ?_|refine qg ?_|refine qj ?_|refine qo ?_|(refine qc 24 ?_;refine mv ?_;refine mv ?_;refine qf ?_)))
   refine qI ⟨_,rfl,?_⟩
   exact ⟨.inl ⟨rfl,g2,k2⟩,S.drop⟩
end Go.Proofs.Xx
namespace Go.Proofs.Xx
open Go Go.Proofs
set_option linter.unusedSimpArgs false
set_option linter.unusedVariables false
set_option linter.unusedSectionVars false
set_option maxRecDepth 100000
def V3 (n:Nat):Nat:=if n<256 then (lenTab.getD n 0).toNat else 8+(lenTab.getD (n / 256) 0).toNat
theorem wY:∀ n,n<512→0<n→V3 n≤9∧n<2 ^ V3 n∧2 ^ V3 n≤2*n:=by decide +kernel
theorem qbg (n:Nat) (h:n<512):V3 n≤9:=by
 rcases Nat.eq_zero_or_pos n with q|q
 ·subst q;decide
 ·exact (wY n h q).1
abbrev cvT:Value:=.func (.func 82) #[] #[]
variable [Flag]
theorem pX {h0:AH} (w:WfH h0) (n:Nat) (hn:n<512):Fn Tryz.prog Xh 162 [.int .u64 n] h0 (fun v h'=>v = .int .i64 (V3 n:Int)∧Hs h0 h' []):=by
 rcases Nat.lt_or_ge n 256 with q|q
 ·have:=wZ w n q
  unfold V3;rw [if_pos q];exact this
 unfold V3;rw [if_neg (by omega)]
 have S:=Hs.start w
 have hl:=V4
 have hb:(lenTab.getD (n / 256) 0).toNat<256:=UInt8.toNat_lt _
 refine zg rfl Tryz.func162 rfl rfl ?_
 have e:(n:Int) / ((2 ^ min (Int.toNat 8) IntKind.u64.bits:Nat):Int)=((n / 256:Nat):Int):=by
  rw [show (2 ^ min (Int.toNat 8) IntKind.u64.bits:Nat)=256 by decide];rfl
 all_goals (repeat' (first|refine qw ?_|refine qh rfl ?_|refine qi ?_|refine qp ?_|refine qg ?_|refine qj ?_|refine qo ?_|(refine qc 0 ?_;refine mv ?_;refine qf ?_)|(refine qc 1 ?_;refine mv ?_;(first|refine cT ?_|refine cF ?_|(refine cS ?_ ?_<;>intro hc))<;>(refine qf ?_))|(refine qc 4 ?_;refine mv ?_;(first|refine cT ?_|refine cF ?_|(refine cS ?_ ?_<;>intro hc))<;>(refine qf ?_))|(refine qc 7 ?_;refine mv ?_;(first|refine cT ?_|refine cF ?_|(refine cS ?_ ?_<;>intro hc))<;>(refine qf ?_))|(refine qc 8 ?_;refine mv ?_;(first|refine sR1 ?_|refine sR ?_);refine mv ?_;refine qf ?_)|(refine qc 9 ?_;refine mv ?_;(first|refine ad ?_|refine vl ?_);refine mv ?_;refine qf ?_)))
 simp only [e]
 refine qc 10 ?_
 refine mv ?_;refine mv ?_;refine cU ?_
 refine ti (l:=lenTab) ?_
 rw [Int.toNat_natCast]
 (first|refine cI ?_|refine vl ?_);(first|refine ad ?_|refine vl ?_);refine mv ?_;refine qf ?_
 all_goals (repeat' (first|refine qw ?_|refine qh rfl ?_|refine qi ?_|refine qp ?_|refine qg ?_|refine qj ?_|refine qo ?_|(refine qc 0 ?_;refine mv ?_;refine qf ?_)|(refine qc 1 ?_;refine mv ?_;(first|refine cT ?_|refine cF ?_|(refine cS ?_ ?_<;>intro hc))<;>(refine qf ?_))|(refine qc 2 ?_;refine mv ?_;(first|refine sR1 ?_|refine sR ?_);refine mv ?_;refine qf ?_)|(refine qc 3 ?_;refine mv ?_;refine qf ?_)|(refine qc 4 ?_;refine mv ?_;(first|refine cT ?_|refine cF ?_|(refine cS ?_ ?_<;>intro hc))<;>(refine qf ?_))|(refine qc 5 ?_;refine mv ?_;(first|refine sR1 ?_|refine sR ?_);refine mv ?_;refine qf ?_)|(refine qc 6 ?_;refine mv ?_;(first|refine ad ?_|refine vl ?_);refine mv ?_;refine qf ?_)|(refine qc 7 ?_;refine mv ?_;(first|refine cT ?_|refine cF ?_|(refine cS ?_ ?_<;>intro hc))<;>(refine qf ?_))|(refine qc 8 ?_;refine mv ?_;(first|refine sR1 ?_|refine sR ?_);refine mv ?_;refine qf ?_)|(refine qc 9 ?_;refine mv ?_;(first|refine ad ?_|refine vl ?_);refine mv ?_;refine qf ?_)|(refine qc 10 ?_;refine mv ?_;refine mv ?_;(first|refine cU ?_|refine vl ?_);(first|refine ti ?_|refine vl ?_);(first|refine cI ?_|refine vl ?_);(first|refine ad ?_|refine vl ?_);refine mv ?_;refine qf ?_)))
 refine qI ⟨_,rfl,?_⟩
 exact ⟨by show Value.int .i64 (8+_)=_;rfl,S⟩
theorem Gx {h0:AH} (w:WfH h0) (n:Nat) (hn:n<512):Fn Tryz.prog Xh 126 [.int .u64 n] h0 (fun v h'=>v = .int .i64 (V3 n:Int)∧Hs h0 h' []):=by
 have S:=Hs.start w
 refine zg rfl Tryz.func126 rfl rfl ?_
 all_goals (repeat' (first|refine qw ?_|refine qh rfl ?_|refine qi ?_|refine qp ?_|refine qg ?_|refine qj ?_|refine qo ?_|(refine qc 0 ?_;refine mv ?_;refine qf ?_)|(refine qc 2 ?_;refine mv ?_)))
 (refine qE rfl rfl rfl rfl rfl ((pX S.wf n hn).mono ?_);rintro _ h ⟨rfl,x⟩)<;>(replace S:=S.qW x;clear x;refine mv ?_;refine qf ?_)
 all_goals (repeat' (first|refine qw ?_|refine qh rfl ?_|refine qi ?_|refine qp ?_|refine qg ?_|refine qj ?_|refine qo ?_|(refine qc 0 ?_;refine mv ?_;refine qf ?_)|(refine qc 1 ?_;refine mv ?_)|(refine qc 2 ?_;refine mv ?_)))
 refine qI ⟨_,rfl,?_⟩
 exact ⟨rfl,S⟩
theorem qak {h0:AH} (w:WfH h0) (n:Nat) (hn:0<n∧n<512):Fn Tryz.prog Xh 189 [.int .i64 n] h0 (fun v h'=>∃ P:Int,v = .int .u64 P∧(n:Int)<P∧P≤2*n∧Hs h0 h' []):=by
 have S:=Hs.start w
 have hk:=wY n hn.2 hn.1
 refine zg rfl Tryz.func189 rfl rfl ?_
 all_goals (repeat' (first|refine qw ?_|refine qh rfl ?_|refine qi ?_|refine qp ?_|refine qg ?_|refine qj ?_|refine qo ?_|(refine qc 0 ?_;refine mv ?_;refine qf ?_)|(refine qc 1 ?_;refine mv ?_;(first|refine cW ?_|refine vl ?_))))
 (refine qE rfl rfl rfl rfl rfl ((Gx S.wf n hn.2).mono ?_);rintro _ h ⟨rfl,x⟩)<;>(replace S:=S.qW x;clear x;(first|refine sL ?_|(refine aW ?_;intro r1 hr1 hr2));refine mv ?_;refine qf ?_)
 all_goals (repeat' (first|refine qw ?_|refine qh rfl ?_|refine qi ?_|refine qp ?_|refine qg ?_|refine qj ?_|refine qo ?_))
 refine qI ⟨_,rfl,?_⟩
 refine ⟨_,rfl,?_,?_,S⟩
 ·have:(n:Int)<((2 ^ V3 n:Nat):Int):=by exact_mod_cast hk.2.1
  simpa using this
 ·have:((2 ^ V3 n:Nat):Int)≤((2*n:Nat):Int):=by exact_mod_cast hk.2.2
  simpa using this
end Go.Proofs.Xx
namespace Go.Proofs.Xx
open Go Go.Proofs
set_option linter.unusedSimpArgs false
set_option linter.unusedVariables false
set_option linter.unusedSectionVars false
set_option maxRecDepth 100000
structure Ct where
 d:List UInt8
 n:Int
instance instInhCt:Inhabited Ct:=⟨⟨[],0⟩⟩
def jL (c:Ct):List Value:=[str c.d,.int .i64 c.n]
def ctV (c:Ct):Value:=.agg #[str c.d,.int .i64 c.n]
def jD (x y:Ct):Prop:=zy x.d y.d
theorem Qa:WOrd jD:=⟨fun x h=>zu x.d h,fun h1 h2=>jQ h1 h2,fun h1 h2=>xA h1 h2⟩
abbrev Zy:Value:=.func (.func 110) #[] #[]
variable [Flag]
theorem jH {h0:AH} (w:WfH h0) (x y:Ct):Fn Tryz.prog Xh 110 [ctV x,ctV y] h0 (fun v h'=>∃ d,v = .int .i64 d∧((d<0∧jD x y)∨(0≤d∧¬ jD x y))∧Hs h0 h' []):=by
 have S:=Hs.start w
 unfold ctV
 refine zg rfl Tryz.func110 rfl rfl ?_
 all_goals (repeat' (first|refine qw ?_|refine qh rfl ?_|refine qi ?_|refine qp ?_|refine qg ?_|refine qj ?_|refine qo ?_|(refine qc 0 ?_;(refine bx S ?_;clear S;intro b h S);(refine bx S ?_;clear S;intro b h S);refine mv ?_;refine qf ?_)|(refine qc 1 ?_;(first|refine vl ?_|refine fB S ?_|refine fS S rfl rfl ?_|refine fA ?_);(first|refine lB S rfl rfl ?_|refine qy S rfl rfl ?_|refine qU S ?_|refine lH S ?_);(first|refine vl ?_|refine fB S ?_|refine fS S rfl rfl ?_|refine fA ?_);(first|refine lB S rfl rfl ?_|refine qy S rfl rfl ?_|refine qU S ?_|refine lH S ?_);(refine tO ?_ ?_<;>intro hc)<;>(refine qf ?_))|(refine qc 2 ?_;refine mv ?_;refine qf ?_)|(refine qc 3 ?_;refine mv ?_;refine qf ?_)))
 all_goals (refine qI ⟨_,rfl,?_⟩)
 ·exact ⟨-1,rfl,.inl ⟨by decide,hc⟩,S.drop⟩
 ·exact ⟨1,rfl,.inr ⟨by decide,hc⟩,S.drop⟩
end Go.Proofs.Xx
