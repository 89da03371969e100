/-
  The reference: what a line makes of a roll.
-/
import Derived.Test.YtidmdnenlgjpeaaGreatDoorM13
import Derived.Test.YtidmdnenlgjpeaaGreatDoorM14
import Derived.Test.YtidmdnenlgjpeaaGreatDoorM7
import Derived.Test.YtidmdnenlgjpeaaGreatDoorM10
set_option linter.unusedSimpArgs false
set_option linter.unusedVariables false
set_option linter.unusedSectionVars false
set_option maxRecDepth 100000
set_option maxHeartbeats 4000000
namespace Go.Proofs.Xx
open Go Go.Proofs
def Qa (ws:List (List UInt8)) (hh aa:Bool):Gu:={ name:=jT ws 1,rank:=Q8 (jT ws 2),court:=Q8 (jT ws 3),since:=ZW (jT ws 4),side:=ZW (jT ws 5),diet:=Q8 (jT ws 6),host:=hh,access:=aa,tg:=ws.drop 8 }
theorem qaO {ws:List (List UInt8)} (q:jT ws 7=[45]):jP ws=Qa ws false false:=by unfold jP Qa;rw [q];rfl
theorem qaN {ws:List (List UInt8)} (q:jT ws 7=[104]):jP ws=Qa ws true false:=by unfold jP Qa;rw [q];rfl
theorem qaM {ws:List (List UInt8)} (q:jT ws 7=[97]):jP ws=Qa ws false true:=by unfold jP Qa;rw [q];rfl
theorem qaL {ws:List (List UInt8)} (q:jT ws 7=[104,97]):jP ws=Qa ws true true:=by unfold jP Qa;rw [q];rfl
section
variable {P:Program} {X:Extern} {sz:Nat} {L:Ks} {h h0:AH} {rs:List Rs} {ops:Array Oper} {os:List Oper} {o:Oper} {R:Ks→AH→Prop}
theorem tKT {L':Ks} {x y:Operand} {ty ty2:TypeId} {l m:List UInt8} (w:KO P X sz ops os L' h R) (ho:o.op = .binOp .eql ty x y ty2:=by exact rfl) (hg:qC ops L.tree o.guard=some true:=by exact rfl) (hx:kA L x=some (str l):=by exact rfl) (hy:kA L y=some (str m):=by exact rfl) (hu:P.underlying ty=some .string:=by exact rfl) (e:l=m:=by exact q)
 (hp:qP sz L o.dst (.bool true)=some L':=by exact rfl):KO P X sz ops (o :: os) L h R :=
 qcm ho hg hx hy rfl e hp w
theorem tKF {L':Ks} {x y:Operand} {ty ty2:TypeId} {l m:List UInt8} (w:KO P X sz ops os L' h R) (ho:o.op = .binOp .eql ty x y ty2:=by exact rfl) (hg:qC ops L.tree o.guard=some true:=by exact rfl) (hx:kA L x=some (str l):=by exact rfl) (hy:kA L y=some (str m):=by exact rfl) (hu:P.underlying ty=some .string:=by exact rfl) (e:l≠m:=by exact fun z=>absurd (q.symm.trans z) (by decide))
 (hp:qP sz L o.dst (.bool false)=some L':=by exact rfl):KO P X sz ops (o :: os) L h R :=
 qcn ho hg hx hy rfl e hp w
end
variable [Flag]
theorem XP {h0:AH} (w:WfH h0) (s:List UInt8):Fn Tryz.prog Xh 123 [str s] h0 (fun v h'=>v=str (Q8 s)∧Hs h0 h' []):=by
 have S:=Hs.start w
 refine zD rfl Tryz.func123 rfl rfl ?_
 all_goals (repeat' (first|refine qA ?_|refine qw rfl ?_|refine qx ?_|refine qy ?_|refine qo ?_|refine qi ?_|refine qj ?_|(refine qg 0 ?_;refine mv ?_;refine qf ?_)|(refine qg 1 ?_;refine mv ?_;(refine tS ?_ ?_<;>intro hc)<;>(refine qf ?_))|(refine qg 2 ?_;refine mv ?_;refine qf ?_)|(refine qg 3 ?_;refine mv ?_;refine mv ?_;refine qf ?_)))
 all_goals (refine qH ⟨_,rfl,?_⟩)
 ·exact ⟨by unfold Q8;rw [if_pos hc];rfl,S⟩
 ·exact ⟨by unfold Q8;rw [if_neg hc];rfl,S⟩
theorem qas {h0:AH} (w:WfH h0) (v:RlV) (r:Rl) (HR:RlOk h0 v r) (H:RO r) (sv:SlV) (ws:List (List UInt8)) (hr:Qr h0 sv.val 1 eS ws) (hcap:XI sv.val) (W:WsOk ws):Fn Tryz.prog Xh 66 [v.val,sv.val] h0 (RRes h0 v (jf r ws)):=by
 have S:=Hs.start w
 obtain ⟨sp,sn,sc⟩:=sv
 have hwl:=W.len
 have hpos:=W.pos
 have hw:∀ i,i<ws.length→(ws.getD i default).length≤1000000:=fun i hi=>W.wl _ (qR hi)
 have hwz:jT ws 0=ws.getD (Int.toNat 0) default:=rfl
 unfold RlV.val
 refine zD rfl Tryz.func66 rfl rfl ?_
 all_goals (repeat' (first|refine qA ?_|refine qw rfl ?_|refine qx ?_|refine qy ?_|refine qo ?_|refine qi ?_|refine qj ?_|(refine qg 0 ?_;(refine bx S ?_;clear S;intro b h S);(refine al S ?_;clear S;intro b h S);refine mv ?_;refine qf ?_)))
 obtain ⟨b4,hnm⟩:∃ x,x=b:=⟨_,rfl⟩;subst hnm
 obtain ⟨b2,hnm⟩:∃ x,x=b:=⟨_,rfl⟩;subst hnm
 replace S:Hs h0 h (.blk b4 [.slice none 0 0,.slice none 0 0] 32 :: .blk b2 [v.vg.val,v.vt.val] 32 :: []):=S
 all_goals (repeat' (first|refine qA ?_|refine qw rfl ?_|refine qx ?_|refine qy ?_|refine qo ?_|refine qi ?_|refine qj ?_|(refine qg 1 ?_;refine mv ?_;(first|refine zM S ?_|refine qW S rfl rfl ?_);(first|refine lB S rfl rfl ?_|refine qE S rfl rfl ?_|refine qO S ?_|refine lH S ?_);(refine tS ?_ ?_<;>intro hc)<;>(refine mv ?_;(first|refine off ?_|refine mv ?_);(first|refine off ?_|(first|refine zM S ?_|refine qW S rfl rfl ?_));(first|refine off ?_|(first|refine lB S rfl rfl ?_|refine qE S rfl rfl ?_|refine qO S ?_|refine lH S ?_));(first|refine off ?_|(refine tS ?_ ?_<;>intro hc))<;>(refine vl ?_;refine mv ?_;(first|refine off ?_|refine mv ?_);(first|refine off ?_|(first|refine Zq S ?_|refine Zp S rfl rfl ?_));(first|refine off ?_|(first|refine cT ?_|refine cF ?_|(refine cS ?_ ?_<;>intro hc)))<;>(refine vl ?_;refine qf ?_))))))
 ·have hf:jT ws 0=Qv:=by assumption
  have h3:ws.length=3:=by omega
  all_goals (repeat' (first|refine qA ?_|refine qw rfl ?_|refine qx ?_|refine qy ?_|refine qo ?_|refine qi ?_|refine qj ?_|(refine qg 2 ?_;refine mv ?_;refine qf ?_)|(refine qg 3 ?_;refine mv ?_;(first|refine zM S ?_|refine qW S rfl rfl ?_);(first|refine lB S rfl rfl ?_|refine qE S rfl rfl ?_|refine qO S ?_|refine lH S ?_);(refine tS ?_ ?_<;>intro hc)<;>(refine qf ?_))|(refine qg 4 ?_;refine mv ?_;refine qf ?_)))
  ·exact absurd (hf.symm.trans (show jT ws 0=JS from hc)) wne3.symm
  all_goals (repeat' (first|refine qA ?_|refine qw rfl ?_|refine qx ?_|refine qy ?_|refine qo ?_|refine qi ?_|refine qj ?_|(refine zZ 5 ?_;(first|refine lB S rfl rfl ?_|refine qE S rfl rfl ?_|refine qO S ?_|refine lH S ?_);refine mv ?_;(first|refine zM S ?_|refine qW S rfl rfl ?_);(first|refine lB S rfl rfl ?_|refine qE S rfl rfl ?_|refine qO S ?_|refine lH S ?_);refine mv ?_;(first|refine zM S ?_|refine qW S rfl rfl ?_);(first|refine lB S rfl rfl ?_|refine qE S rfl rfl ?_|refine qO S ?_|refine lH S ?_);refine mv ?_)))
  (refine qM rfl rfl rfl rfl rfl ((GK S.wf v r (HR.ext w S.ext) H (jT ws 1) (jT ws 2) 1).mono ?_);rintro _ h (⟨he,rfl,x⟩|⟨he,⟨vg',vt',gs'⟩,rfl,hu',x⟩))<;>((first|replace S:=S.zC x|(replace S:=S.join x;dsimp only [Jz,List.cons_append,List.nil_append] at S));clear x;unfold RlV.val;(try dsimp only);(try dsimp only at hu');refine vl ?_;refine vl ?_;(first|(refine sB S rfl rfl ?_;clear S;intro h S)|(refine jm S rfl rfl ?_;clear S;intro h S));refine mv ?_;refine qf ?_)
  all_goals (all_goals (repeat' (first|refine qA ?_|refine qw rfl ?_|refine qx ?_|refine qy ?_|refine qo ?_|refine qi ?_|refine qj ?_|(refine zZ 5 ?_;(first|refine lB S rfl rfl ?_|refine qE S rfl rfl ?_|refine qO S ?_|refine lH S ?_);refine mv ?_;(first|refine zM S ?_|refine qW S rfl rfl ?_);(first|refine lB S rfl rfl ?_|refine qE S rfl rfl ?_|refine qO S ?_|refine lH S ?_);refine mv ?_;(first|refine zM S ?_|refine qW S rfl rfl ?_);(first|refine lB S rfl rfl ?_|refine qE S rfl rfl ?_|refine qO S ?_|refine lH S ?_);refine mv ?_))))
  all_goals (refine qH ⟨_,qN S rfl (by first|exact .here|exact .there .here|exact .there (.there .here)|exact .there (.there (.there .here))|exact .there (.there (.there (.there .here)))|exact .there (.there (.there (.there (.there .here))))|exact .there (.there (.there (.there (.there (.there .here)))))|exact .there (.there (.there (.there (.there (.there (.there .here))))))|exact .there (.there (.there (.there (.there (.there (.there (.there .here)))))))|exact .there (.there (.there (.there (.there (.there (.there (.there (.there .here))))))))|exact .there (.there (.there (.there (.there (.there (.there (.there (.there (.there .here)))))))))|exact .there (.there (.there (.there (.there (.there (.there (.there (.there (.there (.there .here))))))))))|exact .there (.there (.there (.there (.there (.there (.there (.there (.there (.there (.there (.there .here)))))))))))) (by exact rfl) (by exact rfl),?_⟩)
  all_goals rw [Yp hf h3]
  ·exact .inl ⟨he,rfl,S.drop⟩
  ·exact .inr ⟨he,⟨vg',vt',gs'⟩,rfl,hu',S.pick⟩
 ·have hf:jT ws 0=Qv:=by assumption
  all_goals (repeat' (first|refine qA ?_|refine qw rfl ?_|refine qx ?_|refine qy ?_|refine qo ?_|refine qi ?_|refine qj ?_|(refine qg 6 ?_;refine mv ?_;(first|refine zM S ?_|refine qW S rfl rfl ?_);(first|refine lB S rfl rfl ?_|refine qE S rfl rfl ?_|refine qO S ?_|refine lH S ?_);(refine tS ?_ ?_<;>intro hc)<;>(refine mv ?_;(first|refine off ?_|refine mv ?_);(first|refine off ?_|(first|refine Zq S ?_|refine Zp S rfl rfl ?_));(first|refine off ?_|(first|refine cT ?_|refine cF ?_|(refine cS ?_ ?_<;>intro hc)))<;>(refine vl ?_;refine qf ?_)))|(refine qg 7 ?_;(first|refine lB S rfl rfl ?_|refine qE S rfl rfl ?_|refine qO S ?_|refine lH S ?_);(first|(refine sB S rfl rfl ?_;clear S;intro h S)|(refine jm S rfl rfl ?_;clear S;intro h S));refine mv ?_;refine qf ?_)))
  ·exact absurd (hf.symm.trans (show jT ws 0=QG by assumption)) qbs
  ·exact absurd (hf.symm.trans (show jT ws 0=QG by assumption)) qbs
  ·refine qH ⟨_,qN S rfl (by first|exact .here|exact .there .here|exact .there (.there .here)|exact .there (.there (.there .here))|exact .there (.there (.there (.there .here)))|exact .there (.there (.there (.there (.there .here))))|exact .there (.there (.there (.there (.there (.there .here)))))|exact .there (.there (.there (.there (.there (.there (.there .here))))))|exact .there (.there (.there (.there (.there (.there (.there (.there .here)))))))|exact .there (.there (.there (.there (.there (.there (.there (.there (.there .here))))))))|exact .there (.there (.there (.there (.there (.there (.there (.there (.there (.there .here)))))))))|exact .there (.there (.there (.there (.there (.there (.there (.there (.there (.there (.there .here))))))))))|exact .there (.there (.there (.there (.there (.there (.there (.there (.there (.there (.there (.there .here)))))))))))) (by exact rfl) (by exact rfl),?_⟩
   exact .err (Xk (.inl hf) (by omega)) (by decide) rfl S.drop
 ·have hf:jT ws 0=JS:=by assumption
  have h3:ws.length=3:=by omega
  all_goals (repeat' (first|refine qA ?_|refine qw rfl ?_|refine qx ?_|refine qy ?_|refine qo ?_|refine qi ?_|refine qj ?_|(refine qg 2 ?_;refine mv ?_;refine qf ?_)|(refine qg 3 ?_;refine mv ?_;(first|refine zM S ?_|refine qW S rfl rfl ?_);(first|refine lB S rfl rfl ?_|refine qE S rfl rfl ?_|refine qO S ?_|refine lH S ?_);(refine tS ?_ ?_<;>intro hc)<;>(refine qf ?_))|(refine qg 4 ?_;refine mv ?_;refine qf ?_)))
  rotate_left
  ·exact absurd hf (by assumption)
  all_goals (repeat' (first|refine qA ?_|refine qw rfl ?_|refine qx ?_|refine qy ?_|refine qo ?_|refine qi ?_|refine qj ?_|(refine zZ 5 ?_;(first|refine lB S rfl rfl ?_|refine qE S rfl rfl ?_|refine qO S ?_|refine lH S ?_);refine mv ?_;(first|refine zM S ?_|refine qW S rfl rfl ?_);(first|refine lB S rfl rfl ?_|refine qE S rfl rfl ?_|refine qO S ?_|refine lH S ?_);refine mv ?_;(first|refine zM S ?_|refine qW S rfl rfl ?_);(first|refine lB S rfl rfl ?_|refine qE S rfl rfl ?_|refine qO S ?_|refine lH S ?_);refine mv ?_)))
  (refine qM rfl rfl rfl rfl rfl ((GK S.wf v r (HR.ext w S.ext) H (jT ws 1) (jT ws 2) 2).mono ?_);rintro _ h (⟨he,rfl,x⟩|⟨he,⟨vg',vt',gs'⟩,rfl,hu',x⟩))<;>((first|replace S:=S.zC x|(replace S:=S.join x;dsimp only [Jz,List.cons_append,List.nil_append] at S));clear x;unfold RlV.val;(try dsimp only);(try dsimp only at hu');refine vl ?_;refine vl ?_;(first|(refine sB S rfl rfl ?_;clear S;intro h S)|(refine jm S rfl rfl ?_;clear S;intro h S));refine mv ?_;refine qf ?_)
  all_goals (all_goals (repeat' (first|refine qA ?_|refine qw rfl ?_|refine qx ?_|refine qy ?_|refine qo ?_|refine qi ?_|refine qj ?_|(refine zZ 5 ?_;(first|refine lB S rfl rfl ?_|refine qE S rfl rfl ?_|refine qO S ?_|refine lH S ?_);refine mv ?_;(first|refine zM S ?_|refine qW S rfl rfl ?_);(first|refine lB S rfl rfl ?_|refine qE S rfl rfl ?_|refine qO S ?_|refine lH S ?_);refine mv ?_;(first|refine zM S ?_|refine qW S rfl rfl ?_);(first|refine lB S rfl rfl ?_|refine qE S rfl rfl ?_|refine qO S ?_|refine lH S ?_);refine mv ?_))))
  all_goals (refine qH ⟨_,qN S rfl (by first|exact .here|exact .there .here|exact .there (.there .here)|exact .there (.there (.there .here))|exact .there (.there (.there (.there .here)))|exact .there (.there (.there (.there (.there .here))))|exact .there (.there (.there (.there (.there (.there .here)))))|exact .there (.there (.there (.there (.there (.there (.there .here))))))|exact .there (.there (.there (.there (.there (.there (.there (.there .here)))))))|exact .there (.there (.there (.there (.there (.there (.there (.there (.there .here))))))))|exact .there (.there (.there (.there (.there (.there (.there (.there (.there (.there .here)))))))))|exact .there (.there (.there (.there (.there (.there (.there (.there (.there (.there (.there .here))))))))))|exact .there (.there (.there (.there (.there (.there (.there (.there (.there (.there (.there (.there .here)))))))))))) (by exact rfl) (by exact rfl),?_⟩)
  all_goals rw [Wu hf h3]
  ·exact .inl ⟨he,rfl,S.drop⟩
  ·exact .inr ⟨he,⟨vg',vt',gs'⟩,rfl,hu',S.pick⟩
 ·have hf:jT ws 0=JS:=by assumption
  all_goals (repeat' (first|refine qA ?_|refine qw rfl ?_|refine qx ?_|refine qy ?_|refine qo ?_|refine qi ?_|refine qj ?_|(refine qg 6 ?_;refine mv ?_;(first|refine zM S ?_|refine qW S rfl rfl ?_);(first|refine lB S rfl rfl ?_|refine qE S rfl rfl ?_|refine qO S ?_|refine lH S ?_);(refine tS ?_ ?_<;>intro hc)<;>(refine mv ?_;(first|refine off ?_|refine mv ?_);(first|refine off ?_|(first|refine Zq S ?_|refine Zp S rfl rfl ?_));(first|refine off ?_|(first|refine cT ?_|refine cF ?_|(refine cS ?_ ?_<;>intro hc)))<;>(refine vl ?_;refine qf ?_)))|(refine qg 7 ?_;(first|refine lB S rfl rfl ?_|refine qE S rfl rfl ?_|refine qO S ?_|refine lH S ?_);(first|(refine sB S rfl rfl ?_;clear S;intro h S)|(refine jm S rfl rfl ?_;clear S;intro h S));refine mv ?_;refine qf ?_)))
  ·exact absurd (hf.symm.trans (show jT ws 0=QG by assumption)) qbr
  ·exact absurd (hf.symm.trans (show jT ws 0=QG by assumption)) qbr
  ·refine qH ⟨_,qN S rfl (by first|exact .here|exact .there .here|exact .there (.there .here)|exact .there (.there (.there .here))|exact .there (.there (.there (.there .here)))|exact .there (.there (.there (.there (.there .here))))|exact .there (.there (.there (.there (.there (.there .here)))))|exact .there (.there (.there (.there (.there (.there (.there .here))))))|exact .there (.there (.there (.there (.there (.there (.there (.there .here)))))))|exact .there (.there (.there (.there (.there (.there (.there (.there (.there .here))))))))|exact .there (.there (.there (.there (.there (.there (.there (.there (.there (.there .here)))))))))|exact .there (.there (.there (.there (.there (.there (.there (.there (.there (.there (.there .here))))))))))|exact .there (.there (.there (.there (.there (.there (.there (.there (.there (.there (.there (.there .here)))))))))))) (by exact rfl) (by exact rfl),?_⟩
   exact .err (Xk (.inr hf) (by omega)) (by decide) rfl S.drop
 ·have hn1:jT ws 0≠Qv:=by assumption
  have hn2:jT ws 0≠JS:=by assumption
  all_goals (repeat' (first|refine qA ?_|refine qw rfl ?_|refine qx ?_|refine qy ?_|refine qo ?_|refine qi ?_|refine qj ?_|(refine qg 6 ?_;refine mv ?_;(first|refine zM S ?_|refine qW S rfl rfl ?_);(first|refine lB S rfl rfl ?_|refine qE S rfl rfl ?_|refine qO S ?_|refine lH S ?_);(refine tS ?_ ?_<;>intro hc)<;>(refine mv ?_;(first|refine off ?_|refine mv ?_);(first|refine off ?_|(first|refine Zq S ?_|refine Zp S rfl rfl ?_));(first|refine off ?_|(first|refine cT ?_|refine cF ?_|(refine cS ?_ ?_<;>intro hc)))<;>(refine vl ?_;refine qf ?_)))|(refine qg 7 ?_;(first|refine lB S rfl rfl ?_|refine qE S rfl rfl ?_|refine qO S ?_|refine lH S ?_);(first|(refine sB S rfl rfl ?_;clear S;intro h S)|(refine jm S rfl rfl ?_;clear S;intro h S));refine mv ?_;refine qf ?_)))
  ·have hg:jT ws 0=QG:=by assumption
   refine qH ⟨_,qN S rfl (by first|exact .here|exact .there .here|exact .there (.there .here)|exact .there (.there (.there .here))|exact .there (.there (.there (.there .here)))|exact .there (.there (.there (.there (.there .here))))|exact .there (.there (.there (.there (.there (.there .here)))))|exact .there (.there (.there (.there (.there (.there (.there .here))))))|exact .there (.there (.there (.there (.there (.there (.there (.there .here)))))))|exact .there (.there (.there (.there (.there (.there (.there (.there (.there .here))))))))|exact .there (.there (.there (.there (.there (.there (.there (.there (.there (.there .here)))))))))|exact .there (.there (.there (.there (.there (.there (.there (.there (.there (.there (.there .here))))))))))|exact .there (.there (.there (.there (.there (.there (.there (.there (.there (.there (.there (.there .here)))))))))))) (by exact rfl) (by exact rfl),?_⟩
   exact .err (Ji hg fun q=>by have:=q.1;omega) (by decide) rfl S.drop
  ·have hg:jT ws 0=QG:=by assumption
   have h8:8≤ws.length:=by omega
   all_goals (repeat' (first|refine qA ?_|refine qw rfl ?_|refine qx ?_|refine qy ?_|refine qo ?_|refine qi ?_|refine qj ?_|(refine qg 8 ?_;refine mv ?_;(first|refine zM S ?_|refine qW S rfl rfl ?_);(first|refine lB S rfl rfl ?_|refine qE S rfl rfl ?_|refine qO S ?_|refine lH S ?_))))
   (refine qM rfl rfl rfl rfl rfl ((V5 S.wf _ (hw 4 (by omega))).mono ?_);rintro _ h ⟨k1,c1,rfl,n1,x⟩)<;>(replace S:=S.zC x;clear x;refine mv ?_;refine vl ?_;refine vl ?_;refine mv ?_;refine mv ?_;refine qf ?_)
   all_goals (repeat' (first|refine qA ?_|refine qw rfl ?_|refine qx ?_|refine qy ?_|refine qo ?_|refine qi ?_|refine qj ?_|(refine qg 9 ?_;refine mv ?_;(first|refine zM S ?_|refine qW S rfl rfl ?_);(first|refine lB S rfl rfl ?_|refine qE S rfl rfl ?_|refine qO S ?_|refine lH S ?_))))
   (refine qM rfl rfl rfl rfl rfl ((V5 S.wf _ (hw 5 (by omega))).mono ?_);rintro _ h ⟨k2,c2,rfl,n2,x⟩)<;>(replace S:=S.zC x;clear x;refine mv ?_;refine vl ?_;refine vl ?_;refine mv ?_;refine mv ?_;refine qf ?_)
   rcases n1 with ⟨rfl,p1,rfl⟩|⟨rfl,p1⟩
   rotate_left
   ·all_goals (repeat' (first|refine qA ?_|refine qw rfl ?_|refine qx ?_|refine qy ?_|refine qo ?_|refine qi ?_|refine qj ?_|(refine qg 10 ?_;refine mv ?_;refine vl ?_;refine mv ?_;(first|refine off ?_|refine mv ?_);(first|refine off ?_|refine vl ?_);refine vl ?_;refine mv ?_;(first|refine off ?_|refine mv ?_);(first|refine off ?_|(first|refine zM S ?_|refine qW S rfl rfl ?_));(first|refine off ?_|(first|refine lB S rfl rfl ?_|refine qE S rfl rfl ?_|refine qO S ?_|refine lH S ?_));(first|refine off ?_|(refine tS ?_ ?_<;>intro hc))<;>((first|refine off ?_|refine mv ?_);(first|refine off ?_|refine mv ?_);(first|refine off ?_|(first|refine zM S ?_|refine qW S rfl rfl ?_));(first|refine off ?_|(first|refine lB S rfl rfl ?_|refine qE S rfl rfl ?_|refine qO S ?_|refine lH S ?_));(first|refine off ?_|(refine tS ?_ ?_<;>intro hc))<;>((first|refine off ?_|refine vl ?_);(first|refine off ?_|refine mv ?_);(first|refine off ?_|refine mv ?_);(first|refine off ?_|(first|refine zM S ?_|refine qW S rfl rfl ?_));(first|refine off ?_|(first|refine lB S rfl rfl ?_|refine qE S rfl rfl ?_|refine qO S ?_|refine lH S ?_));(first|refine off ?_|(refine tS ?_ ?_<;>intro hc))<;>((first|refine off ?_|refine vl ?_);(first|refine off ?_|refine mv ?_);(first|refine off ?_|refine mv ?_);(first|refine off ?_|(first|refine zM S ?_|refine qW S rfl rfl ?_));(first|refine off ?_|(first|refine lB S rfl rfl ?_|refine qE S rfl rfl ?_|refine qO S ?_|refine lH S ?_));(first|refine off ?_|(refine tS ?_ ?_<;>intro hc))<;>((first|refine off ?_|refine vl ?_);refine vl ?_;refine qf ?_)))))|(refine qg 11 ?_;(first|refine lB S rfl rfl ?_|refine qE S rfl rfl ?_|refine qO S ?_|refine lH S ?_);(first|(refine sB S rfl rfl ?_;clear S;intro h S)|(refine jm S rfl rfl ?_;clear S;intro h S));refine mv ?_;refine qf ?_)))
    refine qH ⟨_,qN S rfl (by first|exact .here|exact .there .here|exact .there (.there .here)|exact .there (.there (.there .here))|exact .there (.there (.there (.there .here)))|exact .there (.there (.there (.there (.there .here))))|exact .there (.there (.there (.there (.there (.there .here)))))|exact .there (.there (.there (.there (.there (.there (.there .here))))))|exact .there (.there (.there (.there (.there (.there (.there (.there .here)))))))|exact .there (.there (.there (.there (.there (.there (.there (.there (.there .here))))))))|exact .there (.there (.there (.there (.there (.there (.there (.there (.there (.there .here)))))))))|exact .there (.there (.there (.there (.there (.there (.there (.there (.there (.there (.there .here))))))))))|exact .there (.there (.there (.there (.there (.there (.there (.there (.there (.there (.there (.there .here)))))))))))) (by exact rfl) (by exact rfl),?_⟩
    exact .err (Ji hg fun q=>p1 q.2.1) (by decide) rfl S.drop
   rcases n2 with ⟨rfl,p2,rfl⟩|⟨rfl,p2⟩
   rotate_left
   ·all_goals (repeat' (first|refine qA ?_|refine qw rfl ?_|refine qx ?_|refine qy ?_|refine qo ?_|refine qi ?_|refine qj ?_|(refine qg 10 ?_;refine mv ?_;refine vl ?_;refine mv ?_;(first|refine off ?_|refine mv ?_);(first|refine off ?_|refine vl ?_);refine vl ?_;refine mv ?_;(first|refine off ?_|refine mv ?_);(first|refine off ?_|(first|refine zM S ?_|refine qW S rfl rfl ?_));(first|refine off ?_|(first|refine lB S rfl rfl ?_|refine qE S rfl rfl ?_|refine qO S ?_|refine lH S ?_));(first|refine off ?_|(refine tS ?_ ?_<;>intro hc))<;>((first|refine off ?_|refine mv ?_);(first|refine off ?_|refine mv ?_);(first|refine off ?_|(first|refine zM S ?_|refine qW S rfl rfl ?_));(first|refine off ?_|(first|refine lB S rfl rfl ?_|refine qE S rfl rfl ?_|refine qO S ?_|refine lH S ?_));(first|refine off ?_|(refine tS ?_ ?_<;>intro hc))<;>((first|refine off ?_|refine vl ?_);(first|refine off ?_|refine mv ?_);(first|refine off ?_|refine mv ?_);(first|refine off ?_|(first|refine zM S ?_|refine qW S rfl rfl ?_));(first|refine off ?_|(first|refine lB S rfl rfl ?_|refine qE S rfl rfl ?_|refine qO S ?_|refine lH S ?_));(first|refine off ?_|(refine tS ?_ ?_<;>intro hc))<;>((first|refine off ?_|refine vl ?_);(first|refine off ?_|refine mv ?_);(first|refine off ?_|refine mv ?_);(first|refine off ?_|(first|refine zM S ?_|refine qW S rfl rfl ?_));(first|refine off ?_|(first|refine lB S rfl rfl ?_|refine qE S rfl rfl ?_|refine qO S ?_|refine lH S ?_));(first|refine off ?_|(refine tS ?_ ?_<;>intro hc))<;>((first|refine off ?_|refine vl ?_);refine vl ?_;refine qf ?_)))))|(refine qg 11 ?_;(first|refine lB S rfl rfl ?_|refine qE S rfl rfl ?_|refine qO S ?_|refine lH S ?_);(first|(refine sB S rfl rfl ?_;clear S;intro h S)|(refine jm S rfl rfl ?_;clear S;intro h S));refine mv ?_;refine qf ?_)))
    refine qH ⟨_,qN S rfl (by first|exact .here|exact .there .here|exact .there (.there .here)|exact .there (.there (.there .here))|exact .there (.there (.there (.there .here)))|exact .there (.there (.there (.there (.there .here))))|exact .there (.there (.there (.there (.there (.there .here)))))|exact .there (.there (.there (.there (.there (.there (.there .here))))))|exact .there (.there (.there (.there (.there (.there (.there (.there .here)))))))|exact .there (.there (.there (.there (.there (.there (.there (.there (.there .here))))))))|exact .there (.there (.there (.there (.there (.there (.there (.there (.there (.there .here)))))))))|exact .there (.there (.there (.there (.there (.there (.there (.there (.there (.there (.there .here))))))))))|exact .there (.there (.there (.there (.there (.there (.there (.there (.there (.there (.there (.there .here)))))))))))) (by exact rfl) (by exact rfl),?_⟩
    exact .err (Ji hg fun q=>p2 q.2.2.1) (by decide) rfl S.drop
   by_cases fp:Vs (jT ws 7)
   rotate_left
   ·all_goals (repeat' (first|refine qA ?_|refine qw rfl ?_|refine qx ?_|refine qy ?_|refine qo ?_|refine qi ?_|refine qj ?_|(refine qg 10 ?_;refine mv ?_;refine vl ?_;refine mv ?_;(first|refine off ?_|refine mv ?_);(first|refine off ?_|refine vl ?_);refine vl ?_;refine mv ?_;(first|refine off ?_|refine mv ?_);(first|refine off ?_|(first|refine zM S ?_|refine qW S rfl rfl ?_));(first|refine off ?_|(first|refine lB S rfl rfl ?_|refine qE S rfl rfl ?_|refine qO S ?_|refine lH S ?_));(first|refine off ?_|(refine tS ?_ ?_<;>intro hc))<;>((first|refine off ?_|refine mv ?_);(first|refine off ?_|refine mv ?_);(first|refine off ?_|(first|refine zM S ?_|refine qW S rfl rfl ?_));(first|refine off ?_|(first|refine lB S rfl rfl ?_|refine qE S rfl rfl ?_|refine qO S ?_|refine lH S ?_));(first|refine off ?_|(refine tS ?_ ?_<;>intro hc))<;>((first|refine off ?_|refine vl ?_);(first|refine off ?_|refine mv ?_);(first|refine off ?_|refine mv ?_);(first|refine off ?_|(first|refine zM S ?_|refine qW S rfl rfl ?_));(first|refine off ?_|(first|refine lB S rfl rfl ?_|refine qE S rfl rfl ?_|refine qO S ?_|refine lH S ?_));(first|refine off ?_|(refine tS ?_ ?_<;>intro hc))<;>((first|refine off ?_|refine vl ?_);(first|refine off ?_|refine mv ?_);(first|refine off ?_|refine mv ?_);(first|refine off ?_|(first|refine zM S ?_|refine qW S rfl rfl ?_));(first|refine off ?_|(first|refine lB S rfl rfl ?_|refine qE S rfl rfl ?_|refine qO S ?_|refine lH S ?_));(first|refine off ?_|(refine tS ?_ ?_<;>intro hc))<;>((first|refine off ?_|refine vl ?_);refine vl ?_;refine qf ?_)))))|(refine qg 11 ?_;(first|refine lB S rfl rfl ?_|refine qE S rfl rfl ?_|refine qO S ?_|refine lH S ?_);(first|(refine sB S rfl rfl ?_;clear S;intro h S)|(refine jm S rfl rfl ?_;clear S;intro h S));refine mv ?_;refine qf ?_)))
    ·exact absurd (.inl (by assumption)) fp
    ·exact absurd (.inr (.inl (by assumption))) fp
    ·exact absurd (.inr (.inr (.inl (by assumption)))) fp
    ·exact absurd (.inr (.inr (.inr (by assumption)))) fp
    ·refine qH ⟨_,qN S rfl (by first|exact .here|exact .there .here|exact .there (.there .here)|exact .there (.there (.there .here))|exact .there (.there (.there (.there .here)))|exact .there (.there (.there (.there (.there .here))))|exact .there (.there (.there (.there (.there (.there .here)))))|exact .there (.there (.there (.there (.there (.there (.there .here))))))|exact .there (.there (.there (.there (.there (.there (.there (.there .here)))))))|exact .there (.there (.there (.there (.there (.there (.there (.there (.there .here))))))))|exact .there (.there (.there (.there (.there (.there (.there (.there (.there (.there .here)))))))))|exact .there (.there (.there (.there (.there (.there (.there (.there (.there (.there (.there .here))))))))))|exact .there (.there (.there (.there (.there (.there (.there (.there (.there (.there (.there (.there .here)))))))))))) (by exact rfl) (by exact rfl),?_⟩
     exact .err (Ji hg fun q=>fp q.2.2.2) (by decide) rfl S.drop
   have G:GP ws:=⟨h8,p1,p2,fp⟩
   have hl8:(ws.drop 8).length≤8796093021952:=by rw [List.length_drop];omega
   have hl9:(jP ws).tg.length≤9223372036854775807:=by show (ws.drop 8).length≤_;rw [List.length_drop];omega
   have e8:(ws.drop 8).take (ws.length - 8)=ws.drop 8:=List.take_of_length_le (by simp)
   rcases fp with q|q|q|q
   all_goals (all_goals (repeat' (first|refine qA ?_|refine qw rfl ?_|refine qx ?_|refine qy ?_|refine qo ?_|refine qi ?_|refine qj ?_|(refine qg 10 ?_;refine mv ?_;refine vl ?_;refine mv ?_;(first|refine off ?_|refine mv ?_);(first|refine off ?_|refine vl ?_);refine vl ?_;refine mv ?_;(first|refine off ?_|refine mv ?_);(first|refine off ?_|(first|refine zM S ?_|refine qW S rfl rfl ?_));(first|refine off ?_|(first|refine lB S rfl rfl ?_|refine qE S rfl rfl ?_|refine qO S ?_|refine lH S ?_));(first|refine off ?_|(refine tS ?_ ?_<;>intro hc))<;>((first|refine off ?_|refine mv ?_);(first|refine off ?_|refine mv ?_);(first|refine off ?_|(first|refine zM S ?_|refine qW S rfl rfl ?_));(first|refine off ?_|(first|refine lB S rfl rfl ?_|refine qE S rfl rfl ?_|refine qO S ?_|refine lH S ?_));(first|refine off ?_|(refine tS ?_ ?_<;>intro hc))<;>((first|refine off ?_|refine vl ?_);(first|refine off ?_|refine mv ?_);(first|refine off ?_|refine mv ?_);(first|refine off ?_|(first|refine zM S ?_|refine qW S rfl rfl ?_));(first|refine off ?_|(first|refine lB S rfl rfl ?_|refine qE S rfl rfl ?_|refine qO S ?_|refine lH S ?_));(first|refine off ?_|(refine tS ?_ ?_<;>intro hc))<;>((first|refine off ?_|refine vl ?_);(first|refine off ?_|refine mv ?_);(first|refine off ?_|refine mv ?_);(first|refine off ?_|(first|refine zM S ?_|refine qW S rfl rfl ?_));(first|refine off ?_|(first|refine lB S rfl rfl ?_|refine qE S rfl rfl ?_|refine qO S ?_|refine lH S ?_));(first|refine off ?_|(refine tS ?_ ?_<;>intro hc))<;>((first|refine off ?_|refine vl ?_);refine vl ?_;refine qf ?_)))))|(refine qg 11 ?_;(first|refine lB S rfl rfl ?_|refine qE S rfl rfl ?_|refine qO S ?_|refine lH S ?_);(first|(refine sB S rfl rfl ?_;clear S;intro h S)|(refine jm S rfl rfl ?_;clear S;intro h S));refine mv ?_;refine qf ?_))))
   all_goals (try (exfalso;first|exact absurd q (by assumption)|exact absurd (q.symm.trans (show jT ws 7=_ by assumption)) (by decide)))
   skip
   all_goals ((repeat (refine qA ?_));refine Zm (id:=12) [(0,(0,4)),(3,(0,4)),(10,(0,1)),(16,(0,2)),(20,(0,3)),(25,(3,4)),(30,(0,3)),(35,(3,4)),(39,(0,3))] [some (b2),some (QE (SlV.val ⟨sp,sn,sc⟩)),some (QE (SlV.val ⟨sp,sn,sc⟩)),some (QE (SlV.val ⟨sp,sn,sc⟩)),some (QE (SlV.val ⟨sp,sn,sc⟩)),some (QE (SlV.val ⟨sp,sn,sc⟩)),some (QE (SlV.val ⟨sp,sn,sc⟩)),some (QE (SlV.val ⟨sp,sn,sc⟩)),some (QE (SlV.val ⟨sp,sn,sc⟩))] ?_;refine qB ?_;(first|(refine lB S rfl rfl ?_<;>refine qf ⟨⟨by (first|exact True.intro|exact Or.inr (qG rfl rfl)|exact Or.inr (qF rfl rfl)|exact Or.inl rfl|exact Or.inr rfl|exact Or.inr (congrArg some (qh _ _ _ _))|exact ⟨Or.inl rfl,rfl⟩|exact ⟨Or.inr rfl,rfl⟩),rfl⟩,?_⟩)|(refine qE S rfl rfl ?_<;>refine qf ⟨⟨by (first|exact True.intro|exact Or.inr (qG rfl rfl)|exact Or.inr (qF rfl rfl)|exact Or.inl rfl|exact Or.inr rfl|exact Or.inr (congrArg some (qh _ _ _ _))|exact ⟨Or.inl rfl,rfl⟩|exact ⟨Or.inr rfl,rfl⟩),rfl⟩,?_⟩)|(refine qO S ?_<;>refine qf ⟨⟨by (first|exact True.intro|exact Or.inr (qG rfl rfl)|exact Or.inr (qF rfl rfl)|exact Or.inl rfl|exact Or.inr rfl|exact Or.inr (congrArg some (qh _ _ _ _))|exact ⟨Or.inl rfl,rfl⟩|exact ⟨Or.inr rfl,rfl⟩),rfl⟩,?_⟩)|(refine lH S ?_<;>refine qf ⟨⟨by (first|exact True.intro|exact Or.inr (qG rfl rfl)|exact Or.inr (qF rfl rfl)|exact Or.inl rfl|exact Or.inr rfl|exact Or.inr (congrArg some (qh _ _ _ _))|exact ⟨Or.inl rfl,rfl⟩|exact ⟨Or.inr rfl,rfl⟩),rfl⟩,?_⟩));refine qB ?_;(first|(refine mv ?_<;>refine qf ⟨⟨by (first|exact True.intro|exact Or.inr (qG rfl rfl)|exact Or.inr (qF rfl rfl)|exact Or.inl rfl|exact Or.inr rfl|exact Or.inr (congrArg some (qh _ _ _ _))|exact ⟨Or.inl rfl,rfl⟩|exact ⟨Or.inr rfl,rfl⟩),rfl⟩,?_⟩));refine qB ?_;(first|(refine zM S ?_<;>refine qf ⟨⟨by (first|exact True.intro|exact Or.inr (qG rfl rfl)|exact Or.inr (qF rfl rfl)|exact Or.inl rfl|exact Or.inr rfl|exact Or.inr (congrArg some (qh _ _ _ _))|exact ⟨Or.inl rfl,rfl⟩|exact ⟨Or.inr rfl,rfl⟩),rfl⟩,?_⟩)|(refine qW S rfl rfl ?_<;>refine qf ⟨⟨by (first|exact True.intro|exact Or.inr (qG rfl rfl)|exact Or.inr (qF rfl rfl)|exact Or.inl rfl|exact Or.inr rfl|exact Or.inr (congrArg some (qh _ _ _ _))|exact ⟨Or.inl rfl,rfl⟩|exact ⟨Or.inr rfl,rfl⟩),rfl⟩,?_⟩));refine qB ?_;(first|(refine lB S rfl rfl ?_<;>refine qf ⟨⟨by (first|exact True.intro|exact Or.inr (qG rfl rfl)|exact Or.inr (qF rfl rfl)|exact Or.inl rfl|exact Or.inr rfl|exact Or.inr (congrArg some (qh _ _ _ _))|exact ⟨Or.inl rfl,rfl⟩|exact ⟨Or.inr rfl,rfl⟩),rfl⟩,?_⟩)|(refine qE S rfl rfl ?_<;>refine qf ⟨⟨by (first|exact True.intro|exact Or.inr (qG rfl rfl)|exact Or.inr (qF rfl rfl)|exact Or.inl rfl|exact Or.inr rfl|exact Or.inr (congrArg some (qh _ _ _ _))|exact ⟨Or.inl rfl,rfl⟩|exact ⟨Or.inr rfl,rfl⟩),rfl⟩,?_⟩)|(refine qO S ?_<;>refine qf ⟨⟨by (first|exact True.intro|exact Or.inr (qG rfl rfl)|exact Or.inr (qF rfl rfl)|exact Or.inl rfl|exact Or.inr rfl|exact Or.inr (congrArg some (qh _ _ _ _))|exact ⟨Or.inl rfl,rfl⟩|exact ⟨Or.inr rfl,rfl⟩),rfl⟩,?_⟩)|(refine lH S ?_<;>refine qf ⟨⟨by (first|exact True.intro|exact Or.inr (qG rfl rfl)|exact Or.inr (qF rfl rfl)|exact Or.inl rfl|exact Or.inr rfl|exact Or.inr (congrArg some (qh _ _ _ _))|exact ⟨Or.inl rfl,rfl⟩|exact ⟨Or.inr rfl,rfl⟩),rfl⟩,?_⟩));refine qB ?_;(first|(refine mv ?_<;>refine qf ⟨⟨by (first|exact True.intro|exact Or.inr (qG rfl rfl)|exact Or.inr (qF rfl rfl)|exact Or.inl rfl|exact Or.inr rfl|exact Or.inr (congrArg some (qh _ _ _ _))|exact ⟨Or.inl rfl,rfl⟩|exact ⟨Or.inr rfl,rfl⟩),rfl⟩,?_⟩));refine qB ?_;(first|(refine zM S ?_<;>refine qf ⟨⟨by (first|exact True.intro|exact Or.inr (qG rfl rfl)|exact Or.inr (qF rfl rfl)|exact Or.inl rfl|exact Or.inr rfl|exact Or.inr (congrArg some (qh _ _ _ _))|exact ⟨Or.inl rfl,rfl⟩|exact ⟨Or.inr rfl,rfl⟩),rfl⟩,?_⟩)|(refine qW S rfl rfl ?_<;>refine qf ⟨⟨by (first|exact True.intro|exact Or.inr (qG rfl rfl)|exact Or.inr (qF rfl rfl)|exact Or.inl rfl|exact Or.inr rfl|exact Or.inr (congrArg some (qh _ _ _ _))|exact ⟨Or.inl rfl,rfl⟩|exact ⟨Or.inr rfl,rfl⟩),rfl⟩,?_⟩));refine qB ?_;(first|(refine lB S rfl rfl ?_<;>refine qf ⟨⟨by (first|exact True.intro|exact Or.inr (qG rfl rfl)|exact Or.inr (qF rfl rfl)|exact Or.inl rfl|exact Or.inr rfl|exact Or.inr (congrArg some (qh _ _ _ _))|exact ⟨Or.inl rfl,rfl⟩|exact ⟨Or.inr rfl,rfl⟩),rfl⟩,?_⟩)|(refine qE S rfl rfl ?_<;>refine qf ⟨⟨by (first|exact True.intro|exact Or.inr (qG rfl rfl)|exact Or.inr (qF rfl rfl)|exact Or.inl rfl|exact Or.inr rfl|exact Or.inr (congrArg some (qh _ _ _ _))|exact ⟨Or.inl rfl,rfl⟩|exact ⟨Or.inr rfl,rfl⟩),rfl⟩,?_⟩)|(refine qO S ?_<;>refine qf ⟨⟨by (first|exact True.intro|exact Or.inr (qG rfl rfl)|exact Or.inr (qF rfl rfl)|exact Or.inl rfl|exact Or.inr rfl|exact Or.inr (congrArg some (qh _ _ _ _))|exact ⟨Or.inl rfl,rfl⟩|exact ⟨Or.inr rfl,rfl⟩),rfl⟩,?_⟩)|(refine lH S ?_<;>refine qf ⟨⟨by (first|exact True.intro|exact Or.inr (qG rfl rfl)|exact Or.inr (qF rfl rfl)|exact Or.inl rfl|exact Or.inr rfl|exact Or.inr (congrArg some (qh _ _ _ _))|exact ⟨Or.inl rfl,rfl⟩|exact ⟨Or.inr rfl,rfl⟩),rfl⟩,?_⟩)))
   all_goals (((refine qB ?_;first|refine qM rfl rfl rfl rfl rfl ((XP S.wf _).mono ?_));rintro _ h ⟨rfl,x⟩)<;>((refine qf ⟨⟨True.intro,?_⟩,?_⟩;(focus ((show keepsX _ _ _ _ _;simp only [keepsX];(repeat' (first|exact True.intro|refine And.intro ?_ ?_));all_goals (intro hw;first|exact True.intro|exact rfl|exact absurd hw (by decide +kernel)|exact x.ext.old _ S.bB|exact x.ext.old _ (S.bR (by first|omega|grind))|exact x.ext.old _ (S.bX (by assumption) (by assumption) (by first|omega|grind))|exact x.ext.old _ (S.bY (by assumption) (by assumption))|(refine x.ext.old _ ?_;assumption)|exact absurd hw (by decide +kernel))))));replace S:=S.zC x;clear x;refine qB ?_;(first|(refine mv ?_<;>refine qf ⟨⟨by (first|exact True.intro|exact Or.inr (qG rfl rfl)|exact Or.inr (qF rfl rfl)|exact Or.inl rfl|exact Or.inr rfl|exact Or.inr (congrArg some (qh _ _ _ _))|exact ⟨Or.inl rfl,rfl⟩|exact ⟨Or.inr rfl,rfl⟩),rfl⟩,?_⟩));refine qB ?_;(first|(refine zM S ?_<;>refine qf ⟨⟨by (first|exact True.intro|exact Or.inr (qG rfl rfl)|exact Or.inr (qF rfl rfl)|exact Or.inl rfl|exact Or.inr rfl|exact Or.inr (congrArg some (qh _ _ _ _))|exact ⟨Or.inl rfl,rfl⟩|exact ⟨Or.inr rfl,rfl⟩),rfl⟩,?_⟩)|(refine qW S rfl rfl ?_<;>refine qf ⟨⟨by (first|exact True.intro|exact Or.inr (qG rfl rfl)|exact Or.inr (qF rfl rfl)|exact Or.inl rfl|exact Or.inr rfl|exact Or.inr (congrArg some (qh _ _ _ _))|exact ⟨Or.inl rfl,rfl⟩|exact ⟨Or.inr rfl,rfl⟩),rfl⟩,?_⟩));refine qB ?_;(first|(refine lB S rfl rfl ?_<;>refine qf ⟨⟨by (first|exact True.intro|exact Or.inr (qG rfl rfl)|exact Or.inr (qF rfl rfl)|exact Or.inl rfl|exact Or.inr rfl|exact Or.inr (congrArg some (qh _ _ _ _))|exact ⟨Or.inl rfl,rfl⟩|exact ⟨Or.inr rfl,rfl⟩),rfl⟩,?_⟩)|(refine qE S rfl rfl ?_<;>refine qf ⟨⟨by (first|exact True.intro|exact Or.inr (qG rfl rfl)|exact Or.inr (qF rfl rfl)|exact Or.inl rfl|exact Or.inr rfl|exact Or.inr (congrArg some (qh _ _ _ _))|exact ⟨Or.inl rfl,rfl⟩|exact ⟨Or.inr rfl,rfl⟩),rfl⟩,?_⟩)|(refine qO S ?_<;>refine qf ⟨⟨by (first|exact True.intro|exact Or.inr (qG rfl rfl)|exact Or.inr (qF rfl rfl)|exact Or.inl rfl|exact Or.inr rfl|exact Or.inr (congrArg some (qh _ _ _ _))|exact ⟨Or.inl rfl,rfl⟩|exact ⟨Or.inr rfl,rfl⟩),rfl⟩,?_⟩)|(refine lH S ?_<;>refine qf ⟨⟨by (first|exact True.intro|exact Or.inr (qG rfl rfl)|exact Or.inr (qF rfl rfl)|exact Or.inl rfl|exact Or.inr rfl|exact Or.inr (congrArg some (qh _ _ _ _))|exact ⟨Or.inl rfl,rfl⟩|exact ⟨Or.inr rfl,rfl⟩),rfl⟩,?_⟩))))
   all_goals (((refine qB ?_;first|refine qM rfl rfl rfl rfl rfl ((XP S.wf _).mono ?_));rintro _ h ⟨rfl,x⟩)<;>((refine qf ⟨⟨True.intro,?_⟩,?_⟩;(focus ((show keepsX _ _ _ _ _;simp only [keepsX];(repeat' (first|exact True.intro|refine And.intro ?_ ?_));all_goals (intro hw;first|exact True.intro|exact rfl|exact absurd hw (by decide +kernel)|exact x.ext.old _ S.bB|exact x.ext.old _ (S.bR (by first|omega|grind))|exact x.ext.old _ (S.bX (by assumption) (by assumption) (by first|omega|grind))|exact x.ext.old _ (S.bY (by assumption) (by assumption))|(refine x.ext.old _ ?_;assumption)|exact absurd hw (by decide +kernel))))));replace S:=S.zC x;clear x;refine qB ?_;(first|(refine mv ?_<;>refine qf ⟨⟨by (first|exact True.intro|exact Or.inr (qG rfl rfl)|exact Or.inr (qF rfl rfl)|exact Or.inl rfl|exact Or.inr rfl|exact Or.inr (congrArg some (qh _ _ _ _))|exact ⟨Or.inl rfl,rfl⟩|exact ⟨Or.inr rfl,rfl⟩),rfl⟩,?_⟩));refine qB ?_;(first|(refine mv ?_<;>refine qf ⟨⟨by (first|exact True.intro|exact Or.inr (qG rfl rfl)|exact Or.inr (qF rfl rfl)|exact Or.inl rfl|exact Or.inr rfl|exact Or.inr (congrArg some (qh _ _ _ _))|exact ⟨Or.inl rfl,rfl⟩|exact ⟨Or.inr rfl,rfl⟩),rfl⟩,?_⟩));refine qB ?_;(first|(refine mv ?_<;>refine qf ⟨⟨by (first|exact True.intro|exact Or.inr (qG rfl rfl)|exact Or.inr (qF rfl rfl)|exact Or.inl rfl|exact Or.inr rfl|exact Or.inr (congrArg some (qh _ _ _ _))|exact ⟨Or.inl rfl,rfl⟩|exact ⟨Or.inr rfl,rfl⟩),rfl⟩,?_⟩));refine qB ?_;(first|(refine zM S ?_<;>refine qf ⟨⟨by (first|exact True.intro|exact Or.inr (qG rfl rfl)|exact Or.inr (qF rfl rfl)|exact Or.inl rfl|exact Or.inr rfl|exact Or.inr (congrArg some (qh _ _ _ _))|exact ⟨Or.inl rfl,rfl⟩|exact ⟨Or.inr rfl,rfl⟩),rfl⟩,?_⟩)|(refine qW S rfl rfl ?_<;>refine qf ⟨⟨by (first|exact True.intro|exact Or.inr (qG rfl rfl)|exact Or.inr (qF rfl rfl)|exact Or.inl rfl|exact Or.inr rfl|exact Or.inr (congrArg some (qh _ _ _ _))|exact ⟨Or.inl rfl,rfl⟩|exact ⟨Or.inr rfl,rfl⟩),rfl⟩,?_⟩));refine qB ?_;(first|(refine lB S rfl rfl ?_<;>refine qf ⟨⟨by (first|exact True.intro|exact Or.inr (qG rfl rfl)|exact Or.inr (qF rfl rfl)|exact Or.inl rfl|exact Or.inr rfl|exact Or.inr (congrArg some (qh _ _ _ _))|exact ⟨Or.inl rfl,rfl⟩|exact ⟨Or.inr rfl,rfl⟩),rfl⟩,?_⟩)|(refine qE S rfl rfl ?_<;>refine qf ⟨⟨by (first|exact True.intro|exact Or.inr (qG rfl rfl)|exact Or.inr (qF rfl rfl)|exact Or.inl rfl|exact Or.inr rfl|exact Or.inr (congrArg some (qh _ _ _ _))|exact ⟨Or.inl rfl,rfl⟩|exact ⟨Or.inr rfl,rfl⟩),rfl⟩,?_⟩)|(refine qO S ?_<;>refine qf ⟨⟨by (first|exact True.intro|exact Or.inr (qG rfl rfl)|exact Or.inr (qF rfl rfl)|exact Or.inl rfl|exact Or.inr rfl|exact Or.inr (congrArg some (qh _ _ _ _))|exact ⟨Or.inl rfl,rfl⟩|exact ⟨Or.inr rfl,rfl⟩),rfl⟩,?_⟩)|(refine lH S ?_<;>refine qf ⟨⟨by (first|exact True.intro|exact Or.inr (qG rfl rfl)|exact Or.inr (qF rfl rfl)|exact Or.inl rfl|exact Or.inr rfl|exact Or.inr (congrArg some (qh _ _ _ _))|exact ⟨Or.inl rfl,rfl⟩|exact ⟨Or.inr rfl,rfl⟩),rfl⟩,?_⟩))))
   all_goals (((refine qB ?_;first|refine qM rfl rfl rfl rfl rfl ((XP S.wf _).mono ?_));rintro _ h ⟨rfl,x⟩)<;>((refine qf ⟨⟨True.intro,?_⟩,?_⟩;(focus ((show keepsX _ _ _ _ _;simp only [keepsX];(repeat' (first|exact True.intro|refine And.intro ?_ ?_));all_goals (intro hw;first|exact True.intro|exact rfl|exact absurd hw (by decide +kernel)|exact x.ext.old _ S.bB|exact x.ext.old _ (S.bR (by first|omega|grind))|exact x.ext.old _ (S.bX (by assumption) (by assumption) (by first|omega|grind))|exact x.ext.old _ (S.bY (by assumption) (by assumption))|(refine x.ext.old _ ?_;assumption)|exact absurd hw (by decide +kernel))))));replace S:=S.zC x;clear x;refine qB ?_;(first|(refine mv ?_<;>refine qf ⟨⟨by (first|exact True.intro|exact Or.inr (qG rfl rfl)|exact Or.inr (qF rfl rfl)|exact Or.inl rfl|exact Or.inr rfl|exact Or.inr (congrArg some (qh _ _ _ _))|exact ⟨Or.inl rfl,rfl⟩|exact ⟨Or.inr rfl,rfl⟩),rfl⟩,?_⟩));refine qB ?_;(first|(refine zM S ?_<;>refine qf ⟨⟨by (first|exact True.intro|exact Or.inr (qG rfl rfl)|exact Or.inr (qF rfl rfl)|exact Or.inl rfl|exact Or.inr rfl|exact Or.inr (congrArg some (qh _ _ _ _))|exact ⟨Or.inl rfl,rfl⟩|exact ⟨Or.inr rfl,rfl⟩),rfl⟩,?_⟩)|(refine qW S rfl rfl ?_<;>refine qf ⟨⟨by (first|exact True.intro|exact Or.inr (qG rfl rfl)|exact Or.inr (qF rfl rfl)|exact Or.inl rfl|exact Or.inr rfl|exact Or.inr (congrArg some (qh _ _ _ _))|exact ⟨Or.inl rfl,rfl⟩|exact ⟨Or.inr rfl,rfl⟩),rfl⟩,?_⟩));refine qB ?_;(first|(refine lB S rfl rfl ?_<;>refine qf ⟨⟨by (first|exact True.intro|exact Or.inr (qG rfl rfl)|exact Or.inr (qF rfl rfl)|exact Or.inl rfl|exact Or.inr rfl|exact Or.inr (congrArg some (qh _ _ _ _))|exact ⟨Or.inl rfl,rfl⟩|exact ⟨Or.inr rfl,rfl⟩),rfl⟩,?_⟩)|(refine qE S rfl rfl ?_<;>refine qf ⟨⟨by (first|exact True.intro|exact Or.inr (qG rfl rfl)|exact Or.inr (qF rfl rfl)|exact Or.inl rfl|exact Or.inr rfl|exact Or.inr (congrArg some (qh _ _ _ _))|exact ⟨Or.inl rfl,rfl⟩|exact ⟨Or.inr rfl,rfl⟩),rfl⟩,?_⟩)|(refine qO S ?_<;>refine qf ⟨⟨by (first|exact True.intro|exact Or.inr (qG rfl rfl)|exact Or.inr (qF rfl rfl)|exact Or.inl rfl|exact Or.inr rfl|exact Or.inr (congrArg some (qh _ _ _ _))|exact ⟨Or.inl rfl,rfl⟩|exact ⟨Or.inr rfl,rfl⟩),rfl⟩,?_⟩)|(refine lH S ?_<;>refine qf ⟨⟨by (first|exact True.intro|exact Or.inr (qG rfl rfl)|exact Or.inr (qF rfl rfl)|exact Or.inl rfl|exact Or.inr rfl|exact Or.inr (congrArg some (qh _ _ _ _))|exact ⟨Or.inl rfl,rfl⟩|exact ⟨Or.inr rfl,rfl⟩),rfl⟩,?_⟩));refine qB ?_;(first|(refine tKT ?_<;>refine qf ⟨⟨by (first|exact True.intro|exact Or.inr (qG rfl rfl)|exact Or.inr (qF rfl rfl)|exact Or.inl rfl|exact Or.inr rfl|exact Or.inr (congrArg some (qh _ _ _ _))|exact ⟨Or.inl rfl,rfl⟩|exact ⟨Or.inr rfl,rfl⟩),rfl⟩,?_⟩)|(refine tKF ?_<;>refine qf ⟨⟨by (first|exact True.intro|exact Or.inr (qG rfl rfl)|exact Or.inr (qF rfl rfl)|exact Or.inl rfl|exact Or.inr rfl|exact Or.inr (congrArg some (qh _ _ _ _))|exact ⟨Or.inl rfl,rfl⟩|exact ⟨Or.inr rfl,rfl⟩),rfl⟩,?_⟩));refine qB ?_;(first|(refine mv ?_<;>refine qf ⟨⟨by (first|exact True.intro|exact Or.inr (qG rfl rfl)|exact Or.inr (qF rfl rfl)|exact Or.inl rfl|exact Or.inr rfl|exact Or.inr (congrArg some (qh _ _ _ _))|exact ⟨Or.inl rfl,rfl⟩|exact ⟨Or.inr rfl,rfl⟩),rfl⟩,?_⟩));refine qB ?_;(first|(refine off ?_;refine qf ⟨⟨by (first|exact True.intro|exact Or.inr (qG rfl rfl)|exact Or.inr (qF rfl rfl)|exact Or.inl rfl|exact Or.inr rfl|exact Or.inr (congrArg some (qh _ _ _ _))|exact ⟨Or.inl rfl,rfl⟩|exact ⟨Or.inr rfl,rfl⟩),rfl⟩,?_⟩)|(refine mv ?_<;>refine qf ⟨⟨by (first|exact True.intro|exact Or.inr (qG rfl rfl)|exact Or.inr (qF rfl rfl)|exact Or.inl rfl|exact Or.inr rfl|exact Or.inr (congrArg some (qh _ _ _ _))|exact ⟨Or.inl rfl,rfl⟩|exact ⟨Or.inr rfl,rfl⟩),rfl⟩,?_⟩));refine qB ?_;(first|(refine off ?_;refine qf ⟨⟨by (first|exact True.intro|exact Or.inr (qG rfl rfl)|exact Or.inr (qF rfl rfl)|exact Or.inl rfl|exact Or.inr rfl|exact Or.inr (congrArg some (qh _ _ _ _))|exact ⟨Or.inl rfl,rfl⟩|exact ⟨Or.inr rfl,rfl⟩),rfl⟩,?_⟩)|(refine zM S ?_<;>refine qf ⟨⟨by (first|exact True.intro|exact Or.inr (qG rfl rfl)|exact Or.inr (qF rfl rfl)|exact Or.inl rfl|exact Or.inr rfl|exact Or.inr (congrArg some (qh _ _ _ _))|exact ⟨Or.inl rfl,rfl⟩|exact ⟨Or.inr rfl,rfl⟩),rfl⟩,?_⟩)|(refine qW S rfl rfl ?_<;>refine qf ⟨⟨by (first|exact True.intro|exact Or.inr (qG rfl rfl)|exact Or.inr (qF rfl rfl)|exact Or.inl rfl|exact Or.inr rfl|exact Or.inr (congrArg some (qh _ _ _ _))|exact ⟨Or.inl rfl,rfl⟩|exact ⟨Or.inr rfl,rfl⟩),rfl⟩,?_⟩));refine qB ?_;(first|(refine off ?_;refine qf ⟨⟨by (first|exact True.intro|exact Or.inr (qG rfl rfl)|exact Or.inr (qF rfl rfl)|exact Or.inl rfl|exact Or.inr rfl|exact Or.inr (congrArg some (qh _ _ _ _))|exact ⟨Or.inl rfl,rfl⟩|exact ⟨Or.inr rfl,rfl⟩),rfl⟩,?_⟩)|(refine lB S rfl rfl ?_<;>refine qf ⟨⟨by (first|exact True.intro|exact Or.inr (qG rfl rfl)|exact Or.inr (qF rfl rfl)|exact Or.inl rfl|exact Or.inr rfl|exact Or.inr (congrArg some (qh _ _ _ _))|exact ⟨Or.inl rfl,rfl⟩|exact ⟨Or.inr rfl,rfl⟩),rfl⟩,?_⟩)|(refine qE S rfl rfl ?_<;>refine qf ⟨⟨by (first|exact True.intro|exact Or.inr (qG rfl rfl)|exact Or.inr (qF rfl rfl)|exact Or.inl rfl|exact Or.inr rfl|exact Or.inr (congrArg some (qh _ _ _ _))|exact ⟨Or.inl rfl,rfl⟩|exact ⟨Or.inr rfl,rfl⟩),rfl⟩,?_⟩)|(refine qO S ?_<;>refine qf ⟨⟨by (first|exact True.intro|exact Or.inr (qG rfl rfl)|exact Or.inr (qF rfl rfl)|exact Or.inl rfl|exact Or.inr rfl|exact Or.inr (congrArg some (qh _ _ _ _))|exact ⟨Or.inl rfl,rfl⟩|exact ⟨Or.inr rfl,rfl⟩),rfl⟩,?_⟩)|(refine lH S ?_<;>refine qf ⟨⟨by (first|exact True.intro|exact Or.inr (qG rfl rfl)|exact Or.inr (qF rfl rfl)|exact Or.inl rfl|exact Or.inr rfl|exact Or.inr (congrArg some (qh _ _ _ _))|exact ⟨Or.inl rfl,rfl⟩|exact ⟨Or.inr rfl,rfl⟩),rfl⟩,?_⟩));refine qB ?_;(first|(refine off ?_;refine qf ⟨⟨by (first|exact True.intro|exact Or.inr (qG rfl rfl)|exact Or.inr (qF rfl rfl)|exact Or.inl rfl|exact Or.inr rfl|exact Or.inr (congrArg some (qh _ _ _ _))|exact ⟨Or.inl rfl,rfl⟩|exact ⟨Or.inr rfl,rfl⟩),rfl⟩,?_⟩)|(refine tKT ?_<;>refine qf ⟨⟨by (first|exact True.intro|exact Or.inr (qG rfl rfl)|exact Or.inr (qF rfl rfl)|exact Or.inl rfl|exact Or.inr rfl|exact Or.inr (congrArg some (qh _ _ _ _))|exact ⟨Or.inl rfl,rfl⟩|exact ⟨Or.inr rfl,rfl⟩),rfl⟩,?_⟩)|(refine tKF ?_<;>refine qf ⟨⟨by (first|exact True.intro|exact Or.inr (qG rfl rfl)|exact Or.inr (qF rfl rfl)|exact Or.inl rfl|exact Or.inr rfl|exact Or.inr (congrArg some (qh _ _ _ _))|exact ⟨Or.inl rfl,rfl⟩|exact ⟨Or.inr rfl,rfl⟩),rfl⟩,?_⟩));refine qB ?_;(first|(refine vl ?_<;>refine qf ⟨⟨by (first|exact True.intro|exact Or.inr (qG rfl rfl)|exact Or.inr (qF rfl rfl)|exact Or.inl rfl|exact Or.inr rfl|exact Or.inr (congrArg some (qh _ _ _ _))|exact ⟨Or.inl rfl,rfl⟩|exact ⟨Or.inr rfl,rfl⟩),rfl⟩,?_⟩));refine qB ?_;(first|(refine mv ?_<;>refine qf ⟨⟨by (first|exact True.intro|exact Or.inr (qG rfl rfl)|exact Or.inr (qF rfl rfl)|exact Or.inl rfl|exact Or.inr rfl|exact Or.inr (congrArg some (qh _ _ _ _))|exact ⟨Or.inl rfl,rfl⟩|exact ⟨Or.inr rfl,rfl⟩),rfl⟩,?_⟩));refine qB ?_;(first|(refine zM S ?_<;>refine qf ⟨⟨by (first|exact True.intro|exact Or.inr (qG rfl rfl)|exact Or.inr (qF rfl rfl)|exact Or.inl rfl|exact Or.inr rfl|exact Or.inr (congrArg some (qh _ _ _ _))|exact ⟨Or.inl rfl,rfl⟩|exact ⟨Or.inr rfl,rfl⟩),rfl⟩,?_⟩)|(refine qW S rfl rfl ?_<;>refine qf ⟨⟨by (first|exact True.intro|exact Or.inr (qG rfl rfl)|exact Or.inr (qF rfl rfl)|exact Or.inl rfl|exact Or.inr rfl|exact Or.inr (congrArg some (qh _ _ _ _))|exact ⟨Or.inl rfl,rfl⟩|exact ⟨Or.inr rfl,rfl⟩),rfl⟩,?_⟩));refine qB ?_;(first|(refine lB S rfl rfl ?_<;>refine qf ⟨⟨by (first|exact True.intro|exact Or.inr (qG rfl rfl)|exact Or.inr (qF rfl rfl)|exact Or.inl rfl|exact Or.inr rfl|exact Or.inr (congrArg some (qh _ _ _ _))|exact ⟨Or.inl rfl,rfl⟩|exact ⟨Or.inr rfl,rfl⟩),rfl⟩,?_⟩)|(refine qE S rfl rfl ?_<;>refine qf ⟨⟨by (first|exact True.intro|exact Or.inr (qG rfl rfl)|exact Or.inr (qF rfl rfl)|exact Or.inl rfl|exact Or.inr rfl|exact Or.inr (congrArg some (qh _ _ _ _))|exact ⟨Or.inl rfl,rfl⟩|exact ⟨Or.inr rfl,rfl⟩),rfl⟩,?_⟩)|(refine qO S ?_<;>refine qf ⟨⟨by (first|exact True.intro|exact Or.inr (qG rfl rfl)|exact Or.inr (qF rfl rfl)|exact Or.inl rfl|exact Or.inr rfl|exact Or.inr (congrArg some (qh _ _ _ _))|exact ⟨Or.inl rfl,rfl⟩|exact ⟨Or.inr rfl,rfl⟩),rfl⟩,?_⟩)|(refine lH S ?_<;>refine qf ⟨⟨by (first|exact True.intro|exact Or.inr (qG rfl rfl)|exact Or.inr (qF rfl rfl)|exact Or.inl rfl|exact Or.inr rfl|exact Or.inr (congrArg some (qh _ _ _ _))|exact ⟨Or.inl rfl,rfl⟩|exact ⟨Or.inr rfl,rfl⟩),rfl⟩,?_⟩));refine qB ?_;(first|(refine tKT ?_<;>refine qf ⟨⟨by (first|exact True.intro|exact Or.inr (qG rfl rfl)|exact Or.inr (qF rfl rfl)|exact Or.inl rfl|exact Or.inr rfl|exact Or.inr (congrArg some (qh _ _ _ _))|exact ⟨Or.inl rfl,rfl⟩|exact ⟨Or.inr rfl,rfl⟩),rfl⟩,?_⟩)|(refine tKF ?_<;>refine qf ⟨⟨by (first|exact True.intro|exact Or.inr (qG rfl rfl)|exact Or.inr (qF rfl rfl)|exact Or.inl rfl|exact Or.inr rfl|exact Or.inr (congrArg some (qh _ _ _ _))|exact ⟨Or.inl rfl,rfl⟩|exact ⟨Or.inr rfl,rfl⟩),rfl⟩,?_⟩));refine qB ?_;(first|(refine mv ?_<;>refine qf ⟨⟨by (first|exact True.intro|exact Or.inr (qG rfl rfl)|exact Or.inr (qF rfl rfl)|exact Or.inl rfl|exact Or.inr rfl|exact Or.inr (congrArg some (qh _ _ _ _))|exact ⟨Or.inl rfl,rfl⟩|exact ⟨Or.inr rfl,rfl⟩),rfl⟩,?_⟩));refine qB ?_;(first|(refine off ?_;refine qf ⟨⟨by (first|exact True.intro|exact Or.inr (qG rfl rfl)|exact Or.inr (qF rfl rfl)|exact Or.inl rfl|exact Or.inr rfl|exact Or.inr (congrArg some (qh _ _ _ _))|exact ⟨Or.inl rfl,rfl⟩|exact ⟨Or.inr rfl,rfl⟩),rfl⟩,?_⟩)|(refine mv ?_<;>refine qf ⟨⟨by (first|exact True.intro|exact Or.inr (qG rfl rfl)|exact Or.inr (qF rfl rfl)|exact Or.inl rfl|exact Or.inr rfl|exact Or.inr (congrArg some (qh _ _ _ _))|exact ⟨Or.inl rfl,rfl⟩|exact ⟨Or.inr rfl,rfl⟩),rfl⟩,?_⟩));refine qB ?_;(first|(refine off ?_;refine qf ⟨⟨by (first|exact True.intro|exact Or.inr (qG rfl rfl)|exact Or.inr (qF rfl rfl)|exact Or.inl rfl|exact Or.inr rfl|exact Or.inr (congrArg some (qh _ _ _ _))|exact ⟨Or.inl rfl,rfl⟩|exact ⟨Or.inr rfl,rfl⟩),rfl⟩,?_⟩)|(refine zM S ?_<;>refine qf ⟨⟨by (first|exact True.intro|exact Or.inr (qG rfl rfl)|exact Or.inr (qF rfl rfl)|exact Or.inl rfl|exact Or.inr rfl|exact Or.inr (congrArg some (qh _ _ _ _))|exact ⟨Or.inl rfl,rfl⟩|exact ⟨Or.inr rfl,rfl⟩),rfl⟩,?_⟩)|(refine qW S rfl rfl ?_<;>refine qf ⟨⟨by (first|exact True.intro|exact Or.inr (qG rfl rfl)|exact Or.inr (qF rfl rfl)|exact Or.inl rfl|exact Or.inr rfl|exact Or.inr (congrArg some (qh _ _ _ _))|exact ⟨Or.inl rfl,rfl⟩|exact ⟨Or.inr rfl,rfl⟩),rfl⟩,?_⟩));refine qB ?_;(first|(refine off ?_;refine qf ⟨⟨by (first|exact True.intro|exact Or.inr (qG rfl rfl)|exact Or.inr (qF rfl rfl)|exact Or.inl rfl|exact Or.inr rfl|exact Or.inr (congrArg some (qh _ _ _ _))|exact ⟨Or.inl rfl,rfl⟩|exact ⟨Or.inr rfl,rfl⟩),rfl⟩,?_⟩)|(refine lB S rfl rfl ?_<;>refine qf ⟨⟨by (first|exact True.intro|exact Or.inr (qG rfl rfl)|exact Or.inr (qF rfl rfl)|exact Or.inl rfl|exact Or.inr rfl|exact Or.inr (congrArg some (qh _ _ _ _))|exact ⟨Or.inl rfl,rfl⟩|exact ⟨Or.inr rfl,rfl⟩),rfl⟩,?_⟩)|(refine qE S rfl rfl ?_<;>refine qf ⟨⟨by (first|exact True.intro|exact Or.inr (qG rfl rfl)|exact Or.inr (qF rfl rfl)|exact Or.inl rfl|exact Or.inr rfl|exact Or.inr (congrArg some (qh _ _ _ _))|exact ⟨Or.inl rfl,rfl⟩|exact ⟨Or.inr rfl,rfl⟩),rfl⟩,?_⟩)|(refine qO S ?_<;>refine qf ⟨⟨by (first|exact True.intro|exact Or.inr (qG rfl rfl)|exact Or.inr (qF rfl rfl)|exact Or.inl rfl|exact Or.inr rfl|exact Or.inr (congrArg some (qh _ _ _ _))|exact ⟨Or.inl rfl,rfl⟩|exact ⟨Or.inr rfl,rfl⟩),rfl⟩,?_⟩)|(refine lH S ?_<;>refine qf ⟨⟨by (first|exact True.intro|exact Or.inr (qG rfl rfl)|exact Or.inr (qF rfl rfl)|exact Or.inl rfl|exact Or.inr rfl|exact Or.inr (congrArg some (qh _ _ _ _))|exact ⟨Or.inl rfl,rfl⟩|exact ⟨Or.inr rfl,rfl⟩),rfl⟩,?_⟩));refine qB ?_;(first|(refine off ?_;refine qf ⟨⟨by (first|exact True.intro|exact Or.inr (qG rfl rfl)|exact Or.inr (qF rfl rfl)|exact Or.inl rfl|exact Or.inr rfl|exact Or.inr (congrArg some (qh _ _ _ _))|exact ⟨Or.inl rfl,rfl⟩|exact ⟨Or.inr rfl,rfl⟩),rfl⟩,?_⟩)|(refine tKT ?_<;>refine qf ⟨⟨by (first|exact True.intro|exact Or.inr (qG rfl rfl)|exact Or.inr (qF rfl rfl)|exact Or.inl rfl|exact Or.inr rfl|exact Or.inr (congrArg some (qh _ _ _ _))|exact ⟨Or.inl rfl,rfl⟩|exact ⟨Or.inr rfl,rfl⟩),rfl⟩,?_⟩)|(refine tKF ?_<;>refine qf ⟨⟨by (first|exact True.intro|exact Or.inr (qG rfl rfl)|exact Or.inr (qF rfl rfl)|exact Or.inl rfl|exact Or.inr rfl|exact Or.inr (congrArg some (qh _ _ _ _))|exact ⟨Or.inl rfl,rfl⟩|exact ⟨Or.inr rfl,rfl⟩),rfl⟩,?_⟩));refine qB ?_;(first|(refine vl ?_<;>refine qf ⟨⟨by (first|exact True.intro|exact Or.inr (qG rfl rfl)|exact Or.inr (qF rfl rfl)|exact Or.inl rfl|exact Or.inr rfl|exact Or.inr (congrArg some (qh _ _ _ _))|exact ⟨Or.inl rfl,rfl⟩|exact ⟨Or.inr rfl,rfl⟩),rfl⟩,?_⟩));refine qB ?_;(first|(refine mv ?_<;>refine qf ⟨⟨by (first|exact True.intro|exact Or.inr (qG rfl rfl)|exact Or.inr (qF rfl rfl)|exact Or.inl rfl|exact Or.inr rfl|exact Or.inr (congrArg some (qh _ _ _ _))|exact ⟨Or.inl rfl,rfl⟩|exact ⟨Or.inr rfl,rfl⟩),rfl⟩,?_⟩))))
   all_goals (refine qB ?_;refine su0 8 ws.length S w hr hcap (fun v' r' c'=>?_);refine qf ⟨⟨Or.inr (congrArg some (yD _ _ _)),rfl⟩,?_⟩)
   all_goals rw [e8] at r'
   all_goals obtain ⟨tv0,rfl⟩:=r'.qdJ
   all_goals (((refine qB ?_;first|refine qM rfl rfl rfl rfl rfl ((qaZ S.wf tv0.val (ws.drop 8) (r'.ext w S.ext) hl8).mono ?_));rintro u h x)<;>((refine qf ⟨⟨True.intro,?_⟩,?_⟩;(focus ((show keepsX _ _ _ _ _;simp only [keepsX];(repeat' (first|exact True.intro|refine And.intro ?_ ?_));all_goals (intro hw;first|exact True.intro|exact rfl|exact absurd hw (by decide +kernel)|exact x.ext.old _ S.bB|exact x.ext.old _ (S.bR (by first|omega|grind))|exact x.ext.old _ (S.bX (by assumption) (by assumption) (by first|omega|grind))|exact x.ext.old _ (S.bY (by assumption) (by assumption))|(refine x.ext.old _ ?_;assumption)|exact absurd hw (by decide +kernel))))));replace S:=S.QY x;clear x;obtain ⟨tv,rfl⟩:=S.sV u;refine qB ?_;(first|(refine vl ?_<;>refine qf ⟨⟨by (first|exact True.intro|exact Or.inr (qG rfl rfl)|exact Or.inr (qF rfl rfl)|exact Or.inl rfl|exact Or.inr rfl|exact Or.inr (congrArg some (qh _ _ _ _))|exact ⟨Or.inl rfl,rfl⟩|exact ⟨Or.inr rfl,rfl⟩),rfl⟩,?_⟩))))
   all_goals (((refine qB ?_;first|refine qM rfl rfl rfl rfl rfl ((VJ S.wf v r (HR.ext w S.ext) H ⟨Qa ws false false,tv⟩ ⟨Rd.Ze S .here,hl9⟩).mono ?_)|refine qM rfl rfl rfl rfl rfl ((VJ S.wf v r (HR.ext w S.ext) H ⟨Qa ws true false,tv⟩ ⟨Rd.Ze S .here,hl9⟩).mono ?_)|refine qM rfl rfl rfl rfl rfl ((VJ S.wf v r (HR.ext w S.ext) H ⟨Qa ws false true,tv⟩ ⟨Rd.Ze S .here,hl9⟩).mono ?_)|refine qM rfl rfl rfl rfl rfl ((VJ S.wf v r (HR.ext w S.ext) H ⟨Qa ws true true,tv⟩ ⟨Rd.Ze S .here,hl9⟩).mono ?_));rintro _ h (⟨he,rfl,x⟩|⟨he,⟨vg',vt',gs'⟩,rfl,hu',x⟩))<;>((refine qf ⟨⟨True.intro,?_⟩,?_⟩;(focus ((show keepsX _ _ _ _ _;simp only [keepsX];(repeat' (first|exact True.intro|refine And.intro ?_ ?_));all_goals (intro hw;first|exact True.intro|exact rfl|exact absurd hw (by decide +kernel)|exact x.ext.old _ S.bB|exact x.ext.old _ (S.bR (by first|omega|grind))|exact x.ext.old _ (S.bX (by assumption) (by assumption) (by first|omega|grind))|exact x.ext.old _ (S.bY (by assumption) (by assumption))|(refine x.ext.old _ ?_;assumption)|exact absurd hw (by decide +kernel))))));(first|replace S:=S.zC x|(replace S:=S.join x;dsimp only [Jz,List.cons_append,List.nil_append] at S));clear x;unfold RlV.val;(try dsimp only);(try dsimp only at hu');refine qB ?_;(first|(refine vl ?_<;>refine qf ⟨⟨by (first|exact True.intro|exact Or.inr (qG rfl rfl)|exact Or.inr (qF rfl rfl)|exact Or.inl rfl|exact Or.inr rfl|exact Or.inr (congrArg some (qh _ _ _ _))|exact ⟨Or.inl rfl,rfl⟩|exact ⟨Or.inr rfl,rfl⟩),rfl⟩,?_⟩));refine qB ?_;(first|(refine vl ?_<;>refine qf ⟨⟨by (first|exact True.intro|exact Or.inr (qG rfl rfl)|exact Or.inr (qF rfl rfl)|exact Or.inl rfl|exact Or.inr rfl|exact Or.inr (congrArg some (qh _ _ _ _))|exact ⟨Or.inl rfl,rfl⟩|exact ⟨Or.inr rfl,rfl⟩),rfl⟩,?_⟩));refine qB ?_;(first|((refine sB S rfl rfl ?_;have S0:=S;clear S;intro h S);refine qf ⟨⟨True.intro,?_⟩,?_⟩;(focus ((show keepsX _ _ _ _ _;simp only [keepsX];(repeat' (first|exact True.intro|refine And.intro ?_ ?_));all_goals (intro hw;first|exact True.intro|exact absurd hw (by decide +kernel)|exact (S.gB).trans (S0.gB).symm|exact absurd hw (by decide +kernel)))));clear S0)|((refine jm S rfl rfl ?_;have S0:=S;clear S;intro h S);refine qf ⟨⟨True.intro,?_⟩,?_⟩;(focus ((show keepsX _ _ _ _ _;simp only [keepsX];(repeat' (first|exact True.intro|refine And.intro ?_ ?_));all_goals (intro hw;first|exact True.intro|exact absurd hw (by decide +kernel)|exact (S.gB).trans (S0.gB).symm|exact absurd hw (by decide +kernel)))));clear S0));refine qB ?_;(first|(refine mv ?_<;>refine qf ⟨⟨by (first|exact True.intro|exact Or.inr (qG rfl rfl)|exact Or.inr (qF rfl rfl)|exact Or.inl rfl|exact Or.inr rfl|exact Or.inr (congrArg some (qh _ _ _ _))|exact ⟨Or.inl rfl,rfl⟩|exact ⟨Or.inr rfl,rfl⟩),rfl⟩,?_⟩));refine JI ?_))
   skip
   all_goals (refine qH ⟨_,qN S rfl (by first|exact .here|exact .there .here|exact .there (.there .here)|exact .there (.there (.there .here))|exact .there (.there (.there (.there .here)))|exact .there (.there (.there (.there (.there .here))))|exact .there (.there (.there (.there (.there (.there .here)))))|exact .there (.there (.there (.there (.there (.there (.there .here))))))|exact .there (.there (.there (.there (.there (.there (.there (.there .here)))))))|exact .there (.there (.there (.there (.there (.there (.there (.there (.there .here))))))))|exact .there (.there (.there (.there (.there (.there (.there (.there (.there (.there .here)))))))))|exact .there (.there (.there (.there (.there (.there (.there (.there (.there (.there (.there .here))))))))))|exact .there (.there (.there (.there (.there (.there (.there (.there (.there (.there (.there (.there .here)))))))))))) (by exact rfl) (by exact rfl),?_⟩)
   all_goals first
    | (rw [show jf r ws=ZF r (Qa ws false false) from (QX hg G).trans (congrArg _ (qaO q))];first|exact .inl ⟨he,rfl,S.drop⟩|exact .inr ⟨he,⟨vg',vt',gs'⟩,rfl,hu',S.pick⟩)
    | (rw [show jf r ws=ZF r (Qa ws true false) from (QX hg G).trans (congrArg _ (qaN q))];first|exact .inl ⟨he,rfl,S.drop⟩|exact .inr ⟨he,⟨vg',vt',gs'⟩,rfl,hu',S.pick⟩)
    | (rw [show jf r ws=ZF r (Qa ws false true) from (QX hg G).trans (congrArg _ (qaM q))];first|exact .inl ⟨he,rfl,S.drop⟩|exact .inr ⟨he,⟨vg',vt',gs'⟩,rfl,hu',S.pick⟩)
    | (rw [show jf r ws=ZF r (Qa ws true true) from (QX hg G).trans (congrArg _ (qaL q))];first|exact .inl ⟨he,rfl,S.drop⟩|exact .inr ⟨he,⟨vg',vt',gs'⟩,rfl,hu',S.pick⟩)
  ·refine qH ⟨_,qN S rfl (by first|exact .here|exact .there .here|exact .there (.there .here)|exact .there (.there (.there .here))|exact .there (.there (.there (.there .here)))|exact .there (.there (.there (.there (.there .here))))|exact .there (.there (.there (.there (.there (.there .here)))))|exact .there (.there (.there (.there (.there (.there (.there .here))))))|exact .there (.there (.there (.there (.there (.there (.there (.there .here)))))))|exact .there (.there (.there (.there (.there (.there (.there (.there (.there .here))))))))|exact .there (.there (.there (.there (.there (.there (.there (.there (.there (.there .here)))))))))|exact .there (.there (.there (.there (.there (.there (.there (.there (.there (.there (.there .here))))))))))|exact .there (.there (.there (.there (.there (.there (.there (.there (.there (.there (.there (.there .here)))))))))))) (by exact rfl) (by exact rfl),?_⟩
   exact .err (Ws (by assumption) hn1 hn2) (by decide) rfl S.drop
end Go.Proofs.Xx
namespace Go.Proofs.Xx
open Go Go.Proofs
noncomputable def QO (r:Rl) (s:List UInt8):Rl×Int :=
 open Classical in if s.getLast? = some 10∧[] ∉ zT 32 (Z4 s) then jf r (zT 32 (Z4 s)) else (r,3)
theorem WsOk.of {s:List UInt8} (hs:s.length≤1000000) (h:[] ∉ zT 32 s):WsOk (zT 32 s):=by
 refine ⟨?_,fun w hw=>Nat.le_trans (XN 32 s w hw) hs,h,fun w hw=>jU hw,List.length_pos_iff.2 (ZY 32 s)⟩
 rw [QW]
 have:s.countP (· == 32)≤s.length:=List.countP_le_length
 omega
variable [Flag]
theorem qbR {h0 h:AH} {rs:List Rs} {p:Nat} {r:Rl} (S:Hs h0 h (Q5 p r :: rs)) (H:RO r) (s:List UInt8) (hs:s.length≤1000000):Fn Tryz.prog Xh 64 [.pointer (some ⟨p,0,none⟩),str s] h (fun v h'=>v = .int .i64 (QO r s).2∧Hs h0 h' (Q5 p (QO r s).1 :: rs)):=by
 have h64:=H.l64
 have h256:=H.l256
 have hcl:=G9 s
 refine zD rfl Tryz.func64 rfl rfl ?_
 all_goals (repeat' (first|refine qA ?_|refine qw rfl ?_|refine qx ?_|refine qy ?_|refine qo ?_|refine qi ?_|refine qj ?_|(refine qg 0 ?_;refine mv ?_;refine qf ?_)))
 all_goals (repeat' (first|refine qA ?_|refine qw rfl ?_|refine qx ?_|refine qy ?_|refine qo ?_|refine qi ?_|refine qj ?_|(refine qg 1 ?_;refine mv ?_)))
 (refine qM rfl rfl rfl rfl rfl ((qaf S.wf s hs).mono ?_);rintro _ h ⟨u,b,rfl,hb,x⟩)<;>(replace S:=S.QY x;clear x;obtain ⟨sv,rfl⟩:=S.sV u;refine mv ?_;refine vl ?_;refine vl ?_;refine mv ?_;refine mv ?_;refine qf ?_)
 cases b with
 | false =>
  have e:QO r s=(r,3):=by
   unfold QO
   rw [if_neg]
   intro q
   have:=hb.2 q
   cases this
  rw [e]
  all_goals (repeat' (first|refine qA ?_|refine qw rfl ?_|refine qx ?_|refine qy ?_|refine qo ?_|refine qi ?_|refine qj ?_|(refine qg 2 ?_;refine mv ?_;refine vl ?_;refine qf ?_)|(refine qg 3 ?_;refine mv ?_;refine qf ?_)))
  refine qH ⟨_,rfl,?_⟩
  exact ⟨rfl,S.tail⟩
 | true =>
  obtain ⟨hb1,hb2⟩:=hb.1 rfl
  have W:=WsOk.of (s:=Z4 s) (by omega) hb2
  obtain ⟨ws,hws⟩:∃ ws,ws=zT 32 (Z4 s):=⟨_,rfl⟩
  have e:QO r s=jf r ws:=by unfold QO;rw [if_pos ⟨hb1,hb2⟩,hws]
  rw [← hws] at S W
  rw [e]
  clear e hb hb1 hb2 hws
  have hpos:=W.pos
  have hwl:=W.len
  have hwz:jT ws 0=ws.getD (Int.toNat 0) default:=rfl
  all_goals (repeat' (first|refine qA ?_|refine qw rfl ?_|refine qx ?_|refine qy ?_|refine qo ?_|refine qi ?_|refine qj ?_|(refine qg 2 ?_;refine mv ?_;refine vl ?_;refine qf ?_)|(refine qg 4 ?_;refine mv ?_;refine qf ?_)|(refine qg 5 ?_;refine mv ?_;(first|refine zM S ?_|refine qW S rfl rfl ?_);(first|refine lB S rfl rfl ?_|refine qE S rfl rfl ?_|refine qO S ?_|refine lH S ?_);refine qf ?_)|(refine qg 6 ?_;(refine tS ?_ ?_<;>intro hc)<;>(refine mv ?_;refine qf ?_))|(refine qg 7 ?_;(refine tS ?_ ?_<;>intro hc)<;>(refine mv ?_;refine qf ?_))|(refine qg 8 ?_;(refine tS ?_ ?_<;>intro hc)<;>(refine mv ?_;refine qf ?_))))
  ·have hg:jT ws 0=QG:=hc
   all_goals (repeat' (first|refine qA ?_|refine qw rfl ?_|refine qx ?_|refine qy ?_|refine qo ?_|refine qi ?_|refine qj ?_|(refine qg 9 ?_;refine mv ?_)))
   (refine qM rfl rfl rfl rfl rfl ((qaP S W).mono ?_);rintro _ h (⟨hG,rfl,S⟩|⟨hG,tv,rfl,S⟩))<;>(refine mv ?_;refine vl ?_;refine vl ?_;(refine al S ?_;clear S;intro b h S);(first|(refine sB S rfl rfl ?_;clear S;intro h S)|(refine jm S rfl rfl ?_;clear S;intro h S));refine mv ?_;refine qf ?_)
   ·all_goals (repeat' (first|refine qA ?_|refine qw rfl ?_|refine qx ?_|refine qy ?_|refine qo ?_|refine qi ?_|refine qj ?_|(refine qg 9 ?_;refine mv ?_)|(refine qg 10 ?_;refine mv ?_;refine vl ?_;refine qf ?_)|(refine qg 11 ?_;refine mv ?_;refine qf ?_)))
    refine qH ⟨_,rfl,?_⟩
    rw [Ji hg hG]
    exact ⟨rfl,S.tail⟩
   ·all_goals (repeat' (first|refine qA ?_|refine qw rfl ?_|refine qx ?_|refine qy ?_|refine qo ?_|refine qi ?_|refine qj ?_|(refine qg 9 ?_;refine mv ?_)|(refine qg 10 ?_;refine mv ?_;refine vl ?_;refine qf ?_)))
    obtain ⟨b8,hnm⟩:∃ x,x=b:=⟨_,rfl⟩;subst hnm
    replace S:Hs h0 h (.blk b8 (eG ⟨jP ws,tv⟩) 24 :: .sl tv.val 9 1 eS (ws.drop 8) :: Q5 p r :: rs):=S
    have S:=(show Hs h0 h (Q5 p r :: .blk b8 (eG ⟨jP ws,tv⟩) 24 :: .sl tv.val 9 1 eS (ws.drop 8) :: rs) from S.pick)
    have hl8:(jP ws).tg.length≤9223372036854775807:=by show (ws.drop 8).length≤_;rw [List.length_drop];omega
    all_goals (repeat' (first|refine qA ?_|refine qw rfl ?_|refine qx ?_|refine qy ?_|refine qo ?_|refine qi ?_|refine qj ?_|(refine qg 12 ?_;refine mv ?_;(first|refine lB S rfl rfl ?_|refine qE S rfl rfl ?_|refine qO S ?_|refine lH S ?_))))
    (refine qM rfl rfl rfl rfl rfl ((qcY S ⟨jP ws,tv⟩ (fun h' S'=>Rd.Ze S' (.there .here)) hl8 h64).mono ?_);rintro _ h ⟨rfl,S⟩)<;>(refine mv ?_;refine qf ?_)
    all_goals (repeat' (first|refine qA ?_|refine qw rfl ?_|refine qx ?_|refine qy ?_|refine qo ?_|refine qi ?_|refine qj ?_|(refine qg 12 ?_;refine mv ?_;(first|refine lB S rfl rfl ?_|refine qE S rfl rfl ?_|refine qO S ?_|refine lH S ?_))))
    refine qH ⟨_,rfl,?_⟩
    rw [QX hg hG]
    exact ⟨rfl,S.pick⟩
  ·have hf:jT ws 0=Qv:=hc
   all_goals (repeat' (first|refine qA ?_|refine qw rfl ?_|refine qx ?_|refine qy ?_|refine qo ?_|refine qi ?_|refine qj ?_|(refine qg 13 ?_;refine mv ?_;refine qf ?_)|(refine qg 14 ?_;refine mv ?_;(first|refine Zq S ?_|refine Zp S rfl rfl ?_);(first|refine cT ?_|refine cF ?_|(refine cS ?_ ?_<;>intro hc))<;>(refine qf ?_))|(refine qg 15 ?_;refine mv ?_;refine qf ?_)))
   ·refine qH ⟨_,rfl,?_⟩
    rw [Xk (.inl hf) (by omega)]
    exact ⟨rfl,S.tail⟩
   ·have S:=(show Hs h0 h (Q5 p r :: .sl sv.val 9 1 eS ws :: rs) from S.pick)
    have h3:ws.length=3:=by omega
    all_goals (repeat' (first|refine qA ?_|refine qw rfl ?_|refine qx ?_|refine qy ?_|refine qo ?_|refine qi ?_|refine qj ?_|(refine zZ 16 ?_;refine mv ?_;refine mv ?_;(first|refine zM S ?_|refine qW S rfl rfl ?_);(first|refine lB S rfl rfl ?_|refine qE S rfl rfl ?_|refine qO S ?_|refine lH S ?_);refine mv ?_;(first|refine zM S ?_|refine qW S rfl rfl ?_);(first|refine lB S rfl rfl ?_|refine qE S rfl rfl ?_|refine qO S ?_|refine lH S ?_);refine mv ?_)))
    (refine qM rfl rfl rfl rfl rfl ((qah S (jT ws 1) (jT ws 2) 1 h256 H.ts).mono ?_);rintro _ h ⟨rfl,S⟩)<;>(refine mv ?_;refine qf ?_)
    all_goals (repeat' (first|refine qA ?_|refine qw rfl ?_|refine qx ?_|refine qy ?_|refine qo ?_|refine qi ?_|refine qj ?_|(refine zZ 16 ?_;refine mv ?_;refine mv ?_;(first|refine zM S ?_|refine qW S rfl rfl ?_);(first|refine lB S rfl rfl ?_|refine qE S rfl rfl ?_|refine qO S ?_|refine lH S ?_);refine mv ?_;(first|refine zM S ?_|refine qW S rfl rfl ?_);(first|refine lB S rfl rfl ?_|refine qE S rfl rfl ?_|refine qO S ?_|refine lH S ?_);refine mv ?_)))
    refine qH ⟨_,rfl,?_⟩
    rw [Yp hf h3]
    exact ⟨rfl,S.pick⟩
  ·have hf:jT ws 0=JS:=hc
   all_goals (repeat' (first|refine qA ?_|refine qw rfl ?_|refine qx ?_|refine qy ?_|refine qo ?_|refine qi ?_|refine qj ?_|(refine qg 14 ?_;refine mv ?_;(first|refine Zq S ?_|refine Zp S rfl rfl ?_);(first|refine cT ?_|refine cF ?_|(refine cS ?_ ?_<;>intro hc))<;>(refine qf ?_))|(refine qg 15 ?_;refine mv ?_;refine qf ?_)))
   ·refine qH ⟨_,rfl,?_⟩
    rw [Xk (.inr hf) (by omega)]
    exact ⟨rfl,S.tail⟩
   ·have S:=(show Hs h0 h (Q5 p r :: .sl sv.val 9 1 eS ws :: rs) from S.pick)
    have h3:ws.length=3:=by omega
    all_goals (repeat' (first|refine qA ?_|refine qw rfl ?_|refine qx ?_|refine qy ?_|refine qo ?_|refine qi ?_|refine qj ?_|(refine zZ 16 ?_;refine mv ?_;refine mv ?_;(first|refine zM S ?_|refine qW S rfl rfl ?_);(first|refine lB S rfl rfl ?_|refine qE S rfl rfl ?_|refine qO S ?_|refine lH S ?_);refine mv ?_;(first|refine zM S ?_|refine qW S rfl rfl ?_);(first|refine lB S rfl rfl ?_|refine qE S rfl rfl ?_|refine qO S ?_|refine lH S ?_);refine mv ?_)))
    (refine qM rfl rfl rfl rfl rfl ((qah S (jT ws 1) (jT ws 2) 2 h256 H.ts).mono ?_);rintro _ h ⟨rfl,S⟩)<;>(refine mv ?_;refine qf ?_)
    all_goals (repeat' (first|refine qA ?_|refine qw rfl ?_|refine qx ?_|refine qy ?_|refine qo ?_|refine qi ?_|refine qj ?_|(refine zZ 16 ?_;refine mv ?_;refine mv ?_;(first|refine zM S ?_|refine qW S rfl rfl ?_);(first|refine lB S rfl rfl ?_|refine qE S rfl rfl ?_|refine qO S ?_|refine lH S ?_);refine mv ?_;(first|refine zM S ?_|refine qW S rfl rfl ?_);(first|refine lB S rfl rfl ?_|refine qE S rfl rfl ?_|refine qO S ?_|refine lH S ?_);refine mv ?_)))
    refine qH ⟨_,rfl,?_⟩
    rw [Wu hf h3]
    exact ⟨rfl,S.pick⟩
  ·skip
   all_goals (repeat' (first|refine qA ?_|refine qw rfl ?_|refine qx ?_|refine qy ?_|refine qo ?_|refine qi ?_|refine qj ?_|(refine qg 17 ?_;refine mv ?_;refine qf ?_)))
   refine qH ⟨_,rfl,?_⟩
   rw [Ws (by assumption) (by assumption) (by assumption)]
   exact ⟨rfl,S.tail⟩
end Go.Proofs.Xx
namespace Go.Proofs.Xx
open Go Go.Proofs
def zI:List (List UInt8)→List (List UInt8)
 | []=>[]
 | [w]=>if w=[] then [] else [w]
 | w :: u :: r=>(w ++ [10]) :: zI (u :: r)
theorem XQ {w:List UInt8} {r:List (List UInt8)} (h:r≠[]):zI (w :: r)=(w ++ [10]) :: zI r:=by
 match r,h with
 | u :: r,_=>rfl
theorem YQ:∀ r:List (List UInt8),(zI r).length≤r.length
 | []=>Nat.le_refl _
 | [w]=>by unfold zI;split<;>simp
 | w :: u :: r=>by have:=YQ (u :: r);simp only [zI,List.length_cons] at this ⊢;omega
theorem GN:zI (zT 10 [])=[]:=by simp [zT,zI]
theorem qaw {t:List UInt8} (ht:t≠[]) (h:QA 10 t=none):zI (zT 10 t)=[t]:=by
 rw [Yf (XW.1 h),zI,if_neg ht]
theorem qav {t:List UInt8} {m:Nat} (h:QA 10 t=some m):zI (zT 10 t)=t.take (m+1) :: zI (zT 10 (t.drop (m+1))):=by
 obtain ⟨h1,h2,h3⟩:=ZA h
 rw [wM h,XQ (ZY 10 _)]
 congr 1
 have e:t[m]? = some 10:=by
  conv=>lhs;rw [h3]
  rw [List.getElem?_append_right (by simp;omega),List.length_take,Nat.min_eq_left (by omega),Nat.sub_self];rfl
 rw [List.take_add_one,e];rfl
inductive PB where
 | ok (r:Rl)
 | bad (i:Nat) (e:Int)
open Classical in
noncomputable def XR:Rl→Nat→List (List UInt8)→PB
 | r,i,[]=>.ok r
 | r,i,s :: l=>if (QO r s).2≠0 then .bad i (QO r s).2 else XR (QO r s).1 (i+1) l
theorem Wi {r:Rl} {i:Nat} {s:List UInt8} {l:List (List UInt8)} (h:(QO r s).2≠0):XR r i (s :: l) = .bad i (QO r s).2:=by rw [XR,if_pos h]
theorem GR {r:Rl} {i:Nat} {s:List UInt8} {l:List (List UInt8)} (h:(QO r s).2=0):XR r i (s :: l)=XR (QO r s).1 (i+1) l:=by rw [XR,if_neg (by simpa using h)]
noncomputable def ZZ (s:List UInt8):PB:=if 65536<s.length then .bad 0 7 else XR ⟨[],[]⟩ 0 (zI (zT 10 s))
def Gv (h0:AH) [Flag] (l:Nat) (ls:List (List UInt8)) (RS:Nat→List Rs→Prop) (RB:List Rs→Prop):Prop :=
 ∀ k rs own h,k<ls.length→RS k rs→Hs h0 h (rs ++ own)→Yd Tryz.prog Xh l [.int .i64 k,str (ls.getD k default)] h (fun r h'=>(r = .bool true∧∃ rs',RS (k+1) rs'∧Hs h0 h' (rs' ++ own))∨(r = .bool false∧∃ rs',RB rs'∧Hs h0 h' (rs' ++ own)))
variable [Flag]
theorem PI {h0 h:AH} {rs:List Rs} {b1 l:Nat} (s:List UInt8) (hs:s.length≤1000000) (S:Hs h0 h (.blk b1 [str s] 9 :: rs)) (RS:Nat→List Rs→Prop) (RB:List Rs→Prop) (hr:RS 0 rs) (Y:Gv h0 l (zI (zT 10 s)) RS RB) :
 Fn Tryz.prog Xh 118 [yv l,.pointer (some ⟨b1,0,none⟩)] h (fun _ h'=>(∃ rs',RS (zI (zT 10 s)).length rs'∧Hs h0 h' rs')∨(∃ rs',RB rs'∧Hs h0 h' rs')):=by
 obtain ⟨ls,hls⟩:∃ ls,ls=zI (zT 10 s):=⟨_,rfl⟩
 rw [← hls] at Y ⊢
 have hll:ls.length≤1000001:=by
  have h1:=YQ (zT 10 s)
  have h2:=QW 10 s
  have h3:s.countP (· == 10)≤s.length:=List.countP_le_length
  rw [← hls] at h1
  omega
 refine zD rfl Tryz.func118 rfl rfl ?_
 all_goals (repeat' (first|refine qA ?_|refine qw rfl ?_|refine qx ?_|refine qy ?_|refine qo ?_|refine qi ?_|refine qj ?_|(refine qg 0 ?_;refine mv ?_;refine qf ?_)))
 refine zU (σ:=Nat×List UInt8) (fun (k,t) h'=>k≤ls.length∧t.length≤1000000∧ls.drop k=zI (zT 10 t)∧∃ rs',RS k rs'∧Hs h0 h' (.blk b1 [str t] 9 :: rs')) (fun (k,t)=>t.length) (fun (k,t)=>[(0,yv l),(1,.pointer (some ⟨b1,0,none⟩)),(3,.int .i64 k)]) (0,s) zy ?_ ?_
 ·exact ⟨Nat.zero_le _,hs,by rw [hls];rfl,rs,hr,S⟩
 clear S hr
 rintro ⟨k,t⟩ h ⟨k1,t1,hk,rs,hr,S⟩
 all_goals (repeat' (first|refine qA ?_|refine qw rfl ?_|refine qx ?_|refine qy ?_|refine qo ?_|refine qi ?_|refine qj ?_|(refine qg 1 ?_;(first|refine lB S rfl rfl ?_|refine qE S rfl rfl ?_|refine qO S ?_|refine lH S ?_);(refine tS ?_ ?_<;>intro hc)<;>(refine qf ?_))))
 ·subst hc
  rw [GN] at hk
  have:ls.length≤k:=List.drop_eq_nil_iff.1 hk
  obtain rfl:k=ls.length:=by omega
  refine ⟨_,rfl,?_⟩
  exact .inl ⟨rs,hr,S.tail⟩
 ·have perm:∀ x:Rs,(x :: rs).Perm (rs ++ [x]):=fun x=>List.perm_append_comm (l₁:=[x]) (l₂:=rs)
  have tp:0<t.length:=List.length_pos_iff.2 (by assumption)
  all_goals (repeat' (first|refine qA ?_|refine qw rfl ?_|refine qx ?_|refine qy ?_|refine qo ?_|refine qi ?_|refine qj ?_|(refine qg 3 ?_;(first|refine lB S rfl rfl ?_|refine qE S rfl rfl ?_|refine qO S ?_|refine lH S ?_))))
  (refine qM rfl rfl rfl rfl rfl ((KA t 10).mono ?_);rintro _ h ⟨rfl,rfl⟩)<;>((first|refine ad ?_|refine vl ?_);refine mv ?_;refine qf ?_)
  rcases hf:QA 10 t with _|m
  ·rw [PS hf]
   rw [qaw (by assumption) hf] at hk
   have hkl:k<ls.length:=by
    have:=congrArg List.length hk
    simp at this;omega
   have hg:ls.getD k default=t:=by
    rw [List.drop_eq_getElem_cons hkl] at hk
    rw [List.getD_eq_getElem?_getD,List.getElem?_eq_getElem hkl]
    exact (List.cons.inj hk).1
   all_goals (repeat' (first|refine qA ?_|refine qw rfl ?_|refine qx ?_|refine qy ?_|refine qo ?_|refine qi ?_|refine qj ?_|(refine qg 3 ?_;(first|refine lB S rfl rfl ?_|refine qE S rfl rfl ?_|refine qO S ?_|refine lH S ?_))))
   try rw [show IntKind.i64.wrap (-1+1)=0 from by decide]
   all_goals (repeat' (first|refine qA ?_|refine qw rfl ?_|refine qx ?_|refine qy ?_|refine qo ?_|refine qi ?_|refine qj ?_|(refine qg 4 ?_;refine mv ?_;(first|refine cT ?_|refine cF ?_|(refine cS ?_ ?_<;>intro hc))<;>(refine qf ?_))|(refine qg 5 ?_;(first|refine lB S rfl rfl ?_|refine qE S rfl rfl ?_|refine qO S ?_|refine lH S ?_);refine tl ?_;refine mv ?_;refine qf ?_)|(refine qg 6 ?_;refine mv ?_;refine mv ?_;(first|refine lB S rfl rfl ?_|refine qE S rfl rfl ?_|refine qO S ?_|refine lH S ?_);refine mv ?_;refine wF ?_)))
   have e2:(t.drop 0).take (t.length - 0)=t:=by simp
   rw [e2]
   refine gG rfl rfl rfl rfl (((show Yd Tryz.prog Xh l [.int .i64 k,str t] h _ from hg ▸ Y k rs [.blk b1 [str t] 9] h hkl hr (S.perm (perm _)))).mono ?_)
   rintro _ h (⟨rfl,rs',hr',S⟩|⟨rfl,rs',hr',S⟩)
   all_goals (refine vl ?_;refine qf ?_)
   ·replace S:=S.perm (List.perm_append_comm (l₁:=rs') (l₂:=[.blk b1 [str t] 9]))
    replace S:Hs h0 h (.blk b1 [str t] 9 :: rs'):=S
    all_goals (repeat' (first|refine qA ?_|refine qw rfl ?_|refine qx ?_|refine qy ?_|refine qo ?_|refine qi ?_|refine qj ?_|(refine qg 2 ?_;refine mv ?_;(first|refine ad ?_|refine vl ?_);refine mv ?_;refine qf ?_)|(refine qg 7 ?_;(first|refine lB S rfl rfl ?_|refine qE S rfl rfl ?_|refine qO S ?_|refine lH S ?_);refine mv ?_;refine wF ?_;(first|(refine sB S rfl rfl ?_;clear S;intro h S)|(refine jm S rfl rfl ?_;clear S;intro h S));refine qf ?_)))
    have e3:(t.drop t.length).take (t.length - t.length)=[]:=by simp
    rw [e3] at S
    refine ⟨(k+1,[]),?_,?_,zy⟩
    ·exact tp
    ·refine ⟨by (try dsimp only);omega,by simp,?_,rs',hr',S⟩
     rw [GN,← List.drop_drop,hk];rfl
   ·replace S:=S.perm (List.perm_append_comm (l₁:=rs') (l₂:=[.blk b1 [str t] 9]))
    all_goals (repeat' (first|refine qA ?_|refine qw rfl ?_|refine qx ?_|refine qy ?_|refine qo ?_|refine qi ?_|refine qj ?_|(refine qg 1 ?_;(first|refine lB S rfl rfl ?_|refine qE S rfl rfl ?_|refine qO S ?_|refine lH S ?_);(refine tS ?_ ?_<;>intro hc)<;>(refine qf ?_))|(refine qg 2 ?_;refine mv ?_;(first|refine ad ?_|refine vl ?_);refine mv ?_;refine qf ?_)|(refine qg 3 ?_;(first|refine lB S rfl rfl ?_|refine qE S rfl rfl ?_|refine qO S ?_|refine lH S ?_))|(refine qg 4 ?_;refine mv ?_;(first|refine cT ?_|refine cF ?_|(refine cS ?_ ?_<;>intro hc))<;>(refine qf ?_))|(refine qg 5 ?_;(first|refine lB S rfl rfl ?_|refine qE S rfl rfl ?_|refine qO S ?_|refine lH S ?_);refine tl ?_;refine mv ?_;refine qf ?_)|(refine qg 6 ?_;refine mv ?_;refine mv ?_;(first|refine lB S rfl rfl ?_|refine qE S rfl rfl ?_|refine qO S ?_|refine lH S ?_);refine mv ?_;refine wF ?_)|(refine qg 7 ?_;(first|refine lB S rfl rfl ?_|refine qE S rfl rfl ?_|refine qO S ?_|refine lH S ?_);refine mv ?_;refine wF ?_;(first|(refine sB S rfl rfl ?_;clear S;intro h S)|(refine jm S rfl rfl ?_;clear S;intro h S));refine qf ?_)))
    refine qH ⟨_,rfl,?_⟩
    exact .inr ⟨rs',hr',Hs.tail (r:=.blk b1 [str t] 9) S⟩
  ·rw [yz hf]
   rw [qav hf] at hk
   obtain ⟨m1,m2,m3⟩:=ZA hf
   have hkl:k<ls.length:=by
    have:=congrArg List.length hk
    simp at this;omega
   have hg:ls.getD k default=t.take (m+1):=by
    rw [List.drop_eq_getElem_cons hkl] at hk
    rw [List.getD_eq_getElem?_getD,List.getElem?_eq_getElem hkl]
    exact (List.cons.inj hk).1
   have hk2:ls.drop (k+1)=zI (zT 10 (t.drop (m+1))):=by
    rw [List.drop_eq_getElem_cons hkl] at hk
    exact (List.cons.inj hk).2
   all_goals (repeat' (first|refine qA ?_|refine qw rfl ?_|refine qx ?_|refine qy ?_|refine qo ?_|refine qi ?_|refine qj ?_|(refine qg 3 ?_;(first|refine lB S rfl rfl ?_|refine qE S rfl rfl ?_|refine qO S ?_|refine lH S ?_))))
   rw [wrap_i64 (by omega) (by omega)]
   all_goals (repeat' (first|refine qA ?_|refine qw rfl ?_|refine qx ?_|refine qy ?_|refine qo ?_|refine qi ?_|refine qj ?_|(refine qg 4 ?_;refine mv ?_;(first|refine cT ?_|refine cF ?_|(refine cS ?_ ?_<;>intro hc))<;>(refine qf ?_))))
   all_goals first|(exfalso;omega)|skip
   all_goals (repeat' (first|refine qA ?_|refine qw rfl ?_|refine qx ?_|refine qy ?_|refine qo ?_|refine qi ?_|refine qj ?_|(refine qg 6 ?_;refine mv ?_;refine mv ?_;(first|refine lB S rfl rfl ?_|refine qE S rfl rfl ?_|refine qO S ?_|refine lH S ?_);refine mv ?_;refine wF ?_)))
   have e2:(t.drop 0).take (m+1 - 0)=t.take (m+1):=by simp
   rw [e2]
   refine gG rfl rfl rfl rfl (((show Yd Tryz.prog Xh l [.int .i64 k,str (t.take (m+1))] h _ from hg ▸ Y k rs [.blk b1 [str t] 9] h hkl hr (S.perm (perm _)))).mono ?_)
   rintro _ h (⟨rfl,rs',hr',S⟩|⟨rfl,rs',hr',S⟩)
   all_goals (refine vl ?_;refine qf ?_)
   ·replace S:=S.perm (List.perm_append_comm (l₁:=rs') (l₂:=[.blk b1 [str t] 9]))
    replace S:Hs h0 h (.blk b1 [str t] 9 :: rs'):=S
    all_goals (repeat' (first|refine qA ?_|refine qw rfl ?_|refine qx ?_|refine qy ?_|refine qo ?_|refine qi ?_|refine qj ?_|(refine qg 2 ?_;refine mv ?_;(first|refine ad ?_|refine vl ?_);refine mv ?_;refine qf ?_)|(refine qg 7 ?_;(first|refine lB S rfl rfl ?_|refine qE S rfl rfl ?_|refine qO S ?_|refine lH S ?_);refine mv ?_;refine wF ?_;(first|(refine sB S rfl rfl ?_;clear S;intro h S)|(refine jm S rfl rfl ?_;clear S;intro h S));refine qf ?_)))
    have e3:(t.drop (m+1)).take (t.length - (m+1))=t.drop (m+1):=List.take_of_length_le (by simp)
    rw [e3] at S
    refine ⟨(k+1,t.drop (m+1)),?_,?_,zy⟩
    ·show (t.drop (m+1)).length<t.length;rw [List.length_drop];omega
    ·exact ⟨by (try dsimp only);omega,by (try dsimp only);rw [List.length_drop];omega,hk2,rs',hr',S⟩
   ·replace S:=S.perm (List.perm_append_comm (l₁:=rs') (l₂:=[.blk b1 [str t] 9]))
    all_goals (repeat' (first|refine qA ?_|refine qw rfl ?_|refine qx ?_|refine qy ?_|refine qo ?_|refine qi ?_|refine qj ?_|(refine qg 2 ?_;refine mv ?_;(first|refine ad ?_|refine vl ?_);refine mv ?_;refine qf ?_)|(refine qg 7 ?_;(first|refine lB S rfl rfl ?_|refine qE S rfl rfl ?_|refine qO S ?_|refine lH S ?_);refine mv ?_;refine wF ?_;(first|(refine sB S rfl rfl ?_;clear S;intro h S)|(refine jm S rfl rfl ?_;clear S;intro h S));refine qf ?_)))
    refine qH ⟨_,rfl,?_⟩
    exact .inr ⟨rs',hr',Hs.tail (r:=.blk b1 [str t] 9) S⟩
end Go.Proofs.Xx
namespace Go.Proofs.Xx
open Go Go.Proofs
theorem xY:∀ l:List (List UInt8),zI (l ++ [[]])=l.map (· ++ [10])
 | []=>rfl
 | w :: r=>by
  rw [List.cons_append,XQ (by simp),xY r];rfl
theorem wY {w:List UInt8} (hw:w≠[]):∀ ini:List (List UInt8),zI (ini ++ [w])=ini.map (· ++ [10]) ++ [w]
 | []=>by simp [zI,hw]
 | u :: r=>by
  rw [List.cons_append,XQ (by simp),wY hw r];rfl
theorem GZ (w:List UInt8):(w ++ [10]).getLast? = some 10:=by simp
theorem qaX (w:List UInt8):Z4 (w ++ [10])=w:=by
 unfold Z4
 rw [if_pos (GZ w)]
 simp
theorem qb6 {r:Rl} {w:List UInt8} (h:[] ∉ zT 32 w):QO r (w ++ [10])=jf r (zT 32 w):=by
 unfold QO
 rw [qaX,if_pos ⟨GZ w,h⟩]
theorem qcZ {r:Rl} {w:List UInt8} (h:[]∈zT 32 w):QO r (w ++ [10])=(r,3):=by
 unfold QO
 rw [qaX,if_neg (fun q=>q.2 h)]
theorem pJ {r:Rl} {w:List UInt8} (h:(10:UInt8) ∉ w):QO r w=(r,3):=by
 unfold QO
 rw [if_neg]
 intro q
 exact h (List.mem_of_getLast? q.1)
structure LnsOk (s:List UInt8) (l:List (List UInt8)) (b:Bool) (ls:List (List UInt8)):Prop where
 len:ls.length=l.length
 fr:∀ k,k<l.length→(10:UInt8) ∉ l.getD k default∧(l.getD k default).length≤s.length
 nl:∀ k,k<l.length→(b=true∨k+1<l.length)→ls.getD k default=l.getD k default ++ [10]
 no:∀ k,k<l.length→b=false→¬ k+1<l.length→ls.getD k default=l.getD k default
theorem LnsOk.whole {s:List UInt8} {l:List (List UInt8)} (h:zT 10 s=l ++ [[]]):LnsOk s l true (zI (zT 10 s)):=by
 have e:zI (zT 10 s)=l.map (· ++ [10]):=by rw [h,xY]
 rw [e]
 refine ⟨by simp,fun k hk=>?_,fun k hk _=>?_,fun k hk q=>by cases q⟩
 ·have:l.getD k default∈zT 10 s:=by rw [h];exact List.mem_append_left _ (qR hk)
  exact ⟨jU this,XN 10 s _ this⟩
 ·rw [List.getD_eq_getElem?_getD,List.getElem?_map,List.getD_eq_getElem?_getD,List.getElem?_eq_getElem hk];rfl
theorem LnsOk.part {s:List UInt8} {ini:List (List UInt8)} {w:List UInt8} (h:zT 10 s=ini ++ [w]) (hw:w≠[]):LnsOk s (ini ++ [w]) false (zI (zT 10 s)):=by
 have e:zI (zT 10 s)=ini.map (· ++ [10]) ++ [w]:=by rw [h,wY hw]
 rw [e]
 refine ⟨by simp,fun k hk=>?_,fun k hk q=>?_,fun k hk _ q=>?_⟩
 ·have:(ini ++ [w]).getD k default∈zT 10 s:=by rw [h];exact qR hk
  exact ⟨jU this,XN 10 s _ this⟩
 ·rcases q with q|q
  ·cases q
  ·simp only [List.length_append,List.length_singleton] at q
   have hk2:k<ini.length:=by omega
   rw [List.getD_eq_getElem?_getD,List.getD_eq_getElem?_getD,List.getElem?_append_left (by simpa using hk2),List.getElem?_append_left hk2,List.getElem?_map,List.getElem?_eq_getElem hk2];rfl
 ·simp only [List.length_append,List.length_singleton] at q hk
  obtain rfl:k=ini.length:=by omega
  rw [List.getD_eq_getElem?_getD,List.getD_eq_getElem?_getD,List.getElem?_append_right (by simp),List.getElem?_append_right (Nat.le_refl _)]
  simp
end Go.Proofs.Xx
