/-
  Copies of problems.
-/
import Derived.Test.YtnponmgkfkdkaaaGreatDoorM11
import Derived.Test.YtnponmgkfkdkaaaGreatDoorM9
import Derived.Test.YtnponmgkfkdkaaaGreatDoorM10
set_option linter.unusedSimpArgs false
set_option linter.unusedVariables false
set_option linter.unusedSectionVars false
set_option maxRecDepth 100000
set_option maxHeartbeats 4000000
namespace Go.Proofs.Xx
open Go Go.Proofs
variable [Flag]
theorem qg6 {h0:AH} (w:WfH h0) (v:Value) (l:List (List UInt8)) (hr:zl h0 v 1 eS l) (hl:l.length≤8796093021952):Fn Tryz.prog Xh 233 [v] h0 (fun u h'=>Hs h0 h' [.sl u 9 1 eS l]):=by
 have S:=Hs.start w;refine qA (by first|rfl) Tryz.func233 rfl rfl ?_;all_goals (repeat' (first|refine qg ?_|refine ql ?_|(refine qc 0 ?_;refine mv ?_;refine qf ?_)|(refine qc 1 ?_;refine mv ?_;refine qf ?_)|(refine qc 2 ?_;refine mv ?_;refine qf ?_)))
 have S:=S.ZF (e:=9) (z:=1) (enc:=eS);refine qB (σ:=Nat×Value) (fun (i,v3) h'=>Hs h0 h' [.sl v3 9 1 eS (l.take i)]∧i≤l.length) (fun (i,v3)=>l.length - i) (fun (i,v3)=>[(0,v),(3,v3),(4,.int .i64 i)]) (0,.slice none 0 0) qw ?_ ?_
 ·exact ⟨S,zB0 _⟩
 clear S;rintro ⟨i,v3⟩ h ⟨S,g1⟩;have htl:(l.take i).length≤8796093021952:=by simp;omega
 all_goals (repeat' (first|refine qg ?_|refine qh rfl ?_|refine qi ?_|refine qy ?_|refine ql ?_|(refine qc 3 ?_;refine mv ?_;refine mv ?_;refine jc S ?_;(first|(refine cS ?_ ?_<;>intro hc))<;>(refine qf ?_))))
 ·have hil:i<l.length:=by omega
  all_goals (repeat' (first|(refine qc 5 ?_;(iterate 3 refine mv ?_);refine zT S ?_;refine zQ S ?_;(refine one 1 S ?_;clear S;intro u h S))))
  simp only [zA0] at *;refine app (y0:=l.getD i default) S rfl rfl ?_;clear S;intro v3 h S;(refine mv ?_;refine qf ?_);all_goals (repeat' (first|(refine qc 4 ?_;refine mv ?_;refine ad ?_;refine mv ?_;refine qf ?_)))
  refine ⟨(i+1,v3),?_,?_,qw⟩
  ·show l.length - (i+1)<l.length - i;omega
  ·refine ⟨?_,by (try dsimp only);omega⟩;dsimp only;rw [qY hil];exact S
 ·obtain rfl:i=l.length:=by omega
  rw [zD4] at S;all_goals (repeat' (first|(refine qc 6 ?_;refine mv ?_;refine mv ?_;refine qf ?_)))
  refine qj ⟨_,rfl,?_⟩;exact S
theorem qg7 {h0:AH} (w:WfH h0) (v:Value) (l:List Ti) (hr:zl h0 v 3 Qy l) (hl:l.length*40≤140737488351232):Fn Tryz.prog Xh 93 [v] h0 (fun u h'=>Hs h0 h' [.sl u 198 3 Qy l]):=by
 have S:=Hs.start w;refine qA (by first|rfl) Tryz.func93 rfl rfl ?_;all_goals (repeat' (first|refine qg ?_|refine ql ?_|(refine qc 0 ?_;refine mv ?_;refine qf ?_)|(refine qc 1 ?_;refine mv ?_;refine qf ?_)|(refine qc 2 ?_;refine mv ?_;refine qf ?_)))
 have S:=S.ZF (e:=198) (z:=3) (enc:=Qy);refine qB (σ:=Nat×Value) (fun (i,v3) h'=>Hs h0 h' [.sl v3 198 3 Qy (l.take i)]∧i≤l.length) (fun (i,v3)=>l.length - i) (fun (i,v3)=>[(0,v),(3,v3),(4,.int .i64 i)]) (0,.slice none 0 0) qw ?_ ?_
 ·exact ⟨S,zB0 _⟩
 clear S;rintro ⟨i,v3⟩ h ⟨S,g1⟩;have htl:(l.take i).length=i:=by simp;omega
 all_goals (repeat' (first|refine qg ?_|refine qh rfl ?_|refine qi ?_|refine qy ?_|refine ql ?_|(refine qc 3 ?_;refine mv ?_;refine mv ?_;refine jc S ?_;(first|(refine cS ?_ ?_<;>intro hc))<;>(refine qf ?_))))
 ·have hil:i<l.length:=by omega
  all_goals (repeat' (first|(refine qc 5 ?_;(iterate 3 refine mv ?_);refine zT S ?_;refine zQ S ?_;(refine one 3 S ?_;clear S;intro u h S))))
  simp only [zA0] at *;refine app (y0:=l.getD i default) S rfl rfl ?_;clear S;intro v3 h S;(refine mv ?_;refine qf ?_);all_goals (repeat' (first|(refine qc 4 ?_;refine mv ?_;refine ad ?_;refine mv ?_;refine qf ?_)))
  refine ⟨(i+1,v3),?_,?_,qw⟩
  ·show l.length - (i+1)<l.length - i;omega
  ·refine ⟨?_,by (try dsimp only);omega⟩;dsimp only;rw [qY hil];exact S
 ·obtain rfl:i=l.length:=by omega
  rw [zD4] at S;all_goals (repeat' (first|(refine qc 6 ?_;refine mv ?_;refine mv ?_;refine qf ?_)))
  refine qj ⟨_,rfl,?_⟩;exact S
theorem qg9 {h0:AH} (w:WfH h0) (g:ZL) (rd:zl h0 g.tv.val 1 eS g.tg) (hl:g.tg.length≤8796093021952):Fn Tryz.prog Xh 155 [gV g] h0 (fun u h'=>∃ tv:SlV,u=gV { g with tv:=tv }∧Hs h0 h' [.sl tv.val 9 1 eS g.tg]):=by
 have S:=Hs.start w;obtain ⟨⟨n1,n2,n3,n4,n5,n6,n7,n8,n9⟩,n10⟩:=g;unfold gV;dsimp only at *;refine qA (by first|rfl) Tryz.func155 rfl rfl ?_;all_goals (repeat' (first|refine qg ?_|(refine qc 0 ?_;(refine bx S ?_;clear S;intro b h S);(refine al S ?_;clear S;intro b h S);refine qf ?_)))
 obtain ⟨b1,hnm⟩:∃ x,x=b:=⟨_,rfl⟩;subst hnm;all_goals (repeat' (first|(refine qc 1 ?_;refine vl ?_;refine lB S rfl rfl ?_)))
 (refine qm rfl rfl rfl rfl rfl ((qg6 S.wf n10.val n9 (rd.ext w S.ext) hl).mono ?_);rintro v h x)<;>(replace S:=S.QD x;clear x;obtain ⟨tv,rfl⟩:=S.sV v;refine vl ?_;(first|(refine sB S rfl rfl ?_;clear S;intro h S));refine qf ?_)
 all_goals (repeat' (first|refine qg ?_|(refine qc 2 ?_;refine lB S rfl rfl ?_;(first|(refine sB S rfl rfl ?_;clear S;intro h S));refine qf ?_)))
 refine qj ⟨_,jQ S rfl (by first|exact .there .here) (by exact rfl) (by exact rfl),?_⟩;exact ⟨tv,rfl,S.only .here⟩
theorem qfC {h0:AH} (w:WfH h0) (v:Value) (l:List ZL) (hr:zl h0 v 9 eG l) (ht:∀ i,i<l.length→zl h0 (l.getD i default).tv.val 1 eS (l.getD i default).tg∧(l.getD i default).tg.length≤8796093021952) (hl:l.length*112≤140737488351232):Fn Tryz.prog Xh 92 [v] h0 (fun u h'=>∃ (vg:SlV) (gs:List ZL),u=vg.val∧gs.map (·.toGu)=l.map (·.toGu)∧Hs h0 h' [tgO gs,.sl vg.val 45 9 eG gs]):=by
 have S:=Hs.start w;refine qA (by first|rfl) Tryz.func92 rfl rfl ?_;all_goals (repeat' (first|refine qg ?_|refine ql ?_|(refine qc 0 ?_;refine mv ?_;refine qf ?_)|(refine qc 1 ?_;refine mv ?_;refine qf ?_)|(refine qc 2 ?_;refine mv ?_;refine qf ?_)))
 have S:=((S.ZF (e:=45) (z:=9) (enc:=eG))).anyS (p:=fun h fp=>Star h (([]:List ZL).map qe0) fp) fun h'=>trivial;replace S:Hs h0 h0 [tgO [],.sl (SlV.val ⟨none,0,0⟩) 45 9 eG []]:=S;refine qB (σ:=Nat×SlV×List ZL) (fun (i,vg,gs) h'=>Hs h0 h' [tgO gs,.sl vg.val 45 9 eG gs]∧i≤l.length∧gs.map (·.toGu)=(l.take i).map (·.toGu)) (fun (i,vg,gs)=>l.length - i) (fun (i,vg,gs)=>[(0,v),(3,vg.val),(4,.int .i64 i)]) (0,⟨none,0,0⟩,[]) qw ?_ ?_
 ·exact ⟨S,zB0 _,rfl⟩
 clear S;rintro ⟨i,vg,gs⟩ h ⟨S,g1,g2⟩;have hgs:gs.length=i:=by have:=congrArg List.length g2;simp at this;omega
 all_goals (repeat' (first|refine qg ?_|refine qh rfl ?_|refine qi ?_|refine qy ?_|refine ql ?_|(refine qc 3 ?_;refine mv ?_;refine mv ?_;refine jc S ?_;(first|(refine cS ?_ ?_<;>intro hc))<;>(refine qf ?_))))
 ·have hil:i<l.length:=by omega
  all_goals (repeat' (first|(refine qc 5 ?_;(iterate 3 refine mv ?_);refine zT S ?_;refine zQ S ?_)))
  simp only [zA0];(refine qm rfl rfl rfl rfl rfl ((qg9 S.wf (l.getD i default) ((ht i hil).1.ext w S.ext) (ht i hil).2).mono ?_);rintro _ h ⟨tv,rfl,x⟩)<;>(replace S:=S.QD x;clear x;(refine one 9 S ?_;clear S;intro u h S))
  refine app (y0:={ l.getD i default with tv:=tv }) S rfl rfl ?_;clear S;intro v3 h S;obtain ⟨vg',rfl⟩:=S.sV v3;(refine mv ?_;refine qf ?_);all_goals (repeat' (first|(refine qc 4 ?_;refine mv ?_;refine ad ?_;refine mv ?_;refine qf ?_)))
  refine ⟨(i+1,vg',gs ++ [{ l.getD i default with tv:=tv }]),?_,?_,qw⟩
  ·show l.length - (i+1)<l.length - i;omega
  ·replace S:Hs h0 h (.sl vg'.val 45 9 eG (gs ++ [{ l.getD i default with tv:=tv }]) :: .sl tv.val 9 1 eS (l.getD i default).tg :: tgO gs :: []):=S;have S:=(show Hs h0 h (.sl tv.val 9 1 eS (l.getD i default).tg :: tgO gs :: .sl vg'.val 45 9 eG (gs ++ [{ l.getD i default with tv:=tv }]) :: []) from S.pick)
   refine ⟨Hs.qgo (g:={ l.getD i default with tv:=tv }) S,by (try dsimp only);omega,?_⟩;dsimp only;rw [qY (by omega),zC9,zC9,g2];rfl
 ·obtain rfl:i=l.length:=by omega
  rw [zD4] at g2;all_goals (repeat' (first|(refine qc 6 ?_;refine mv ?_;refine mv ?_;refine qf ?_)))
  refine qj ⟨_,rfl,?_⟩;exact ⟨vg,gs,rfl,g2,S⟩
theorem qeo {h0:AH} (w:WfH h0) (v:Value) (l:List Int) (hr:zl h0 v 1 eI l) (hl:l.length*8≤140737488351232):Fn Tryz.prog Xh 94 [v] h0 (fun u h'=>Hs h0 h' [.sl u 3 1 eI l]):=by
 have S:=Hs.start w;refine qA (by first|rfl) Tryz.func94 rfl rfl ?_;all_goals (repeat' (first|refine qg ?_|refine ql ?_|(refine qc 0 ?_;refine mv ?_;refine qf ?_)|(refine qc 1 ?_;refine mv ?_;refine qf ?_)|(refine qc 2 ?_;refine mv ?_;refine qf ?_)))
 have S:=S.ZF (e:=3) (z:=1) (enc:=eI);refine qB (σ:=Nat×Value) (fun (i,v3) h'=>Hs h0 h' [.sl v3 3 1 eI (l.take i)]∧i≤l.length) (fun (i,v3)=>l.length - i) (fun (i,v3)=>[(0,v),(3,v3),(4,.int .i64 i)]) (0,.slice none 0 0) qw ?_ ?_
 ·exact ⟨S,zB0 _⟩
 clear S;rintro ⟨i,v3⟩ h ⟨S,g1⟩;have htl:(l.take i).length=i:=by simp;omega
 all_goals (repeat' (first|refine qg ?_|refine qh rfl ?_|refine qi ?_|refine qy ?_|refine ql ?_|(refine qc 3 ?_;refine mv ?_;refine mv ?_;refine jc S ?_;(first|(refine cS ?_ ?_<;>intro hc))<;>(refine qf ?_))))
 ·have hil:i<l.length:=by omega
  all_goals (repeat' (first|(refine qc 5 ?_;(iterate 3 refine mv ?_);refine zT S ?_;refine zQ S ?_;(refine one 1 S ?_;clear S;intro u h S))))
  simp only [zA0] at *;refine app (y0:=l.getD i default) S rfl rfl ?_;clear S;intro v3 h S;(refine mv ?_;refine qf ?_);all_goals (repeat' (first|(refine qc 4 ?_;refine mv ?_;refine ad ?_;refine mv ?_;refine qf ?_)))
  refine ⟨(i+1,v3),?_,?_,qw⟩
  ·show l.length - (i+1)<l.length - i;omega
  ·refine ⟨?_,by (try dsimp only);omega⟩;dsimp only;rw [qY hil];exact S
 ·obtain rfl:i=l.length:=by omega
  rw [zD4] at S;all_goals (repeat' (first|(refine qc 6 ?_;refine mv ?_;refine mv ?_;refine qf ?_)))
  refine qj ⟨_,rfl,?_⟩;exact S
theorem qfB {h0:AH} (w:WfH h0) (v:Value) (l:List Ru) (hr:zl h0 v 6 Xv l) (hl:l.length*72≤140737488351232):Fn Tryz.prog Xh 95 [v] h0 (fun u h'=>Hs h0 h' [.sl u 158 6 Xv l]):=by
 have S:=Hs.start w;refine qA (by first|rfl) Tryz.func95 rfl rfl ?_;all_goals (repeat' (first|refine qg ?_|refine ql ?_|(refine qc 0 ?_;refine mv ?_;refine qf ?_)|(refine qc 1 ?_;refine mv ?_;refine qf ?_)|(refine qc 2 ?_;refine mv ?_;refine qf ?_)))
 have S:=S.ZF (e:=158) (z:=6) (enc:=Xv);refine qB (σ:=Nat×Value) (fun (i,v3) h'=>Hs h0 h' [.sl v3 158 6 Xv (l.take i)]∧i≤l.length) (fun (i,v3)=>l.length - i) (fun (i,v3)=>[(0,v),(3,v3),(4,.int .i64 i)]) (0,.slice none 0 0) qw ?_ ?_
 ·exact ⟨S,zB0 _⟩
 clear S;rintro ⟨i,v3⟩ h ⟨S,g1⟩;have htl:(l.take i).length=i:=by simp;omega
 all_goals (repeat' (first|refine qg ?_|refine qh rfl ?_|refine qi ?_|refine qy ?_|refine ql ?_|(refine qc 3 ?_;refine mv ?_;refine mv ?_;refine jc S ?_;(first|(refine cS ?_ ?_<;>intro hc))<;>(refine qf ?_))))
 ·have hil:i<l.length:=by omega
  all_goals (repeat' (first|(refine qc 5 ?_;(iterate 3 refine mv ?_);refine zT S ?_;refine zQ S ?_;(refine one 6 S ?_;clear S;intro u h S))))
  simp only [zA0] at *;refine app (y0:=l.getD i default) S rfl rfl ?_;clear S;intro v3 h S;(refine mv ?_;refine qf ?_);all_goals (repeat' (first|(refine qc 4 ?_;refine mv ?_;refine ad ?_;refine mv ?_;refine qf ?_)))
  refine ⟨(i+1,v3),?_,?_,qw⟩
  ·show l.length - (i+1)<l.length - i;omega
  ·refine ⟨?_,by (try dsimp only);omega⟩;dsimp only;rw [qY hil];exact S
 ·obtain rfl:i=l.length:=by omega
  rw [zD4] at S;all_goals (repeat' (first|(refine qc 6 ?_;refine mv ?_;refine mv ?_;refine qf ?_)))
  refine qj ⟨_,rfl,?_⟩;exact S
abbrev WB (t:Tab):Rs:=.sl t.os.val 3 1 eI t.opn
theorem qfA {h0:AH} (w:WfH h0) (t:Tab) (rd:zl h0 t.os.val 1 eI t.opn) (hl:t.opn.length*8≤140737488351232):Fn Tryz.prog Xh 154 [QG t] h0 (fun u h'=>∃ os:SlV,u=QG { t with os:=os }∧Hs h0 h' [.sl os.val 3 1 eI t.opn]):=by
 have S:=Hs.start w;obtain ⟨n1,n2,n3,n4,n5,n6,n7,n8⟩:=t;dsimp only at *;refine qA (by first|rfl) Tryz.func154 rfl rfl ?_;all_goals (repeat' (first|refine qg ?_|(refine qc 0 ?_;(refine bx S ?_;clear S;intro b h S);(refine al S ?_;clear S;intro b h S);refine qf ?_)))
 obtain ⟨b1,hnm⟩:∃ x,x=b:=⟨_,rfl⟩;subst hnm;all_goals (repeat' (first|(refine qc 1 ?_;refine vl ?_;refine lB S rfl rfl ?_)))
 (refine qm rfl rfl rfl rfl rfl ((qeo S.wf n5.val n6 (rd.ext w S.ext) hl).mono ?_);rintro v h x)<;>(replace S:=S.QD x;clear x;obtain ⟨os,rfl⟩:=S.sV v;refine vl ?_;(first|(refine sB S rfl rfl ?_;clear S;intro h S));refine qf ?_)
 all_goals (repeat' (first|refine qg ?_|(refine qc 2 ?_;refine lB S rfl rfl ?_;(first|(refine sB S rfl rfl ?_;clear S;intro h S));refine qf ?_)))
 refine qj ⟨_,jQ S rfl (by first|exact .there .here) (by exact rfl) (by exact rfl),?_⟩;exact ⟨os,rfl,S.only .here⟩
theorem qen {h0:AH} (w:WfH h0) (v:Value) (l:List Tab) (hr:zl h0 v 7 eT l) (ht:∀ i,i<l.length→zl h0 (l.getD i default).os.val 1 eI (l.getD i default).opn∧(l.getD i default).opn.length*8≤140737488351232) (hl:l.length*80≤140737488351232) :
 Fn Tryz.prog Xh 91 [v] h0 (fun u h'=>∃ (vt:SlV) (ts:List Tab),u=vt.val∧ts.map (·.toC)=l.map (·.toC)∧Hs h0 h' [xW WB ts,.sl vt.val 93 7 eT ts]):=by
 have S:=Hs.start w;refine qA (by first|rfl) Tryz.func91 rfl rfl ?_;all_goals (repeat' (first|refine qg ?_|refine ql ?_|(refine qc 0 ?_;refine mv ?_;refine qf ?_)|(refine qc 1 ?_;refine mv ?_;refine qf ?_)|(refine qc 2 ?_;refine mv ?_;refine qf ?_)))
 have S:=((S.ZF (e:=93) (z:=7) (enc:=eT))).qh5 (f:=WB);replace S:Hs h0 h0 [xW WB [],.sl (SlV.val ⟨none,0,0⟩) 93 7 eT []]:=S;refine qB (σ:=Nat×SlV×List Tab) (fun (i,vt,ts) h'=>Hs h0 h' [xW WB ts,.sl vt.val 93 7 eT ts]∧i≤l.length∧ts.map (·.toC)=(l.take i).map (·.toC)) (fun (i,vt,ts)=>l.length - i) (fun (i,vt,ts)=>[(0,v),(3,vt.val),(4,.int .i64 i)]) (0,⟨none,0,0⟩,[]) qw ?_ ?_
 ·exact ⟨S,zB0 _,rfl⟩
 clear S;rintro ⟨i,vt,ts⟩ h ⟨S,g1,g2⟩;have hgs:ts.length=i:=by have:=congrArg List.length g2;simp at this;omega
 all_goals (repeat' (first|refine qg ?_|refine qh rfl ?_|refine qi ?_|refine qy ?_|refine ql ?_|(refine qc 3 ?_;refine mv ?_;refine mv ?_;refine jc S ?_;(first|(refine cS ?_ ?_<;>intro hc))<;>(refine qf ?_))))
 ·have hil:i<l.length:=by omega
  all_goals (repeat' (first|(refine qc 5 ?_;(iterate 3 refine mv ?_);refine zT S ?_;refine zQ S ?_)))
  simp only [zA0];(refine qm rfl rfl rfl rfl rfl ((qfA S.wf (l.getD i default) ((ht i hil).1.ext w S.ext) (ht i hil).2).mono ?_);rintro _ h ⟨os,rfl,x⟩)<;>(replace S:=S.QD x;clear x;(refine one 7 S ?_;clear S;intro u h S))
  refine app (y0:={ l.getD i default with os:=os }) S rfl rfl ?_;clear S;intro v3 h S;obtain ⟨vt',rfl⟩:=S.sV v3;(refine mv ?_;refine qf ?_);all_goals (repeat' (first|(refine qc 4 ?_;refine mv ?_;refine ad ?_;refine mv ?_;refine qf ?_)))
  refine ⟨(i+1,vt',ts ++ [{ l.getD i default with os:=os }]),?_,?_,qw⟩
  ·show l.length - (i+1)<l.length - i;omega
  ·replace S:Hs h0 h (.sl vt'.val 93 7 eT (ts ++ [{ l.getD i default with os:=os }]) :: .sl os.val 3 1 eI (l.getD i default).opn :: xW WB ts :: []):=S;have S:=(show Hs h0 h (.sl os.val 3 1 eI (l.getD i default).opn :: xW WB ts :: .sl vt'.val 93 7 eT (ts ++ [{ l.getD i default with os:=os }]) :: []) from S.pick)
   refine ⟨Hs.qh6 (f:=WB) (g:={ l.getD i default with os:=os }) S,by (try dsimp only);omega,?_⟩;dsimp only;rw [qY (by omega),zC9,zC9,g2];rfl
 ·obtain rfl:i=l.length:=by omega
  rw [zD4] at g2;all_goals (repeat' (first|(refine qc 6 ?_;refine mv ?_;refine mv ?_;refine qf ?_)))
  refine qj ⟨_,rfl,?_⟩;exact ⟨vt,ts,rfl,g2,S⟩
end Go.Proofs.Xx
namespace Go.Proofs.Xx
open Go Go.Proofs
variable [Flag]
theorem V9 {h0:AH} (w:WfH h0) (v u:Value) (l m:List Int) (rv:zl h0 v 1 eI l) (ru:zl h0 u 1 eI m) (hl:l.length≤9223372036854775807) (hm:m.length≤9223372036854775807):Fn Tryz.prog Xh 108 [v,u] h0 (fun x h'=>qI x (l=m)∧Hs h0 h' []):=by
 have S:=Hs.start w;refine qA (by first|rfl) Tryz.func108 rfl rfl ?_;all_goals (repeat' (first|refine qg ?_|refine qh rfl ?_|refine qi ?_|refine ql ?_|(refine qc 0 ?_;refine mv ?_;refine qf ?_)|(refine qc 1 ?_;refine mv ?_;refine jc S ?_;refine mv ?_;refine jc S ?_;(first|(refine cS ?_ ?_<;>intro hc))<;>(refine qf ?_))|(refine qc 2 ?_;refine mv ?_;refine qf ?_)|(refine qc 3 ?_;refine mv ?_;refine qf ?_)))
 ·refine qj ⟨_,rfl,?_⟩;exact ⟨.inr ⟨rfl,fun q=>by subst q;omega⟩,S⟩
 ·refine qB (σ:=Nat) (fun i h'=>Hs h0 h' []∧i≤l.length∧∀ j,j<i→l.getD j default=m.getD j default) (fun i=>l.length - i) (fun i=>[(0,v),(1,u),(5,.int .i64 i)]) 0 qw ?_ ?_
  ·exact ⟨S,zB0 _,fun j hj=>absurd hj (zB7 _)⟩
  clear S;rintro i h ⟨S,g1,g2⟩;all_goals (repeat' (first|refine qg ?_|refine qh rfl ?_|refine qi ?_|refine qy ?_|refine ql ?_|(refine qc 4 ?_;refine mv ?_;refine mv ?_;refine jc S ?_;(first|(refine cS ?_ ?_<;>intro hc))<;>(refine qf ?_))|(refine qc 5 ?_;refine mv ?_;refine ad ?_;refine mv ?_;refine qf ?_)|(refine qF 6 ?_;refine mv ?_;refine mv ?_;refine zT S ?_;refine zQ S ?_;refine mv ?_;refine mv ?_;refine zT S ?_;refine zQ S ?_;(first|(refine cS ?_ ?_<;>intro hc))<;>(refine qf ?_))|(refine qc 7 ?_;refine mv ?_;refine qf ?_)|(refine qc 8 ?_;refine mv ?_;refine qf ?_)))
  all_goals (try simp only [zA0] at *)
  ·refine qj ⟨_,rfl,?_⟩;exact ⟨.inr ⟨rfl,fun q=>by subst q;exact hc rfl⟩,S⟩
  ·refine ⟨i+1,?_,?_,qw⟩
   ·show l.length - (i+1)<l.length - i;omega
   ·exact ⟨S,by omega,Qb g2 (by omega)⟩
  ·refine qj ⟨_,rfl,?_⟩;exact ⟨.inl ⟨rfl,XT (by omega) fun j hj=>g2 j (by omega)⟩,S⟩
theorem qhV (a b:Ru):(a.k == b.k && (a.w == b.w && (zK ⟨a.a.toArray⟩ ⟨b.a.toArray⟩ && (zK ⟨a.b.toArray⟩ ⟨b.b.toArray⟩ && (zK ⟨a.t.toArray⟩ ⟨b.t.toArray⟩ && (a.n == b.n && true))))))=true↔a=b:=by
 rw [jJ,jJ,jJ];cases a;cases b
 simp
theorem Kq {h0:AH} (w:WfH h0) (v u:Value) (l m:List Ru) (rv:zl h0 v 6 Xv l) (ru:zl h0 u 6 Xv m) (hl:l.length≤9223372036854775807) (hm:m.length≤9223372036854775807):Fn Tryz.prog Xh 160 [v,u] h0 (fun x h'=>qI x (l=m)∧Hs h0 h' []):=by
 have S:=Hs.start w;refine qA (by first|rfl) Tryz.func160 rfl rfl ?_;all_goals (repeat' (first|refine qg ?_|refine qh rfl ?_|refine qi ?_|refine ql ?_|(refine qc 0 ?_;refine mv ?_;refine qf ?_)|(refine qc 1 ?_;refine mv ?_;refine jc S ?_;refine mv ?_;refine jc S ?_;(first|(refine cS ?_ ?_<;>intro hc))<;>(refine qf ?_))|(refine qc 2 ?_;refine mv ?_;refine qf ?_)|(refine qc 3 ?_;refine mv ?_;refine qf ?_)))
 ·refine qj ⟨_,rfl,?_⟩;exact ⟨.inr ⟨rfl,fun q=>by subst q;exact hc rfl⟩,S⟩
 ·refine qB (σ:=Nat) (fun i h'=>Hs h0 h' []∧i≤l.length∧∀ j,j<i→l.getD j default=m.getD j default) (fun i=>l.length - i) (fun i=>[(0,v),(1,u),(5,.int .i64 i)]) 0 qw ?_ ?_
  ·exact ⟨S,zB0 _,fun j hj=>absurd hj (zB7 _)⟩
  clear S;rintro i h ⟨S,g1,g2⟩;all_goals (repeat' (first|refine qg ?_|refine qh rfl ?_|refine qi ?_|refine qy ?_|refine ql ?_|(refine qc 4 ?_;refine mv ?_;refine mv ?_;refine jc S ?_;(first|(refine cS ?_ ?_<;>intro hc))<;>(refine qf ?_))|(refine qc 5 ?_;refine mv ?_;refine ad ?_;refine mv ?_;refine qf ?_)|(refine qF 6 ?_;refine mv ?_;refine mv ?_;refine zT S ?_;refine zQ S ?_;refine mv ?_;refine mv ?_;refine zT S ?_;refine zQ S ?_;(refine gE ?_ ?_<;>intro hc)<;>(refine qf ?_))|(refine qc 7 ?_;refine mv ?_;refine qf ?_)|(refine qc 8 ?_;refine mv ?_;refine qf ?_)))
  all_goals (try simp only [zA0] at *)
  ·refine ⟨i+1,?_,?_,qw⟩
   ·show l.length - (i+1)<l.length - i;omega
   ·exact ⟨S,by omega,Qb g2 ((qhV _ _).1 hc)⟩
  ·refine qj ⟨_,rfl,?_⟩;exact ⟨.inr ⟨rfl,fun q=>by subst q;rw [(qhV _ _).2 rfl] at hc;cases hc⟩,S⟩
  ·refine qj ⟨_,rfl,?_⟩;exact ⟨.inl ⟨rfl,XT (by omega) fun j hj=>g2 j (by omega)⟩,S⟩
theorem qch {h0:AH} (w:WfH h0) (g k:Tab) (rg:zl h0 g.os.val 1 eI g.opn) (rk:zl h0 k.os.val 1 eI k.opn) (hg:g.opn.length≤9223372036854775807) (hk:k.opn.length≤9223372036854775807):Fn Tryz.prog Xh 236 [QG g,QG k] h0 (fun x h'=>qI x (g.toC=k.toC)∧Hs h0 h' []):=by
 have S:=Hs.start w;obtain ⟨n1,n2,n3,n4,n5,n6,n7,n8⟩:=g;obtain ⟨m1,m2,m3,m4,m5,m6,m7,m8⟩:=k;dsimp only at *;refine qA (by first|rfl) Tryz.func236 rfl rfl ?_;all_goals (repeat' (first|refine qg ?_|(refine qc 0 ?_;(refine bx S ?_;clear S;intro b h S);(refine bx S ?_;clear S;intro b h S);refine mv ?_;refine qf ?_)|(refine qc 1 ?_;refine vl ?_;refine lB S rfl rfl ?_;refine vl ?_;refine lB S rfl rfl ?_;(refine tS ?_ ?_<;>intro hc)<;>(refine mv ?_;(first|refine off ?_|(refine vl ?_));(first|refine off ?_|(refine lB S rfl rfl ?_));(first|refine off ?_|(refine vl ?_));(first|refine off ?_|(refine lB S rfl rfl ?_));(first|refine off ?_|(first|(refine cS ?_ ?_<;>intro hc)))<;>(refine vl ?_;refine mv ?_;(first|refine off ?_|(refine vl ?_));(first|refine off ?_|(refine lB S rfl rfl ?_));(first|refine off ?_|(refine vl ?_));(first|refine off ?_|(refine lB S rfl rfl ?_));(first|refine off ?_|(first|(refine cS ?_ ?_<;>intro hc)))<;>(refine vl ?_;refine mv ?_;(first|refine off ?_|(refine vl ?_));(first|refine off ?_|(refine lB S rfl rfl ?_));(first|refine off ?_|(refine vl ?_));(first|refine off ?_|(refine lB S rfl rfl ?_));(first|refine off ?_|(first|(refine cS ?_ ?_<;>intro hc)))<;>(refine vl ?_;refine mv ?_;(first|refine off ?_|(refine vl ?_));(first|refine off ?_|(refine lB S rfl rfl ?_));(first|refine off ?_|(refine vl ?_));(first|refine off ?_|(refine lB S rfl rfl ?_));(first|refine off ?_|(first|(refine cS ?_ ?_<;>intro hc)))<;>(refine vl ?_;refine mv ?_;(first|refine off ?_|(refine vl ?_));(first|refine off ?_|(refine lB S rfl rfl ?_));(first|refine off ?_|(refine vl ?_));(first|refine off ?_|(refine lB S rfl rfl ?_));(first|refine off ?_|(first|(refine cS ?_ ?_<;>intro hc)))<;>(refine vl ?_;refine mv ?_;(first|refine off ?_|(refine vl ?_));(first|refine off ?_|(refine lB S rfl rfl ?_));(first|refine off ?_|(refine vl ?_));(first|refine off ?_|(refine lB S rfl rfl ?_));(first|(refine off ?_;refine vl ?_;refine mv ?_;refine qf ?_)|skip))))))))))
 ·(refine qm rfl rfl rfl rfl rfl ((V9 S.wf n5.val m5.val n6 m6 (rg.ext w S.ext) (rk.ext w S.ext) hg hk).mono ?_);rintro _ h ⟨⟨rfl,z⟩|⟨rfl,z⟩,x⟩)<;>(replace S:=S.qx x;clear x;refine vl ?_;refine mv ?_;refine qf ?_)
  ·all_goals (repeat' (fail))
   refine qj ⟨_,rfl,?_⟩;refine ⟨.inl ⟨rfl,?_⟩,S.drop⟩;simp only [TabC.mk.injEq];exact ⟨by assumption,by assumption,by assumption,by assumption,z,by assumption,by assumption⟩
  ·all_goals (repeat' (fail))
   refine qj ⟨_,rfl,?_⟩;refine ⟨.inr ⟨rfl,fun q=>?_⟩,S.drop⟩;simp only [TabC.mk.injEq] at q;exact z q.2.2.2.2.1
 all_goals
  refine qj ⟨_,rfl,?_⟩;refine ⟨.inr ⟨rfl,fun q=>?_⟩,S.drop⟩;simp only [TabC.mk.injEq] at q;exact absurd (by first|exact q.1|exact q.2.1|exact q.2.2.1|exact q.2.2.2.1|exact q.2.2.2.2.2.1|exact q.2.2.2.2.2.2) hc
theorem qaD {h0:AH} (w:WfH h0) (v u:Value) (gs ks:List Tab) (rv:zl h0 v 7 eT gs) (ru:zl h0 u 7 eT ks) (tv:∀ i,i<gs.length→zl h0 (gs.getD i default).os.val 1 eI (gs.getD i default).opn∧(gs.getD i default).opn.length≤9223372036854775807) (tu:∀ i,i<ks.length→zl h0 (ks.getD i default).os.val 1 eI (ks.getD i default).opn∧(ks.getD i default).opn.length≤9223372036854775807) (hl:gs.length≤9223372036854775807) (hm:ks.length≤9223372036854775807) :
 Fn Tryz.prog Xh 157 [v,u] h0 (fun x h'=>qI x (gs.map (·.toC)=ks.map (·.toC))∧Hs h0 h' []):=by
 have S:=Hs.start w;refine qA (by first|rfl) Tryz.func157 rfl rfl ?_;all_goals (repeat' (first|refine qg ?_|refine qh rfl ?_|refine qi ?_|refine ql ?_|(refine qc 0 ?_;refine mv ?_;refine qf ?_)|(refine qc 1 ?_;refine mv ?_;refine jc S ?_;refine mv ?_;refine jc S ?_;(first|(refine cS ?_ ?_<;>intro hc))<;>(refine qf ?_))|(refine qc 2 ?_;refine mv ?_;refine qf ?_)|(refine qc 3 ?_;refine mv ?_;refine qf ?_)))
 ·refine qj ⟨_,rfl,?_⟩;exact ⟨.inr ⟨rfl,fun q=>by have:=congrArg List.length q;simp at this;omega⟩,S⟩
 ·refine qB (σ:=Nat) (fun i h'=>Hs h0 h' []∧i≤gs.length∧∀ j,j<i→(gs.getD j default).toC=(ks.getD j default).toC) (fun i=>gs.length - i) (fun i=>[(0,v),(1,u),(5,.int .i64 i)]) 0 qw ?_ ?_
  ·exact ⟨S,zB0 _,fun j hj=>absurd hj (zB7 _)⟩
  clear S;rintro i h ⟨S,g1,g2⟩;all_goals (repeat' (first|refine qg ?_|refine qh rfl ?_|refine qi ?_|refine qy ?_|refine ql ?_|(refine qc 4 ?_;refine mv ?_;refine mv ?_;refine jc S ?_;(first|(refine cS ?_ ?_<;>intro hc))<;>(refine qf ?_))|(refine qc 8 ?_;refine mv ?_;refine qf ?_)))
  ·have e1:=tv i (by omega);have e2:=tu i (by omega);all_goals (repeat' (first|(refine qF 6 ?_;refine mv ?_;refine mv ?_;refine zT S ?_;refine zQ S ?_;refine mv ?_;refine mv ?_;refine zT S ?_;refine zQ S ?_)))
   simp only [zA0];(refine qm rfl rfl rfl rfl rfl ((qch S.wf (gs.getD i default) (ks.getD i default) (e1.1.ext w S.ext) (e2.1.ext w S.ext) e1.2 e2.2).mono ?_);rintro _ h ⟨⟨rfl,z⟩|⟨rfl,z⟩,x⟩)<;>(replace S:=S.qx x;clear x;refine vl ?_;refine qf ?_)
   ·all_goals (repeat' (first|refine qh rfl ?_|refine qi ?_|(refine qc 5 ?_;refine mv ?_;refine ad ?_;refine mv ?_;refine qf ?_)))
    refine ⟨i+1,?_,?_,qw⟩
    ·show gs.length - (i+1)<gs.length - i;omega
    ·exact ⟨S,by omega,Qb g2 z⟩
   ·all_goals (repeat' (first|refine qg ?_|refine qh rfl ?_|(refine qc 7 ?_;refine mv ?_;refine qf ?_)))
    refine qj ⟨_,rfl,?_⟩;refine ⟨.inr ⟨rfl,fun q=>z ?_⟩,S⟩;rw [← ji (f:=fun g:Tab=>g.toC) (show i<gs.length by omega),← ji (f:=fun g:Tab=>g.toC) (show i<ks.length by omega),q]
  ·refine qj ⟨_,rfl,?_⟩;refine ⟨.inl ⟨rfl,XT (by simp;omega) fun j hj=>?_⟩,S⟩;simp at hj;rw [ji (by omega),ji (by omega)];exact g2 j (by omega)
end Go.Proofs.Xx
namespace Go.Proofs.Xx
open Go Go.Proofs
def qj6 (L:List Int→Int) (n m k:Nat):qah:=((List.range k).map fun i=>nI (qit n m i)).foldl (qgn L) ([],-1)
variable [Flag]
end Go.Proofs.Xx
namespace Go.Proofs.Xx
open Go Go.Proofs
variable [Flag]
theorem XM {h0:AH} (w:WfH h0) (k:Int):Fn Tryz.prog Xh 312 [.int .u8 k] h0 (fun v h'=>qI v (1≤k∧k≤5)∧Hs h0 h' []):=by
 have S:=Hs.start w;refine qA (by first|rfl) Tryz.func312 rfl rfl ?_;all_goals (repeat' (first|refine qg ?_|(refine qc 0 ?_;refine mv ?_;refine qf ?_)|(refine qc 1 ?_;refine mv ?_;(first|(refine cS ?_ ?_<;>intro hc))<;>(refine mv ?_;(first|refine off ?_|refine mv ?_);(first|refine off ?_|(first|(refine cS ?_ ?_<;>intro hc)))<;>(refine vl ?_;refine mv ?_;(first|refine off ?_|refine mv ?_);(first|refine off ?_|(first|(refine cS ?_ ?_<;>intro hc)))<;>(refine vl ?_;refine mv ?_;(first|refine off ?_|refine mv ?_);(first|refine off ?_|(first|(refine cS ?_ ?_<;>intro hc)))<;>(refine vl ?_;refine mv ?_;(first|refine off ?_|refine mv ?_);(first|refine off ?_|(first|(refine cS ?_ ?_<;>intro hc)))<;>(refine vl ?_;refine mv ?_;refine qf ?_))))))))
 all_goals (refine qj ⟨_,rfl,?_⟩)
 all_goals (refine ⟨?_,S⟩;unfold qI)
 all_goals first|exact .inl ⟨rfl,by omega⟩|exact .inr ⟨rfl,by omega⟩
theorem qbw {h0:AH} (w:WfH h0) (k:Int):Fn Tryz.prog Xh 313 [.int .u8 k] h0 (fun v h'=>qI v (k=6∨k=7∨k=10)∧Hs h0 h' []):=by
 have S:=Hs.start w;refine qA (by first|rfl) Tryz.func313 rfl rfl ?_;all_goals (repeat' (first|refine qg ?_|(refine qc 0 ?_;refine mv ?_;refine qf ?_)|(refine qc 1 ?_;refine mv ?_;(first|(refine cS ?_ ?_<;>intro hc))<;>(refine mv ?_;(first|refine off ?_|refine mv ?_);(first|refine off ?_|(first|(refine cS ?_ ?_<;>intro hc)))<;>(refine vl ?_;refine mv ?_;(first|refine off ?_|refine mv ?_);(first|refine off ?_|(first|(refine cS ?_ ?_<;>intro hc)))<;>(refine vl ?_;refine mv ?_;refine qf ?_))))))
 all_goals (refine qj ⟨_,rfl,?_⟩)
 all_goals (refine ⟨?_,S⟩;unfold qI)
 all_goals first|exact .inl ⟨rfl,by omega⟩|exact .inr ⟨rfl,by omega⟩
theorem xK {h0:AH} (w:WfH h0) (k:Int):Fn Tryz.prog Xh 315 [.int .u8 k] h0 (fun v h'=>qI v (k=1∨k=4∨k=7∨k=15∨k=16)∧Hs h0 h' []):=by
 have S:=Hs.start w;refine qA (by first|rfl) Tryz.func315 rfl rfl ?_;all_goals (repeat' (first|refine qg ?_|(refine qc 0 ?_;refine mv ?_;refine qf ?_)|(refine qc 1 ?_;refine mv ?_;(first|(refine cS ?_ ?_<;>intro hc))<;>(refine mv ?_;(first|refine off ?_|refine mv ?_);(first|refine off ?_|(first|(refine cS ?_ ?_<;>intro hc)))<;>(refine vl ?_;refine mv ?_;(first|refine off ?_|refine mv ?_);(first|refine off ?_|(first|(refine cS ?_ ?_<;>intro hc)))<;>(refine vl ?_;refine mv ?_;(first|refine off ?_|refine mv ?_);(first|refine off ?_|(first|(refine cS ?_ ?_<;>intro hc)))<;>(refine vl ?_;refine mv ?_;(first|refine off ?_|refine mv ?_);(first|refine off ?_|(first|(refine cS ?_ ?_<;>intro hc)))<;>(refine vl ?_;refine mv ?_;refine qf ?_))))))))
 all_goals (refine qj ⟨_,rfl,?_⟩)
 all_goals (refine ⟨?_,S⟩;unfold qI)
 all_goals first|exact .inl ⟨rfl,by omega⟩|exact .inr ⟨rfl,by omega⟩
theorem Yl {h0:AH} (w:WfH h0) (k:Int):Fn Tryz.prog Xh 314 [.int .u8 k] h0 (fun v h'=>∃ n:Int,v = .int .i64 n∧((((1≤k∧k≤5)∨k=10)∧n=0)∨((k=6∨k=7∨k=17)∧n=1)∨(¬ (1≤k∧k≤7)∧k≠10∧k≠17∧n=2))∧Hs h0 h' []):=by
 have S:=Hs.start w;refine qA (by first|rfl) Tryz.func314 rfl rfl ?_;all_goals (repeat' (first|refine qg ?_|(refine qc 0 ?_;refine mv ?_;refine qf ?_)|(refine qc 1 ?_;refine mv ?_)))
 (refine qm rfl rfl rfl rfl rfl ((XM S.wf k).mono ?_);rintro _ h ⟨⟨rfl,z⟩|⟨rfl,z⟩,x⟩)<;>(replace S:=S.qx x;clear x;refine mv ?_;(first|refine off ?_|refine mv ?_);(first|refine off ?_|(first|(refine cS ?_ ?_<;>intro hc)))<;>(refine vl ?_;refine qf ?_))
 all_goals (repeat' (first|refine qg ?_|refine qh rfl ?_|refine qi ?_|(refine qc 2 ?_;refine mv ?_;refine qf ?_)|(refine qc 3 ?_;refine mv ?_;(first|(refine cS ?_ ?_<;>intro hc))<;>(refine mv ?_;(first|refine off ?_|refine mv ?_);(first|refine off ?_|(first|(refine cS ?_ ?_<;>intro hc)))<;>(refine vl ?_;refine mv ?_;(first|refine off ?_|refine mv ?_);(first|refine off ?_|(first|(refine cS ?_ ?_<;>intro hc)))<;>(refine vl ?_;refine qf ?_))))|(refine qc 4 ?_;refine mv ?_;refine qf ?_)|(refine qc 5 ?_;refine mv ?_;refine qf ?_)))
 all_goals (refine qj ⟨_,rfl,?_⟩)
 all_goals refine ⟨_,rfl,?_,S⟩
 all_goals omega
theorem pI {h0:AH} (w:WfH h0) (v:Value) (l:List Tab) (hr:zl h0 v 7 eT l) (hl:l.length≤9223372036854775807) (n:List UInt8):Fn Tryz.prog Xh 318 [v,str n] h0 (fun u h'=>((u = .int .i64 (tix l n)∧Jb l n)∨(u = .int .i64 (-1)∧¬ Jb l n))∧Hs h0 h' []):=by
 have S:=Hs.start w;refine qA (by first|rfl) Tryz.func318 rfl rfl ?_;all_goals (repeat' (first|refine qg ?_|refine ql ?_|(refine qc 0 ?_;refine mv ?_;refine qf ?_)|(refine qc 1 ?_;refine mv ?_;refine qf ?_)))
 refine qB (σ:=Nat) (fun i h'=>Hs h0 h' []∧i≤l.length∧∀ j,j<i→¬ (tb l j).name=n) (fun i=>l.length - i) (fun i=>[(0,v),(1,str n),(5,.int .i64 i)]) 0 qw ?_ ?_
 ·exact ⟨S,zB0 _,fun j hj=>absurd hj (zB7 _)⟩
 clear S;rintro i h ⟨S,g1,g2⟩;all_goals (repeat' (first|refine qg ?_|refine qh rfl ?_|refine qi ?_|refine qy ?_|refine ql ?_|(refine qc 2 ?_;refine mv ?_;refine mv ?_;refine jc S ?_;(first|(refine cS ?_ ?_<;>intro hc))<;>(refine qf ?_))|(refine qc 3 ?_;refine mv ?_;refine ad ?_;refine mv ?_;refine qf ?_)|(refine qc 4 ?_;refine mv ?_;refine mv ?_;refine zT S ?_;refine fB S ?_;refine zQ S ?_;refine mv ?_;(refine tS ?_ ?_<;>intro hc)<;>(refine qf ?_))|(refine qc 5 ?_;refine mv ?_;refine mv ?_;refine qf ?_)|(refine qc 6 ?_;refine mv ?_;refine qf ?_)))
 all_goals (try simp only [zA0] at *)
 ·refine qj ⟨_,rfl,?_⟩;have hi:i<l.length:=by omega
  exact ⟨.inl ⟨by rw [gq hi hc g2];rfl,i,hi,hc⟩,S⟩
 ·refine ⟨i+1,?_,?_,qw⟩
  ·show l.length - (i+1)<l.length - i;omega
  ·refine ⟨S,by omega,fun j hj=>?_⟩;rcases zA7 j i with q|q
   ·exact g2 j q
   ·obtain rfl:j=i:=by omega
    exact hc
 ·refine qj ⟨_,rfl,?_⟩;exact ⟨.inr ⟨rfl,fun ⟨j,hj,he⟩=>g2 j (by omega) he⟩,S⟩
end Go.Proofs.Xx
namespace Go.Proofs.Xx
open Go Go.Proofs
variable [Flag]
theorem PK {h0:AH} (w:WfH h0) (s:List UInt8) (hs:s.length≤9223372036854775807):Fn Tryz.prog Xh 369 [str s] h0 (fun v h'=>qI v (Qq s)∧Hs h0 h' []):=by
 have S:=Hs.start w;refine qA (by first|rfl) Tryz.func369 rfl rfl ?_;all_goals (repeat' (first|refine qg ?_|refine qh rfl ?_|refine qi ?_|refine ql ?_|(refine qc 0 ?_;refine mv ?_;refine qf ?_)|(refine qc 1 ?_;refine mv ?_;refine tl ?_;(first|(refine cS ?_ ?_<;>intro hc))<;>(refine mv ?_;(first|refine off ?_|refine mv ?_);(first|refine off ?_|refine tl ?_);(first|refine off ?_|(first|(refine cS ?_ ?_<;>intro hc)))<;>(refine vl ?_;refine qf ?_)))|(refine qc 2 ?_;refine mv ?_;refine qf ?_)|(refine qc 3 ?_;refine mv ?_;refine qf ?_)))
 ·refine qj ⟨_,rfl,?_⟩;exact ⟨.inr ⟨rfl,fun q=>by have:=q.1;omega⟩,S.drop⟩
 ·refine qj ⟨_,rfl,?_⟩;exact ⟨.inr ⟨rfl,fun q=>by have:=q.2.1;omega⟩,S.drop⟩
 rename_i hc1
 refine qB (σ:=Nat) (fun i h'=>Hs h0 h' []∧i≤s.length∧∀ j,j<i→Zg (s.getD j default)) (fun i=>s.length - i) (fun i=>[(0,str s),(3,.int .i64 i)]) 0 qw ?_ ?_
 ·exact ⟨S,zB0 _,fun j hj=>absurd hj (zB7 _)⟩
 clear S;rintro i h ⟨S,h1,h2⟩;all_goals (repeat' (first|refine qg ?_|refine qh rfl ?_|refine qi ?_|refine qy ?_|refine ql ?_|(refine qc 4 ?_;refine mv ?_;refine mv ?_;refine tl ?_;(first|(refine cS ?_ ?_<;>intro hc))<;>(refine qf ?_))|(refine qc 5 ?_;refine mv ?_;refine ad ?_;refine mv ?_;refine qf ?_)|(refine qc 6 ?_;refine mv ?_;refine mv ?_;refine ti ?_;(first|(refine cS ?_ ?_<;>intro hc))<;>(refine mv ?_;(first|refine off ?_|refine mv ?_);(first|refine off ?_|refine mv ?_);(first|refine off ?_|(refine ti ?_));(first|refine off ?_|(first|(refine cS ?_ ?_<;>intro hc)))<;>(refine vl ?_;refine qf ?_)))|(refine qc 7 ?_;refine mv ?_;refine qf ?_)|(refine qc 8 ?_;refine mv ?_;refine qf ?_)))
 all_goals (try simp only [zA0] at *)
 ·refine qj ⟨_,rfl,?_⟩;exact ⟨.inr ⟨rfl,fun q=>by have:=q.2.2 i (by omega);unfold Zg at this;simp only [show (default:UInt8)=0 from rfl] at this;omega⟩,S.drop⟩
 ·refine qj ⟨_,rfl,?_⟩;exact ⟨.inr ⟨rfl,fun q=>by have:=q.2.2 i (by omega);unfold Zg at this;simp only [show (default:UInt8)=0 from rfl] at this;omega⟩,S.drop⟩
 ·refine ⟨i+1,?_,?_,qw⟩
  ·show s.length - (i+1)<s.length - i;omega
  ·refine ⟨S,by omega,fun j hj=>?_⟩;rcases zA7 j i with q|q
   ·exact h2 j q
   ·have e:j=i:=by omega
    subst e;unfold Zg;simp only [show (default:UInt8)=0 from rfl];omega
 all_goals (refine qj ⟨_,rfl,?_⟩)
 exact ⟨.inl ⟨rfl,by omega,by omega,fun j hj=>h2 j (by omega)⟩,S.drop⟩
theorem KL {h0:AH} (w:WfH h0) (t:Tab) (r:TabR h0 t):Fn Tryz.prog Xh 353 [QG t] h0 (fun v h'=>v = .int .i64 (chk t)∧Hs h0 h' []):=by
 have S:=Hs.start w;have hts:=zO t;obtain ⟨hr,hnm,hol⟩:=r;refine qA (by first|rfl) Tryz.func353 rfl rfl ?_;all_goals (repeat' (first|refine qg ?_|(refine qc 0 ?_;(refine bx S ?_;clear S;intro b h S);refine mv ?_;refine qf ?_)|(refine qc 1 ?_;refine lB S rfl rfl ?_)))
 (refine qm rfl rfl rfl rfl rfl ((QW S.wf t).mono ?_);rintro _ h ⟨rfl,x⟩)<;>(replace S:=S.qx x;clear x;refine mv ?_;refine qf ?_)
 all_goals (repeat' (first|refine qg ?_|(refine qc 2 ?_;refine vl ?_;refine lB S rfl rfl ?_)))
 (refine qm rfl rfl rfl rfl rfl ((PK S.wf t.name hnm).mono ?_);rintro _ h ⟨⟨rfl,hq⟩|⟨rfl,hq⟩,x⟩)<;>(replace S:=S.qx x;clear x;refine vl ?_;refine qf ?_)
 all_goals (repeat' (first|refine qg ?_|refine qh rfl ?_|refine qi ?_|refine ql ?_|(refine qc 3 ?_;refine mv ?_;refine qf ?_)|(refine qc 4 ?_;refine mv ?_;(first|(refine cS ?_ ?_<;>intro hc))<;>(refine qf ?_))|(refine qc 5 ?_;refine mv ?_;refine qf ?_)|(refine qc 6 ?_;refine mv ?_;refine qf ?_)))
 ·refine qj ⟨_,rfl,?_⟩;exact ⟨by unfold chk;rw [if_neg (by simpa using hq),if_pos hc];rfl,S.drop⟩
 ·refine qB (σ:=Nat) (fun i h'=>Hs h0 h' [.blk b (QG t).cells.toList 93]∧i≤t.opn.length∧(∀ j,j<i→(0≤t.opn.getD j default∧t.opn.getD j default<qP t)∧(0<j→t.opn.getD (j - 1) default<t.opn.getD j default))) (fun i=>t.opn.length - i) (fun i=>[(1,.pointer (some ⟨b,0,none⟩)),(3,.int .i64 (qP t)),(4,.int .i64 i)]) 0 qw ?_ ?_
  ·exact ⟨S,zB0 _,fun j hj=>absurd hj (zB7 _)⟩
  clear S;rintro i h ⟨S,h1,h2⟩;all_goals (repeat' (first|refine qg ?_|refine qh rfl ?_|refine qi ?_|refine qy ?_|refine ql ?_|(refine qc 7 ?_;refine mv ?_;refine vl ?_;refine lB S rfl rfl ?_;refine jc S ?_;(first|(refine cS ?_ ?_<;>intro hc))<;>(refine qf ?_))|(refine qF 9 ?_;refine vl ?_;refine lB S rfl rfl ?_;refine mv ?_;refine zT S ?_;refine zQ S ?_;refine mv ?_;refine sb ?_)|(refine qc 11 ?_;refine vl ?_;refine lB S rfl rfl ?_)))
  ·(refine qm rfl rfl rfl rfl rfl ((jS _ _ _).mono ?_);rintro _ _ ⟨⟨rfl,hq3⟩|⟨rfl,hq3⟩,rfl⟩)<;>(refine vl ?_;refine mv ?_;(first|refine off ?_|refine mv ?_);(first|refine off ?_|(first|(refine cS ?_ ?_<;>intro hc)))<;>((first|refine off ?_|refine mv ?_);(first|refine off ?_|(refine vl ?_));(first|refine off ?_|(refine lB S rfl rfl ?_));(first|refine off ?_|refine mv ?_);(first|refine off ?_|(refine zT S ?_));(first|refine off ?_|(refine zQ S ?_));(first|refine off ?_|(refine vl ?_));(first|refine off ?_|(refine lB S rfl rfl ?_));(first|refine off ?_|refine mv ?_);(first|refine off ?_|(refine sb ?_));(first|refine off ?_|(refine zT S ?_));(first|refine off ?_|(refine zQ S ?_));(first|refine off ?_|(first|(refine cS ?_ ?_<;>intro hc)))<;>((first|refine off ?_|refine vl ?_);refine vl ?_;refine qf ?_)))
   all_goals (repeat' (first|refine qg ?_|refine qh rfl ?_|refine qi ?_|(refine qc 8 ?_;refine mv ?_;refine ad ?_;refine mv ?_;refine qf ?_)|(refine qc 10 ?_;refine mv ?_;refine qf ?_)))
   all_goals (try simp only [zA0] at *)
   ·refine qj ⟨_,rfl,?_⟩;refine ⟨?_,S.drop⟩;rw [show ((i:Int) - 1).toNat=i - 1 by omega] at hc;have:¬ WA (qP t) t.opn:=fun q=>by have q1:=(q i (by omega)).2 (by omega);omega
    unfold chk;rw [if_neg (by simpa using hq),if_neg (by assumption),if_pos this];rfl
   ·refine ⟨i+1,?_,?_,qw⟩
    ·show t.opn.length - (i+1)<t.opn.length - i;omega
    ·rw [show ((i:Int) - 1).toNat=i - 1 by omega] at hc;refine ⟨S,by omega,fun j hj=>?_⟩;rcases zA7 j i with q|q
     ·exact h2 j q
     ·have e:j=i:=by omega
      subst e;exact ⟨by omega,fun q=>by omega⟩
   ·refine ⟨i+1,?_,?_,qw⟩
    ·show t.opn.length - (i+1)<t.opn.length - i;omega
    ·refine ⟨S,by omega,fun j hj=>?_⟩;have e:j=i:=by omega
     subst e;exact ⟨by omega,fun q=>by omega⟩
   ·refine qj ⟨_,rfl,?_⟩;refine ⟨?_,S.drop⟩;have:¬ WA (qP t) t.opn:=fun q=>by have q1:=(q i (by omega)).1;omega
    unfold chk;rw [if_neg (by simpa using hq),if_neg (by assumption),if_pos this];rfl
  have hok:WA (qP t) t.opn:=fun j hj=>h2 j (by omega);(refine qm rfl rfl rfl rfl rfl ((jS _ _ _).mono ?_);rintro _ _ ⟨⟨rfl,hq3⟩|⟨rfl,hq3⟩,rfl⟩)<;>(refine vl ?_;refine mv ?_;(first|refine off ?_|(refine vl ?_));(first|refine off ?_|(refine lB S rfl rfl ?_));(first|(refine off ?_;refine off ?_;refine vl ?_;refine qf ?_)|skip))
  any_goals ((refine qm rfl rfl rfl rfl rfl ((jS _ _ _).mono ?_);rintro _ _ ⟨⟨rfl,hq4⟩|⟨rfl,hq4⟩,rfl⟩)<;>((refine vl ?_);refine vl ?_;refine qf ?_))
  all_goals (repeat' (first|refine qg ?_|refine qh rfl ?_|refine qi ?_|(refine qc 12 ?_;refine mv ?_;refine qf ?_)|(refine qc 13 ?_;refine mv ?_;refine qf ?_)))
  all_goals
   refine qj ⟨_,rfl,?_⟩;refine ⟨?_,S.drop⟩;unfold chk;rw [if_neg (by simpa using hq),if_neg (by assumption),if_neg (by simpa using hok)];first
    | (rw [if_pos (by unfold qcY;omega)];rfl)
    | (rw [if_neg (by unfold qcY;omega)];rfl)
 ·refine qj ⟨_,rfl,?_⟩;exact ⟨by unfold chk;rw [if_pos (by simpa using hq)];rfl,S.drop⟩
theorem xN {h0:AH} (w:WfH h0) (v:Value) (l:List Tab) (H:HallR h0 v l):Fn Tryz.prog Xh 309 [v] h0 (fun r h'=>∃ i e,r = .tuple #[.int .i64 i,.int .i64 e]∧ChkAll l i e∧Hs h0 h' []):=by
 have S:=Hs.start w;have hl:=H.len;have hr:=H.rd;refine qA (by first|rfl) Tryz.func309 rfl rfl ?_;all_goals (repeat' (first|refine qg ?_|refine qh rfl ?_|refine qi ?_|refine ql ?_|(refine qc 0 ?_;refine mv ?_;refine mv ?_;refine qf ?_)|(refine qc 1 ?_;refine mv ?_;refine jc S ?_;(first|(refine cS ?_ ?_<;>intro hc))<;>(refine qf ?_))|(refine qc 2 ?_;refine mv ?_;refine mv ?_;refine qf ?_)|(refine qc 3 ?_;refine mv ?_;refine qf ?_)))
 ·refine qj ⟨_,rfl,?_⟩;exact ⟨0,7,rfl,.inl ⟨by omega,rfl,rfl⟩,S⟩
 ·refine qB (σ:=Nat) (fun i h'=>Hs h0 h' []∧i≤l.length∧∀ j,j<i→Zh l j) (fun i=>l.length - i) (fun i=>[(0,v),(4,.int .i64 i)]) 0 qw ?_ ?_
  ·exact ⟨S,zB0 _,fun j hj=>absurd hj (zB7 _)⟩
  clear S;rintro i h ⟨S,h1,h2⟩;all_goals (repeat' (first|refine qg ?_|refine qh rfl ?_|refine qi ?_|refine qy ?_|refine ql ?_|(refine qc 4 ?_;refine mv ?_;refine mv ?_;refine jc S ?_;(first|(refine cS ?_ ?_<;>intro hc))<;>(refine qf ?_))|(refine qc 6 ?_;refine mv ?_;refine mv ?_;refine zT S ?_;refine zQ S ?_)|(refine qc 14 ?_;refine mv ?_;refine mv ?_;refine qf ?_)))
  ·(try simp only [zA0] at *)
   have hi:i<l.length:=by omega
   (refine qm rfl rfl rfl rfl rfl ((KL S.wf (tb l i) ((H.tab i hi).ext w S.ext)).mono ?_);rintro _ h ⟨rfl,x⟩)<;>(replace S:=S.qx x;clear x;refine mv ?_;refine qf ?_)
   all_goals (repeat' (first|refine qg ?_|refine qh rfl ?_|refine qi ?_|refine ql ?_|(refine qc 7 ?_;refine mv ?_;(first|(refine cS ?_ ?_<;>intro hc))<;>(refine qf ?_))|(refine qc 8 ?_;(iterate 4 refine mv ?_);refine qf ?_)|(refine qc 9 ?_;refine mv ?_;refine qf ?_)))
   ·refine qj ⟨_,rfl,?_⟩;exact ⟨i,_,rfl,.inr ⟨by omega,.inl ⟨i,hi,rfl,h2,.inl ⟨by simpa using hc,rfl⟩⟩⟩,S.drop⟩
   ·have hc0:chk (tb l i)=0:=by simpa using hc
    refine qB (σ:=Nat) (fun k h'=>Hs h0 h' []∧k≤i∧∀ j,j<k→¬ (tb l j).name=(tb l i).name) (fun k=>i - k) (fun k=>[(0,v),(4,.int .i64 i),(6,.int .i64 k)]) 0 qw ?_ ?_
    ·exact ⟨S,zB0 _,fun j hj=>absurd hj (zB7 _)⟩
    clear S;rintro k h ⟨S,k1,k2⟩;all_goals (repeat' (first|refine qg ?_|refine qh rfl ?_|refine qi ?_|refine qy ?_|refine ql ?_|(refine qc 5 ?_;refine mv ?_;refine ad ?_;refine mv ?_;refine qf ?_)|(refine qc 10 ?_;refine mv ?_;refine mv ?_;(first|(refine cS ?_ ?_<;>intro hc))<;>(refine qf ?_))|(refine qc 11 ?_;refine mv ?_;refine ad ?_;refine mv ?_;refine qf ?_)|(refine qF 12 ?_;refine mv ?_;refine mv ?_;refine zT S ?_;refine fB S ?_;refine zQ S ?_;refine mv ?_;refine mv ?_;refine zT S ?_;refine fB S ?_;refine zQ S ?_;(refine tS ?_ ?_<;>intro hc)<;>(refine qf ?_))|(refine qc 13 ?_;(iterate 3 refine mv ?_);refine qf ?_)))
    ·(try simp only [zA0] at *)
     refine qj ⟨_,rfl,?_⟩;exact ⟨i,5,rfl,.inr ⟨by omega,.inl ⟨i,hi,rfl,h2,.inr ⟨hc0,⟨k,by omega,by assumption⟩,rfl⟩⟩⟩,S⟩
    ·(try simp only [zA0] at *)
     refine ⟨k+1,?_,?_,qw⟩
     ·show i - (k+1)<i - k;omega
     ·refine ⟨S,by omega,fun j hj=>?_⟩;rcases zA7 j k with q|q
      ·exact k2 j q
      ·obtain rfl:j=k:=by omega
       assumption
    ·refine ⟨i+1,?_,?_,qw⟩
     ·show l.length - (i+1)<l.length - i;omega
     ·refine ⟨S,by omega,fun j hj=>?_⟩;rcases zA7 j i with q|q
      ·exact h2 j q
      ·obtain rfl:j=i:=by omega
       exact ⟨hc0,fun ⟨m,hm,he⟩=>k2 m (by omega) he⟩
  ·refine qj ⟨_,rfl,?_⟩;exact ⟨0,0,rfl,.inr ⟨by omega,.inr ⟨fun j hj=>h2 j (by omega),rfl,rfl⟩⟩,S⟩
theorem YU {h0:AH} (w:WfH h0) (v:Value) (gs:List ZL) (hr:zl h0 v 9 eG gs) (hl:gs.length≤9223372036854775807) (n:List UInt8):Fn Tryz.prog Xh 316 [v,str n] h0 (fun u h'=>((∃ i:Nat,gat (gs.map (·.toGu)) n=some i∧i<gs.length∧u = .int .i64 i)∨(gat (gs.map (·.toGu)) n=none∧u = .int .i64 (-1)))∧Hs h0 h' []):=by
 have S:=Hs.start w;refine qA (by first|rfl) Tryz.func316 rfl rfl ?_;all_goals (repeat' (first|refine qg ?_|refine ql ?_|(refine qc 0 ?_;refine mv ?_;refine qf ?_)|(refine qc 1 ?_;refine mv ?_;refine qf ?_)))
 refine qB (σ:=Nat) (fun i h'=>Hs h0 h' []∧i≤gs.length∧∀ j,j<i→(gs.getD j default).name≠n) (fun i=>gs.length - i) (fun i=>[(0,v),(1,str n),(5,.int .i64 i)]) 0 qw ?_ ?_
 ·exact ⟨S,zB0 _,fun j hj=>absurd hj (zB7 _)⟩
 clear S;rintro i h ⟨S,g1,g2⟩;have e:∀ j,j<gs.length→((gs.map (fun g:ZL=>g.toGu)).getD j default).name=(gs.getD j default).name:=fun j hj=>by rw [ji (f:=fun g:ZL=>g.toGu) hj]
 all_goals (repeat' (first|refine qg ?_|refine qh rfl ?_|refine qi ?_|refine qy ?_|refine ql ?_|(refine qc 2 ?_;refine mv ?_;refine mv ?_;refine jc S ?_;(first|(refine cS ?_ ?_<;>intro hc))<;>(refine qf ?_))))
 ·have hil:i<gs.length:=by omega
  all_goals (repeat' (first|refine qg ?_|refine qh rfl ?_|refine qi ?_|(refine qc 4 ?_;refine mv ?_;refine mv ?_;refine zT S ?_;refine fB S ?_;refine zQ S ?_;refine mv ?_;(refine tS ?_ ?_<;>intro hc)<;>(refine qf ?_))|(refine qc 5 ?_;refine mv ?_;refine mv ?_;refine qf ?_)))
  all_goals (try simp only [zA0] at *)
  ·refine qj ⟨_,rfl,?_⟩;refine ⟨.inl ⟨i,?_,hil,rfl⟩,S⟩;cases hq:gat (gs.map (·.toGu)) n with
   | none=>exact absurd (by rw [e i hil];exact hc) (Xp.1 hq _ (qK (show i<(gs.map (·.toGu)).length by simp;exact hil)))
   | some k =>
    obtain ⟨h1,h2,h3⟩:=YZ hq;simp only [zC5] at h1;rw [e k h1] at h2;rcases zE7 i k with q|q|q
    ·exact absurd (by rw [e i hil];exact hc) (h3 i q)
    ·rw [q]
    ·exact absurd h2 (g2 k q)
  ·all_goals (repeat' (first|(refine qc 3 ?_;refine mv ?_;refine ad ?_;refine mv ?_;refine qf ?_)))
   refine ⟨i+1,?_,?_,qw⟩
   ·show gs.length - (i+1)<gs.length - i;omega
   ·exact ⟨S,by omega,Qb g2 hc⟩
 ·skip
  all_goals (repeat' (first|(refine qc 6 ?_;refine mv ?_;refine qf ?_)))
  refine qj ⟨_,rfl,?_⟩;refine ⟨.inr ⟨Xp.2 fun g hg=>?_,rfl⟩,S⟩;obtain ⟨j,hj,rfl⟩:=zy.1 hg;simp only [zC5] at hj;rw [e j hj];exact g2 j (by omega)
theorem qgp {r:Rl} {i:Nat} (h:¬ ((r.ts.getD i default).k=1∨(r.ts.getD i default).k=2)∨¬ jv (r.ts.getD i default).a (r.ts.getD i default).b∨(0<i∧ZM (r.ts.getD i default) (r.ts.getD (i - 1) default))):X3 r i=23:=by
 unfold X3;split
 ·rename_i q
  rcases h with h|h|h
  ·unfold ZN;rw [if_pos (.inl (by omega))]
  ·exact absurd q.1 h
  ·rcases q.2 with z|z
   ·omega
   ·exact absurd h.2 z
 ·rfl
structure TGd (r:Rl) (i:Nat):Prop where
 k:(r.ts.getD i default).k=1∨(r.ts.getD i default).k=2
 lt:jv (r.ts.getD i default).a (r.ts.getD i default).b
 pl:i=0∨¬ ZM (r.ts.getD i default) (r.ts.getD (i - 1) default)
theorem TGd.eq {r:Rl} {i:Nat} (g:TGd r i):X3 r i=(ZN ⟨r.us,r.ts.take i⟩ (r.ts.getD i default).a (r.ts.getD i default).b (r.ts.getD i default).k).2:=by
 unfold X3;rw [if_pos ⟨g.lt,g.pl⟩]
theorem TGd.nk {r:Rl} {i:Nat} (g:TGd r i):¬ (((r.ts.getD i default).k≠1∧(r.ts.getD i default).k≠2)∨(r.ts.getD i default).a=(r.ts.getD i default).b):=by
 rintro (q|q)
 ·have:=g.k;omega
 ·exact qdA g.lt q
theorem TGd.e6 {r:Rl} {i:Nat} (g:TGd r i) (h:gat r.us (r.ts.getD i default).a=none∨gat r.us (r.ts.getD i default).b=none):X3 r i=6:=by
 rw [g.eq,qaq (r:=⟨r.us,r.ts.take i⟩) g.nk h]
theorem TGd.tied {r:Rl} {i:Nat} (g:TGd r i) (hi:i<r.ts.length) (hp:TS (r.ts.take i)):tied (r.ts.take i) (r.ts.getD i default).a (r.ts.getD i default).b↔(0<i∧¬ ZM (r.ts.getD (i - 1) default) (r.ts.getD i default)):=by
 unfold Xx.tied;rw [WT g.lt,WU g.lt];have hl:(r.ts.take i).length=i:=by simp;omega
 constructor
 ·rintro ⟨t,h1,h2,h3⟩;obtain ⟨j,j1,j2⟩:=zy.1 h1;rw [hl] at j1;rw [getD_take j1] at j2;refine ⟨by omega,fun q=>?_⟩;have hb:ZM t (r.ts.getD i default):=by
   rcases Nat.eq_or_lt_of_le (show j≤i - 1 by omega) with e|e
   ·rw [← j2,e];exact q
   ·have:=hp.lt e (by rw [hl];omega);rw [getD_take j1,getD_take (by omega),j2] at this;exact ZA this q
  rcases hb with q|q
  ·rw [h2] at q;exact zG _ q
  ·rw [h3] at q;exact zG _ q.2
 ·rintro ⟨h0,h1⟩;rcases Gi (r.ts.getD (i - 1) default) (r.ts.getD i default) with q|q|q
  ·exact absurd q h1
  ·refine ⟨r.ts.getD (i - 1) default,?_,q⟩;have:=qK (l:=r.ts.take i) (i:=i - 1) (by rw [hl];omega);rwa [getD_take (by omega)] at this
  ·exact absurd q (g.pl.resolve_left (by omega))
theorem TGd.e5 {r:Rl} {i:Nat} (g:TGd r i) (hi:i<r.ts.length) (hp:TS (r.ts.take i)) (h:¬ (gat r.us (r.ts.getD i default).a=none∨gat r.us (r.ts.getD i default).b=none)) (hb:0<i∧¬ ZM (r.ts.getD (i - 1) default) (r.ts.getD i default)):X3 r i=5:=by
 rw [g.eq,qar (r:=⟨r.us,r.ts.take i⟩) g.nk h ((g.tied hi hp).2 hb)]
theorem TGd.e7 {r:Rl} {i:Nat} (g:TGd r i) (hi:i<r.ts.length) (hp:TS (r.ts.take i)) (h:¬ (gat r.us (r.ts.getD i default).a=none∨gat r.us (r.ts.getD i default).b=none)) (hb:¬ (0<i∧¬ ZM (r.ts.getD (i - 1) default) (r.ts.getD i default))) (h7:256≤i):X3 r i=7:=by
 rw [g.eq,qap (r:=⟨r.us,r.ts.take i⟩) g.nk h (fun q=>hb ((g.tied hi hp).1 q)) (by simp;omega)]
theorem TGd.e0 {r:Rl} {i:Nat} (g:TGd r i) (hi:i<r.ts.length) (hp:TS (r.ts.take i)) (h:¬ (gat r.us (r.ts.getD i default).a=none∨gat r.us (r.ts.getD i default).b=none)) (hb:¬ (0<i∧¬ ZM (r.ts.getD (i - 1) default) (r.ts.getD i default))) (h7:¬ 256≤i):X3 r i=0:=by
 rw [g.eq,gu (r:=⟨r.us,r.ts.take i⟩) g.nk h (fun q=>hb ((g.tied hi hp).1 q)) (by simp;omega)]
theorem kT {h0:AH} (w:WfH h0) (x y:Ti):Fn Tryz.prog Xh 355 [tiV x,tiV y] h0 (fun u h'=>qI u (ZM x y)∧Hs h0 h' []):=by
 have S:=Hs.start w;unfold tiV;refine qA (by first|rfl) Tryz.func355 rfl rfl ?_;all_goals (repeat' (first|refine qg ?_|(refine qc 0 ?_;(refine bx S ?_;clear S;intro b h S);(refine bx S ?_;clear S;intro b h S);refine mv ?_;refine qf ?_)|(refine qc 1 ?_;refine vl ?_;refine lB S rfl rfl ?_;refine vl ?_;refine lB S rfl rfl ?_;(refine tO ?_ ?_<;>intro hc)<;>(refine mv ?_;(first|refine off ?_|(refine vl ?_));(first|refine off ?_|(refine lB S rfl rfl ?_));(first|refine off ?_|(refine vl ?_));(first|refine off ?_|(refine lB S rfl rfl ?_));(first|refine off ?_|(refine tS ?_ ?_<;>intro hc))<;>((first|refine off ?_|refine mv ?_);(first|refine off ?_|(refine vl ?_));(first|refine off ?_|(refine lB S rfl rfl ?_));(first|refine off ?_|(refine vl ?_));(first|refine off ?_|(refine lB S rfl rfl ?_));(first|refine off ?_|(refine tO ?_ ?_<;>intro hc))<;>((first|refine off ?_|refine vl ?_);refine vl ?_;refine mv ?_;refine qf ?_))))))
 all_goals (refine qj ⟨_,rfl,?_⟩)
 all_goals first
  | exact ⟨.inl ⟨rfl,by unfold ZM;grind⟩,S.drop⟩
  | exact ⟨.inr ⟨rfl,by unfold ZM;grind⟩,S.drop⟩
theorem qco {h0:AH} (w:WfH h0) (v:RlV) (r:Rl) (HR:RlOk h0 v r) (hcap:Qn v.vg.val) (hb:r.us.length≤200∧r.ts.length≤600):Fn Tryz.prog Xh 310 [v.val] h0 (fun u h'=>((u = .tuple #[.int .i64 0,.int .i64 0]∧VRl r)∨∃ i e,u = .tuple #[.int .i64 i,.int .i64 e]∧Bad r i e)∧Hs h0 h' []):=by
 have S:=Hs.start w;have hrg:=HR.rg;have hrt:=HR.rt;have hgl:=HR.len;unfold RlV.val;refine qA (by first|rfl) Tryz.func310 rfl rfl ?_;all_goals (repeat' (first|refine qg ?_|(refine qc 0 ?_;(refine bx S ?_;clear S;intro b h S);refine mv ?_;refine mv ?_;refine qf ?_)))
 obtain ⟨b1,hnm⟩:∃ x,x=b:=⟨_,rfl⟩;subst hnm;replace S:Hs h0 h (.blk b1 [v.vg.val,v.vt.val] 154 :: []):=S;all_goals (repeat' (first|refine ql ?_|(refine qc 1 ?_;refine mv ?_;refine qf ?_)))
 refine qB (σ:=Nat) (fun i h'=>Hs h0 h' [.blk b1 [v.vg.val,v.vt.val] 154]∧i≤r.us.length∧(∀ k,k<i→gE0 r.us k=0)) (fun i=>r.us.length - i) (fun i=>[(1,.pointer (some ⟨b1,0,none⟩)),(4,.int .i64 i)]) 0 qw ?_ ?_
 ·exact ⟨S,zB0 _,fun j hj=>absurd hj (zB7 _)⟩
 clear S;rintro i h ⟨S,g1,g2⟩;all_goals (repeat' (first|refine qg ?_|refine qh rfl ?_|refine qi ?_|refine qy ?_|refine ql ?_|(refine qc 2 ?_;refine mv ?_;refine vl ?_;refine lB S rfl rfl ?_;refine jc S ?_;(first|(refine cS ?_ ?_<;>intro hc))<;>(refine qf ?_))))
 ·have hil:i<v.gs.length:=by omega
  have hg:(v.gs.getD i default).toGu=r.us.getD i default:=HR.at_ hil;have hge:gE0 r.us i=(Yx ⟨r.us.take i,[]⟩ (r.us.getD i default)).2:=rfl;have hbad:∀ e,gE0 r.us i=e→e≠0→Bad r i e:=fun e h1 h2=>⟨h2,.inl ⟨i,by omega,g2,h1,rfl⟩⟩
  all_goals (repeat' (first|(refine qc 4 ?_;refine vl ?_;refine lB S rfl rfl ?_;refine mv ?_;refine zT S ?_;refine zQ S ?_)))
  simp only [zA0];(refine qm rfl rfl rfl rfl rfl ((pM S.wf (v.gs.getD i default) ⟨(HR.tg i hil).1.ext w S.ext,(HR.tg i hil).2⟩).mono ?_);rintro _ h ⟨rfl,x⟩)<;>(replace S:=S.qx x;clear x;refine mv ?_;refine qf ?_)
  rw [hg];all_goals (repeat' (first|refine qg ?_|refine qh rfl ?_|refine qi ?_|(refine qc 5 ?_;refine mv ?_;(first|(refine cS ?_ ?_<;>intro hc))<;>(refine qf ?_))))
  ·have hne:QS (r.us.getD i default)≠0:=by assumption
   all_goals (repeat' (first|(refine qc 6 ?_;(iterate 4 refine mv ?_);refine qf ?_)))
   refine qj ⟨_,rfl,?_⟩;exact ⟨.inr ⟨_,_,rfl,hbad _ (by rw [hge,qbc hne]) hne⟩,S.drop⟩
  ·have hz:QS (r.us.getD i default)=0:=by omega
   have hnm:(v.gs.getD i default).name=(r.us.getD i default).name:=by rw [← hg]
   all_goals (repeat' (first|(refine qF 7 ?_;refine vl ?_;refine lB S rfl rfl ?_;refine mv ?_)))
   refine su 0 i (hrg.ext w S.ext) hcap (fun va' ra' ca'=>?_);((refine vl ?_);refine lB S rfl rfl ?_;refine mv ?_;refine zT S ?_;refine fB S ?_;refine zQ S ?_);simp only [zA0,hnm];have hmp:((v.gs.drop 0).take (i - 0)).map (·.toGu)=r.us.take i:=by rw [List.drop_zero,Nat.sub_zero,List.map_take,HR.us]
   have hll:((v.gs.drop 0).take (i - 0)).length≤9223372036854775807:=by simp;omega
   (refine qm rfl rfl rfl rfl rfl ((YU S.wf va' ((v.gs.drop 0).take (i - 0)) ra' hll (r.us.getD i default).name).mono ?_);rintro _ h ⟨⟨j,j1,j2,rfl⟩|⟨j1,rfl⟩,x⟩)<;>(replace S:=S.qx x;clear x;(first|refine cT ?_|refine cF ?_)<;>(refine qf ?_))
   all_goals rw [hmp] at j1
   ·all_goals (repeat' (first|refine qg ?_|refine qh rfl ?_|(refine qc 8 ?_;(iterate 3 refine mv ?_);refine qf ?_)))
    refine qj ⟨_,rfl,?_⟩;exact ⟨.inr ⟨_,_,rfl,hbad _ (by rw [hge,qbf hz (by show gat (r.us.take i) _≠none;rw [j1];simp)]) (by decide)⟩,S.drop⟩
   ·skip
    all_goals (repeat' (first|refine qg ?_|refine qh rfl ?_|refine qi ?_|(refine qc 9 ?_;refine mv ?_;(first|(refine cS ?_ ?_<;>intro hc))<;>(refine qf ?_))))
    ·all_goals (repeat' (first|(refine qc 10 ?_;(iterate 3 refine mv ?_);refine qf ?_)))
     refine qj ⟨_,rfl,?_⟩;exact ⟨.inr ⟨_,_,rfl,hbad _ (by rw [hge,qbe hz j1 (by show 64≤(r.us.take i).length;simp;omega)]) (by decide)⟩,S.drop⟩
    ·skip
     all_goals (repeat' (first|(refine qc 3 ?_;refine mv ?_;refine ad ?_;refine mv ?_;refine qf ?_)))
     refine ⟨i+1,?_,?_,qw⟩
     ·show r.us.length - (i+1)<r.us.length - i;omega
     ·exact ⟨S,by omega,Qb g2 (by rw [hge,Gj hz j1 (by show ¬ 64≤(r.us.take i).length;simp;omega)])⟩
 ·have hi:i=r.us.length:=by omega
  rw [hi] at g2;clear hi;all_goals (repeat' (first|refine ql ?_|(refine qc 11 ?_;refine mv ?_;refine qf ?_)))
  refine qB (σ:=Nat) (fun i h'=>Hs h0 h' [.blk b1 [v.vg.val,v.vt.val] 154]∧i≤r.ts.length∧(∀ k,k<i→X3 r k=0)) (fun i=>r.ts.length - i) (fun i=>[(1,.pointer (some ⟨b1,0,none⟩)),(6,.int .i64 i)]) 0 qw ?_ ?_
  ·exact ⟨S,zB0 _,fun j hj=>absurd hj (zB7 _)⟩
  clear S;rintro i h ⟨S,k1,k2⟩;all_goals (repeat' (first|refine qg ?_|refine qh rfl ?_|refine qi ?_|refine qy ?_|refine ql ?_|(refine qc 12 ?_;refine mv ?_;refine vl ?_;refine lB S rfl rfl ?_;refine jc S ?_;(first|(refine cS ?_ ?_<;>intro hc))<;>(refine qf ?_))))
  ·have hil:i<r.ts.length:=by omega
   have hts:=(gJ k1 k2).1;have hbad:∀ e,X3 r i=e→e≠0→Bad r ((v.gs.length:Int)+i) e:=fun e h1 h2=>⟨h2,.inr ⟨g2,i,hil,k2,h1,by rw [hgl]⟩⟩
   all_goals (repeat' (first|refine qg ?_|(refine qc 14 ?_;refine vl ?_;refine lB S rfl rfl ?_;refine mv ?_;refine zT S ?_;refine zQ S ?_;(refine al S ?_;clear S;intro b h S);(first|(refine sB S rfl rfl ?_;clear S;intro h S));refine qf ?_)))
   obtain ⟨b7,hnm⟩:∃ x,x=b:=⟨_,rfl⟩;subst hnm;simp only [zA0] at S;obtain ⟨t,ht⟩:∃ t,r.ts.getD i default=t:=⟨_,rfl⟩
   rw [ht] at S;replace S:Hs h0 h [.blk b7 [str t.a,str t.b,.int .u8 t.k] 198,.blk b1 [v.vg.val,v.vt.val] 154]:=S;all_goals (repeat' (first|refine qg ?_|(refine qc 15 ?_;refine vl ?_;refine lB S rfl rfl ?_;refine jc S ?_;refine mv ?_;refine ad ?_;refine mv ?_;refine qf ?_)))
   (repeat (refine qg ?_));first|refine zL (σ:=Unit) (fun _ h'=>Hs h0 h' [.blk b7 [str t.a,str t.b,.int .u8 t.k] 198,.blk b1 [v.vg.val,v.vt.val] 154]∧TGd r i) (fun _=>[(1,.pointer (some ⟨b1,0,none⟩)),(6,.int .i64 i),(7,.pointer (some ⟨b7,0,none⟩)),(8,.int .i64 ((v.gs.length:Int)+i))]) ?_ ?_
   ·have hpr:((i:Int) - 1).toNat=i - 1:=by omega
    all_goals (repeat' (first|refine qg ?_|refine qh rfl ?_|refine qi ?_|(refine qF 16 ?_;refine vl ?_;refine lB S rfl rfl ?_;(first|(refine cS ?_ ?_<;>intro hc))<;>(refine mv ?_;(first|refine off ?_|(refine vl ?_));(first|refine off ?_|(refine lB S rfl rfl ?_));(first|refine off ?_|(first|(refine cS ?_ ?_<;>intro hc)))<;>(refine vl ?_;refine mv ?_;(first|refine off ?_|(refine vl ?_));(first|refine off ?_|(refine lB S rfl rfl ?_));(first|refine off ?_|(refine vl ?_));(first|refine off ?_|(refine lB S rfl rfl ?_));(first|refine off ?_|(refine tO ?_ ?_<;>intro hc))<;>(refine vl ?_;refine mv ?_;(first|refine off ?_|refine mv ?_);(first|refine off ?_|(first|(refine cS ?_ ?_<;>intro hc)))<;>((first|refine off ?_|refine mv ?_);(first|refine off ?_|(refine lB S rfl rfl ?_));(first|refine off ?_|(refine vl ?_));(first|refine off ?_|(refine lB S rfl rfl ?_));(first|refine off ?_|refine mv ?_);(first|refine off ?_|(refine sb ?_));(first|refine off ?_|(refine zT S ?_));(first|refine off ?_|(refine zQ S ?_));(first|(refine off ?_;(first|refine off ?_|refine vl ?_);refine vl ?_;refine qf ?_)|skip))))))))
    all_goals first
     | exact ⟨(),⟨S,⟨by rw [ht];omega,by rw [ht];exact zF3.1 (by assumption),.inl (by omega)⟩⟩,(qw)⟩
     | skip
    all_goals (try simp only [hpr])
    all_goals (try ((refine qm rfl rfl rfl rfl rfl ((kT S.wf t (r.ts.getD (i - 1) default)).mono ?_);rintro _ h ⟨⟨rfl,z⟩|⟨rfl,z⟩,x⟩)<;>(replace S:=S.qx x;clear x;refine vl ?_;refine vl ?_;refine qf ?_)))
    all_goals (all_goals (repeat' (first|refine qg ?_|refine qh rfl ?_|refine qi ?_|(refine qc 17 ?_;(iterate 3 refine mv ?_);refine qf ?_))))
    all_goals first
     | exact ⟨(),⟨S,⟨by rw [ht];omega,by rw [ht];exact zF3.1 (by assumption),.inr (by rw [ht];exact z)⟩⟩,(qw)⟩
     | (refine qj ⟨_,rfl,?_⟩;exact ⟨.inr ⟨_,_,rfl,hbad _ (qgp (by rw [ht];first|exact .inl (by omega)|exact .inr (.inl (by assumption))|exact .inr (.inr ⟨by omega,z⟩))) (by decide)⟩,S.drop⟩)
   clear S;rintro - h ⟨S,G⟩;all_goals (repeat' (first|refine qg ?_|(refine qc 18 ?_;refine vl ?_;refine lB S rfl rfl ?_;refine vl ?_;refine lB S rfl rfl ?_)))
   (refine qm rfl rfl rfl rfl rfl ((YU S.wf v.vg.val v.gs (hrg.ext w S.ext) (by omega) t.a).mono ?_);rintro _ h ⟨⟨j,j1,j2,rfl⟩|⟨j1,rfl⟩,x⟩)<;>(replace S:=S.qx x;clear x;(first|refine cT ?_|refine cF ?_)<;>(refine mv ?_;(first|refine off ?_|(refine vl ?_));(first|refine off ?_|(refine lB S rfl rfl ?_));(first|refine off ?_|(refine vl ?_));(first|refine off ?_|(refine lB S rfl rfl ?_));(first|(refine off ?_;(refine off ?_)<;>(refine vl ?_;refine qf ?_))|skip)))
   all_goals rw [HR.us] at j1
   rotate_left
   ·skip
    all_goals (repeat' (first|refine qg ?_|refine qh rfl ?_|(refine qc 19 ?_;(iterate 3 refine mv ?_);refine qf ?_)))
    refine qj ⟨_,rfl,?_⟩;exact ⟨.inr ⟨_,_,rfl,hbad _ (G.e6 (.inl (by rw [ht];exact j1))) (by decide)⟩,S.drop⟩
   all_goals (repeat' (fail))
   (refine qm rfl rfl rfl rfl rfl ((YU S.wf v.vg.val v.gs (hrg.ext w S.ext) (by omega) t.b).mono ?_);rintro _ h ⟨⟨j',m1,m2,rfl⟩|⟨m1,rfl⟩,x⟩)<;>(replace S:=S.qx x;clear x;(first|(first|refine cT ?_|refine cF ?_))<;>(refine vl ?_;refine qf ?_))
   all_goals rw [HR.us] at m1
   rotate_left
   ·skip
    all_goals (repeat' (first|refine qg ?_|refine qh rfl ?_|(refine qc 19 ?_;(iterate 3 refine mv ?_);refine qf ?_)))
    refine qj ⟨_,rfl,?_⟩;exact ⟨.inr ⟨_,_,rfl,hbad _ (G.e6 (.inr (by rw [ht];exact m1))) (by decide)⟩,S.drop⟩
   have hkn:¬ (gat r.us (r.ts.getD i default).a=none∨gat r.us (r.ts.getD i default).b=none):=by
    rw [ht,j1,m1];simp
   have hpr:((i:Int) - 1).toNat=i - 1:=by omega
   all_goals (repeat' (first|refine qg ?_|refine qh rfl ?_|refine qi ?_))
   (repeat (refine qg ?_));first|refine zL (σ:=Unit) (fun _ h'=>Hs h0 h' [.blk b7 [str t.a,str t.b,.int .u8 t.k] 198,.blk b1 [v.vg.val,v.vt.val] 154]∧¬ (0<i∧¬ ZM (r.ts.getD (i - 1) default) (r.ts.getD i default))) (fun _=>[(1,.pointer (some ⟨b1,0,none⟩)),(6,.int .i64 i),(7,.pointer (some ⟨b7,0,none⟩)),(8,.int .i64 ((v.gs.length:Int)+i))]) ?_ ?_
   ·all_goals (repeat' (first|refine qh rfl ?_|refine qi ?_|(refine qF 20 ?_;refine mv ?_;(first|(refine cS ?_ ?_<;>intro hc))<;>(refine mv ?_;(first|refine off ?_|(refine vl ?_));(first|refine off ?_|(refine lB S rfl rfl ?_));(first|refine off ?_|refine mv ?_);(first|refine off ?_|(refine sb ?_));(first|refine off ?_|(refine zT S ?_));(first|refine off ?_|(refine zQ S ?_));(first|refine off ?_|(refine lB S rfl rfl ?_));(first|(refine off ?_;refine off ?_;refine vl ?_;refine qf ?_)|skip)))))
    ·simp only [hpr];(refine qm rfl rfl rfl rfl rfl ((kT S.wf (r.ts.getD (i - 1) default) t).mono ?_);rintro _ h ⟨⟨rfl,z⟩|⟨rfl,z⟩,x⟩)<;>(replace S:=S.qx x;clear x;refine vl ?_;refine vl ?_;refine qf ?_)
     ·all_goals (repeat' (first|refine qh rfl ?_|refine qi ?_))
      exact ⟨(),⟨S,fun q=>q.2 (by rw [ht];exact z)⟩,(qw)⟩
     ·skip
      all_goals (repeat' (first|refine qg ?_|refine qh rfl ?_|(refine qc 21 ?_;(iterate 3 refine mv ?_);refine qf ?_)))
      refine qj ⟨_,rfl,?_⟩;exact ⟨.inr ⟨_,_,rfl,hbad _ (G.e5 hil hts hkn ⟨by omega,by rw [ht];exact z⟩) (by decide)⟩,S.drop⟩
    ·exact ⟨(),⟨S,fun q=>by omega⟩,(qw)⟩
   clear S;rintro - h ⟨S,hb5⟩;all_goals (repeat' (first|refine qg ?_|refine qh rfl ?_|refine qi ?_|(refine qc 22 ?_;refine mv ?_;(first|(refine cS ?_ ?_<;>intro hc))<;>(refine qf ?_))))
   ·all_goals (repeat' (first|(refine qc 23 ?_;(iterate 3 refine mv ?_);refine qf ?_)))
    refine qj ⟨_,rfl,?_⟩;exact ⟨.inr ⟨_,_,rfl,hbad _ (G.e7 hil hts hkn hb5 (by omega)) (by decide)⟩,S.drop⟩
   ·skip
    all_goals (repeat' (first|(refine qc 13 ?_;refine mv ?_;refine ad ?_;refine mv ?_;refine qf ?_)))
    refine ⟨i+1,?_,?_,qw⟩
    ·show r.ts.length - (i+1)<r.ts.length - i;omega
    ·exact ⟨S.tail,by omega,Qb k2 (G.e0 hil hts hkn hb5 (by omega))⟩
  ·have hi:i=r.ts.length:=by omega
   rw [hi] at k2;all_goals (repeat' (first|(refine qc 24 ?_;refine mv ?_;refine mv ?_;refine qf ?_)))
   refine qj ⟨_,rfl,?_⟩;exact ⟨.inl ⟨rfl,g2,k2⟩,S.drop⟩
end Go.Proofs.Xx
namespace Go.Proofs.Xx
open Go Go.Proofs
theorem qjo {k:Int} (h:1≤k∧k≤18):k=1∨k=2∨k=3∨k=4∨k=5∨k=6∨k=7∨k=8∨k=9∨k=10∨k=11∨k=12∨k=13∨k=14∨k=15∨k=16∨k=17∨k=18:=by omega
theorem qbD {k:Int} (h:1≤k∧k≤18):((QR k).b=true↔1≤k∧k≤5)∧((QR k).a=103↔1≤k∧k≤7)∧((QR k).a=101↔k=10)∧((QR k).a=100↔k=17)∧((QR k).a≠0↔(1≤k∧k≤7)∨k=10∨k=17) ∧
 ((QR k).t=116↔k=6∨k=7∨k=17)∧((QR k).t=101↔¬ (1≤k∧k≤7)∧k≠10∧k≠17)∧((QR k).t≠0↔¬ (1≤k∧k≤5)∧k≠10)∧((QR k).n=true↔k=1∨k=4∨k=7∨k=15∨k=16)∧((QR k).lo=if k=4 then 1 else 0)∧((QR k).seat=true↔k=7):=by
 rcases qjo h with rfl|rfl|rfl|rfl|rfl|rfl|rfl|rfl|rfl|rfl|rfl|rfl|rfl|rfl|rfl|rfl|rfl|rfl<;>decide
theorem wV {r:Ru} (h:1≤r.k∧r.k≤18):(QR r.k).plain r↔(((1≤r.k∧r.k≤7)∨r.k=10∨r.k=17)∨r.a=[])∧((1≤r.k∧r.k≤5)∨r.b=[])∧((¬ (1≤r.k∧r.k≤5)∧r.k≠10)∨r.t=[])∧((r.k=1∨r.k=4∨r.k=7∨r.k=15∨r.k=16)∨r.n=0):=by
 obtain ⟨e1,e2,e3,e4,e5,e6,e7,e8,e9,e10,e11⟩:=qbD h;unfold Kd.plain;rw [e1,e5,e8,e9]
theorem gm {us:List Gu} {r:Ru} (h:1≤r.k∧r.k≤18):(QR r.k).unk us r↔((1≤r.k∧r.k≤7)∧gI us r.a<0)∨(r.k=10∧r.a≠[]∧gI us r.a<0)∨((1≤r.k∧r.k≤5)∧gI us r.b<0):=by
 obtain ⟨e1,e2,e3,e4,e5,e6,e7,e8,e9,e10,e11⟩:=qbD h;unfold Kd.unk;rw [e1,e2,e3,Zx,Zx]
theorem qam {l:List Tab} {r:Ru} (h:1≤r.k∧r.k≤18):(QR r.k).ut l r↔((r.k=6∨r.k=7∨r.k=17)∧¬ Jb l r.t)∨((¬ (1≤r.k∧r.k≤7)∧r.k≠10∧r.k≠17)∧r.t≠[]∧¬ Jb l r.t):=by
 obtain ⟨e1,e2,e3,e4,e5,e6,e7,e8,e9,e10,e11⟩:=qbD h;unfold Kd.ut;rw [e6,e7]
theorem qdg {l:List Tab} {n:List UInt8} (h:Jb l n):tix l n<l.length:=by
 obtain ⟨j,hj,e⟩:=h;refine List.findIdx_lt_length_of_exists ⟨tb l j,qK hj,?_⟩;simpa using e
def wdL:List (List UInt8):=[] :: kwL
theorem qhC:∀ i,i<19→(wdL.getD i default=[]↔i=0):=by decide
variable [Flag]
theorem qdB {h0:AH} (w:WfH h0) (k:Int) (hk:0≤k∧k≤255):Fn Tryz.prog Xh 311 [.int .u8 k] h0 (fun u h'=>∃ s,u=str s∧(s=[]↔¬ (1≤k∧k≤18))∧Hs h0 h' []):=by
 have l19:wdL.length=19:=rfl;have S:=Hs.start w;refine qA (by first|rfl) Tryz.func311 rfl rfl ?_;all_goals (repeat' (first|refine qg ?_|(refine qc 0 ?_;refine mv ?_;refine qf ?_)|(refine qc 1 ?_;skip)))
 refine bsn (α:=List UInt8) (z:=1) eS wdL S ?_;clear S;intro u5 h S;(refine mv ?_;refine qf ?_);all_goals (repeat' (first|refine qg ?_|refine qh rfl ?_|refine qi ?_|(refine qc 2 ?_;refine mv ?_;refine cI ?_;refine mv ?_;refine Py S rfl rfl ?_;(first|(refine cS ?_ ?_<;>intro hc))<;>(refine qf ?_))|(refine qc 3 ?_;refine mv ?_;refine qf ?_)|(refine qc 4 ?_;refine mv ?_;refine mv ?_;refine qR S rfl rfl ?_;refine zu S rfl rfl ?_;refine mv ?_;refine qf ?_)))
 ·refine qj ⟨_,rfl,?_⟩;exact ⟨[],rfl,⟨fun _=>by omega,fun _=>rfl⟩,S.drop⟩
 ·refine qj ⟨_,rfl,?_⟩;have:=qhC k.toNat (by omega);exact ⟨wdL.getD k.toNat default,rfl,by rw [this];omega,S.drop⟩
theorem qdI {h0:AH} (w:WfH h0) (v:PbV) (p:Pb) (H:PbOk h0 v p) (n:List UInt8):Fn Tryz.prog Xh 316 [v.vg.val,str n] h0 (fun u h'=>u = .int .i64 (gI p.us n)∧Hs h0 h' []):=by
 have hu:v.gs.map (·.toGu)=p.us:=H.rol.us;have hl:=H.rol.len;have hlg:v.gs.length≤9223372036854775807:=by rw [hl];exact H.rol.lg
 refine (YU w v.vg.val v.gs H.rol.rg hlg n).mono ?_;rintro u h ⟨⟨i,h1,-,rfl⟩|⟨h1,rfl⟩,x⟩;all_goals (refine ⟨?_,x⟩;rw [hu] at h1;unfold gI;rw [h1])
theorem qaJ {h0:AH} (w:WfH h0) (v:PbV) (p:Pb) (H:PbOk h0 v p) (r:Ru) (hk:0≤r.k∧r.k≤255) :
 Fn Tryz.prog Xh 235 [v.val,ruV r] h0 (fun u h'=>u = .int .i64 (wR p r)∧Hs h0 h' []):=by
 have S:=Hs.start w;have hr:=H.tab.rd;have hl:=H.tab.len;unfold ruV Xv PbV.val;refine qA (by first|rfl) Tryz.func235 rfl rfl ?_;all_goals (repeat' (first|refine qg ?_|(refine qc 0 ?_;(refine bx S ?_;clear S;intro b h S);(refine bx S ?_;clear S;intro b h S);refine mv ?_;refine qf ?_)))
 rename_i b2 h2
 replace S:Hs h0 h [.blk b (Xv r) 158,.blk b2 v.cs 28]:=S;all_goals (repeat' (first|refine qg ?_|(refine qc 1 ?_;refine vl ?_;refine lB S rfl rfl ?_;refine mv ?_;refine qf ?_)|(refine qc 2 ?_;refine mv ?_)))
 (refine qm rfl rfl rfl rfl rfl ((qdB S.wf r.k hk).mono ?_);rintro _ h ⟨wd,rfl,hwd,x⟩)<;>(replace S:=S.qx x;clear x;(refine tS ?_ ?_<;>intro hc)<;>(refine qf ?_))
 all_goals (repeat' (first|refine qg ?_|refine qh rfl ?_|refine qi ?_|(refine qc 3 ?_;refine mv ?_;refine qf ?_)))
 ·refine qj ⟨_,rfl,?_⟩;refine ⟨?_,S.drop⟩;unfold wR;rw [if_neg (hwd.1 hc)];rfl
 have h18:1≤r.k∧r.k≤18:=zF3.1 fun q=>hc (hwd.2 q);have heq:wR p r=(QR r.k).err p r:=by unfold wR;rw [if_pos h18]
 rw [heq];clear hwd hc;all_goals (repeat' (first|refine qg ?_|refine qh rfl ?_|refine qi ?_|(refine qc 4 ?_;refine vl ?_;refine lB S rfl rfl ?_;(first|(refine cS ?_ ?_<;>intro hc))<;>(refine mv ?_;(first|refine off ?_|(refine vl ?_));(first|refine off ?_|(refine lB S rfl rfl ?_));(first|refine off ?_|(first|(refine cS ?_ ?_<;>intro hc)))<;>(refine vl ?_;refine qf ?_)))|(refine qc 5 ?_;refine mv ?_;refine qf ?_)))
 ·refine qj ⟨_,rfl,?_⟩;exact ⟨by rw [Kd.qbI (.inl hc)];rfl,S.drop⟩
 ·refine qj ⟨_,rfl,?_⟩;exact ⟨by rw [Kd.qbI (.inr (by omega))];rfl,S.drop⟩
 have hw:¬ (r.w<0∨1000<r.w):=by omega
 clear hc;(repeat (refine qg ?_));first|refine zL (σ:=Unit) (fun _ h'=>Hs h0 h' [.blk b (Xv r) 158,.blk b2 v.cs 28]∧(QR r.k).plain r) (fun _=>[(2,.pointer (some ⟨b2,0,none⟩)),(3,.pointer (some ⟨b,0,none⟩)),(4,.int .i64 0),(5,.int .u8 r.k)]) ?_ ?_
 ·all_goals (repeat' (first|refine qh rfl ?_|refine qi ?_|(refine qc 6 ?_;refine vl ?_;refine lB S rfl rfl ?_;(refine tS ?_ ?_<;>intro hc)<;>(refine mv ?_;(first|refine off ?_|refine mv ?_);(first|(refine off ?_;refine off ?_;refine vl ?_;refine mv ?_;refine off ?_;(first|(refine off ?_;refine off ?_;refine vl ?_;refine mv ?_;refine off ?_;(refine off ?_)<;>(refine vl ?_;refine mv ?_;(first|(refine vl ?_));(first|(refine lB S rfl rfl ?_));(first|(refine tS ?_ ?_<;>intro hc))<;>((refine mv ?_);(first|refine off ?_|refine mv ?_);(first|(refine off ?_;refine off ?_;refine vl ?_;refine vl ?_;refine mv ?_;(first|(refine vl ?_));(first|(refine lB S rfl rfl ?_));(first|(refine tS ?_ ?_<;>intro hc))<;>((refine mv ?_);(first|refine off ?_|refine mv ?_);(first|(refine off ?_;(refine off ?_)<;>((refine vl ?_);refine vl ?_;refine mv ?_;(first|(refine vl ?_));(first|(refine lB S rfl rfl ?_));(first|(first|(refine cS ?_ ?_<;>intro hc)))<;>((refine mv ?_);(first|refine off ?_|refine mv ?_);(first|(refine off ?_;refine off ?_;refine vl ?_;refine vl ?_;refine qf ?_)|skip))))|skip)))|skip))))))|skip)))))
  all_goals (try ((refine qm rfl rfl rfl rfl rfl ((XM S.wf r.k).mono ?_);rintro _ h ⟨⟨rfl,z1⟩|⟨rfl,z1⟩,x⟩)<;>(replace S:=S.qx x;clear x;refine vl ?_;refine vl ?_;refine mv ?_;(first|refine off ?_|refine mv ?_);(first|(refine off ?_;refine off ?_;refine vl ?_;refine mv ?_;refine off ?_;(refine off ?_)<;>(refine vl ?_;refine mv ?_;(first|(refine vl ?_));(first|(refine lB S rfl rfl ?_));(first|(refine tS ?_ ?_<;>intro hc))<;>((refine mv ?_);(first|refine off ?_|refine mv ?_);(first|(refine off ?_;refine off ?_;refine vl ?_;refine vl ?_;refine mv ?_;(first|(refine vl ?_));(first|(refine lB S rfl rfl ?_));(first|(refine tS ?_ ?_<;>intro hc))<;>((refine mv ?_);(first|refine off ?_|refine mv ?_);(first|(refine off ?_;(refine off ?_)<;>((refine vl ?_);refine vl ?_;refine mv ?_;(first|(refine vl ?_));(first|(refine lB S rfl rfl ?_));(first|(first|(refine cS ?_ ?_<;>intro hc)))<;>((refine mv ?_);(first|refine off ?_|refine mv ?_);(first|(refine off ?_;refine off ?_;refine vl ?_;refine vl ?_;refine qf ?_)|skip))))|skip)))|skip))))|skip))))
  all_goals (try ((refine qm rfl rfl rfl rfl rfl ((qbw S.wf r.k).mono ?_);rintro _ h ⟨⟨rfl,z2⟩|⟨rfl,z2⟩,x⟩)<;>(replace S:=S.qx x;clear x;refine vl ?_;refine vl ?_;refine mv ?_;(first|refine off ?_|refine mv ?_);(first|refine off ?_|(first|(refine cS ?_ ?_<;>intro hc)))<;>(refine vl ?_;refine mv ?_;(first|refine off ?_|(refine vl ?_));(first|refine off ?_|(refine lB S rfl rfl ?_));(first|refine off ?_|(refine tS ?_ ?_<;>intro hc))<;>((first|refine off ?_|refine mv ?_);(first|refine off ?_|refine mv ?_);(first|(refine off ?_;refine off ?_;(first|refine off ?_|refine vl ?_);refine vl ?_;refine mv ?_;(first|refine off ?_|(refine vl ?_));(first|refine off ?_|(refine lB S rfl rfl ?_));(first|refine off ?_|(refine tS ?_ ?_<;>intro hc))<;>((first|refine off ?_|refine mv ?_);(first|refine off ?_|refine mv ?_);(first|(refine off ?_;(refine off ?_)<;>((first|refine off ?_|refine vl ?_);refine vl ?_;refine mv ?_;(first|refine off ?_|(refine vl ?_));(first|refine off ?_|(refine lB S rfl rfl ?_));(first|refine off ?_|(first|(refine cS ?_ ?_<;>intro hc)))<;>((first|refine off ?_|refine mv ?_);(first|refine off ?_|refine mv ?_);(first|(refine off ?_;refine off ?_;(first|refine off ?_|refine vl ?_);refine vl ?_;refine qf ?_)|skip))))|skip)))|skip))))))
  all_goals (try ((refine qm rfl rfl rfl rfl rfl ((XM S.wf r.k).mono ?_);rintro _ h ⟨⟨rfl,z3⟩|⟨rfl,z3⟩,x⟩)<;>(replace S:=S.qx x;clear x;refine vl ?_;refine vl ?_;refine vl ?_;refine mv ?_;(first|refine off ?_|(refine vl ?_));(first|refine off ?_|(refine lB S rfl rfl ?_));(first|refine off ?_|(refine tS ?_ ?_<;>intro hc))<;>((first|refine off ?_|refine mv ?_);(first|refine off ?_|refine mv ?_);(first|(refine off ?_;(refine off ?_)<;>((first|refine off ?_|refine vl ?_);refine vl ?_;refine mv ?_;(first|refine off ?_|(refine vl ?_));(first|refine off ?_|(refine lB S rfl rfl ?_));(first|refine off ?_|(first|refine cT ?_|(refine cS ?_ ?_<;>intro hc)))<;>((first|refine off ?_|refine mv ?_);(first|refine off ?_|refine mv ?_);(first|(refine off ?_;refine off ?_;(first|refine off ?_|refine vl ?_);refine vl ?_;refine qf ?_)|skip))))|skip)))))
  all_goals (try ((refine qm rfl rfl rfl rfl rfl ((Yl S.wf r.k).mono ?_);rintro _ h ⟨n4,rfl,z4,x⟩)<;>(replace S:=S.qx x;clear x;(first|(first|refine cT ?_|refine cF ?_|(refine cS ?_ ?_<;>intro hc)))<;>((refine vl ?_);refine vl ?_;refine mv ?_;(first|refine off ?_|(refine vl ?_));(first|refine off ?_|(refine lB S rfl rfl ?_));(first|refine off ?_|(first|(refine cS ?_ ?_<;>intro hc)))<;>((first|refine off ?_|refine mv ?_);(first|refine off ?_|refine mv ?_);(first|(refine off ?_;refine off ?_;(first|refine off ?_|refine vl ?_);refine vl ?_;refine qf ?_)|skip))))))
  all_goals (try ((refine qm rfl rfl rfl rfl rfl ((xK S.wf r.k).mono ?_);rintro _ h ⟨⟨rfl,z5⟩|⟨rfl,z5⟩,x⟩)<;>(replace S:=S.qx x;clear x;refine vl ?_;refine vl ?_;refine vl ?_;refine qf ?_)))
  all_goals (all_goals (repeat' (first|refine qg ?_|refine qh rfl ?_|refine qi ?_|(refine qc 7 ?_;refine mv ?_;refine qf ?_))))
  all_goals first
   | exact ⟨(),⟨S,by rw [wV h18];grind⟩,(qw)⟩
   | (refine qj ⟨_,rfl,?_⟩;exact ⟨by rw [Kd.qge hw (by rw [wV h18];grind)];rfl,S.drop⟩)
 clear S;rintro _ h ⟨S,hpl⟩;(repeat (refine qg ?_));first|refine zL (σ:=Unit) (fun _ h'=>Hs h0 h' [.blk b (Xv r) 158,.blk b2 v.cs 28]∧¬ (((1≤r.k∧r.k≤7)∧gI p.us r.a<0)∨(r.k=10∧r.a≠[]∧gI p.us r.a<0))) (fun _=>[(2,.pointer (some ⟨b2,0,none⟩)),(3,.pointer (some ⟨b,0,none⟩)),(4,.int .i64 0),(5,.int .u8 r.k)]) ?_ ?_
 ·all_goals (repeat' (first|(refine qc 8 ?_;refine mv ?_)))
  (refine qm rfl rfl rfl rfl rfl ((XM S.wf r.k).mono ?_);rintro _ h ⟨⟨rfl,z1⟩|⟨rfl,z1⟩,x⟩)<;>(replace S:=S.qx x;clear x;refine mv ?_;(first|refine off ?_|refine mv ?_);(first|(refine off ?_;refine vl ?_;refine mv ?_;refine mv ?_;(first|(refine cF ?_))<;>((refine mv ?_);refine off ?_;refine off ?_;(refine off ?_)<;>((refine vl ?_);refine vl ?_;refine vl ?_;refine mv ?_;(first|(refine vl ?_));(first|(refine lB S rfl rfl ?_));(first|(refine vl ?_));(first|(refine lB S rfl rfl ?_));(skip))))|skip))
  all_goals (try ((refine qm rfl rfl rfl rfl rfl ((qbw S.wf r.k).mono ?_);rintro _ h ⟨⟨rfl,z2⟩|⟨rfl,z2⟩,x⟩)<;>(replace S:=S.qx x;clear x;refine vl ?_;refine mv ?_;(first|refine off ?_|refine mv ?_);(first|refine off ?_|(first|(refine cS ?_ ?_<;>intro hc)))<;>((first|refine off ?_|refine mv ?_);(first|refine off ?_|(refine vl ?_));(first|refine off ?_|(refine lB S rfl rfl ?_));(first|refine off ?_|(refine tS ?_ ?_<;>intro hc))<;>((first|refine off ?_|refine vl ?_);(first|refine off ?_|refine vl ?_);refine vl ?_;refine mv ?_;(first|refine off ?_|(refine vl ?_));(first|refine off ?_|(refine lB S rfl rfl ?_));(first|refine off ?_|(refine vl ?_));(first|refine off ?_|(refine lB S rfl rfl ?_));(first|(refine off ?_;(refine off ?_)<;>(refine vl ?_;refine qf ?_))|skip))))))
  all_goals (try ((refine qm rfl rfl rfl rfl rfl ((qdI S.wf v p (H.ext w S.ext) r.a).mono ?_);rintro _ h ⟨rfl,x⟩)<;>(replace S:=S.qx x;clear x;(first|(first|(refine cS ?_ ?_<;>intro hc)))<;>(refine vl ?_;refine qf ?_))))
  all_goals (all_goals (repeat' (first|refine qg ?_|refine qh rfl ?_|refine qi ?_|(refine qc 9 ?_;refine mv ?_;refine qf ?_))))
  all_goals first
   | exact ⟨(),⟨S,by grind⟩,(qw)⟩
   | (refine qj ⟨_,rfl,?_⟩;exact ⟨by rw [Kd.qg0 hw hpl (by rw [gm h18];grind)];rfl,S.drop⟩)
 clear S;rintro _ h ⟨S,hua⟩;(repeat (refine qg ?_));first|refine zL (σ:=Unit) (fun _ h'=>Hs h0 h' [.blk b (Xv r) 158,.blk b2 v.cs 28]∧¬ (QR r.k).unk p.us r) (fun _=>[(2,.pointer (some ⟨b2,0,none⟩)),(3,.pointer (some ⟨b,0,none⟩)),(4,.int .i64 0),(5,.int .u8 r.k)]) ?_ ?_
 ·all_goals (repeat' (first|(refine qc 10 ?_;refine mv ?_)))
  all_goals (try ((refine qm rfl rfl rfl rfl rfl ((XM S.wf r.k).mono ?_);rintro _ h ⟨⟨rfl,z3⟩|⟨rfl,z3⟩,x⟩)<;>(replace S:=S.qx x;clear x;refine mv ?_;(first|refine off ?_|(refine vl ?_));(first|refine off ?_|(refine lB S rfl rfl ?_));(first|refine off ?_|(refine vl ?_));(first|refine off ?_|(refine lB S rfl rfl ?_));(first|(refine off ?_;(refine off ?_)<;>(refine vl ?_;refine qf ?_))|skip))))
  all_goals (try ((refine qm rfl rfl rfl rfl rfl ((qdI S.wf v p (H.ext w S.ext) r.b).mono ?_);rintro _ h ⟨rfl,x⟩)<;>(replace S:=S.qx x;clear x;(first|(first|(refine cS ?_ ?_<;>intro hc)))<;>(refine vl ?_;refine qf ?_))))
  all_goals (all_goals (repeat' (first|refine qg ?_|refine qh rfl ?_|refine qi ?_|(refine qc 11 ?_;refine mv ?_;refine qf ?_))))
  all_goals first
   | exact ⟨(),⟨S,by rw [gm h18];grind⟩,(qw)⟩
   | (refine qj ⟨_,rfl,?_⟩;exact ⟨by rw [Kd.qg0 hw hpl (by rw [gm h18];grind)];rfl,S.drop⟩)
 clear S;rintro _ h ⟨S,hun⟩;obtain ⟨e1,e2,e3,e4,e5,e6,e7,e8,e9,e10,e11⟩:=qbD h18;(repeat (refine qg ?_));first|refine zL (σ:=Unit) (fun _ h'=>Hs h0 h' [.blk b (Xv r) 158,.blk b2 v.cs 28]∧(QR r.k).one p r) (fun _=>[(2,.pointer (some ⟨b2,0,none⟩)),(3,.pointer (some ⟨b,0,none⟩)),(4,.int .i64 0),(5,.int .u8 r.k)]) ?_ ?_
 ·all_goals (repeat' (first|refine qh rfl ?_|refine qi ?_|(refine qc 12 ?_;refine mv ?_;(first|(refine cS ?_ ?_<;>intro hc))<;>(refine mv ?_;(first|refine off ?_|(refine vl ?_));(first|refine off ?_|(refine lB S rfl rfl ?_));(first|(refine off ?_;refine off ?_;refine vl ?_;refine qf ?_)|skip)))))
  all_goals (try ((refine qm rfl rfl rfl rfl rfl ((QX r.a).mono ?_);rintro _ _ ⟨⟨rfl,hn⟩|⟨rfl,hn⟩,rfl⟩)<;>((refine vl ?_);refine vl ?_;refine qf ?_)))
  all_goals (all_goals (repeat' (first|refine qg ?_|refine qh rfl ?_|refine qi ?_|(refine qc 13 ?_;refine mv ?_;refine qf ?_))))
  all_goals first
   | exact ⟨(),⟨S,⟨hw,hpl,hun,by rw [e4];grind⟩⟩,(qw)⟩
   | (refine qj ⟨_,rfl,?_⟩;exact ⟨by rw [Kd.qir hw hpl hun (by rw [e4];grind)];rfl,S.drop⟩)
 clear S;rintro _ h ⟨S,hone⟩;(repeat (refine qg ?_));first|refine zL (σ:=Unit) (fun _ h'=>Hs h0 h' [.blk b (Xv r) 158,.blk b2 v.cs 28]∧¬ ((QR r.k).b=true∧r.a=r.b)) (fun _=>[(2,.pointer (some ⟨b2,0,none⟩)),(3,.pointer (some ⟨b,0,none⟩)),(4,.int .i64 0),(5,.int .u8 r.k)]) ?_ ?_
 ·all_goals (repeat' (first|(refine qc 14 ?_;refine mv ?_)))
  all_goals (try ((refine qm rfl rfl rfl rfl rfl ((XM S.wf r.k).mono ?_);rintro _ h ⟨⟨rfl,z3⟩|⟨rfl,z3⟩,x⟩)<;>(replace S:=S.qx x;clear x;refine mv ?_;(first|refine off ?_|(refine vl ?_));(first|refine off ?_|(refine lB S rfl rfl ?_));(first|refine off ?_|(refine vl ?_));(first|refine off ?_|(refine lB S rfl rfl ?_));(first|refine off ?_|(refine tS ?_ ?_<;>intro hc))<;>(refine vl ?_;refine qf ?_))))
  all_goals (all_goals (repeat' (first|refine qg ?_|refine qh rfl ?_|refine qi ?_|(refine qc 15 ?_;refine mv ?_;refine qf ?_))))
  all_goals first
   | exact ⟨(),⟨S,by rw [e1];grind⟩,(qw)⟩
   | (refine qj ⟨_,rfl,?_⟩;exact ⟨by rw [Kd.qg1 hone (by rw [e1];grind)];rfl,S.drop⟩)
 clear S;rintro _ h ⟨S,h5⟩;rw [Kd.qcK hone h5];(repeat (refine qg ?_));first|refine xg (σ:=Int) (fun i h'=>Hs h0 h' [.blk b (Xv r) 158,.blk b2 v.cs 28]∧((Jb p.tabs r.t∧i=tix p.tabs r.t)∨(¬ Jb p.tabs r.t∧i = -1))) (fun i=>[(2,.pointer (some ⟨b2,0,none⟩)),(3,.pointer (some ⟨b,0,none⟩)),(4,.int .i64 0),(5,.int .u8 r.k),(6,.int .i64 i)]) ?_ ?_
 ·all_goals (repeat' (first|(refine qc 16 ?_;refine vl ?_;refine lB S rfl rfl ?_;refine vl ?_;refine lB S rfl rfl ?_)))
  (refine qm rfl rfl rfl rfl rfl ((pI S.wf v.vt.val p.tabs (hr.ext w S.ext) (by omega) r.t).mono ?_);rintro _ h ⟨⟨rfl,z⟩|⟨rfl,z⟩,x⟩)<;>(replace S:=S.qx x;clear x;refine mv ?_;refine qf ?_)
  all_goals (all_goals (repeat' (fail)))
  ·exact ⟨_,⟨S,.inl ⟨z,rfl⟩⟩,(qw)⟩
  ·exact ⟨_,⟨S,.inr ⟨z,rfl⟩⟩,(qw)⟩
 clear S;rintro i h ⟨S,hi⟩;have hib:(0≤i↔Jb p.tabs r.t)∧i≤1000∧-1≤i:=by
  rcases hi with ⟨z,rfl⟩|⟨z,rfl⟩
  ·have:=qdg z;exact ⟨⟨fun _=>z,fun _=>by omega⟩,by omega,by omega⟩
  ·exact ⟨⟨fun q=>by omega,fun q=>absurd q z⟩,by omega,by omega⟩
 (repeat (refine qg ?_));first|refine zL (σ:=Unit) (fun _ h'=>Hs h0 h' [.blk b (Xv r) 158,.blk b2 v.cs 28]∧¬ (QR r.k).ut p.tabs r) (fun _=>[(2,.pointer (some ⟨b2,0,none⟩)),(3,.pointer (some ⟨b,0,none⟩)),(4,.int .i64 0),(5,.int .u8 r.k),(6,.int .i64 i)]) ?_ ?_
 ·all_goals (repeat' (first|(refine qc 17 ?_;refine mv ?_)))
  (refine qm rfl rfl rfl rfl rfl ((Yl S.wf r.k).mono ?_);rintro _ h ⟨n4,rfl,z4,x⟩)<;>(replace S:=S.qx x;clear x;(first|(refine cS ?_ ?_<;>intro hc))<;>(refine mv ?_;(first|refine off ?_|refine mv ?_);(first|refine off ?_|(first|(refine cS ?_ ?_<;>intro hc)))<;>(refine vl ?_;refine mv ?_;(first|refine off ?_|refine mv ?_);(first|(refine off ?_;(refine off ?_)<;>((refine off ?_);refine off ?_;refine off ?_;(refine off ?_)<;>((refine off ?_);refine off ?_;refine off ?_;(refine off ?_)<;>((refine off ?_);refine vl ?_;refine qf ?_))))|skip))))
  all_goals (try ((refine qm rfl rfl rfl rfl rfl ((Yl S.wf r.k).mono ?_);rintro _ h ⟨n5,rfl,z5,x⟩)<;>(replace S:=S.qx x;clear x;(first|(first|refine cF ?_|(refine cS ?_ ?_<;>intro hc)))<;>((refine mv ?_);(first|refine off ?_|(refine vl ?_));(first|refine off ?_|(refine lB S rfl rfl ?_));(first|refine off ?_|(refine tS ?_ ?_<;>intro hc))<;>((refine vl ?_);refine mv ?_;(first|refine off ?_|refine mv ?_);(first|refine off ?_|(first|(refine cS ?_ ?_<;>intro hc)))<;>((refine vl ?_);refine vl ?_;refine qf ?_))))))
  all_goals (all_goals (repeat' (first|refine qg ?_|refine qh rfl ?_|refine qi ?_|(refine qc 18 ?_;refine mv ?_;refine qf ?_))))
  all_goals first
   | exact ⟨(),⟨S,by rw [qam h18];grind⟩,(qw)⟩
   | (refine qj ⟨_,rfl,?_⟩;exact ⟨by rw [if_pos (by rw [qam h18];grind)];rfl,S.drop⟩)
 clear S;rintro _ h ⟨S,hut⟩;rw [if_neg hut];all_goals (repeat' (first|refine qg ?_|(refine qc 19 ?_;refine mv ?_;refine qf ?_)|(refine qc 20 ?_;refine mv ?_;refine qf ?_)))
 (repeat (refine qg ?_));first|refine zL (σ:=Int) (fun lo h'=>Hs h0 h' [.blk b (Xv r) 158,.blk b2 v.cs 28]∧lo=(QR r.k).lo) (fun lo=>[(2,.pointer (some ⟨b2,0,none⟩)),(3,.pointer (some ⟨b,0,none⟩)),(4,.int .i64 0),(5,.int .u8 r.k),(6,.int .i64 i),(7,.int .i64 lo),(8,.int .i64 24)]) ?_ ?_
 ·all_goals (repeat' (first|refine qh rfl ?_|refine qi ?_|(refine qc 21 ?_;refine mv ?_;(first|(refine cS ?_ ?_<;>intro hc))<;>(refine qf ?_))|(refine qc 22 ?_;refine mv ?_;refine qf ?_)))
  ·exact ⟨1,⟨S,by rw [e10,if_pos (by assumption)]⟩,(qw)⟩
  ·exact ⟨0,⟨S,by rw [e10,if_neg (by assumption)]⟩,(qw)⟩
 clear S;rintro lo h ⟨S,rfl⟩;(repeat (refine qg ?_));first|refine zL (σ:=Unit) (fun _ h'=>Hs h0 h' [.blk b (Xv r) 158,.blk b2 v.cs 28]) (fun _=>[(2,.pointer (some ⟨b2,0,none⟩)),(3,.pointer (some ⟨b,0,none⟩)),(4,.int .i64 0),(5,.int .u8 r.k),(7,.int .i64 (QR r.k).lo),(8,.int .i64 ((QR r.k).most p.tabs r))]) ?_ ?_
 ·all_goals (repeat' (first|refine qh rfl ?_|refine qi ?_|(refine qc 23 ?_;refine mv ?_;(first|(refine cS ?_ ?_<;>intro hc))<;>(refine qf ?_))))
  ·have h7:r.k=7:=by assumption
   have hT:Jb p.tabs r.t:=zF3.1 fun q=>hut ((qam h18).2 (.inl ⟨by omega,q⟩));have hlt:=qdg hT;have hit:i=tix p.tabs r.t:=by
    rcases hi with ⟨z,e⟩|⟨z,e⟩
    ·exact e
    ·exact absurd hT z
   subst hit;have b1:=zO (tb p.tabs (tix p.tabs r.t));all_goals (repeat' (first|(refine qc 24 ?_;refine vl ?_;refine lB S rfl rfl ?_;refine mv ?_;refine zT S ?_;refine zQ S ?_)))
   simp only [zA0];(refine qm rfl rfl rfl rfl rfl ((QW S.wf (tb p.tabs (tix p.tabs r.t))).mono ?_);rintro _ h ⟨rfl,x⟩)<;>(replace S:=S.qx x;clear x;refine sb ?_;refine mv ?_;refine qf ?_)
   all_goals (repeat' (fail))
   exact ⟨(),S,by unfold Kd.most;rw [if_pos (e11.2 h7)];exact (qw)⟩
  ·exact ⟨(),S,by unfold Kd.most;rw [if_neg (fun q=>(by assumption:¬ r.k=7) (e11.1 q))];exact (qw)⟩
 clear S;rintro _ h S;all_goals (repeat' (first|refine qg ?_|(refine qc 25 ?_;refine mv ?_)))
 (refine qm rfl rfl rfl rfl rfl ((xK S.wf r.k).mono ?_);rintro _ h ⟨⟨rfl,z5⟩|⟨rfl,z5⟩,x⟩)<;>(replace S:=S.qx x;clear x;refine mv ?_;(first|refine off ?_|(refine vl ?_));(first|refine off ?_|(refine lB S rfl rfl ?_));(first|refine off ?_|refine mv ?_);(first|refine off ?_|(first|(refine cS ?_ ?_<;>intro hc)))<;>((first|refine off ?_|refine mv ?_);(first|refine off ?_|(refine vl ?_));(first|refine off ?_|(refine lB S rfl rfl ?_));(first|refine off ?_|refine mv ?_);(first|refine off ?_|(first|(refine cS ?_ ?_<;>intro hc)))<;>((first|refine off ?_|refine vl ?_);refine vl ?_;refine qf ?_)))
 all_goals (all_goals (repeat' (first|refine qg ?_|refine qh rfl ?_|refine qi ?_|(refine qc 26 ?_;refine mv ?_;refine qf ?_)|(refine qc 27 ?_;refine mv ?_;refine qf ?_))))
 all_goals (refine qj ⟨_,rfl,?_⟩)
 all_goals first
  | exact ⟨by rw [if_pos ⟨e9.2 z5,.inl (by omega)⟩];rfl,S.drop⟩
  | exact ⟨by rw [if_pos ⟨e9.2 z5,.inr (by omega)⟩];rfl,S.drop⟩
  | exact ⟨by rw [if_neg (fun q=>by have:=q.2;omega)];rfl,S.drop⟩
  | exact ⟨by rw [if_neg (fun q=>z5 (e9.1 q.1))];rfl,S.drop⟩
end Go.Proofs.Xx
