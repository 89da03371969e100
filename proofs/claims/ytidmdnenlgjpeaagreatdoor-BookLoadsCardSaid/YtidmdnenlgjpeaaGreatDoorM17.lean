/-
  Copies of rolls.
-/
import Derived.Test.YtidmdnenlgjpeaaGreatDoorM13
import Derived.Test.YtidmdnenlgjpeaaGreatDoorM16
import Derived.Below
import Derived.ChangeSame
import Derived.ChangeArms
import Derived.OpenShut
namespace Go.Proofs.Xx
open Go Go.Proofs
set_option linter.unusedSimpArgs false
set_option linter.unusedVariables false
set_option linter.unusedSectionVars false
set_option maxRecDepth 100000
set_option maxHeartbeats 4000000
variable [Flag]
theorem qcw {h0:AH} (w:WfH h0) (v:Value) (l:List Ti) (hr:Qd h0 v 3 jK l) (hl:l.length*40≤140737488351232):Fn Tryz.prog Xh 99 [v] h0 (fun u h'=>Hs h0 h' [.sl u 111 3 jK l]):=by
 have S:=Hs.start w
 refine zg rfl Tryz.func99 rfl rfl ?_
 all_goals (repeat' (first|refine qw ?_|refine qh rfl ?_|refine qi ?_|refine qp ?_|refine qg ?_|refine qj ?_|refine qo ?_|(refine qc 0 ?_;refine mv ?_;refine qf ?_)|(refine qc 1 ?_;refine mv ?_;refine qf ?_)|(refine qc 2 ?_;refine mv ?_;refine qf ?_)))
 have S:=S.Zv (e:=111) (z:=3) (enc:=jK)
 refine qM (σ:=Nat×Value) (fun (i,v3) h'=>Hs h0 h' [.sl v3 111 3 jK (l.take i)]∧i≤l.length) (fun (i,v3)=>l.length - i) (fun (i,v3)=>[(0,v),(3,v3),(4,.int .i64 i)]) (0,.slice none 0 0) (by repeat (first|exact Ks.le_nil _|refine Ks.qx rfl ?_|refine Ks.qA ?_)) ?_ ?_
 ·exact ⟨S,Nat.zero_le _⟩
 clear S
 rintro ⟨i,v3⟩ h ⟨S,g1⟩
 have htl:(l.take i).length=i:=by simp;omega
 all_goals (repeat' (first|refine qw ?_|refine qh rfl ?_|refine qi ?_|refine qp ?_|refine qg ?_|refine qj ?_|refine qo ?_|(refine qc 3 ?_;refine mv ?_;refine mv ?_;(first|refine jA S ?_|refine jZ S rfl rfl ?_);(first|refine cT ?_|refine cF ?_|(refine cS ?_ ?_<;>intro hc))<;>(refine qf ?_))))
 ·have hil:i<l.length:=by omega
  all_goals (repeat' (first|refine qw ?_|refine qh rfl ?_|refine qi ?_|refine qp ?_|refine qg ?_|refine qj ?_|refine qo ?_|(refine qc 5 ?_;(iterate 3 refine mv ?_);(first|refine zK S ?_|refine qC S rfl rfl ?_);(first|refine lB S rfl rfl ?_|refine qy S rfl rfl ?_|refine qU S ?_|refine lH S ?_);(refine one 3 S ?_;clear S;intro u h S))))
  simp only [Int.toNat_natCast] at *
  refine app (y0:=l.getD i default) S rfl rfl ?_;clear S;intro v3 h S;(refine mv ?_;refine qf ?_)
  all_goals (repeat' (first|refine qw ?_|refine qh rfl ?_|refine qi ?_|refine qp ?_|refine qg ?_|refine qj ?_|refine qo ?_|(refine qc 4 ?_;refine mv ?_;(first|refine ad ?_|refine vl ?_);refine mv ?_;refine qf ?_)))
  refine ⟨(i+1,v3),?_,?_,(by repeat (first|exact Ks.le_nil _|refine Ks.qx rfl ?_|refine Ks.qA ?_))⟩
  ·show l.length - (i+1)<l.length - i;omega
  ·refine ⟨?_,by (try dsimp only);omega⟩
   dsimp only
   rw [zk hil];exact S
 ·obtain rfl:i=l.length:=by omega
  rw [List.take_length] at S
  skip
  all_goals (repeat' (first|refine qw ?_|refine qh rfl ?_|refine qi ?_|refine qp ?_|refine qg ?_|refine qj ?_|refine qo ?_|(refine qc 6 ?_;refine mv ?_;refine mv ?_;refine qf ?_)))
  refine qI ⟨_,rfl,?_⟩
  exact S
theorem qcy {h0:AH} (w:WfH h0) (g:Ze) (rd:Qd h0 g.tv.val 1 eS g.tg) (hl:g.tg.length≤8796093021952):Fn Tryz.prog Xh 103 [gV g] h0 (fun u h'=>∃ tv:SlV,u=gV { g with tv:=tv }∧Hs h0 h' [.sl tv.val 9 1 eS g.tg]):=by
 have S:=Hs.start w
 obtain ⟨⟨n1,n2,n3,n4,n5,n6,n7,n8,n9⟩,n10⟩:=g
 unfold gV
 dsimp only at *
 refine zg rfl Tryz.func103 rfl rfl ?_
 all_goals (repeat' (first|refine qw ?_|refine qh rfl ?_|refine qi ?_|refine qp ?_|refine qg ?_|refine qj ?_|refine qo ?_|(refine qc 0 ?_;(refine bx S ?_;clear S;intro b h S);(refine al S ?_;clear S;intro b h S);refine qf ?_)))
 obtain ⟨b1,hnm⟩:∃ x,x=b:=⟨_,rfl⟩;subst hnm
 all_goals (repeat' (first|refine qw ?_|refine qh rfl ?_|refine qi ?_|refine qp ?_|refine qg ?_|refine qj ?_|refine qo ?_|(refine qc 1 ?_;(first|refine vl ?_|refine fB S ?_|refine fS S rfl rfl ?_|refine fA ?_);(first|refine lB S rfl rfl ?_|refine qy S rfl rfl ?_|refine qU S ?_|refine lH S ?_))))
 (refine qE rfl rfl rfl rfl rfl ((qaz S.wf n10.val n9 (rd.ext w S.ext) hl).mono ?_);rintro v h x)<;>(replace S:=S.jT x;clear x;obtain ⟨tv,rfl⟩:=S.sV v;(first|refine vl ?_|refine fB S ?_|refine fS S rfl rfl ?_|refine fA ?_);(first|(refine sB S rfl rfl ?_;clear S;intro h S)|(refine zS S rfl rfl ?_;clear S;intro h S));refine qf ?_)
 all_goals (repeat' (first|refine qw ?_|refine qh rfl ?_|refine qi ?_|refine qp ?_|refine qg ?_|refine qj ?_|refine qo ?_|(refine qc 0 ?_;(refine bx S ?_;clear S;intro b h S);(refine al S ?_;clear S;intro b h S);refine qf ?_)|(refine qc 1 ?_;(first|refine vl ?_|refine fB S ?_|refine fS S rfl rfl ?_|refine fA ?_);(first|refine lB S rfl rfl ?_|refine qy S rfl rfl ?_|refine qU S ?_|refine lH S ?_))|(refine qc 2 ?_;(first|refine lB S rfl rfl ?_|refine qy S rfl rfl ?_|refine qU S ?_|refine lH S ?_);(first|(refine sB S rfl rfl ?_;clear S;intro h S)|(refine zS S rfl rfl ?_;clear S;intro h S));refine qf ?_)))
 refine qI ⟨_,JQ S rfl (by first|exact .here|exact .there .here|exact .there (.there .here)|exact .there (.there (.there .here))|exact .there (.there (.there (.there .here)))|exact .there (.there (.there (.there (.there .here))))) (by exact rfl) (by exact rfl),?_⟩
 exact ⟨tv,rfl,S.only .here⟩
theorem qbq {h0:AH} (w:WfH h0) (v:Value) (l:List Ze) (hr:Qd h0 v 9 eG l) (ht:∀ i,i<l.length→Qd h0 (l.getD i default).tv.val 1 eS (l.getD i default).tg∧(l.getD i default).tg.length≤8796093021952) (hl:l.length*112≤140737488351232):Fn Tryz.prog Xh 98 [v] h0 (fun u h'=>∃ (vg:SlV) (gs:List Ze),u=vg.val∧gs.map (·.toGu)=l.map (·.toGu)∧Hs h0 h' [JI gs,.sl vg.val 24 9 eG gs]):=by
 have S:=Hs.start w
 refine zg rfl Tryz.func98 rfl rfl ?_
 all_goals (repeat' (first|refine qw ?_|refine qh rfl ?_|refine qi ?_|refine qp ?_|refine qg ?_|refine qj ?_|refine qo ?_|(refine qc 0 ?_;refine mv ?_;refine qf ?_)|(refine qc 1 ?_;refine mv ?_;refine qf ?_)|(refine qc 2 ?_;refine mv ?_;refine qf ?_)))
 have S:=((S.Zv (e:=24) (z:=9) (enc:=eG))).anyS (p:=fun h fp=>Star h (([]:List Ze).map Zq) fp) fun h'=>trivial
 replace S:Hs h0 h0 [JI [],.sl (SlV.val ⟨none,0,0⟩) 24 9 eG []]:=S
 refine qM (σ:=Nat×SlV×List Ze) (fun (i,vg,gs) h'=>Hs h0 h' [JI gs,.sl vg.val 24 9 eG gs]∧i≤l.length∧gs.map (·.toGu)=(l.take i).map (·.toGu)) (fun (i,vg,gs)=>l.length - i) (fun (i,vg,gs)=>[(0,v),(3,vg.val),(4,.int .i64 i)]) (0,⟨none,0,0⟩,[]) (by repeat (first|exact Ks.le_nil _|refine Ks.qx rfl ?_|refine Ks.qA ?_)) ?_ ?_
 ·exact ⟨S,Nat.zero_le _,rfl⟩
 clear S
 rintro ⟨i,vg,gs⟩ h ⟨S,g1,g2⟩
 have hgs:gs.length=i:=by have:=congrArg List.length g2;simp at this;omega
 all_goals (repeat' (first|refine qw ?_|refine qh rfl ?_|refine qi ?_|refine qp ?_|refine qg ?_|refine qj ?_|refine qo ?_|(refine qc 3 ?_;refine mv ?_;refine mv ?_;(first|refine jA S ?_|refine jZ S rfl rfl ?_);(first|refine cT ?_|refine cF ?_|(refine cS ?_ ?_<;>intro hc))<;>(refine qf ?_))))
 ·have hil:i<l.length:=by omega
  all_goals (repeat' (first|refine qw ?_|refine qh rfl ?_|refine qi ?_|refine qp ?_|refine qg ?_|refine qj ?_|refine qo ?_|(refine qc 5 ?_;(iterate 3 refine mv ?_);(first|refine zK S ?_|refine qC S rfl rfl ?_);(first|refine lB S rfl rfl ?_|refine qy S rfl rfl ?_|refine qU S ?_|refine lH S ?_))))
  simp only [Int.toNat_natCast]
  (refine qE rfl rfl rfl rfl rfl ((qcy S.wf (l.getD i default) ((ht i hil).1.ext w S.ext) (ht i hil).2).mono ?_);rintro _ h ⟨tv,rfl,x⟩)<;>(replace S:=S.jT x;clear x;(refine one 9 S ?_;clear S;intro u h S))
  refine app (y0:={ l.getD i default with tv:=tv }) S rfl rfl ?_;clear S;intro v3 h S;obtain ⟨vg',rfl⟩:=S.sV v3;(refine mv ?_;refine qf ?_)
  all_goals (repeat' (first|refine qw ?_|refine qh rfl ?_|refine qi ?_|refine qp ?_|refine qg ?_|refine qj ?_|refine qo ?_|(refine qc 4 ?_;refine mv ?_;(first|refine ad ?_|refine vl ?_);refine mv ?_;refine qf ?_)))
  refine ⟨(i+1,vg',gs ++ [{ l.getD i default with tv:=tv }]),?_,?_,(by repeat (first|exact Ks.le_nil _|refine Ks.qx rfl ?_|refine Ks.qA ?_))⟩
  ·show l.length - (i+1)<l.length - i;omega
  ·replace S:Hs h0 h (.sl vg'.val 24 9 eG (gs ++ [{ l.getD i default with tv:=tv }]) :: .sl tv.val 9 1 eS (l.getD i default).tg :: JI gs :: []):=S
   have S:=(show Hs h0 h (.sl tv.val 9 1 eS (l.getD i default).tg :: JI gs :: .sl vg'.val 24 9 eG (gs ++ [{ l.getD i default with tv:=tv }]) :: []) from S.pick)
   refine ⟨Hs.PV (g:={ l.getD i default with tv:=tv }) S,by (try dsimp only);omega,?_⟩
   dsimp only
   rw [zk (by omega),List.map_append,List.map_append,g2];rfl
 ·obtain rfl:i=l.length:=by omega
  rw [List.take_length] at g2
  skip
  all_goals (repeat' (first|refine qw ?_|refine qh rfl ?_|refine qi ?_|refine qp ?_|refine qg ?_|refine qj ?_|refine qo ?_|(refine qc 6 ?_;refine mv ?_;refine mv ?_;refine qf ?_)))
  refine qI ⟨_,rfl,?_⟩
  exact ⟨vg,gs,rfl,g2,S⟩
structure RlFit (h:AH) (v:RlV) (r:Rl):Prop where
 ok:RlOk h v r
 tg:∀ i,i<v.gs.length→(v.gs.getD i default).tg.length≤8796093021952
 lg:r.us.length*112≤140737488351232
 lt:r.ts.length*40≤140737488351232
theorem RlFit.ext {h h':AH} {v:RlV} {r:Rl} (a:RlFit h v r) (w:WfH h) (x:Ext h h'):RlFit h' v r:=⟨a.ok.ext w x,a.tg,a.lg,a.lt⟩
theorem qcx {h0:AH} (w:WfH h0) (v:RlV) (r:Rl) (H:RlFit h0 v r):Fn Tryz.prog Xh 43 [v.val] h0 (fun u h'=>∃ v':RlV,u=v'.val∧v'.gs.map (·.toGu)=r.us∧Hs h0 h' (pI v' r.ts)):=by
 have S:=Hs.start w
 have hgl:=H.ok.len
 have hlg:=H.lg
 unfold RlV.val
 refine zg rfl Tryz.func43 rfl rfl ?_
 all_goals (repeat' (first|refine qw ?_|refine qh rfl ?_|refine qi ?_|refine qp ?_|refine qg ?_|refine qj ?_|refine qo ?_|(refine qc 0 ?_;(refine bx S ?_;clear S;intro b h S);(refine al S ?_;clear S;intro b h S);refine qf ?_)))
 obtain ⟨b2,hnm⟩:∃ x,x=b:=⟨_,rfl⟩;subst hnm
 obtain ⟨b1,hnm⟩:∃ x,x=b:=⟨_,rfl⟩;subst hnm
 (repeat (refine qw ?_));refine JC (id:=1) [(4,(0,1))] [some (b1)] ?_;refine qK ?_;(first|(refine vl ?_<;>refine qf ⟨⟨by (first|exact True.intro|exact Or.inl rfl|exact Or.inr rfl|exact Or.inr (congrArg some (qB _ _ _ _))|exact ⟨Or.inl rfl,rfl⟩|exact ⟨Or.inr rfl,rfl⟩),rfl⟩,?_⟩)|(refine fB S ?_<;>refine qf ⟨⟨by (first|exact True.intro|exact Or.inl rfl|exact Or.inr rfl|exact Or.inr (congrArg some (qB _ _ _ _))|exact ⟨Or.inl rfl,rfl⟩|exact ⟨Or.inr rfl,rfl⟩),rfl⟩,?_⟩)|(refine fS S rfl rfl ?_<;>refine qf ⟨⟨by (first|exact True.intro|exact Or.inl rfl|exact Or.inr rfl|exact Or.inr (congrArg some (qB _ _ _ _))|exact ⟨Or.inl rfl,rfl⟩|exact ⟨Or.inr rfl,rfl⟩),rfl⟩,?_⟩)|(refine fA ?_<;>refine qf ⟨⟨by (first|exact True.intro|exact Or.inl rfl|exact Or.inr rfl|exact Or.inr (congrArg some (qB _ _ _ _))|exact ⟨Or.inl rfl,rfl⟩|exact ⟨Or.inr rfl,rfl⟩),rfl⟩,?_⟩));refine qK ?_;(first|(refine lB S rfl rfl ?_<;>refine qf ⟨⟨by (first|exact True.intro|exact Or.inl rfl|exact Or.inr rfl|exact Or.inr (congrArg some (qB _ _ _ _))|exact ⟨Or.inl rfl,rfl⟩|exact ⟨Or.inr rfl,rfl⟩),rfl⟩,?_⟩)|(refine qy S rfl rfl ?_<;>refine qf ⟨⟨by (first|exact True.intro|exact Or.inl rfl|exact Or.inr rfl|exact Or.inr (congrArg some (qB _ _ _ _))|exact ⟨Or.inl rfl,rfl⟩|exact ⟨Or.inr rfl,rfl⟩),rfl⟩,?_⟩)|(refine qU S ?_<;>refine qf ⟨⟨by (first|exact True.intro|exact Or.inl rfl|exact Or.inr rfl|exact Or.inr (congrArg some (qB _ _ _ _))|exact ⟨Or.inl rfl,rfl⟩|exact ⟨Or.inr rfl,rfl⟩),rfl⟩,?_⟩)|(refine lH S ?_<;>refine qf ⟨⟨by (first|exact True.intro|exact Or.inl rfl|exact Or.inr rfl|exact Or.inr (congrArg some (qB _ _ _ _))|exact ⟨Or.inl rfl,rfl⟩|exact ⟨Or.inr rfl,rfl⟩),rfl⟩,?_⟩))
 ((refine qK ?_;first|refine qE rfl rfl rfl rfl rfl ((qbq S.wf v.vg.val v.gs (H.ok.rg.ext w S.ext) (fun i hi=>⟨(H.ok.tg i hi).1.ext w S.ext,H.tg i hi⟩) (by omega)).mono ?_));rintro _ h ⟨vg,gs,rfl,g2,x⟩)<;>((refine qf ⟨⟨True.intro,?_⟩,?_⟩;(focus ((show keepsX _ _ _ _ _;simp only [keepsX];(repeat' (first|exact True.intro|refine And.intro ?_ ?_));all_goals (intro hw;first|exact True.intro|exact rfl|exact x.ext.old _ S.bB|exact x.ext.old _ (S.bR (by first|omega|grind))|exact x.ext.old _ (S.bX (by assumption) (by assumption) (by first|omega|grind))|exact x.ext.old _ (S.bY (by assumption) (by assumption))|(refine x.ext.old _ ?_;assumption)|exact absurd hw (by decide +kernel))))));replace S:=S.qao x;clear x;refine qK ?_;(first|(refine vl ?_<;>refine qf ⟨⟨by (first|exact True.intro|exact Or.inl rfl|exact Or.inr rfl|exact Or.inr (congrArg some (qB _ _ _ _))|exact ⟨Or.inl rfl,rfl⟩|exact ⟨Or.inr rfl,rfl⟩),rfl⟩,?_⟩)|(refine fB S ?_<;>refine qf ⟨⟨by (first|exact True.intro|exact Or.inl rfl|exact Or.inr rfl|exact Or.inr (congrArg some (qB _ _ _ _))|exact ⟨Or.inl rfl,rfl⟩|exact ⟨Or.inr rfl,rfl⟩),rfl⟩,?_⟩)|(refine fS S rfl rfl ?_<;>refine qf ⟨⟨by (first|exact True.intro|exact Or.inl rfl|exact Or.inr rfl|exact Or.inr (congrArg some (qB _ _ _ _))|exact ⟨Or.inl rfl,rfl⟩|exact ⟨Or.inr rfl,rfl⟩),rfl⟩,?_⟩)|(refine fA ?_<;>refine qf ⟨⟨by (first|exact True.intro|exact Or.inl rfl|exact Or.inr rfl|exact Or.inr (congrArg some (qB _ _ _ _))|exact ⟨Or.inl rfl,rfl⟩|exact ⟨Or.inr rfl,rfl⟩),rfl⟩,?_⟩));refine qK ?_;(first|(refine lB S rfl rfl ?_<;>refine qf ⟨⟨by (first|exact True.intro|exact Or.inl rfl|exact Or.inr rfl|exact Or.inr (congrArg some (qB _ _ _ _))|exact ⟨Or.inl rfl,rfl⟩|exact ⟨Or.inr rfl,rfl⟩),rfl⟩,?_⟩)|(refine qy S rfl rfl ?_<;>refine qf ⟨⟨by (first|exact True.intro|exact Or.inl rfl|exact Or.inr rfl|exact Or.inr (congrArg some (qB _ _ _ _))|exact ⟨Or.inl rfl,rfl⟩|exact ⟨Or.inr rfl,rfl⟩),rfl⟩,?_⟩)|(refine qU S ?_<;>refine qf ⟨⟨by (first|exact True.intro|exact Or.inl rfl|exact Or.inr rfl|exact Or.inr (congrArg some (qB _ _ _ _))|exact ⟨Or.inl rfl,rfl⟩|exact ⟨Or.inr rfl,rfl⟩),rfl⟩,?_⟩)|(refine lH S ?_<;>refine qf ⟨⟨by (first|exact True.intro|exact Or.inl rfl|exact Or.inr rfl|exact Or.inr (congrArg some (qB _ _ _ _))|exact ⟨Or.inl rfl,rfl⟩|exact ⟨Or.inr rfl,rfl⟩),rfl⟩,?_⟩)))
 ((refine qK ?_;first|refine qE rfl rfl rfl rfl rfl ((qcw S.wf v.vt.val r.ts (H.ok.rt.ext w S.ext) H.lt).mono ?_));rintro u h x)<;>((refine qf ⟨⟨True.intro,?_⟩,?_⟩;(focus ((show keepsX _ _ _ _ _;simp only [keepsX];(repeat' (first|exact True.intro|refine And.intro ?_ ?_));all_goals (intro hw;first|exact True.intro|exact rfl|exact x.ext.old _ S.bB|exact x.ext.old _ (S.bR (by first|omega|grind))|exact x.ext.old _ (S.bX (by assumption) (by assumption) (by first|omega|grind))|exact x.ext.old _ (S.bY (by assumption) (by assumption))|(refine x.ext.old _ ?_;assumption)|exact absurd hw (by decide +kernel))))));replace S:=S.jT x;clear x;obtain ⟨vt',rfl⟩:=S.sV u;refine qK ?_;(first|(refine vl ?_<;>refine qf ⟨⟨by (first|exact True.intro|exact Or.inl rfl|exact Or.inr rfl|exact Or.inr (congrArg some (qB _ _ _ _))|exact ⟨Or.inl rfl,rfl⟩|exact ⟨Or.inr rfl,rfl⟩),rfl⟩,?_⟩));refine qK ?_;(first|((refine sB S rfl rfl ?_;have S0:=S;clear S;intro h S);refine qf ⟨⟨True.intro,?_⟩,?_⟩;(focus ((show keepsX _ _ _ _ _;simp only [keepsX];(repeat' (first|exact True.intro|refine And.intro ?_ ?_));all_goals (intro hw;first|exact True.intro|exact (S.gB).trans (S0.gB).symm|exact absurd hw (by decide +kernel)))));clear S0)|((refine zS S rfl rfl ?_;have S0:=S;clear S;intro h S);refine qf ⟨⟨True.intro,?_⟩,?_⟩;(focus ((show keepsX _ _ _ _ _;simp only [keepsX];(repeat' (first|exact True.intro|refine And.intro ?_ ?_));all_goals (intro hw;first|exact True.intro|exact (S.gB).trans (S0.gB).symm|exact absurd hw (by decide +kernel)))));clear S0));refine Xb ?_)
 all_goals (repeat' (first|refine qw ?_|refine qh rfl ?_|refine qi ?_|refine qp ?_|refine qg ?_|refine qj ?_|refine qo ?_|(refine qc 0 ?_;(refine bx S ?_;clear S;intro b h S);(refine al S ?_;clear S;intro b h S);refine qf ?_)))
 refine qI ⟨_,JQ S rfl (by first|exact .here|exact .there .here|exact .there (.there .here)|exact .there (.there (.there .here))|exact .there (.there (.there (.there .here)))|exact .there (.there (.there (.there (.there .here))))) (by exact rfl) (by exact rfl),?_⟩
 refine ⟨⟨vg,vt',gs⟩,rfl,g2.trans H.ok.us,?_⟩
 exact (show Hs h0 h [.sl vg.val 24 9 eG gs,.sl vt'.val 111 3 jK r.ts,JI gs] from S.pick)
end Go.Proofs.Xx
namespace Go.Proofs.Xx
open Go Go.Proofs
set_option linter.unusedSimpArgs false
set_option linter.unusedVariables false
set_option linter.unusedSectionVars false
set_option maxRecDepth 100000
set_option maxHeartbeats 4000000
theorem Sep.front {lo:Nat} {h:AH} {r:Rs} {l2:List Rs}:∀ {l1:List Rs} {V:Fp},Sep lo h (l1 ++ r :: l2) V→Sep lo h (r :: (l1 ++ l2)) V
 | [],_,k=>k
 | x :: l1,V,⟨fx,h1,h2,h3⟩=>by
  obtain ⟨fr,k1,k2,k3⟩:=Sep.front h3
  exact ⟨fr,k1,fun b hb=>⟨(k2 b hb).1,(k2 b hb).2.1,(k2 b hb).2.2.1⟩,fx,h1,fun b hb=>⟨(h2 b hb).1,(h2 b hb).2.1,(h2 b hb).2.2,fun q=>(k2 b q).2.2.2 hb⟩,k3.mono fun b hb=>⟨⟨hb.1.1,hb.2⟩,hb.1.2⟩⟩
theorem Sep.back {lo:Nat} {h:AH} {r:Rs} {l2:List Rs}:∀ {l1:List Rs} {V:Fp},Sep lo h (r :: (l1 ++ l2)) V→Sep lo h (l1 ++ r :: l2) V
 | [],_,k=>k
 | x :: l1,V,⟨fr,k1,k2,fx,h1,h2,k3⟩ =>
  ⟨fx,h1,fun b hb=>⟨(h2 b hb).1,(h2 b hb).2.1,(h2 b hb).2.2.1⟩,Sep.back ⟨fr,k1,fun b hb=>⟨(k2 b hb).1,(k2 b hb).2.1,(k2 b hb).2.2,fun q=>(h2 b q).2.2.2 hb⟩,k3.mono fun b hb=>⟨⟨hb.1.1,hb.2⟩,hb.1.2⟩⟩⟩
theorem Hs.qb4 {h0 h:AH} {rs:List Rs} {gs:List Ze} (S:Hs h0 h (JI gs :: rs)):Hs h0 h (gs.map Zq ++ rs):=by
 obtain ⟨U,k1,k2,k3⟩:=S.sep
 exact ⟨S.ext,Star.sep (k1 h fun _ _=>rfl) k2 k3⟩
theorem Hs.qb3 {h0 h:AH} {rs:List Rs} {gs:List Ze} (S:Hs h0 h (gs.map Zq ++ rs)):Hs h0 h (JI gs :: rs):=by
 obtain ⟨U,k1,k2,k3⟩:=Sep.star S.sep
 exact ⟨S.ext,U,fun h' q=>k1.local q,k2,k3⟩
theorem Hs.gq {h0 h:AH} {rs:List Rs} {gs:List Ze} (S:Hs h0 h (JI gs :: rs)) {i:Nat} (hi:i<gs.length):Hs h0 h (Zq (gs.getD i default) :: JI (gs.take i ++ gs.drop (i+1)) :: rs):=by
 have S:=S.qb4
 have e:gs=gs.take i ++ gs.getD i default :: gs.drop (i+1):=by
  rw [List.getD_eq_getElem?_getD,List.getElem?_eq_getElem hi,Option.getD_some,← List.drop_eq_getElem_cons hi,List.take_append_drop]
 have S2:Hs h0 h ((gs.take i).map Zq ++ Zq (gs.getD i default) :: ((gs.drop (i+1)).map Zq ++ rs)):=by
  have:=S;rw [e] at this
  simpa using this
 have S3:Hs h0 h (Zq (gs.getD i default) :: ((gs.take i).map Zq ++ ((gs.drop (i+1)).map Zq ++ rs))):=⟨S.ext,Sep.front S2.sep⟩
 obtain ⟨f,k1,k2,k3⟩:=S3.sep
 refine ⟨S.ext,f,k1,k2,?_⟩
 rw [← List.append_assoc,← List.map_append] at k3
 obtain ⟨U,q1,q2,q3⟩:=Sep.star k3
 exact ⟨U,fun h' q=>q1.local q,q2,q3⟩
theorem Hs.kZ {h0 h:AH} {rs:List Rs} {gs:List Ze} {g:Ze} {i:Nat} (S:Hs h0 h (Zq g :: JI (gs.take i ++ gs.drop (i+1)) :: rs)) (hi:i<gs.length):Hs h0 h (JI (gs.set i g) :: rs):=by
 obtain ⟨f,k1,k2,U,q1,q2,q3⟩:=S.sep
 have k3:=Star.sep (q1 h fun _ _=>rfl) q2 q3
 rw [List.map_append,List.append_assoc] at k3
 have S2:Hs h0 h ((gs.take i).map Zq ++ Zq g :: ((gs.drop (i+1)).map Zq ++ rs)):=⟨S.ext,Sep.back ⟨f,k1,k2,k3⟩⟩
 refine Hs.qb3 ?_
 rw [List.set_eq_take_append_cons_drop,if_pos hi]
 simpa using S2
variable [Flag]
theorem Ph {h0:AH} (w:WfH h0) (v:RlV) (r:Rl) (H:RlOk h0 v r):Fn Tryz.prog Xh 44 [v.val] h0 (fun u h'=>((u = .tuple #[.int .i64 0,.int .i64 0]∧VRl r)∨∃ i e,u = .tuple #[.int .i64 i,.int .i64 e]∧Bad r i e)∧Hs h0 h' []):=by
 have S:=Hs.start w
 unfold RlV.val
 refine zg rfl Tryz.func44 rfl rfl ?_
 all_goals (repeat' (first|refine qw ?_|refine qh rfl ?_|refine qi ?_|refine qp ?_|refine qg ?_|refine qj ?_|refine qo ?_|(refine qc 0 ?_;(refine bx S ?_;clear S;intro b h S);refine mv ?_;refine mv ?_;refine qf ?_)|(refine qc 1 ?_;(first|refine lB S rfl rfl ?_|refine qy S rfl rfl ?_|refine qU S ?_|refine lH S ?_))))
 (refine qE rfl rfl rfl rfl rfl ((yR S.wf v r (H.ext w S.ext)).mono ?_);rintro _ h (⟨p,rfl,hv,x⟩|⟨i,e,rfl,hb,x⟩))<;>(refine mv ?_;refine vl ?_;refine vl ?_;refine vl ?_;(iterate 3 refine mv ?_);refine qf ?_)
 ·replace S:=S.join x
  all_goals (repeat' (first|refine qw ?_|refine qh rfl ?_|refine qi ?_|refine qp ?_|refine qg ?_|refine qj ?_|refine qo ?_|(refine qc 2 ?_;(iterate 4 refine mv ?_);refine qf ?_)))
  refine qI ⟨_,rfl,?_⟩
  exact ⟨.inl ⟨rfl,hv⟩,S.drop⟩
 ·replace S:=S.join x
  all_goals (repeat' (first|refine qw ?_|refine qh rfl ?_|refine qi ?_|refine qp ?_|refine qg ?_|refine qj ?_|refine qo ?_|(refine qc 2 ?_;(iterate 4 refine mv ?_);refine qf ?_)))
  refine qI ⟨_,rfl,?_⟩
  exact ⟨.inr ⟨_,_,rfl,hb⟩,S.drop⟩
theorem qbt {h0:AH} (w:WfH h0) {p:Nat} {r:Rl} (B:BkRd h0 p r):Fn Tryz.prog Xh 50 [.pointer (some ⟨p,0,none⟩)] h0 (fun u h'=>u = .int .i64 r.us.length∧Hs h0 h' []):=by
 have S:=Hs.start w
 obtain ⟨s,B⟩:=B
 have hb:=B.bk
 have hrg:=B.rg
 have hgl:=B.len
 refine zg rfl Tryz.func50 rfl rfl ?_
 all_goals (repeat' (first|refine qw ?_|refine qh rfl ?_|refine qi ?_|refine qp ?_|refine qg ?_|refine qj ?_|refine qo ?_|(refine qc 0 ?_;refine mv ?_;refine qf ?_)|(refine qc 1 ?_;refine mv ?_)))
 (refine qE rfl rfl rfl rfl rfl ((Q5 S.wf (S.ext.get w hb)).mono ?_);rintro _ h ⟨rfl,x⟩)<;>(replace S:=S.qW x;clear x;refine qf ?_)
 all_goals (repeat' (first|refine qw ?_|refine qh rfl ?_|refine qi ?_|refine qp ?_|refine qg ?_|refine qj ?_|refine qo ?_|(refine qc 2 ?_;refine mv ?_;refine qf ?_)|(refine qc 3 ?_;refine mv ?_;refine vl ?_;(first|refine vl ?_|refine fB S ?_|refine fS S rfl rfl ?_|refine fA ?_);(first|refine vl ?_|refine fB S ?_|refine fS S rfl rfl ?_|refine fA ?_);(first|refine lB S rfl rfl ?_|refine qy S rfl rfl ?_|refine qU S ?_|refine lH S ?_);(first|refine jA S ?_|refine jZ S rfl rfl ?_);refine mv ?_;refine qf ?_)))
 refine qI ⟨_,rfl,?_⟩
 exact ⟨by rw [hgl];rfl,S.drop⟩
end Go.Proofs.Xx
namespace Go.Proofs.Xx
open Go Go.Proofs
set_option linter.unusedSimpArgs false
set_option linter.unusedVariables false
set_option linter.unusedSectionVars false
set_option maxRecDepth 100000
set_option maxHeartbeats 4000000
variable [Flag]
theorem qa8 {h0:AH} (w:WfH h0) {p:Nat} {r:Rl} (B:BkRd h0 p r) (v:RlV) (HR:RlOk h0 v r) (H:RO r):Fn Tryz.prog Xh 45 [.pointer (some ⟨p,0,none⟩),v.val] h0 (fun u h'=>u = .bool true∧Hs h0 h' []):=by
 have S:=Hs.start w
 have hgl:=HR.len
 have hrg:=HR.rg
 have h64:=H.l64
 unfold RlV.val
 refine zg rfl Tryz.func45 rfl rfl ?_
 all_goals (repeat' (first|refine qw ?_|refine qh rfl ?_|refine qi ?_|refine qp ?_|refine qg ?_|refine qj ?_|refine qo ?_|(refine qc 0 ?_;(refine bx S ?_;clear S;intro b h S);refine mv ?_;refine qf ?_)))
 obtain ⟨b3,hnm⟩:∃ x,x=b:=⟨_,rfl⟩;subst hnm
 all_goals (repeat' (first|refine qw ?_|refine qh rfl ?_|refine qi ?_|refine qp ?_|refine qg ?_|refine qj ?_|refine qo ?_|(refine qc 1 ?_;refine mv ?_)))
 (refine qE rfl rfl rfl rfl rfl ((Gs S.wf (B.ext w S.ext) H).mono ?_);rintro _ h ⟨⟨vg,vt,gs⟩,rfl,g2,x⟩)<;>(replace S:=S.join x;clear x;dsimp only [pI,List.cons_append,List.nil_append] at S;unfold RlV.val;dsimp only;(refine al S ?_;clear S;intro b h S);(first|(refine sB S rfl rfl ?_;clear S;intro h S)|(refine zS S rfl rfl ?_;clear S;intro h S));refine qf ?_)
 obtain ⟨b5,hnm⟩:∃ x,x=b:=⟨_,rfl⟩;subst hnm
 replace S:Hs h0 h (.blk b5 [vg.val,vt.val] 32 :: .sl vg.val 24 9 eG gs :: .sl vt.val 111 3 jK r.ts :: JI gs :: .blk b3 [v.vg.val,v.vt.val] 32 :: []):=S
 have h256:=H.l256
 have hR1:r.us.length≤9223372036854775807:=by omega
 have hR2:r.ts.length≤9223372036854775807:=by omega
 have hR3:∀ g∈r.us,g.tg.length≤9223372036854775807:=fun g hg=>by have:=(ve (H.chk g hg)).2.2.2.1;omega
 have hgs:gs.length=r.us.length:=by rw [← g2,List.length_map]
 have R1:RlOk h ⟨vg,vt,gs⟩ r:=Hs.qb9 (v:=⟨vg,vt,gs⟩) (rs:=[]) (show Hs h0 h [.sl vg.val 24 9 eG gs,.sl vt.val 111 3 jK r.ts,JI gs] from S.pick) g2 hR1 hR2 hR3
 (repeat (refine qw ?_));refine JC (id:=2) [(8,(1,2))] [some (b3)] ?_;refine qK ?_;(first|(refine lB S rfl rfl ?_<;>refine qf ⟨⟨by (first|exact True.intro|exact Or.inl rfl|exact Or.inr rfl|exact Or.inr (congrArg some (qB _ _ _ _))|exact ⟨Or.inl rfl,rfl⟩|exact ⟨Or.inr rfl,rfl⟩),rfl⟩,?_⟩)|(refine qy S rfl rfl ?_<;>refine qf ⟨⟨by (first|exact True.intro|exact Or.inl rfl|exact Or.inr rfl|exact Or.inr (congrArg some (qB _ _ _ _))|exact ⟨Or.inl rfl,rfl⟩|exact ⟨Or.inr rfl,rfl⟩),rfl⟩,?_⟩)|(refine qU S ?_<;>refine qf ⟨⟨by (first|exact True.intro|exact Or.inl rfl|exact Or.inr rfl|exact Or.inr (congrArg some (qB _ _ _ _))|exact ⟨Or.inl rfl,rfl⟩|exact ⟨Or.inr rfl,rfl⟩),rfl⟩,?_⟩)|(refine lH S ?_<;>refine qf ⟨⟨by (first|exact True.intro|exact Or.inl rfl|exact Or.inr rfl|exact Or.inr (congrArg some (qB _ _ _ _))|exact ⟨Or.inl rfl,rfl⟩|exact ⟨Or.inr rfl,rfl⟩),rfl⟩,?_⟩));refine qK ?_;(first|(refine lB S rfl rfl ?_<;>refine qf ⟨⟨by (first|exact True.intro|exact Or.inl rfl|exact Or.inr rfl|exact Or.inr (congrArg some (qB _ _ _ _))|exact ⟨Or.inl rfl,rfl⟩|exact ⟨Or.inr rfl,rfl⟩),rfl⟩,?_⟩)|(refine qy S rfl rfl ?_<;>refine qf ⟨⟨by (first|exact True.intro|exact Or.inl rfl|exact Or.inr rfl|exact Or.inr (congrArg some (qB _ _ _ _))|exact ⟨Or.inl rfl,rfl⟩|exact ⟨Or.inr rfl,rfl⟩),rfl⟩,?_⟩)|(refine qU S ?_<;>refine qf ⟨⟨by (first|exact True.intro|exact Or.inl rfl|exact Or.inr rfl|exact Or.inr (congrArg some (qB _ _ _ _))|exact ⟨Or.inl rfl,rfl⟩|exact ⟨Or.inr rfl,rfl⟩),rfl⟩,?_⟩)|(refine lH S ?_<;>refine qf ⟨⟨by (first|exact True.intro|exact Or.inl rfl|exact Or.inr rfl|exact Or.inr (congrArg some (qB _ _ _ _))|exact ⟨Or.inl rfl,rfl⟩|exact ⟨Or.inr rfl,rfl⟩),rfl⟩,?_⟩))
 ((refine qK ?_;first|refine qE rfl rfl rfl rfl rfl ((ZC S.wf ⟨vg,vt,gs⟩ v r r R1 (HR.ext w S.ext)).mono ?_));rintro _ h ⟨⟨rfl,z⟩|⟨rfl,z⟩,x⟩)<;>((refine qf ⟨⟨True.intro,?_⟩,?_⟩;(focus ((show keepsX _ _ _ _ _;simp only [keepsX];(repeat' (first|exact True.intro|refine And.intro ?_ ?_));all_goals (intro hw;first|exact True.intro|exact rfl|exact x.ext.old _ S.bB|exact x.ext.old _ (S.bR (by first|omega|grind))|exact x.ext.old _ (S.bX (by assumption) (by assumption) (by first|omega|grind))|exact x.ext.old _ (S.bY (by assumption) (by assumption))|(refine x.ext.old _ ?_;assumption)|exact absurd hw (by decide +kernel))))));replace S:=S.qW x;clear x;refine qK ?_;(first|(refine vl ?_<;>refine qf ⟨⟨by (first|exact True.intro|exact Or.inl rfl|exact Or.inr rfl|exact Or.inr (congrArg some (qB _ _ _ _))|exact ⟨Or.inl rfl,rfl⟩|exact ⟨Or.inr rfl,rfl⟩),rfl⟩,?_⟩));refine qK ?_;(first|(refine mv ?_<;>refine qf ⟨⟨by (first|exact True.intro|exact Or.inl rfl|exact Or.inr rfl|exact Or.inr (congrArg some (qB _ _ _ _))|exact ⟨Or.inl rfl,rfl⟩|exact ⟨Or.inr rfl,rfl⟩),rfl⟩,?_⟩));refine qK ?_;(first|(refine off ?_;refine qf ⟨⟨by (first|exact True.intro|exact Or.inl rfl|exact Or.inr rfl|exact Or.inr (congrArg some (qB _ _ _ _))|exact ⟨Or.inl rfl,rfl⟩|exact ⟨Or.inr rfl,rfl⟩),rfl⟩,?_⟩)|(refine mv ?_<;>refine qf ⟨⟨by (first|exact True.intro|exact Or.inl rfl|exact Or.inr rfl|exact Or.inr (congrArg some (qB _ _ _ _))|exact ⟨Or.inl rfl,rfl⟩|exact ⟨Or.inr rfl,rfl⟩),rfl⟩,?_⟩));(first|(refine qK ?_;refine off ?_;refine qf ⟨⟨True.intro,by show keepsX _ _ _ _ _;simp [keepsX]⟩,?_⟩;refine qK ?_;(first|(refine off ?_;refine qf ⟨⟨by (first|exact True.intro|exact Or.inl rfl|exact Or.inr rfl|exact Or.inr (congrArg some (qB _ _ _ _))|exact ⟨Or.inl rfl,rfl⟩|exact ⟨Or.inr rfl,rfl⟩),rfl⟩,?_⟩)|(refine vl ?_<;>refine qf ⟨⟨by (first|exact True.intro|exact Or.inl rfl|exact Or.inr rfl|exact Or.inr (congrArg some (qB _ _ _ _))|exact ⟨Or.inl rfl,rfl⟩|exact ⟨Or.inr rfl,rfl⟩),rfl⟩,?_⟩)|(refine fB S ?_<;>refine qf ⟨⟨by (first|exact True.intro|exact Or.inl rfl|exact Or.inr rfl|exact Or.inr (congrArg some (qB _ _ _ _))|exact ⟨Or.inl rfl,rfl⟩|exact ⟨Or.inr rfl,rfl⟩),rfl⟩,?_⟩)|(refine fS S rfl rfl ?_<;>refine qf ⟨⟨by (first|exact True.intro|exact Or.inl rfl|exact Or.inr rfl|exact Or.inr (congrArg some (qB _ _ _ _))|exact ⟨Or.inl rfl,rfl⟩|exact ⟨Or.inr rfl,rfl⟩),rfl⟩,?_⟩)|(refine fA ?_<;>refine qf ⟨⟨by (first|exact True.intro|exact Or.inl rfl|exact Or.inr rfl|exact Or.inr (congrArg some (qB _ _ _ _))|exact ⟨Or.inl rfl,rfl⟩|exact ⟨Or.inr rfl,rfl⟩),rfl⟩,?_⟩));refine qK ?_;(first|(refine off ?_;refine qf ⟨⟨by (first|exact True.intro|exact Or.inl rfl|exact Or.inr rfl|exact Or.inr (congrArg some (qB _ _ _ _))|exact ⟨Or.inl rfl,rfl⟩|exact ⟨Or.inr rfl,rfl⟩),rfl⟩,?_⟩)|(refine lB S rfl rfl ?_<;>refine qf ⟨⟨by (first|exact True.intro|exact Or.inl rfl|exact Or.inr rfl|exact Or.inr (congrArg some (qB _ _ _ _))|exact ⟨Or.inl rfl,rfl⟩|exact ⟨Or.inr rfl,rfl⟩),rfl⟩,?_⟩)|(refine qy S rfl rfl ?_<;>refine qf ⟨⟨by (first|exact True.intro|exact Or.inl rfl|exact Or.inr rfl|exact Or.inr (congrArg some (qB _ _ _ _))|exact ⟨Or.inl rfl,rfl⟩|exact ⟨Or.inr rfl,rfl⟩),rfl⟩,?_⟩)|(refine qU S ?_<;>refine qf ⟨⟨by (first|exact True.intro|exact Or.inl rfl|exact Or.inr rfl|exact Or.inr (congrArg some (qB _ _ _ _))|exact ⟨Or.inl rfl,rfl⟩|exact ⟨Or.inr rfl,rfl⟩),rfl⟩,?_⟩)|(refine lH S ?_<;>refine qf ⟨⟨by (first|exact True.intro|exact Or.inl rfl|exact Or.inr rfl|exact Or.inr (congrArg some (qB _ _ _ _))|exact ⟨Or.inl rfl,rfl⟩|exact ⟨Or.inr rfl,rfl⟩),rfl⟩,?_⟩));refine qK ?_;(first|(refine off ?_;refine qf ⟨⟨by (first|exact True.intro|exact Or.inl rfl|exact Or.inr rfl|exact Or.inr (congrArg some (qB _ _ _ _))|exact ⟨Or.inl rfl,rfl⟩|exact ⟨Or.inr rfl,rfl⟩),rfl⟩,?_⟩)|(refine jA S ?_<;>refine qf ⟨⟨by (first|exact True.intro|exact Or.inl rfl|exact Or.inr rfl|exact Or.inr (congrArg some (qB _ _ _ _))|exact ⟨Or.inl rfl,rfl⟩|exact ⟨Or.inr rfl,rfl⟩),rfl⟩,?_⟩)|(refine jZ S rfl rfl ?_<;>refine qf ⟨⟨by (first|exact True.intro|exact Or.inl rfl|exact Or.inr rfl|exact Or.inr (congrArg some (qB _ _ _ _))|exact ⟨Or.inl rfl,rfl⟩|exact ⟨Or.inr rfl,rfl⟩),rfl⟩,?_⟩));refine qK ?_;(first|(refine off ?_;refine qf ⟨⟨by (first|exact True.intro|exact Or.inl rfl|exact Or.inr rfl|exact Or.inr (congrArg some (qB _ _ _ _))|exact ⟨Or.inl rfl,rfl⟩|exact ⟨Or.inr rfl,rfl⟩),rfl⟩,?_⟩)|(refine cT ?_<;>refine qf ⟨⟨by (first|exact True.intro|exact Or.inl rfl|exact Or.inr rfl|exact Or.inr (congrArg some (qB _ _ _ _))|exact ⟨Or.inl rfl,rfl⟩|exact ⟨Or.inr rfl,rfl⟩),rfl⟩,?_⟩)|(refine cF ?_<;>refine qf ⟨⟨by (first|exact True.intro|exact Or.inl rfl|exact Or.inr rfl|exact Or.inr (congrArg some (qB _ _ _ _))|exact ⟨Or.inl rfl,rfl⟩|exact ⟨Or.inr rfl,rfl⟩),rfl⟩,?_⟩)|((refine cS ?_ ?_<;>intro hc)<;>refine qf ⟨⟨by (first|exact True.intro|exact Or.inl rfl|exact Or.inr rfl|exact Or.inr (congrArg some (qB _ _ _ _))|exact ⟨Or.inl rfl,rfl⟩|exact ⟨Or.inr rfl,rfl⟩),rfl⟩,?_⟩))<;>(refine qK ?_;(first|(refine vl ?_<;>refine qf ⟨⟨by (first|exact True.intro|exact Or.inl rfl|exact Or.inr rfl|exact Or.inr (congrArg some (qB _ _ _ _))|exact ⟨Or.inl rfl,rfl⟩|exact ⟨Or.inr rfl,rfl⟩),rfl⟩,?_⟩));refine Xb ?_))|skip))
 all_goals first|exact absurd rfl z|skip
 all_goals (((refine qK ?_;first|refine qE rfl rfl rfl rfl rfl ((qbt S.wf (B.ext w S.ext)).mono ?_));rintro _ h ⟨rfl,x⟩)<;>((refine qf ⟨⟨True.intro,?_⟩,?_⟩;(focus ((show keepsX _ _ _ _ _;simp only [keepsX];(repeat' (first|exact True.intro|refine And.intro ?_ ?_));all_goals (intro hw;first|exact True.intro|exact rfl|exact x.ext.old _ S.bB|exact x.ext.old _ (S.bR (by first|omega|grind))|exact x.ext.old _ (S.bX (by assumption) (by assumption) (by first|omega|grind))|exact x.ext.old _ (S.bY (by assumption) (by assumption))|(refine x.ext.old _ ?_;assumption)|exact absurd hw (by decide +kernel))))));replace S:=S.qW x;clear x;refine qK ?_;(first|(refine off ?_;refine qf ⟨⟨by (first|exact True.intro|exact Or.inl rfl|exact Or.inr rfl|exact Or.inr (congrArg some (qB _ _ _ _))|exact ⟨Or.inl rfl,rfl⟩|exact ⟨Or.inr rfl,rfl⟩),rfl⟩,?_⟩)|(refine vl ?_<;>refine qf ⟨⟨by (first|exact True.intro|exact Or.inl rfl|exact Or.inr rfl|exact Or.inr (congrArg some (qB _ _ _ _))|exact ⟨Or.inl rfl,rfl⟩|exact ⟨Or.inr rfl,rfl⟩),rfl⟩,?_⟩)|(refine fB S ?_<;>refine qf ⟨⟨by (first|exact True.intro|exact Or.inl rfl|exact Or.inr rfl|exact Or.inr (congrArg some (qB _ _ _ _))|exact ⟨Or.inl rfl,rfl⟩|exact ⟨Or.inr rfl,rfl⟩),rfl⟩,?_⟩)|(refine fS S rfl rfl ?_<;>refine qf ⟨⟨by (first|exact True.intro|exact Or.inl rfl|exact Or.inr rfl|exact Or.inr (congrArg some (qB _ _ _ _))|exact ⟨Or.inl rfl,rfl⟩|exact ⟨Or.inr rfl,rfl⟩),rfl⟩,?_⟩)|(refine fA ?_<;>refine qf ⟨⟨by (first|exact True.intro|exact Or.inl rfl|exact Or.inr rfl|exact Or.inr (congrArg some (qB _ _ _ _))|exact ⟨Or.inl rfl,rfl⟩|exact ⟨Or.inr rfl,rfl⟩),rfl⟩,?_⟩));refine qK ?_;(first|(refine off ?_;refine qf ⟨⟨by (first|exact True.intro|exact Or.inl rfl|exact Or.inr rfl|exact Or.inr (congrArg some (qB _ _ _ _))|exact ⟨Or.inl rfl,rfl⟩|exact ⟨Or.inr rfl,rfl⟩),rfl⟩,?_⟩)|(refine lB S rfl rfl ?_<;>refine qf ⟨⟨by (first|exact True.intro|exact Or.inl rfl|exact Or.inr rfl|exact Or.inr (congrArg some (qB _ _ _ _))|exact ⟨Or.inl rfl,rfl⟩|exact ⟨Or.inr rfl,rfl⟩),rfl⟩,?_⟩)|(refine qy S rfl rfl ?_<;>refine qf ⟨⟨by (first|exact True.intro|exact Or.inl rfl|exact Or.inr rfl|exact Or.inr (congrArg some (qB _ _ _ _))|exact ⟨Or.inl rfl,rfl⟩|exact ⟨Or.inr rfl,rfl⟩),rfl⟩,?_⟩)|(refine qU S ?_<;>refine qf ⟨⟨by (first|exact True.intro|exact Or.inl rfl|exact Or.inr rfl|exact Or.inr (congrArg some (qB _ _ _ _))|exact ⟨Or.inl rfl,rfl⟩|exact ⟨Or.inr rfl,rfl⟩),rfl⟩,?_⟩)|(refine lH S ?_<;>refine qf ⟨⟨by (first|exact True.intro|exact Or.inl rfl|exact Or.inr rfl|exact Or.inr (congrArg some (qB _ _ _ _))|exact ⟨Or.inl rfl,rfl⟩|exact ⟨Or.inr rfl,rfl⟩),rfl⟩,?_⟩));refine qK ?_;(first|(refine off ?_;refine qf ⟨⟨by (first|exact True.intro|exact Or.inl rfl|exact Or.inr rfl|exact Or.inr (congrArg some (qB _ _ _ _))|exact ⟨Or.inl rfl,rfl⟩|exact ⟨Or.inr rfl,rfl⟩),rfl⟩,?_⟩)|(refine jA S ?_<;>refine qf ⟨⟨by (first|exact True.intro|exact Or.inl rfl|exact Or.inr rfl|exact Or.inr (congrArg some (qB _ _ _ _))|exact ⟨Or.inl rfl,rfl⟩|exact ⟨Or.inr rfl,rfl⟩),rfl⟩,?_⟩)|(refine jZ S rfl rfl ?_<;>refine qf ⟨⟨by (first|exact True.intro|exact Or.inl rfl|exact Or.inr rfl|exact Or.inr (congrArg some (qB _ _ _ _))|exact ⟨Or.inl rfl,rfl⟩|exact ⟨Or.inr rfl,rfl⟩),rfl⟩,?_⟩));refine qK ?_;(first|(refine off ?_;refine qf ⟨⟨by (first|exact True.intro|exact Or.inl rfl|exact Or.inr rfl|exact Or.inr (congrArg some (qB _ _ _ _))|exact ⟨Or.inl rfl,rfl⟩|exact ⟨Or.inr rfl,rfl⟩),rfl⟩,?_⟩)|(refine cT ?_<;>refine qf ⟨⟨by (first|exact True.intro|exact Or.inl rfl|exact Or.inr rfl|exact Or.inr (congrArg some (qB _ _ _ _))|exact ⟨Or.inl rfl,rfl⟩|exact ⟨Or.inr rfl,rfl⟩),rfl⟩,?_⟩)|(refine cF ?_<;>refine qf ⟨⟨by (first|exact True.intro|exact Or.inl rfl|exact Or.inr rfl|exact Or.inr (congrArg some (qB _ _ _ _))|exact ⟨Or.inl rfl,rfl⟩|exact ⟨Or.inr rfl,rfl⟩),rfl⟩,?_⟩)|((refine cS ?_ ?_<;>intro hc)<;>refine qf ⟨⟨by (first|exact True.intro|exact Or.inl rfl|exact Or.inr rfl|exact Or.inr (congrArg some (qB _ _ _ _))|exact ⟨Or.inl rfl,rfl⟩|exact ⟨Or.inr rfl,rfl⟩),rfl⟩,?_⟩))<;>(refine qK ?_;(first|(refine vl ?_<;>refine qf ⟨⟨by (first|exact True.intro|exact Or.inl rfl|exact Or.inr rfl|exact Or.inr (congrArg some (qB _ _ _ _))|exact ⟨Or.inl rfl,rfl⟩|exact ⟨Or.inr rfl,rfl⟩),rfl⟩,?_⟩));refine Xb ?_)))
 all_goals (repeat' (first|refine qw ?_|refine qh rfl ?_|refine qi ?_|refine qp ?_|refine qg ?_|refine qj ?_|refine qo ?_|(refine qc 0 ?_;(refine bx S ?_;clear S;intro b h S);refine mv ?_;refine qf ?_)|(refine qc 1 ?_;refine mv ?_)|(refine qc 3 ?_;refine mv ?_;refine qf ?_)|(refine qc 4 ?_;refine mv ?_;refine qf ?_)))
 ·obtain ⟨n,hn⟩:∃ n,n=r.us.length:=⟨_,rfl⟩
  refine qM (σ:=Nat×List Ze×List Ze) (fun (i,ks,ms) h'=>Hs h0 h' [.blk b5 [vg.val,vt.val] 32,.sl vg.val 24 9 eG ks,.sl vt.val 111 3 jK r.ts,JI ms,.blk b3 [v.vg.val,v.vt.val] 32]∧i≤n∧ks.length=n∧ms.length=n∧∀ k,k<n→(ks.getD k default).tv=(ms.getD k default).tv∧(ms.getD k default).tg.length≤9223372036854775807) (fun (i,ks,ms)=>n - i) (fun (i,ks,ms)=>[(0,.pointer (some ⟨p,0,none⟩)),(3,.pointer (some ⟨b3,0,none⟩)),(5,.pointer (some ⟨b5,0,none⟩)),(6,.int .i64 i)]) (0,gs,gs) (by repeat (first|exact Ks.le_nil _|refine Ks.qx rfl ?_|refine Ks.qA ?_)) ?_ ?_
  ·refine ⟨S,Nat.zero_le _,by omega,by omega,fun k hk=>⟨rfl,?_⟩⟩
   exact hR3 _ (by rw [← g2];exact List.mem_map.2 ⟨_,qQ (show k<gs.length by omega),rfl⟩)
  clear S
  rintro ⟨i,ks,ms⟩ h ⟨S,i1,i2,i3,i4⟩
  all_goals (repeat' (first|refine qw ?_|refine qh rfl ?_|refine qi ?_|refine qp ?_|refine qg ?_|refine qj ?_|refine qo ?_|(refine qc 5 ?_;refine mv ?_;(first|refine vl ?_|refine fB S ?_|refine fS S rfl rfl ?_|refine fA ?_);(first|refine lB S rfl rfl ?_|refine qy S rfl rfl ?_|refine qU S ?_|refine lH S ?_);(first|refine jA S ?_|refine jZ S rfl rfl ?_);(first|refine cT ?_|refine cF ?_|(refine cS ?_ ?_<;>intro hc))<;>(refine qf ?_))|(refine qc 7 ?_;refine mv ?_;refine qf ?_)))
  ·have hik:i<ks.length:=by omega
   have him:i<ms.length:=by omega
   obtain ⟨e1,e2⟩:=i4 i (by omega)
   have S:=(show Hs h0 h (JI ms :: .blk b5 [vg.val,vt.val] 32 :: .sl vg.val 24 9 eG ks :: .sl vt.val 111 3 jK r.ts :: .blk b3 [v.vg.val,v.vt.val] 32 :: []) from S.pick)
   replace S:=S.gq him
   rw [show Zq (ms.getD i default)=Rs.sl (ks.getD i default).tv.val 9 1 eS (ms.getD i default).tg by unfold Zq;rw [e1]] at S
   refine qM (σ:=Nat×List (List UInt8)) (fun (j,l) h'=>Hs h0 h' [.sl (ks.getD (Int.ofNat i).toNat default).tv.val 9 1 eS l,JI (ms.take i ++ ms.drop (i+1)),.blk b5 [vg.val,vt.val] 32,.sl vg.val 24 9 eG ks,.sl vt.val 111 3 jK r.ts,.blk b3 [v.vg.val,v.vt.val] 32]∧j≤l.length∧l.length≤9223372036854775807) (fun (j,l)=>l.length - j) (fun (j,l)=>[(0,.pointer (some ⟨p,0,none⟩)),(3,.pointer (some ⟨b3,0,none⟩)),(5,.pointer (some ⟨b5,0,none⟩)),(6,.int .i64 i),(7,.int .i64 j)]) (0,(ms.getD i default).tg) (by repeat (first|exact Ks.le_nil _|refine Ks.qx rfl ?_|refine Ks.qA ?_)) ?_ ?_
   ·exact ⟨S,Nat.zero_le _,e2⟩
   clear S
   rintro ⟨j,l⟩ h ⟨S,j1,j2⟩
   all_goals (repeat' (first|refine qw ?_|refine qh rfl ?_|refine qi ?_|refine qp ?_|refine qg ?_|refine qj ?_|refine qo ?_|(refine qc 8 ?_;refine mv ?_;(first|refine vl ?_|refine fB S ?_|refine fS S rfl rfl ?_|refine fA ?_);(first|refine lB S rfl rfl ?_|refine qy S rfl rfl ?_|refine qU S ?_|refine lH S ?_);refine mv ?_;(first|refine zK S ?_|refine qC S rfl rfl ?_);(first|refine vl ?_|refine fB S ?_|refine fS S rfl rfl ?_|refine fA ?_);(first|refine lB S rfl rfl ?_|refine qy S rfl rfl ?_|refine qU S ?_|refine lH S ?_);(first|refine jA S ?_|refine jZ S rfl rfl ?_);(first|refine cT ?_|refine cF ?_|(refine cS ?_ ?_<;>intro hc))<;>(refine qf ?_))))
   ·have hjl:j<l.length:=by omega
    all_goals (repeat' (first|refine qw ?_|refine qh rfl ?_|refine qi ?_|refine qp ?_|refine qg ?_|refine qj ?_|refine qo ?_|(refine qc 10 ?_;(first|refine vl ?_|refine fB S ?_|refine fS S rfl rfl ?_|refine fA ?_);(first|refine lB S rfl rfl ?_|refine qy S rfl rfl ?_|refine qU S ?_|refine lH S ?_);refine mv ?_;(first|refine zK S ?_|refine qC S rfl rfl ?_);(first|refine vl ?_|refine fB S ?_|refine fS S rfl rfl ?_|refine fA ?_);(first|refine lB S rfl rfl ?_|refine qy S rfl rfl ?_|refine qU S ?_|refine lH S ?_);refine mv ?_;(first|refine zK S ?_|refine qC S rfl rfl ?_);(first|(refine sB S rfl rfl ?_;clear S;intro h S)|(refine zS S rfl rfl ?_;clear S;intro h S));refine qf ?_)))
    simp only [Int.toNat_natCast] at S
    all_goals (repeat' (first|refine qw ?_|refine qh rfl ?_|refine qi ?_|refine qp ?_|refine qg ?_|refine qj ?_|refine qo ?_|(refine qc 9 ?_;refine mv ?_;(first|refine ad ?_|refine vl ?_);refine mv ?_;refine qf ?_)))
    refine ⟨(j+1,l.set j [120]),?_,?_,(by repeat (first|exact Ks.le_nil _|refine Ks.qx rfl ?_|refine Ks.qA ?_))⟩
    ·show (l.set j _).length - (j+1)<l.length - j;rw [List.length_set];omega
    ·refine ⟨S,?_,?_⟩<;>(try dsimp only)<;>rw [List.length_set]<;>omega
   ·skip
    have ey:(ks.getD i default).tv=(({ (ks.getD i default) with name:=[120] }:Ze)).tv:=rfl
    (repeat (refine qw ?_));refine qc 11 ?_;refine vl ?_;refine lB S rfl rfl ?_;refine mv ?_;refine qC S rfl rfl ?_;refine fS S rfl rfl ?_
    refine zS (y:={ ks.getD (Int.ofNat i).toNat default with name:=[120] }) S rfl rfl ?_;clear S;intro h S
    (refine qf ?_)
    all_goals (repeat' (first|refine qw ?_|refine qh rfl ?_|refine qi ?_|refine qp ?_|refine qg ?_|refine qj ?_|refine qo ?_|(refine qc 6 ?_;refine mv ?_;(first|refine ad ?_|refine vl ?_);refine mv ?_;refine qf ?_)))
    refine ⟨(i+1,ks.set i { ks.getD i default with name:=[120] },ms.set i { ms.getD i default with tg:=l }),?_,?_,(by repeat (first|exact Ks.le_nil _|refine Ks.qx rfl ?_|refine Ks.qA ?_))⟩
    ·show n - (i+1)<n - i;omega
    ·have S1:Hs h0 h (.sl (ms.getD i default).tv.val 9 1 eS l :: JI (ms.take i ++ ms.drop (i+1)) :: .blk b5 [vg.val,vt.val] 32 :: .sl vg.val 24 9 eG (ks.set i { ks.getD i default with name:=[120] }) :: .sl vt.val 111 3 jK r.ts :: .blk b3 [v.vg.val,v.vt.val] 32 :: []):=by rw [← e1];exact S
     have S2:=Hs.kZ (g:={ ms.getD i default with tg:=l }) S1 him
     refine ⟨S2.pick,by (try dsimp only);omega,by simpa using i2,by simpa using i3,fun k hk=>?_⟩
     by_cases q:i=k
     ·subst q
      simp only [List.getD_eq_getElem?_getD,List.getElem?_set,if_pos hik,if_pos him,if_true,Option.getD_some]
      exact ⟨by simpa [List.getD_eq_getElem?_getD] using e1,j2⟩
     ·simp only [List.getD_eq_getElem?_getD,List.getElem?_set,if_neg q]
      simpa [List.getD_eq_getElem?_getD] using i4 k hk
  ·clear g2
   skip
   all_goals (repeat' (first|refine qw ?_|refine qh rfl ?_|refine qi ?_|refine qp ?_|refine qg ?_|refine qj ?_|refine qo ?_|(refine qc 12 ?_;refine mv ?_;refine qf ?_)))
   refine qM (σ:=Nat×List Ti) (fun (i,ts) h'=>Hs h0 h' [.blk b5 [vg.val,vt.val] 32,.sl vt.val 111 3 jK ts,.blk b3 [v.vg.val,v.vt.val] 32]∧i≤ts.length∧ts.length≤256) (fun (i,ts)=>ts.length - i) (fun (i,ts)=>[(0,.pointer (some ⟨p,0,none⟩)),(3,.pointer (some ⟨b3,0,none⟩)),(5,.pointer (some ⟨b5,0,none⟩)),(8,.int .i64 i)]) (0,r.ts) (by repeat (first|exact Ks.le_nil _|refine Ks.qx rfl ?_|refine Ks.qA ?_)) ?_ ?_
   ·exact ⟨S.pick,Nat.zero_le _,h256⟩
   clear S
   rintro ⟨k,ts⟩ h ⟨S,k1,k2⟩
   all_goals (repeat' (first|refine qw ?_|refine qh rfl ?_|refine qi ?_|refine qp ?_|refine qg ?_|refine qj ?_|refine qo ?_|(refine qc 13 ?_;refine mv ?_;(first|refine vl ?_|refine fB S ?_|refine fS S rfl rfl ?_|refine fA ?_);(first|refine lB S rfl rfl ?_|refine qy S rfl rfl ?_|refine qU S ?_|refine lH S ?_);(first|refine jA S ?_|refine jZ S rfl rfl ?_);(first|refine cT ?_|refine cF ?_|(refine cS ?_ ?_<;>intro hc))<;>(refine qf ?_))))
   ·have hkl:k<ts.length:=by omega
    (repeat (refine qw ?_));refine qc 15 ?_;refine vl ?_;refine lB S rfl rfl ?_;refine mv ?_;refine qC S rfl rfl ?_;refine fS S rfl rfl ?_
    refine zS (y:={ ts.getD (Int.ofNat k).toNat default with a:=[120] }) S rfl rfl ?_;clear S;intro h S
    (refine qf ?_)
    all_goals (repeat' (first|refine qw ?_|refine qh rfl ?_|refine qi ?_|refine qp ?_|refine qg ?_|refine qj ?_|refine qo ?_|(refine qc 14 ?_;refine mv ?_;(first|refine ad ?_|refine vl ?_);refine mv ?_;refine qf ?_)))
    refine ⟨(k+1,ts.set (Int.ofNat k).toNat { ts.getD (Int.ofNat k).toNat default with a:=[120] }),?_,?_,(by repeat (first|exact Ks.le_nil _|refine Ks.qx rfl ?_|refine Ks.qA ?_))⟩
    ·show (ts.set _ _).length - (k+1)<ts.length - k;rw [List.length_set];omega
    ·refine ⟨S,?_,?_⟩<;>(try dsimp only)<;>rw [List.length_set]<;>omega
   ·skip
    (repeat (refine qw ?_));refine JC (id:=16) [(2,(0,1))] [some (b3)] ?_;refine qK ?_;(first|(refine mv ?_<;>refine qf ⟨⟨by (first|exact True.intro|exact Or.inl rfl|exact Or.inr rfl|exact Or.inr (congrArg some (qB _ _ _ _))|exact ⟨Or.inl rfl,rfl⟩|exact ⟨Or.inr rfl,rfl⟩),rfl⟩,?_⟩))
    ((refine qK ?_;first|refine qE rfl rfl rfl rfl rfl ((Gs S.wf (B.ext w S.ext) H).mono ?_));rintro _ h ⟨rv,rfl,hus,x⟩)<;>((refine qf ⟨⟨True.intro,?_⟩,?_⟩;(focus ((show keepsX _ _ _ _ _;simp only [keepsX];(repeat' (first|exact True.intro|refine And.intro ?_ ?_));all_goals (intro hw;first|exact True.intro|exact rfl|exact x.ext.old _ S.bB|exact x.ext.old _ (S.bR (by first|omega|grind))|exact x.ext.old _ (S.bX (by assumption) (by assumption) (by first|omega|grind))|exact x.ext.old _ (S.bY (by assumption) (by assumption))|(refine x.ext.old _ ?_;assumption)|exact absurd hw (by decide +kernel))))));replace S:=S.join x;clear x;dsimp only [pI,List.cons_append,List.nil_append] at S;refine qK ?_;(first|(refine lB S rfl rfl ?_<;>refine qf ⟨⟨by (first|exact True.intro|exact Or.inl rfl|exact Or.inr rfl|exact Or.inr (congrArg some (qB _ _ _ _))|exact ⟨Or.inl rfl,rfl⟩|exact ⟨Or.inr rfl,rfl⟩),rfl⟩,?_⟩)|(refine qy S rfl rfl ?_<;>refine qf ⟨⟨by (first|exact True.intro|exact Or.inl rfl|exact Or.inr rfl|exact Or.inr (congrArg some (qB _ _ _ _))|exact ⟨Or.inl rfl,rfl⟩|exact ⟨Or.inr rfl,rfl⟩),rfl⟩,?_⟩)|(refine qU S ?_<;>refine qf ⟨⟨by (first|exact True.intro|exact Or.inl rfl|exact Or.inr rfl|exact Or.inr (congrArg some (qB _ _ _ _))|exact ⟨Or.inl rfl,rfl⟩|exact ⟨Or.inr rfl,rfl⟩),rfl⟩,?_⟩)|(refine lH S ?_<;>refine qf ⟨⟨by (first|exact True.intro|exact Or.inl rfl|exact Or.inr rfl|exact Or.inr (congrArg some (qB _ _ _ _))|exact ⟨Or.inl rfl,rfl⟩|exact ⟨Or.inr rfl,rfl⟩),rfl⟩,?_⟩)))
    ((refine qK ?_;first|refine qE rfl rfl rfl rfl rfl ((ZC S.wf rv v r r (Hs.qb9 (v:=rv) S hus hR1 hR2 hR3) (HR.ext w S.ext)).mono ?_));rintro _ h ⟨⟨rfl,z⟩|⟨rfl,z⟩,x⟩)<;>((refine qf ⟨⟨True.intro,?_⟩,?_⟩;(focus ((show keepsX _ _ _ _ _;simp only [keepsX];(repeat' (first|exact True.intro|refine And.intro ?_ ?_));all_goals (intro hw;first|exact True.intro|exact rfl|exact x.ext.old _ S.bB|exact x.ext.old _ (S.bR (by first|omega|grind))|exact x.ext.old _ (S.bX (by assumption) (by assumption) (by first|omega|grind))|exact x.ext.old _ (S.bY (by assumption) (by assumption))|(refine x.ext.old _ ?_;assumption)|exact absurd hw (by decide +kernel))))));replace S:=S.qW x;clear x;refine qK ?_;(first|(refine mv ?_<;>refine qf ⟨⟨by (first|exact True.intro|exact Or.inl rfl|exact Or.inr rfl|exact Or.inr (congrArg some (qB _ _ _ _))|exact ⟨Or.inl rfl,rfl⟩|exact ⟨Or.inr rfl,rfl⟩),rfl⟩,?_⟩));refine Xb ?_)
    all_goals first|exact absurd rfl z|skip
    all_goals (repeat' (first|refine qw ?_|refine qh rfl ?_|refine qi ?_|refine qp ?_|refine qg ?_|refine qj ?_|refine qo ?_))
    refine qI ⟨_,rfl,?_⟩
    exact ⟨rfl,S.drop⟩
end Go.Proofs.Xx
namespace Go.Proofs.Xx
open Go Go.Proofs
set_option linter.unusedSimpArgs false
set_option linter.unusedVariables false
set_option linter.unusedSectionVars false
set_option maxRecDepth 100000
set_option maxHeartbeats 4000000
variable [Flag]
theorem Wu {h0:AH} (w:WfH h0) (v:RlV) (r:Rl) (HF:RlFit h0 v r) (hcap:Jl v.vg.val):Fn Tryz.prog Xh 12 [v.val] h0 (fun u _=>u = .bool true):=by
 have S:=Hs.start w
 have HR:=HF.ok
 have hR1:=HR.lg
 have hR2:=HR.lt
 have hR3:∀ g∈r.us,g.tg.length≤9223372036854775807:=fun g hg=>by
  obtain ⟨i,hi,rfl⟩:=qR.1 hg
  have:=HR.len
  rw [← HR.at_ (show i<v.gs.length by omega)]
  exact (HR.tg i (by omega)).2
 refine zg rfl Tryz.func12 rfl rfl ?_
 unfold RlV.val
 all_goals (repeat' (first|refine qw ?_|refine qh rfl ?_|refine qi ?_|refine qp ?_|refine qg ?_|refine qj ?_|refine qo ?_|(refine qc 0 ?_;(refine bx S ?_;clear S;intro b h S);refine mv ?_;refine qf ?_)))
 obtain ⟨b1,hnm⟩:∃ x,x=b:=⟨_,rfl⟩;subst hnm
 replace S:Hs h0 h (.blk b1 [v.vg.val,v.vt.val] 32 :: []):=S
 all_goals (repeat' (first|refine qw ?_|refine qh rfl ?_|refine qi ?_|refine qp ?_|refine qg ?_|refine qj ?_|refine qo ?_|(refine qc 1 ?_;(first|refine lB S rfl rfl ?_|refine qy S rfl rfl ?_|refine qU S ?_|refine lH S ?_))))
 (refine qE rfl rfl rfl rfl rfl ((qaJ S.wf v r (HR.ext w S.ext)).mono ?_);rintro _ h ⟨⟨rfl,hb⟩|⟨rfl,hb⟩,x⟩)<;>(replace S:=S.qW x;clear x;refine vl ?_;refine qf ?_)
 rotate_left
 ·all_goals (repeat' (first|refine qw ?_|refine qh rfl ?_|refine qi ?_|refine qp ?_|refine qg ?_|refine qj ?_|refine qo ?_|(refine qc 1 ?_;(first|refine lB S rfl rfl ?_|refine qy S rfl rfl ?_|refine qU S ?_|refine lH S ?_))|(refine qc 2 ?_;skip)))
  (refine qE rfl rfl rfl rfl rfl ((YR S.wf).mono ?_);rintro _ h ⟨rfl,x⟩)<;>(replace S:=S.qW x;clear x;refine mv ?_;refine qf ?_)
  all_goals (repeat' (first|refine qw ?_|refine qh rfl ?_|refine qi ?_|refine qp ?_|refine qg ?_|refine qj ?_|refine qo ?_|(refine qc 0 ?_;(refine bx S ?_;clear S;intro b h S);refine mv ?_;refine qf ?_)|(refine qc 1 ?_;(first|refine lB S rfl rfl ?_|refine qy S rfl rfl ?_|refine qU S ?_|refine lH S ?_))|(refine qc 2 ?_;skip)|(refine qc 3 ?_;(first|refine lB S rfl rfl ?_|refine qy S rfl rfl ?_|refine qU S ?_|refine lH S ?_))))
  refine qI ⟨_,rfl,?_⟩
  rfl
 all_goals (repeat' (first|refine qw ?_|refine qh rfl ?_|refine qi ?_|refine qp ?_|refine qg ?_|refine qj ?_|refine qo ?_|(refine qc 1 ?_;(first|refine lB S rfl rfl ?_|refine qy S rfl rfl ?_|refine qU S ?_|refine lH S ?_))|(refine qc 3 ?_;(first|refine lB S rfl rfl ?_|refine qy S rfl rfl ?_|refine qU S ?_|refine lH S ?_))))
 (refine qE rfl rfl rfl rfl rfl ((qcx S.wf v r (HF.ext w S.ext)).mono ?_);rintro _ h ⟨⟨vg,vt,gs⟩,rfl,g2,x⟩)<;>(replace S:=S.join x;clear x;dsimp only [pI,List.cons_append,List.nil_append] at S;unfold RlV.val;dsimp only;(refine al S ?_;clear S;intro b h S);(first|(refine sB S rfl rfl ?_;clear S;intro h S)|(refine zS S rfl rfl ?_;clear S;intro h S));refine qf ?_)
 obtain ⟨b2,hnm⟩:∃ x,x=b:=⟨_,rfl⟩;subst hnm
 replace S:Hs h0 h (.blk b2 [vg.val,vt.val] 32 :: .sl vg.val 24 9 eG gs :: .sl vt.val 111 3 jK r.ts :: JI gs :: .blk b1 [v.vg.val,v.vt.val] 32 :: []):=S
 have hgs:gs.length=r.us.length:=by rw [← g2,List.length_map]
 have R1:RlOk h ⟨vg,vt,gs⟩ r:=Hs.qb9 (v:=⟨vg,vt,gs⟩) (rs:=[]) (show Hs h0 h [.sl vg.val 24 9 eG gs,.sl vt.val 111 3 jK r.ts,JI gs] from S.pick) g2 hR1 hR2 hR3
 have w1:=S.wf
 have e0:=Ext.refl S.wf
 obtain ⟨hc,hhc⟩:∃ hc,hc=h:=⟨_,rfl⟩
 rw [← hhc] at R1 w1
 have xc:Ext hc h:=by rw [hhc];exact e0
 all_goals (repeat' (first|refine qw ?_|refine qh rfl ?_|refine qi ?_|refine qp ?_|refine qg ?_|refine qj ?_|refine qo ?_|(refine qc 4 ?_;(first|refine lB S rfl rfl ?_|refine qy S rfl rfl ?_|refine qU S ?_|refine lH S ?_))))
 (refine qE rfl rfl rfl rfl rfl ((Ph S.wf ⟨vg,vt,gs⟩ r (R1.ext w1 xc)).mono ?_);rintro _ h ⟨⟨rfl,hV⟩|⟨i0,e0',rfl,hB⟩,x⟩)<;>(replace xc:=xc.trans x.ext;replace S:=S.qW x;clear x;refine mv ?_;refine vl ?_;refine vl ?_;refine mv ?_;refine mv ?_;refine qf ?_)
 ·have H:=qbG.1 hV
  skip
  all_goals (repeat' (first|refine qw ?_|refine qh rfl ?_|refine qi ?_|refine qp ?_|refine qg ?_|refine qj ?_|refine qo ?_|(refine qc 5 ?_;(first|refine lB S rfl rfl ?_|refine qy S rfl rfl ?_|refine qU S ?_|refine lH S ?_))))
  (refine qE rfl rfl rfl rfl rfl ((yR S.wf ⟨vg,vt,gs⟩ r (R1.ext w1 xc)).mono ?_);rintro _ h (⟨p,rfl,hv2,x⟩|⟨i2,e2,rfl,hB2,x⟩))<;>(refine mv ?_;refine vl ?_;refine vl ?_;refine vl ?_;(iterate 3 refine mv ?_);refine qf ?_)
  rotate_left
  ·exact absurd hV hB2.not
  have xc:=xc.trans x.ext
  replace S:=S.join x;clear x;dsimp only [List.cons_append,List.nil_append] at S
  all_goals (repeat' (first|refine qw ?_|refine qh rfl ?_|refine qi ?_|refine qp ?_|refine qg ?_|refine qj ?_|refine qo ?_|(refine qc 5 ?_;(first|refine lB S rfl rfl ?_|refine qy S rfl rfl ?_|refine qU S ?_|refine lH S ?_))))
  skip
  all_goals (repeat' (first|refine qw ?_|refine qh rfl ?_|refine qi ?_|refine qp ?_|refine qg ?_|refine qj ?_|refine qo ?_|(refine qc 6 ?_;(first|refine lB S rfl rfl ?_|refine qy S rfl rfl ?_|refine qU S ?_|refine lH S ?_))))
  (refine qE rfl rfl rfl rfl rfl ((xI S.wf v r (HR.ext w S.ext) hcap hb).mono ?_);rintro _ h ⟨⟨rfl,hv3⟩|⟨i3,e3,rfl,hB3⟩,x⟩)<;>(replace xc:=xc.trans x.ext;replace S:=S.qW x;clear x;refine mv ?_;refine vl ?_;refine vl ?_;refine mv ?_;refine mv ?_;refine qf ?_)
  rotate_left
  ·exact absurd hV hB3.not
  skip
  all_goals (repeat' (first|refine qw ?_|refine qh rfl ?_|refine qi ?_|refine qp ?_|refine qg ?_|refine qj ?_|refine qo ?_|(refine qc 7 ?_;refine mv ?_;refine mv ?_;(first|refine cT ?_|refine cF ?_|(refine cS ?_ ?_<;>intro hc))<;>(refine mv ?_;(first|refine off ?_|refine mv ?_);(first|refine off ?_|refine mv ?_);(first|refine off ?_|(first|refine cT ?_|refine cF ?_|(refine cS ?_ ?_<;>intro hc)))<;>(refine vl ?_;refine mv ?_;(first|refine off ?_|refine mv ?_);(first|refine off ?_|refine mv ?_);(first|refine off ?_|(first|refine cT ?_|refine cF ?_|(refine cS ?_ ?_<;>intro hc)))<;>(refine vl ?_;refine mv ?_;(first|refine off ?_|refine mv ?_);(first|refine off ?_|refine mv ?_);(first|refine off ?_|(first|refine cT ?_|refine cF ?_|(refine cS ?_ ?_<;>intro hc)))<;>(refine vl ?_;refine mv ?_;(first|refine off ?_|refine mv ?_);(first|refine off ?_|refine vl ?_);(first|refine off ?_|refine mv ?_);(first|refine off ?_|(first|refine cT ?_|refine cF ?_|(refine cS ?_ ?_<;>intro hc)))<;>((first|refine off ?_|refine vl ?_);refine vl ?_;refine mv ?_;(first|refine off ?_|(first|refine lB S rfl rfl ?_|refine qy S rfl rfl ?_|refine qU S ?_|refine lH S ?_));(first|refine off ?_|(first|refine lB S rfl rfl ?_|refine qy S rfl rfl ?_|refine qU S ?_|refine lH S ?_));(first|(refine off ?_;(first|refine off ?_|refine vl ?_);refine vl ?_;refine qf ?_)|skip)))))))))
  (refine qE rfl rfl rfl rfl rfl ((ZC S.wf ⟨vg,vt,gs⟩ v r r (R1.ext w1 xc) (HR.ext w S.ext)).mono ?_);rintro _ h ⟨⟨rfl,z⟩|⟨rfl,z⟩,x⟩)<;>(replace S:=S.qW x;clear x;(first|refine off ?_|refine vl ?_);refine vl ?_;refine qf ?_)
  all_goals first|exact absurd rfl z|skip
  clear R1
  all_goals (repeat' (first|refine qw ?_|refine qh rfl ?_|refine qi ?_|refine qp ?_|refine qg ?_|refine qj ?_|refine qo ?_|(refine qc 9 ?_;refine mv ?_;refine qf ?_)))
  obtain ⟨n,hn⟩:∃ n,n=r.us.length:=⟨_,rfl⟩
  refine qM (σ:=Nat×List Ze×List Ze) (fun (i,ks,ms) h'=>Hs h0 h' [.blk b2 [vg.val,vt.val] 32,.sl vg.val 24 9 eG ks,JI ms,QE p r,.blk b1 [v.vg.val,v.vt.val] 32]∧i≤n∧ks.length=n∧ms.length=n∧∀ k,k<n→(ks.getD k default).tv=(ms.getD k default).tv∧(ms.getD k default).tg.length≤9223372036854775807) (fun (i,ks,ms)=>n - i) (fun (i,ks,ms)=>[(1,.pointer (some ⟨b1,0,none⟩)),(3,.pointer (some ⟨b2,0,none⟩)),(6,.pointer (some ⟨p,0,none⟩)),(11,.int .i64 i)]) (0,gs,gs) (by repeat (first|exact Ks.le_nil _|refine Ks.qx rfl ?_|refine Ks.qA ?_)) ?_ ?_
  ·refine ⟨S.pick,Nat.zero_le _,by omega,by omega,fun k hk=>⟨rfl,?_⟩⟩
   exact hR3 _ (by rw [← g2];exact List.mem_map.2 ⟨_,qQ (show k<gs.length by omega),rfl⟩)
  clear S
  rintro ⟨i,ks,ms⟩ h ⟨S,i1,i2,i3,i4⟩
  all_goals (repeat' (first|refine qw ?_|refine qh rfl ?_|refine qi ?_|refine qp ?_|refine qg ?_|refine qj ?_|refine qo ?_|(refine qc 10 ?_;refine mv ?_;(first|refine vl ?_|refine fB S ?_|refine fS S rfl rfl ?_|refine fA ?_);(first|refine lB S rfl rfl ?_|refine qy S rfl rfl ?_|refine qU S ?_|refine lH S ?_);(first|refine jA S ?_|refine jZ S rfl rfl ?_);(first|refine cT ?_|refine cF ?_|(refine cS ?_ ?_<;>intro hc))<;>(refine qf ?_))|(refine qc 12 ?_;refine mv ?_;refine qf ?_)))
  ·have hik:i<ks.length:=by omega
   have him:i<ms.length:=by omega
   obtain ⟨e1,e2⟩:=i4 i (by omega)
   have S:=(show Hs h0 h (JI ms :: .blk b2 [vg.val,vt.val] 32 :: .sl vg.val 24 9 eG ks :: QE p r :: .blk b1 [v.vg.val,v.vt.val] 32 :: []) from S.pick)
   replace S:=S.gq him
   rw [show Zq (ms.getD i default)=Rs.sl (ks.getD i default).tv.val 9 1 eS (ms.getD i default).tg by unfold Zq;rw [e1]] at S
   refine qM (σ:=Nat×List (List UInt8)) (fun (j,l) h'=>Hs h0 h' [.sl (ks.getD (Int.ofNat i).toNat default).tv.val 9 1 eS l,JI (ms.take i ++ ms.drop (i+1)),.blk b2 [vg.val,vt.val] 32,.sl vg.val 24 9 eG ks,QE p r,.blk b1 [v.vg.val,v.vt.val] 32]∧j≤l.length∧l.length≤9223372036854775807) (fun (j,l)=>l.length - j) (fun (j,l)=>[(1,.pointer (some ⟨b1,0,none⟩)),(3,.pointer (some ⟨b2,0,none⟩)),(6,.pointer (some ⟨p,0,none⟩)),(11,.int .i64 i),(12,.int .i64 j)]) (0,(ms.getD i default).tg) (by repeat (first|exact Ks.le_nil _|refine Ks.qx rfl ?_|refine Ks.qA ?_)) ?_ ?_
   ·exact ⟨S,Nat.zero_le _,e2⟩
   clear S
   rintro ⟨j,l⟩ h ⟨S,j1,j2⟩
   all_goals (repeat' (first|refine qw ?_|refine qh rfl ?_|refine qi ?_|refine qp ?_|refine qg ?_|refine qj ?_|refine qo ?_|(refine qc 13 ?_;refine mv ?_;(first|refine vl ?_|refine fB S ?_|refine fS S rfl rfl ?_|refine fA ?_);(first|refine lB S rfl rfl ?_|refine qy S rfl rfl ?_|refine qU S ?_|refine lH S ?_);refine mv ?_;(first|refine zK S ?_|refine qC S rfl rfl ?_);(first|refine vl ?_|refine fB S ?_|refine fS S rfl rfl ?_|refine fA ?_);(first|refine lB S rfl rfl ?_|refine qy S rfl rfl ?_|refine qU S ?_|refine lH S ?_);(first|refine jA S ?_|refine jZ S rfl rfl ?_);(first|refine cT ?_|refine cF ?_|(refine cS ?_ ?_<;>intro hc))<;>(refine qf ?_))))
   ·have hjl:j<l.length:=by omega
    all_goals (repeat' (first|refine qw ?_|refine qh rfl ?_|refine qi ?_|refine qp ?_|refine qg ?_|refine qj ?_|refine qo ?_|(refine qc 15 ?_;(first|refine vl ?_|refine fB S ?_|refine fS S rfl rfl ?_|refine fA ?_);(first|refine lB S rfl rfl ?_|refine qy S rfl rfl ?_|refine qU S ?_|refine lH S ?_);refine mv ?_;(first|refine zK S ?_|refine qC S rfl rfl ?_);(first|refine vl ?_|refine fB S ?_|refine fS S rfl rfl ?_|refine fA ?_);(first|refine lB S rfl rfl ?_|refine qy S rfl rfl ?_|refine qU S ?_|refine lH S ?_);refine mv ?_;(first|refine zK S ?_|refine qC S rfl rfl ?_);(first|(refine sB S rfl rfl ?_;clear S;intro h S)|(refine zS S rfl rfl ?_;clear S;intro h S));refine qf ?_)))
    simp only [Int.toNat_natCast] at S
    all_goals (repeat' (first|refine qw ?_|refine qh rfl ?_|refine qi ?_|refine qp ?_|refine qg ?_|refine qj ?_|refine qo ?_|(refine qc 14 ?_;refine mv ?_;(first|refine ad ?_|refine vl ?_);refine mv ?_;refine qf ?_)))
    refine ⟨(j+1,l.set j [120]),?_,?_,(by repeat (first|exact Ks.le_nil _|refine Ks.qx rfl ?_|refine Ks.qA ?_))⟩
    ·show (l.set j _).length - (j+1)<l.length - j;rw [List.length_set];omega
    ·refine ⟨S,?_,?_⟩<;>(try dsimp only)<;>rw [List.length_set]<;>omega
   ·skip
    (repeat (refine qw ?_));refine qc 16 ?_;refine vl ?_;refine lB S rfl rfl ?_;refine mv ?_;refine qC S rfl rfl ?_;refine fS S rfl rfl ?_
    refine zS (y:={ ks.getD (Int.ofNat i).toNat default with diet:=[120] }) S rfl rfl ?_;clear S;intro h S
    (refine qf ?_)
    all_goals (repeat' (first|refine qw ?_|refine qh rfl ?_|refine qi ?_|refine qp ?_|refine qg ?_|refine qj ?_|refine qo ?_|(refine qc 11 ?_;refine mv ?_;(first|refine ad ?_|refine vl ?_);refine mv ?_;refine qf ?_)))
    refine ⟨(i+1,ks.set i { ks.getD i default with diet:=[120] },ms.set i { ms.getD i default with tg:=l }),?_,?_,(by repeat (first|exact Ks.le_nil _|refine Ks.qx rfl ?_|refine Ks.qA ?_))⟩
    ·show n - (i+1)<n - i;omega
    ·have S1:Hs h0 h (.sl (ms.getD i default).tv.val 9 1 eS l :: JI (ms.take i ++ ms.drop (i+1)) :: .blk b2 [vg.val,vt.val] 32 :: .sl vg.val 24 9 eG (ks.set i { ks.getD i default with diet:=[120] }) :: QE p r :: .blk b1 [v.vg.val,v.vt.val] 32 :: []):=by rw [← e1];exact S
     have S2:=Hs.kZ (g:={ ms.getD i default with tg:=l }) S1 him
     refine ⟨S2.pick,by (try dsimp only);omega,by simpa using i2,by simpa using i3,fun k hk=>?_⟩
     by_cases q:i=k
     ·subst q
      simp only [List.getD_eq_getElem?_getD,List.getElem?_set,if_pos hik,if_pos him,if_true,Option.getD_some]
      exact ⟨by simpa [List.getD_eq_getElem?_getD] using e1,j2⟩
     ·simp only [List.getD_eq_getElem?_getD,List.getElem?_set,if_neg q]
      simpa [List.getD_eq_getElem?_getD] using i4 k hk
  ·skip
   all_goals (repeat' (first|refine qw ?_|refine qh rfl ?_|refine qi ?_|refine qp ?_|refine qg ?_|refine qj ?_|refine qo ?_|(refine qc 17 ?_;refine mv ?_;refine vl ?_;refine mv ?_;(first|refine off ?_|refine mv ?_);(first|refine off ?_|(first|refine lB S rfl rfl ?_|refine qy S rfl rfl ?_|refine qU S ?_|refine lH S ?_));(first|(refine off ?_;(first|refine off ?_|refine mv ?_);(first|refine off ?_|refine mv ?_);(first|refine off ?_|(first|refine lB S rfl rfl ?_|refine qy S rfl rfl ?_|refine qU S ?_|refine lH S ?_));(first|(refine off ?_;(first|refine off ?_|refine vl ?_);refine vl ?_;refine mv ?_;(first|(refine off ?_;refine vl ?_;refine mv ?_;refine qf ?_)|skip))|skip))|skip))))
   (refine qE rfl rfl rfl rfl rfl ((qa8 S.wf (Hs.qdA (S.pick:Hs _ h [QE p r])) v (HR.ext w S.ext) H).mono ?_);rintro _ h ⟨rfl,x⟩)<;>(replace S:=S.qW x;clear x;(first|refine off ?_|refine mv ?_);(first|refine off ?_|refine mv ?_);(first|refine off ?_|(first|refine lB S rfl rfl ?_|refine qy S rfl rfl ?_|refine qU S ?_|refine lH S ?_));(first|(refine off ?_;(first|refine off ?_|refine vl ?_);refine vl ?_;refine mv ?_;(first|(refine off ?_;refine vl ?_;refine mv ?_;refine qf ?_)|skip))|skip))
   (refine qE rfl rfl rfl rfl rfl ((qaX S.wf (Hs.qdA (S.pick:Hs _ h [QE p r])) v (HR.ext w S.ext) H).mono ?_);rintro _ h ⟨rfl,x⟩)<;>(replace S:=S.qW x;clear x;(first|refine off ?_|refine vl ?_);refine vl ?_;refine mv ?_;(first|(refine off ?_;refine vl ?_;refine mv ?_;refine qf ?_)|skip))
   (refine qE rfl rfl rfl rfl rfl ((YR S.wf).mono ?_);rintro _ h ⟨rfl,x⟩)<;>(replace S:=S.qW x;clear x;refine vl ?_;refine mv ?_;refine qf ?_)
   all_goals (repeat' (first|refine qw ?_|refine qh rfl ?_|refine qi ?_|refine qp ?_|refine qg ?_|refine qj ?_|refine qo ?_|(refine qc 17 ?_;refine mv ?_;refine vl ?_;refine mv ?_;(first|refine off ?_|refine mv ?_);(first|refine off ?_|(first|refine lB S rfl rfl ?_|refine qy S rfl rfl ?_|refine qU S ?_|refine lH S ?_));(first|(refine off ?_;(first|refine off ?_|refine mv ?_);(first|refine off ?_|refine mv ?_);(first|refine off ?_|(first|refine lB S rfl rfl ?_|refine qy S rfl rfl ?_|refine qU S ?_|refine lH S ?_));(first|(refine off ?_;(first|refine off ?_|refine vl ?_);refine vl ?_;refine mv ?_;(first|(refine off ?_;refine vl ?_;refine mv ?_;refine qf ?_)|skip))|skip))|skip))))
   refine qI ⟨_,rfl,?_⟩
   rfl
 ·have he:e0'≠0:=hB.1
  skip
  all_goals (repeat' (first|refine qw ?_|refine qh rfl ?_|refine qi ?_|refine qp ?_|refine qg ?_|refine qj ?_|refine qo ?_|(refine qc 5 ?_;(first|refine lB S rfl rfl ?_|refine qy S rfl rfl ?_|refine qU S ?_|refine lH S ?_))))
  (refine qE rfl rfl rfl rfl rfl ((yR S.wf ⟨vg,vt,gs⟩ r (R1.ext w1 xc)).mono ?_);rintro _ h (⟨p,rfl,hv2,x⟩|⟨i2,e2,rfl,hB2,x⟩))<;>(refine mv ?_;refine vl ?_;refine vl ?_;refine vl ?_;(iterate 3 refine mv ?_);refine qf ?_)
  ·exact absurd hv2 hB.not
  obtain ⟨rfl,rfl⟩:=hB.uniq hB2
  have xc:=xc.trans x.ext
  replace S:=S.join x;clear x;dsimp only [List.cons_append,List.nil_append] at S
  all_goals (repeat' (first|refine qw ?_|refine qh rfl ?_|refine qi ?_|refine qp ?_|refine qg ?_|refine qj ?_|refine qo ?_|(refine qc 5 ?_;(first|refine lB S rfl rfl ?_|refine qy S rfl rfl ?_|refine qU S ?_|refine lH S ?_))))
  skip
  all_goals (repeat' (first|refine qw ?_|refine qh rfl ?_|refine qi ?_|refine qp ?_|refine qg ?_|refine qj ?_|refine qo ?_|(refine qc 6 ?_;(first|refine lB S rfl rfl ?_|refine qy S rfl rfl ?_|refine qU S ?_|refine lH S ?_))))
  (refine qE rfl rfl rfl rfl rfl ((xI S.wf v r (HR.ext w S.ext) hcap hb).mono ?_);rintro _ h ⟨⟨rfl,hv3⟩|⟨i3,e3,rfl,hB3⟩,x⟩)<;>(replace xc:=xc.trans x.ext;replace S:=S.qW x;clear x;refine mv ?_;refine vl ?_;refine vl ?_;refine mv ?_;refine mv ?_;refine qf ?_)
  ·exact absurd hv3 hB.not
  obtain ⟨rfl,rfl⟩:=hB.uniq hB3
  skip
  all_goals (repeat' (first|refine qw ?_|refine qh rfl ?_|refine qi ?_|refine qp ?_|refine qg ?_|refine qj ?_|refine qo ?_|(refine qc 7 ?_;refine mv ?_;refine mv ?_;(first|refine cT ?_|refine cF ?_|(refine cS ?_ ?_<;>intro hc))<;>(refine mv ?_;(first|refine off ?_|refine mv ?_);(first|refine off ?_|refine mv ?_);(first|refine off ?_|(first|refine cT ?_|refine cF ?_|(refine cS ?_ ?_<;>intro hc)))<;>(refine vl ?_;refine mv ?_;(first|refine off ?_|refine mv ?_);(first|refine off ?_|refine mv ?_);(first|refine off ?_|(first|refine cT ?_|refine cF ?_|(refine cS ?_ ?_<;>intro hc)))<;>(refine vl ?_;refine mv ?_;(first|refine off ?_|refine mv ?_);(first|refine off ?_|refine mv ?_);(first|refine off ?_|(first|refine cT ?_|refine cF ?_|(refine cS ?_ ?_<;>intro hc)))<;>(refine vl ?_;refine mv ?_;(first|refine off ?_|refine mv ?_);(first|refine off ?_|refine vl ?_);(first|refine off ?_|refine mv ?_);(first|refine off ?_|(first|refine cT ?_|refine cF ?_|(refine cS ?_ ?_<;>intro hc)))<;>((first|refine off ?_|refine vl ?_);refine vl ?_;refine mv ?_;(first|refine off ?_|(first|refine lB S rfl rfl ?_|refine qy S rfl rfl ?_|refine qU S ?_|refine lH S ?_));(first|refine off ?_|(first|refine lB S rfl rfl ?_|refine qy S rfl rfl ?_|refine qU S ?_|refine lH S ?_));(first|(refine off ?_;(first|refine off ?_|refine vl ?_);refine vl ?_;refine qf ?_)|skip)))))))))
  (refine qE rfl rfl rfl rfl rfl ((ZC S.wf ⟨vg,vt,gs⟩ v r r (R1.ext w1 xc) (HR.ext w S.ext)).mono ?_);rintro _ h ⟨⟨rfl,z⟩|⟨rfl,z⟩,x⟩)<;>(replace S:=S.qW x;clear x;(first|refine off ?_|refine vl ?_);refine vl ?_;refine qf ?_)
  all_goals first|exact absurd rfl z|skip
  clear R1
  all_goals (repeat' (first|refine qw ?_|refine qh rfl ?_|refine qi ?_|refine qp ?_|refine qg ?_|refine qj ?_|refine qo ?_|(refine qc 9 ?_;refine mv ?_;refine qf ?_)))
  obtain ⟨n,hn⟩:∃ n,n=r.us.length:=⟨_,rfl⟩
  refine qM (σ:=Nat×List Ze×List Ze) (fun (i,ks,ms) h'=>Hs h0 h' [.blk b2 [vg.val,vt.val] 32,.sl vg.val 24 9 eG ks,JI ms,.blk b1 [v.vg.val,v.vt.val] 32]∧i≤n∧ks.length=n∧ms.length=n∧∀ k,k<n→(ks.getD k default).tv=(ms.getD k default).tv∧(ms.getD k default).tg.length≤9223372036854775807) (fun (i,ks,ms)=>n - i) (fun (i,ks,ms)=>[(1,.pointer (some ⟨b1,0,none⟩)),(3,.pointer (some ⟨b2,0,none⟩)),(6,.pointer none),(11,.int .i64 i)]) (0,gs,gs) (by repeat (first|exact Ks.le_nil _|refine Ks.qx rfl ?_|refine Ks.qA ?_)) ?_ ?_
  ·refine ⟨S.pick,Nat.zero_le _,by omega,by omega,fun k hk=>⟨rfl,?_⟩⟩
   exact hR3 _ (by rw [← g2];exact List.mem_map.2 ⟨_,qQ (show k<gs.length by omega),rfl⟩)
  clear S
  rintro ⟨i,ks,ms⟩ h ⟨S,i1,i2,i3,i4⟩
  all_goals (repeat' (first|refine qw ?_|refine qh rfl ?_|refine qi ?_|refine qp ?_|refine qg ?_|refine qj ?_|refine qo ?_|(refine qc 10 ?_;refine mv ?_;(first|refine vl ?_|refine fB S ?_|refine fS S rfl rfl ?_|refine fA ?_);(first|refine lB S rfl rfl ?_|refine qy S rfl rfl ?_|refine qU S ?_|refine lH S ?_);(first|refine jA S ?_|refine jZ S rfl rfl ?_);(first|refine cT ?_|refine cF ?_|(refine cS ?_ ?_<;>intro hc))<;>(refine qf ?_))|(refine qc 12 ?_;refine mv ?_;refine qf ?_)))
  ·have hik:i<ks.length:=by omega
   have him:i<ms.length:=by omega
   obtain ⟨e1,e2⟩:=i4 i (by omega)
   have S:=(show Hs h0 h (JI ms :: .blk b2 [vg.val,vt.val] 32 :: .sl vg.val 24 9 eG ks :: .blk b1 [v.vg.val,v.vt.val] 32 :: []) from S.pick)
   replace S:=S.gq him
   rw [show Zq (ms.getD i default)=Rs.sl (ks.getD i default).tv.val 9 1 eS (ms.getD i default).tg by unfold Zq;rw [e1]] at S
   refine qM (σ:=Nat×List (List UInt8)) (fun (j,l) h'=>Hs h0 h' [.sl (ks.getD (Int.ofNat i).toNat default).tv.val 9 1 eS l,JI (ms.take i ++ ms.drop (i+1)),.blk b2 [vg.val,vt.val] 32,.sl vg.val 24 9 eG ks,.blk b1 [v.vg.val,v.vt.val] 32]∧j≤l.length∧l.length≤9223372036854775807) (fun (j,l)=>l.length - j) (fun (j,l)=>[(1,.pointer (some ⟨b1,0,none⟩)),(3,.pointer (some ⟨b2,0,none⟩)),(6,.pointer none),(11,.int .i64 i),(12,.int .i64 j)]) (0,(ms.getD i default).tg) (by repeat (first|exact Ks.le_nil _|refine Ks.qx rfl ?_|refine Ks.qA ?_)) ?_ ?_
   ·exact ⟨S,Nat.zero_le _,e2⟩
   clear S
   rintro ⟨j,l⟩ h ⟨S,j1,j2⟩
   all_goals (repeat' (first|refine qw ?_|refine qh rfl ?_|refine qi ?_|refine qp ?_|refine qg ?_|refine qj ?_|refine qo ?_|(refine qc 13 ?_;refine mv ?_;(first|refine vl ?_|refine fB S ?_|refine fS S rfl rfl ?_|refine fA ?_);(first|refine lB S rfl rfl ?_|refine qy S rfl rfl ?_|refine qU S ?_|refine lH S ?_);refine mv ?_;(first|refine zK S ?_|refine qC S rfl rfl ?_);(first|refine vl ?_|refine fB S ?_|refine fS S rfl rfl ?_|refine fA ?_);(first|refine lB S rfl rfl ?_|refine qy S rfl rfl ?_|refine qU S ?_|refine lH S ?_);(first|refine jA S ?_|refine jZ S rfl rfl ?_);(first|refine cT ?_|refine cF ?_|(refine cS ?_ ?_<;>intro hc))<;>(refine qf ?_))))
   ·have hjl:j<l.length:=by omega
    all_goals (repeat' (first|refine qw ?_|refine qh rfl ?_|refine qi ?_|refine qp ?_|refine qg ?_|refine qj ?_|refine qo ?_|(refine qc 15 ?_;(first|refine vl ?_|refine fB S ?_|refine fS S rfl rfl ?_|refine fA ?_);(first|refine lB S rfl rfl ?_|refine qy S rfl rfl ?_|refine qU S ?_|refine lH S ?_);refine mv ?_;(first|refine zK S ?_|refine qC S rfl rfl ?_);(first|refine vl ?_|refine fB S ?_|refine fS S rfl rfl ?_|refine fA ?_);(first|refine lB S rfl rfl ?_|refine qy S rfl rfl ?_|refine qU S ?_|refine lH S ?_);refine mv ?_;(first|refine zK S ?_|refine qC S rfl rfl ?_);(first|(refine sB S rfl rfl ?_;clear S;intro h S)|(refine zS S rfl rfl ?_;clear S;intro h S));refine qf ?_)))
    simp only [Int.toNat_natCast] at S
    all_goals (repeat' (first|refine qw ?_|refine qh rfl ?_|refine qi ?_|refine qp ?_|refine qg ?_|refine qj ?_|refine qo ?_|(refine qc 14 ?_;refine mv ?_;(first|refine ad ?_|refine vl ?_);refine mv ?_;refine qf ?_)))
    refine ⟨(j+1,l.set j [120]),?_,?_,(by repeat (first|exact Ks.le_nil _|refine Ks.qx rfl ?_|refine Ks.qA ?_))⟩
    ·show (l.set j _).length - (j+1)<l.length - j;rw [List.length_set];omega
    ·refine ⟨S,?_,?_⟩<;>(try dsimp only)<;>rw [List.length_set]<;>omega
   ·skip
    (repeat (refine qw ?_));refine qc 16 ?_;refine vl ?_;refine lB S rfl rfl ?_;refine mv ?_;refine qC S rfl rfl ?_;refine fS S rfl rfl ?_
    refine zS (y:={ ks.getD (Int.ofNat i).toNat default with diet:=[120] }) S rfl rfl ?_;clear S;intro h S
    (refine qf ?_)
    all_goals (repeat' (first|refine qw ?_|refine qh rfl ?_|refine qi ?_|refine qp ?_|refine qg ?_|refine qj ?_|refine qo ?_|(refine qc 11 ?_;refine mv ?_;(first|refine ad ?_|refine vl ?_);refine mv ?_;refine qf ?_)))
    refine ⟨(i+1,ks.set i { ks.getD i default with diet:=[120] },ms.set i { ms.getD i default with tg:=l }),?_,?_,(by repeat (first|exact Ks.le_nil _|refine Ks.qx rfl ?_|refine Ks.qA ?_))⟩
    ·show n - (i+1)<n - i;omega
    ·have S1:Hs h0 h (.sl (ms.getD i default).tv.val 9 1 eS l :: JI (ms.take i ++ ms.drop (i+1)) :: .blk b2 [vg.val,vt.val] 32 :: .sl vg.val 24 9 eG (ks.set i { ks.getD i default with diet:=[120] }) :: .blk b1 [v.vg.val,v.vt.val] 32 :: []):=by rw [← e1];exact S
     have S2:=Hs.kZ (g:={ ms.getD i default with tg:=l }) S1 him
     refine ⟨S2.pick,by (try dsimp only);omega,by simpa using i2,by simpa using i3,fun k hk=>?_⟩
     by_cases q:i=k
     ·subst q
      simp only [List.getD_eq_getElem?_getD,List.getElem?_set,if_pos hik,if_pos him,if_true,Option.getD_some]
      exact ⟨by simpa [List.getD_eq_getElem?_getD] using e1,j2⟩
     ·simp only [List.getD_eq_getElem?_getD,List.getElem?_set,if_neg q]
      simpa [List.getD_eq_getElem?_getD] using i4 k hk
  ·skip
   all_goals (repeat' (first|refine qw ?_|refine qh rfl ?_|refine qi ?_|refine qp ?_|refine qg ?_|refine qj ?_|refine qo ?_|(refine qc 17 ?_;refine mv ?_;refine vl ?_;refine mv ?_;(first|refine off ?_|refine mv ?_);(first|refine off ?_|(first|refine lB S rfl rfl ?_|refine qy S rfl rfl ?_|refine qU S ?_|refine lH S ?_));(first|(refine off ?_;(first|refine off ?_|refine mv ?_);(first|refine off ?_|refine mv ?_);(first|refine off ?_|(first|refine lB S rfl rfl ?_|refine qy S rfl rfl ?_|refine qU S ?_|refine lH S ?_));(first|(refine off ?_;(first|refine off ?_|refine vl ?_);refine vl ?_;refine mv ?_;(first|(refine off ?_;refine vl ?_;refine mv ?_;refine qf ?_)|skip))|skip))|skip))))
   (refine qE rfl rfl rfl rfl rfl ((YR S.wf).mono ?_);rintro _ h ⟨rfl,x⟩)<;>(replace S:=S.qW x;clear x;refine vl ?_;refine mv ?_;refine qf ?_)
   all_goals (repeat' (first|refine qw ?_|refine qh rfl ?_|refine qi ?_|refine qp ?_|refine qg ?_|refine qj ?_|refine qo ?_|(refine qc 17 ?_;refine mv ?_;refine vl ?_;refine mv ?_;(first|refine off ?_|refine mv ?_);(first|refine off ?_|(first|refine lB S rfl rfl ?_|refine qy S rfl rfl ?_|refine qU S ?_|refine lH S ?_));(first|(refine off ?_;(first|refine off ?_|refine mv ?_);(first|refine off ?_|refine mv ?_);(first|refine off ?_|(first|refine lB S rfl rfl ?_|refine qy S rfl rfl ?_|refine qU S ?_|refine lH S ?_));(first|(refine off ?_;(first|refine off ?_|refine vl ?_);refine vl ?_;refine mv ?_;(first|(refine off ?_;refine vl ?_;refine mv ?_;refine qf ?_)|skip))|skip))|skip))))
   refine qI ⟨_,rfl,?_⟩
   rfl
end Go.Proofs.Xx
namespace Go.Proofs.Xx
open Go Go.RowKit
set_option linter.unusedSimpArgs false
set_option linter.unusedVariables false
section
variable {H:Type} {enc:TypeId×Value→H} {P:Program} {W W':World}
theorem Jc {α β:Type} {f g:α→Option β}:∀ {l:List α} {r:List β},l.mapM f=some r→(∀ a b,a∈l→b∈r→f a=some b→g a=some b)→l.mapM g=some r:=by
 intro l
 induction l with
 | nil=>intro r h _;simpa using h
 | cons a l ih =>
  intro r h hk
  rw [List.mapM_cons] at h ⊢
  cases hf:f a with
  | none=>rw [hf] at h;cases h
  | some b =>
   rw [hf] at h
   cases hm:l.mapM f with
   | none=>rw [hm] at h;cases h
   | some r' =>
    rw [hm] at h
    simp at h
    subst h
    rw [hk a b (by simp) (by simp) hf,ih hm fun x y hx hy=>hk x y (by simp [hx]) (by simp [hy])]
    rfl
theorem KI (hb:∀ k,k<W.heap.size→W'.heap[k]? = W.heap[k]?) {base n:Nat} {a:Addr} {cs:List Value} (h:W.cells? base a n=some cs):W'.cells? base a n=some cs:=by
 unfold World.cells? at h ⊢
 split at h
 ·rename_i hba
  rw [if_pos hba]
  refine Jc h fun i v _ _ hv=>?_
  have hlt:(a.add i).block<W.heap.size:=by
   rcases Nat.lt_or_ge (a.add i).block W.heap.size with q|q
   ·exact q
   ·have:W.cell? (a.add i)=none:=by
     unfold World.cell?
     rw [Array.getElem?_eq_none q]
    rw [this] at hv;cases hv
  rw [← hv]
  exact World.cell?_of_block (w:=W) (hb _ hlt)
 ·cases h
def xh (P:Program):List Field→Nat→Nat→Bool
 | [],at_,n=>Nat.beq at_ n
 | f :: r,at_,n=>Nat.beq f.offset at_ && xh P r (at_+P.cellsOf f.type) n
def QL (P:Program):Nat→TypeId→Bool
 | 0,_=>false
 | m+1,t=>match P.underlying t with
  | some .bool|some .string=>Nat.beq (P.cellsOf t) 1
  | some (.int _)=>Nat.beq (P.cellsOf t) 1
  | some (.slice e)=>Nat.beq (P.cellsOf t) 1 && (QL P m e && !Nat.beq (P.cellsOf e) 0)
  | some (.struct fs)=>fs.toList.all (fun f=>QL P m f.type) && xh P fs.toList 0 (P.cellsOf t)
  | some (.array n e)=>QL P m e && Nat.beq (P.cellsOf t) (n*P.cellsOf e)
  | _=>false
theorem G8 (hb:∀ k,k<W.heap.size→W'.heap[k]? = W.heap[k]?) {base:Nat} {sp:Nat→Bool} {held:Bool}:∀ (fuel m:Nat) (t:TypeId) (cs:List Value) (x:DataW H×List MemPlace),QL P m t=true →
 DataW.trod enc P W base (fun _=>true) held fuel t cs=some x→(∀ p∈x.2,sp p.block=true)→DataW.trod enc P W' base sp held fuel t cs=some x:=by
 intro fuel
 induction fuel with
 | zero=>intro m t cs x _ h _;cases h
 | succ fuel ih =>
  intro m t cs x hp h hsp
  cases m with
  | zero=>cases hp
  | succ m =>
  unfold QL at hp
  cases hu:P.underlying t with
  | none=>rw [hu] at hp;cases hp
  | some u =>
   rw [hu] at hp
   cases u with
   | bool=>obtain ⟨b,rfl,rfl⟩:=DataW.trod_bool hu h;unfold DataW.trod;rw [hu]
   | int k =>
    obtain ⟨b,rfl,rfl,hwf⟩:=DataW.trod_int hu h
    unfold DataW.trod;rw [hu]
    simp [hwf]
   | string =>
    obtain ⟨b,rfl,rfl,hs⟩:=DataW.trod_string hu h
    unfold DataW.trod;rw [hu]
    simp [hs]
   | struct fs =>
    simp only [Bool.and_eq_true,List.all_eq_true] at hp
    unfold DataW.trod at h ⊢
    rw [hu] at h ⊢
    simp only at h ⊢
    split at h
    ·rename_i hc
     rw [if_pos hc]
     simp only [Option.map_eq_some_iff] at h ⊢
     obtain ⟨xs,h1,rfl⟩:=h
     refine ⟨xs,Jc h1 fun f y hf hy hq=>ih m _ _ _ (hp.1 f hf) hq fun p hp=>hsp p ?_,rfl⟩
     simp only [List.mem_flatMap]
     exact ⟨y,hy,hp⟩
    ·cases h
   | array n e =>
    simp only [Bool.and_eq_true] at hp
    unfold DataW.trod at h ⊢
    rw [hu] at h ⊢
    simp only at h ⊢
    split at h
    ·rename_i hc
     rw [if_pos hc]
     simp only [Option.map_eq_some_iff] at h ⊢
     obtain ⟨xs,h1,rfl⟩:=h
     refine ⟨xs,Jc h1 fun f y hf hy hq=>ih m _ _ _ hp.1 hq fun p hp=>hsp p ?_,rfl⟩
     simp only [List.mem_flatMap]
     exact ⟨y,hy,hp⟩
    ·cases h
   | slice e =>
    simp only [Bool.and_eq_true,Bool.not_eq_true'] at hp
    have hz:P.cellsOf e≠0:=fun q=>by have:=hp.2.2;rw [q] at this;simp at this
    rcases DataW.trod_slice hu h with ⟨rfl,rfl⟩|⟨a,len,cap,-,-,-,-,rfl,-⟩
    ·unfold DataW.trod;rw [hu];rfl
    ·unfold DataW.trod at h ⊢
     rw [hu] at h ⊢
     simp only at h ⊢
     split at h
     ·rename_i hc
      rw [if_pos hc]
      simp only [if_true,Option.map_eq_some_iff,Option.bind_eq_some_iff] at h ⊢
      obtain ⟨elems,h1,rest,h2,rfl⟩:=h
      have key:∀ i y,y∈elems ++ rest→(W.cells? base (a.add (i*P.cellsOf e)) (P.cellsOf e)).bind (DataW.trod enc P W base (fun _=>true) held fuel e)=some y →
       (W'.cells? base (a.add (i*P.cellsOf e)) (P.cellsOf e)).bind (DataW.trod enc P W' base sp held fuel e)=some y:=by
       intro i y hy hq
       rw [Option.bind_eq_some_iff] at hq ⊢
       obtain ⟨cs',q1,q2⟩:=hq
       refine ⟨cs',KI hb q1,ih m _ _ _ hp.2.1 q2 fun p hp=>hsp p ?_⟩
       simp only [List.mem_append,List.mem_flatMap]
       exact .inr ⟨y,by simpa using hy,hp⟩
      refine ⟨elems,Jc h1 fun i y _ hy hq=>key i y (by simp [hy]) hq,rest,?_,rfl⟩
      cases hs:sp a.block with
      | true =>
       simp only [if_true]
       exact Jc h2 fun i y _ hy hq=>key (len+i) y (by simp [hy]) hq
      | false =>
       simp only [Bool.false_eq_true,if_false]
       cases rest with
       | nil=>rfl
       | cons y rest =>
        have hp':sp a.block=true:=by
         refine hsp (.cell a.block (a.off+0)) ?_
         simp only [List.mem_append]
         refine .inl ?_
         unfold MemPlace.row
         rw [List.mem_map]
         exact ⟨0,List.mem_range.2 (Nat.mul_pos (by simp only [List.length_cons];omega) (by omega)),rfl⟩
        rw [hs] at hp';cases hp'
     ·cases h
   | _=>cases hp
theorem XW (hb:∀ k,k<W.heap.size→W'.heap[k]? = W.heap[k]?) {base:Nat} {sp:Nat→Bool} {held:Bool}:∀ (ts:List TypeId) (vs:List Value) (ds:List (DataW H)) (ps:List MemPlace),ts.all (QL P 20)=true →
 DataW.TrodAll enc P W base (fun _=>true) held ts vs ds ps→(∀ p∈ps,sp p.block=true)→DataW.TrodAll enc P W' base sp held ts vs ds ps
 | [],[],[],ps,_,h,_=>h
 | t :: ts,v :: vs,d :: ds,ps,hp,h,hsp=>by
  simp only [List.all_cons,Bool.and_eq_true] at hp
  obtain ⟨p,q,⟨fuel,h1⟩,h2,rfl⟩:=h
  exact ⟨p,q,⟨fuel,G8 hb fuel 20 t _ _ hp.1 h1 fun x hx=>hsp x (by simp [hx])⟩,XW hb ts vs ds q hp.2 h2 fun x hx=>hsp x (by simp [hx]),rfl⟩
 | [],[],_ :: _,_,_,h,_=>h.elim
 | [],_ :: _,_,_,_,h,_=>h.elim
 | _ :: _,[],_,_,_,h,_=>h.elim
 | _ :: _,_ :: _,[],_,_,h,_=>h.elim
end
end Go.Proofs.Xx
