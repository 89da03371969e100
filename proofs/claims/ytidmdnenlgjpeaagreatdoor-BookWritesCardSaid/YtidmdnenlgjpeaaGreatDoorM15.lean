/-
  The reference's Format.
-/
import Derived.Test.YtidmdnenlgjpeaaGreatDoorM14
import Derived.Test.YtidmdnenlgjpeaaGreatDoorM12
import Derived.Test.YtidmdnenlgjpeaaGreatDoorM10
import Derived.Below
import Derived.ChangeSame
import Derived.ChangeArms
import Derived.OpenShut
import Derived.Test.YtidmdnenlgjpeaaGreatDoorM5
import Derived.Test.YtidmdnenlgjpeaaGreatDoorM3
import Derived.WideShapes
import Derived.ChangeShapes
import Derived.Test.YtidmdnenlgjpeaaGreatDoorM6
set_option linter.unusedSimpArgs false
set_option linter.unusedVariables false
set_option linter.unusedSectionVars false
set_option maxRecDepth 100000
set_option maxHeartbeats 4000000
namespace Go.Proofs.Xx
open Go Go.Proofs
def qcJ (g:Gu):List UInt8:=[103,117,101,115,116,32] ++ g.name ++ [32] ++ Zn g.rank ++ [32] ++ Zn g.court ++ [32] ++ JX g.since.toNat ++ [32] ++ JX g.side.toNat ++ [32] ++ Zn g.diet ++ [32]
theorem qd2 (g:Gu):Jl g=qcJ g ++ Zn (VX g) ++ yG g.tg:=by
 unfold Jl YJ qcJ;rw [xg];simp [yG,Q9]
variable [Flag]
theorem WJ {h0:AH} (w:WfH h0) (v:RlV) (r:Rl) (H:RlOk h0 v r) (hcap:Q7 v.vg.val) (hb:r.us.length≤200∧r.ts.length≤600):Fn Tryz.prog Xh 53 [v.val] h0 (fun u h'=>((RO r∧u=str (fmt r))∨(¬ VRl r∧u=str []))∧Hs h0 h' []):=by
 have S:=Hs.start w;have hgl:=H.len;have hrg:=H.rg;have hrt:=H.rt;have hlg:=H.lg;have hlt:=H.lt;unfold RlV.val;refine zB rfl Tryz.func53 rfl rfl ?_;all_goals (repeat' (first|refine qA ?_|refine qw rfl ?_|refine qx ?_|refine qy ?_|refine qi ?_|refine qj ?_|refine qo ?_|(refine qf 0 ?_;(refine bx S ?_;clear S;intro b h S);refine mv ?_;refine qg ?_)))
 obtain ⟨b1,hnm⟩:∃ x,x=b:=⟨_,rfl⟩;subst hnm;all_goals (repeat' (first|refine qA ?_|refine qw rfl ?_|refine qx ?_|refine qy ?_|refine qi ?_|refine qj ?_|refine qo ?_|(refine qf 1 ?_;(first|refine lB S rfl rfl ?_|refine qH S rfl rfl ?_|refine qZ S ?_|refine lH S ?_))))
 (refine qI rfl rfl rfl rfl rfl ((Y5 S.wf v r (H.ext w S.ext) hcap hb).mono ?_);rintro _ h ⟨⟨rfl,hV⟩|⟨i,e,rfl,hB⟩,x⟩)<;>(replace S:=S.zk x;clear x;refine mv ?_;refine vl ?_;refine vl ?_;refine mv ?_;refine mv ?_;refine qg ?_)
 rotate_left
 ·have he:e≠0:=hB.1;all_goals (repeat' (first|refine qA ?_|refine qw rfl ?_|refine qx ?_|refine qy ?_|refine qi ?_|refine qj ?_|refine qo ?_|(refine qf 2 ?_;refine mv ?_;(first|refine cT ?_|refine cF ?_|(refine cS ?_ ?_<;>intro hc))<;>(refine qg ?_))|(refine qf 3 ?_;refine mv ?_;refine qg ?_)))
  all_goals first|exact absurd rfl he|skip
  refine qE ⟨_,rfl,?_⟩;exact ⟨.inr ⟨hB.not,rfl⟩,S.drop⟩
 have HR:=Ws.1 hV;have h64:=HR.l64;have h256:=HR.l256;all_goals (repeat' (first|refine qA ?_|refine qw rfl ?_|refine qx ?_|refine qy ?_|refine qi ?_|refine qj ?_|refine qo ?_|(refine qf 2 ?_;refine mv ?_;(first|refine cT ?_|refine cF ?_|(refine cS ?_ ?_<;>intro hc))<;>(refine qg ?_))|(refine qf 4 ?_;refine mv ?_;refine qg ?_)|(refine qf 5 ?_;refine mv ?_;refine qg ?_)))
 replace S:Hs h0 h [.blk b1 [v.vg.val,v.vt.val] 32]:=S;refine zL (σ:=Nat) (fun i h'=>Hs h0 h' [.blk b1 [v.vg.val,v.vt.val] 32]∧i≤r.us.length) (fun i=>r.us.length - i) (fun i=>[(1,.pointer (some ⟨b1,0,none⟩)),(5,str (txt ((r.us.take i).map Jl))),(6,.int .i64 i)]) 0 zh ?_ ?_
 ·exact ⟨S,zB0 _⟩
 clear S;rintro i h ⟨S,i1⟩;have ltx:=Y2 (n:=157) (l:=(r.us.take i).map Jl) fun u hu=>by
  obtain ⟨x,hx,rfl⟩:=zF0.1 hu;have:=(Yi (HR.chk _ (List.mem_of_mem_take hx))).2.2.1;omega
 have ltl:((r.us.take i).map Jl).length≤64:=by simp;omega
 all_goals (repeat' (first|refine qA ?_|refine qw rfl ?_|refine qx ?_|refine qy ?_|refine qi ?_|refine qj ?_|refine qo ?_|(refine qf 6 ?_;refine mv ?_;(first|refine vl ?_|refine fB S ?_|refine fS S rfl rfl ?_|refine fA ?_);(first|refine lB S rfl rfl ?_|refine qH S rfl rfl ?_|refine qZ S ?_|refine lH S ?_);(first|refine ZH S ?_|refine XD S rfl rfl ?_);(first|refine cT ?_|refine cF ?_|(refine cS ?_ ?_<;>intro hc))<;>(refine qg ?_))))
 ·have hil:i<v.gs.length:=by omega
  have hat:=H.at_ hil;obtain ⟨rtg,htl⟩:=H.tg i hil;have hck:=HR.chk _ (qK (show i<r.us.length by omega));all_goals (repeat' (first|refine qA ?_|refine qw rfl ?_|refine qx ?_|refine qy ?_|refine qi ?_|refine qj ?_|refine qo ?_|(refine qf 8 ?_;(first|refine vl ?_|refine fB S ?_|refine fS S rfl rfl ?_|refine fA ?_);(first|refine lB S rfl rfl ?_|refine qH S rfl rfl ?_|refine qZ S ?_|refine lH S ?_);refine mv ?_;(first|refine Qd S ?_|refine zZ S rfl rfl ?_);(first|refine lB S rfl rfl ?_|refine qH S rfl rfl ?_|refine qZ S ?_|refine lH S ?_);(refine al S ?_;clear S;intro b h S);(first|(refine sB S rfl rfl ?_;clear S;intro h S)|(refine JU S rfl rfl ?_;clear S;intro h S));refine qg ?_)))
  simp only [zA0] at S;simp only [zA0];obtain ⟨b7,hnm⟩:∃ x,x=b:=⟨_,rfl⟩;subst hnm;obtain ⟨g,hg⟩:∃ g,g=v.gs.getD i default:=⟨_,rfl⟩
  rw [← hg] at S hat rtg htl;rw [← hat] at hck;obtain ⟨g1,g2,g3,g4⟩:=pG hck;obtain ⟨-,⟨sn1,sn2⟩,⟨sd1,sd2⟩,tg4,-⟩:=Zp hck;have hsn:g.since=(g.since.toNat:Int):=by omega
  have hsd:g.side=(g.side.toNat:Int):=by omega
  have wl:∀ u∈YJ g.toGu,u.length≤12:=fun u hu=>(g1 u hu).2;have l1:g.name.length≤12:=wl _ (by simp [YJ]);have l2:(Zn g.rank).length≤12:=wl _ (by simp [YJ]);have l3:(Zn g.court).length≤12:=wl _ (by simp [YJ]);have l4:(JX g.since.toNat).length≤12:=wl _ (by simp [YJ]);have l5:(JX g.side.toNat).length≤12:=wl _ (by simp [YJ]);have l6:(Zn g.diet).length≤12:=wl _ (by simp [YJ]);obtain ⟨T,hT⟩:∃ T,T=txt ((r.us.take i).map Jl):=⟨_,rfl⟩
  rw [← hT] at ltx;simp only [← hT];replace S:Hs h0 h [.blk b7 [str g.name,str g.rank,str g.court,.int .i64 g.since,.int .i64 g.side,str g.diet,.bool g.host,.bool g.access,g.tv.val] 24,.blk b1 [v.vg.val,v.vt.val] 32]:=S;(repeat (refine qA ?_));refine JM (id:=9) [(2,(0,5)),(11,(0,1)),(16,(0,2)),(21,(0,3)),(26,(0,4))] [some (b7),some (b7),some (b7),some (b7),some (b7)] ?_;refine qB ?_;(first|(refine mv ?_<;>refine qg ⟨⟨by (first|exact True.intro|exact Or.inl rfl|exact Or.inr rfl|exact Or.inr (congrArg some (qh _ _ _ _))|exact ⟨Or.inl rfl,rfl⟩|exact ⟨Or.inr rfl,rfl⟩),rfl⟩,?_⟩));refine qB ?_;(first|(refine vl ?_<;>refine qg ⟨⟨by (first|exact True.intro|exact Or.inl rfl|exact Or.inr rfl|exact Or.inr (congrArg some (qh _ _ _ _))|exact ⟨Or.inl rfl,rfl⟩|exact ⟨Or.inr rfl,rfl⟩),rfl⟩,?_⟩)|(refine fB S ?_<;>refine qg ⟨⟨by (first|exact True.intro|exact Or.inl rfl|exact Or.inr rfl|exact Or.inr (congrArg some (qh _ _ _ _))|exact ⟨Or.inl rfl,rfl⟩|exact ⟨Or.inr rfl,rfl⟩),rfl⟩,?_⟩)|(refine fS S rfl rfl ?_<;>refine qg ⟨⟨by (first|exact True.intro|exact Or.inl rfl|exact Or.inr rfl|exact Or.inr (congrArg some (qh _ _ _ _))|exact ⟨Or.inl rfl,rfl⟩|exact ⟨Or.inr rfl,rfl⟩),rfl⟩,?_⟩)|(refine fA ?_<;>refine qg ⟨⟨by (first|exact True.intro|exact Or.inl rfl|exact Or.inr rfl|exact Or.inr (congrArg some (qh _ _ _ _))|exact ⟨Or.inl rfl,rfl⟩|exact ⟨Or.inr rfl,rfl⟩),rfl⟩,?_⟩));refine qB ?_;(first|(refine lB S rfl rfl ?_<;>refine qg ⟨⟨by (first|exact True.intro|exact Or.inl rfl|exact Or.inr rfl|exact Or.inr (congrArg some (qh _ _ _ _))|exact ⟨Or.inl rfl,rfl⟩|exact ⟨Or.inr rfl,rfl⟩),rfl⟩,?_⟩)|(refine qH S rfl rfl ?_<;>refine qg ⟨⟨by (first|exact True.intro|exact Or.inl rfl|exact Or.inr rfl|exact Or.inr (congrArg some (qh _ _ _ _))|exact ⟨Or.inl rfl,rfl⟩|exact ⟨Or.inr rfl,rfl⟩),rfl⟩,?_⟩)|(refine qZ S ?_<;>refine qg ⟨⟨by (first|exact True.intro|exact Or.inl rfl|exact Or.inr rfl|exact Or.inr (congrArg some (qh _ _ _ _))|exact ⟨Or.inl rfl,rfl⟩|exact ⟨Or.inr rfl,rfl⟩),rfl⟩,?_⟩)|(refine lH S ?_<;>refine qg ⟨⟨by (first|exact True.intro|exact Or.inl rfl|exact Or.inr rfl|exact Or.inr (congrArg some (qh _ _ _ _))|exact ⟨Or.inl rfl,rfl⟩|exact ⟨Or.inr rfl,rfl⟩),rfl⟩,?_⟩));refine qB ?_;(first|(refine XU ?_<;>refine qg ⟨⟨by (first|exact True.intro|exact Or.inl rfl|exact Or.inr rfl|exact Or.inr (congrArg some (qh _ _ _ _))|exact ⟨Or.inl rfl,rfl⟩|exact ⟨Or.inr rfl,rfl⟩),rfl⟩,?_⟩));refine qB ?_;(first|(refine XU ?_<;>refine qg ⟨⟨by (first|exact True.intro|exact Or.inl rfl|exact Or.inr rfl|exact Or.inr (congrArg some (qh _ _ _ _))|exact ⟨Or.inl rfl,rfl⟩|exact ⟨Or.inr rfl,rfl⟩),rfl⟩,?_⟩));refine qB ?_;(first|(refine vl ?_<;>refine qg ⟨⟨by (first|exact True.intro|exact Or.inl rfl|exact Or.inr rfl|exact Or.inr (congrArg some (qh _ _ _ _))|exact ⟨Or.inl rfl,rfl⟩|exact ⟨Or.inr rfl,rfl⟩),rfl⟩,?_⟩)|(refine fB S ?_<;>refine qg ⟨⟨by (first|exact True.intro|exact Or.inl rfl|exact Or.inr rfl|exact Or.inr (congrArg some (qh _ _ _ _))|exact ⟨Or.inl rfl,rfl⟩|exact ⟨Or.inr rfl,rfl⟩),rfl⟩,?_⟩)|(refine fS S rfl rfl ?_<;>refine qg ⟨⟨by (first|exact True.intro|exact Or.inl rfl|exact Or.inr rfl|exact Or.inr (congrArg some (qh _ _ _ _))|exact ⟨Or.inl rfl,rfl⟩|exact ⟨Or.inr rfl,rfl⟩),rfl⟩,?_⟩)|(refine fA ?_<;>refine qg ⟨⟨by (first|exact True.intro|exact Or.inl rfl|exact Or.inr rfl|exact Or.inr (congrArg some (qh _ _ _ _))|exact ⟨Or.inl rfl,rfl⟩|exact ⟨Or.inr rfl,rfl⟩),rfl⟩,?_⟩));refine qB ?_;(first|(refine lB S rfl rfl ?_<;>refine qg ⟨⟨by (first|exact True.intro|exact Or.inl rfl|exact Or.inr rfl|exact Or.inr (congrArg some (qh _ _ _ _))|exact ⟨Or.inl rfl,rfl⟩|exact ⟨Or.inr rfl,rfl⟩),rfl⟩,?_⟩)|(refine qH S rfl rfl ?_<;>refine qg ⟨⟨by (first|exact True.intro|exact Or.inl rfl|exact Or.inr rfl|exact Or.inr (congrArg some (qh _ _ _ _))|exact ⟨Or.inl rfl,rfl⟩|exact ⟨Or.inr rfl,rfl⟩),rfl⟩,?_⟩)|(refine qZ S ?_<;>refine qg ⟨⟨by (first|exact True.intro|exact Or.inl rfl|exact Or.inr rfl|exact Or.inr (congrArg some (qh _ _ _ _))|exact ⟨Or.inl rfl,rfl⟩|exact ⟨Or.inr rfl,rfl⟩),rfl⟩,?_⟩)|(refine lH S ?_<;>refine qg ⟨⟨by (first|exact True.intro|exact Or.inl rfl|exact Or.inr rfl|exact Or.inr (congrArg some (qh _ _ _ _))|exact ⟨Or.inl rfl,rfl⟩|exact ⟨Or.inr rfl,rfl⟩),rfl⟩,?_⟩));((refine qB ?_;first|refine qI rfl rfl rfl rfl rfl ((WN S.wf g.rank).mono ?_));rintro _ h ⟨rfl,x⟩)<;>((refine qg ⟨⟨True.intro,?_⟩,?_⟩;(focus ((show keepsX _ _ _ _ _;simp only [keepsX];(repeat' (first|exact True.intro|refine And.intro ?_ ?_));all_goals (intro hw;first|exact True.intro|exact rfl|exact absurd hw (by decide +kernel)|exact x.ext.old _ S.bB|exact x.ext.old _ (S.bR (by first|omega|grind))|exact x.ext.old _ (S.bX (by assumption) (by assumption) (by first|omega|grind))|exact x.ext.old _ (S.bY (by assumption) (by assumption))|(refine x.ext.old _ ?_;assumption)|exact absurd hw (by decide +kernel))))));replace S:=S.zk x;clear x;refine qB ?_;(first|(refine XU ?_<;>refine qg ⟨⟨by (first|exact True.intro|exact Or.inl rfl|exact Or.inr rfl|exact Or.inr (congrArg some (qh _ _ _ _))|exact ⟨Or.inl rfl,rfl⟩|exact ⟨Or.inr rfl,rfl⟩),rfl⟩,?_⟩));refine qB ?_;(first|(refine XU ?_<;>refine qg ⟨⟨by (first|exact True.intro|exact Or.inl rfl|exact Or.inr rfl|exact Or.inr (congrArg some (qh _ _ _ _))|exact ⟨Or.inl rfl,rfl⟩|exact ⟨Or.inr rfl,rfl⟩),rfl⟩,?_⟩));refine qB ?_;(first|(refine vl ?_<;>refine qg ⟨⟨by (first|exact True.intro|exact Or.inl rfl|exact Or.inr rfl|exact Or.inr (congrArg some (qh _ _ _ _))|exact ⟨Or.inl rfl,rfl⟩|exact ⟨Or.inr rfl,rfl⟩),rfl⟩,?_⟩)|(refine fB S ?_<;>refine qg ⟨⟨by (first|exact True.intro|exact Or.inl rfl|exact Or.inr rfl|exact Or.inr (congrArg some (qh _ _ _ _))|exact ⟨Or.inl rfl,rfl⟩|exact ⟨Or.inr rfl,rfl⟩),rfl⟩,?_⟩)|(refine fS S rfl rfl ?_<;>refine qg ⟨⟨by (first|exact True.intro|exact Or.inl rfl|exact Or.inr rfl|exact Or.inr (congrArg some (qh _ _ _ _))|exact ⟨Or.inl rfl,rfl⟩|exact ⟨Or.inr rfl,rfl⟩),rfl⟩,?_⟩)|(refine fA ?_<;>refine qg ⟨⟨by (first|exact True.intro|exact Or.inl rfl|exact Or.inr rfl|exact Or.inr (congrArg some (qh _ _ _ _))|exact ⟨Or.inl rfl,rfl⟩|exact ⟨Or.inr rfl,rfl⟩),rfl⟩,?_⟩));refine qB ?_;(first|(refine lB S rfl rfl ?_<;>refine qg ⟨⟨by (first|exact True.intro|exact Or.inl rfl|exact Or.inr rfl|exact Or.inr (congrArg some (qh _ _ _ _))|exact ⟨Or.inl rfl,rfl⟩|exact ⟨Or.inr rfl,rfl⟩),rfl⟩,?_⟩)|(refine qH S rfl rfl ?_<;>refine qg ⟨⟨by (first|exact True.intro|exact Or.inl rfl|exact Or.inr rfl|exact Or.inr (congrArg some (qh _ _ _ _))|exact ⟨Or.inl rfl,rfl⟩|exact ⟨Or.inr rfl,rfl⟩),rfl⟩,?_⟩)|(refine qZ S ?_<;>refine qg ⟨⟨by (first|exact True.intro|exact Or.inl rfl|exact Or.inr rfl|exact Or.inr (congrArg some (qh _ _ _ _))|exact ⟨Or.inl rfl,rfl⟩|exact ⟨Or.inr rfl,rfl⟩),rfl⟩,?_⟩)|(refine lH S ?_<;>refine qg ⟨⟨by (first|exact True.intro|exact Or.inl rfl|exact Or.inr rfl|exact Or.inr (congrArg some (qh _ _ _ _))|exact ⟨Or.inl rfl,rfl⟩|exact ⟨Or.inr rfl,rfl⟩),rfl⟩,?_⟩)))
  ((refine qB ?_;first|refine qI rfl rfl rfl rfl rfl ((WN S.wf g.court).mono ?_));rintro _ h ⟨rfl,x⟩)<;>((refine qg ⟨⟨True.intro,?_⟩,?_⟩;(focus ((show keepsX _ _ _ _ _;simp only [keepsX];(repeat' (first|exact True.intro|refine And.intro ?_ ?_));all_goals (intro hw;first|exact True.intro|exact rfl|exact absurd hw (by decide +kernel)|exact x.ext.old _ S.bB|exact x.ext.old _ (S.bR (by first|omega|grind))|exact x.ext.old _ (S.bX (by assumption) (by assumption) (by first|omega|grind))|exact x.ext.old _ (S.bY (by assumption) (by assumption))|(refine x.ext.old _ ?_;assumption)|exact absurd hw (by decide +kernel))))));replace S:=S.zk x;clear x;refine qB ?_;(first|(refine XU ?_<;>refine qg ⟨⟨by (first|exact True.intro|exact Or.inl rfl|exact Or.inr rfl|exact Or.inr (congrArg some (qh _ _ _ _))|exact ⟨Or.inl rfl,rfl⟩|exact ⟨Or.inr rfl,rfl⟩),rfl⟩,?_⟩));refine qB ?_;(first|(refine XU ?_<;>refine qg ⟨⟨by (first|exact True.intro|exact Or.inl rfl|exact Or.inr rfl|exact Or.inr (congrArg some (qh _ _ _ _))|exact ⟨Or.inl rfl,rfl⟩|exact ⟨Or.inr rfl,rfl⟩),rfl⟩,?_⟩));refine qB ?_;(first|(refine vl ?_<;>refine qg ⟨⟨by (first|exact True.intro|exact Or.inl rfl|exact Or.inr rfl|exact Or.inr (congrArg some (qh _ _ _ _))|exact ⟨Or.inl rfl,rfl⟩|exact ⟨Or.inr rfl,rfl⟩),rfl⟩,?_⟩)|(refine fB S ?_<;>refine qg ⟨⟨by (first|exact True.intro|exact Or.inl rfl|exact Or.inr rfl|exact Or.inr (congrArg some (qh _ _ _ _))|exact ⟨Or.inl rfl,rfl⟩|exact ⟨Or.inr rfl,rfl⟩),rfl⟩,?_⟩)|(refine fS S rfl rfl ?_<;>refine qg ⟨⟨by (first|exact True.intro|exact Or.inl rfl|exact Or.inr rfl|exact Or.inr (congrArg some (qh _ _ _ _))|exact ⟨Or.inl rfl,rfl⟩|exact ⟨Or.inr rfl,rfl⟩),rfl⟩,?_⟩)|(refine fA ?_<;>refine qg ⟨⟨by (first|exact True.intro|exact Or.inl rfl|exact Or.inr rfl|exact Or.inr (congrArg some (qh _ _ _ _))|exact ⟨Or.inl rfl,rfl⟩|exact ⟨Or.inr rfl,rfl⟩),rfl⟩,?_⟩));refine qB ?_;(first|(refine lB S rfl rfl ?_<;>refine qg ⟨⟨by (first|exact True.intro|exact Or.inl rfl|exact Or.inr rfl|exact Or.inr (congrArg some (qh _ _ _ _))|exact ⟨Or.inl rfl,rfl⟩|exact ⟨Or.inr rfl,rfl⟩),rfl⟩,?_⟩)|(refine qH S rfl rfl ?_<;>refine qg ⟨⟨by (first|exact True.intro|exact Or.inl rfl|exact Or.inr rfl|exact Or.inr (congrArg some (qh _ _ _ _))|exact ⟨Or.inl rfl,rfl⟩|exact ⟨Or.inr rfl,rfl⟩),rfl⟩,?_⟩)|(refine qZ S ?_<;>refine qg ⟨⟨by (first|exact True.intro|exact Or.inl rfl|exact Or.inr rfl|exact Or.inr (congrArg some (qh _ _ _ _))|exact ⟨Or.inl rfl,rfl⟩|exact ⟨Or.inr rfl,rfl⟩),rfl⟩,?_⟩)|(refine lH S ?_<;>refine qg ⟨⟨by (first|exact True.intro|exact Or.inl rfl|exact Or.inr rfl|exact Or.inr (congrArg some (qh _ _ _ _))|exact ⟨Or.inl rfl,rfl⟩|exact ⟨Or.inr rfl,rfl⟩),rfl⟩,?_⟩)))
  ((refine qB ?_;first|refine qI rfl rfl rfl rfl rfl ((xG S.wf g.since.toNat hsn (by omega)).mono ?_));rintro _ h ⟨rfl,x⟩)<;>((refine qg ⟨⟨True.intro,?_⟩,?_⟩;(focus ((show keepsX _ _ _ _ _;simp only [keepsX];(repeat' (first|exact True.intro|refine And.intro ?_ ?_));all_goals (intro hw;first|exact True.intro|exact rfl|exact absurd hw (by decide +kernel)|exact x.ext.old _ S.bB|exact x.ext.old _ (S.bR (by first|omega|grind))|exact x.ext.old _ (S.bX (by assumption) (by assumption) (by first|omega|grind))|exact x.ext.old _ (S.bY (by assumption) (by assumption))|(refine x.ext.old _ ?_;assumption)|exact absurd hw (by decide +kernel))))));replace S:=S.zk x;clear x;refine qB ?_;(first|(refine XU ?_<;>refine qg ⟨⟨by (first|exact True.intro|exact Or.inl rfl|exact Or.inr rfl|exact Or.inr (congrArg some (qh _ _ _ _))|exact ⟨Or.inl rfl,rfl⟩|exact ⟨Or.inr rfl,rfl⟩),rfl⟩,?_⟩));refine qB ?_;(first|(refine XU ?_<;>refine qg ⟨⟨by (first|exact True.intro|exact Or.inl rfl|exact Or.inr rfl|exact Or.inr (congrArg some (qh _ _ _ _))|exact ⟨Or.inl rfl,rfl⟩|exact ⟨Or.inr rfl,rfl⟩),rfl⟩,?_⟩));refine qB ?_;(first|(refine vl ?_<;>refine qg ⟨⟨by (first|exact True.intro|exact Or.inl rfl|exact Or.inr rfl|exact Or.inr (congrArg some (qh _ _ _ _))|exact ⟨Or.inl rfl,rfl⟩|exact ⟨Or.inr rfl,rfl⟩),rfl⟩,?_⟩)|(refine fB S ?_<;>refine qg ⟨⟨by (first|exact True.intro|exact Or.inl rfl|exact Or.inr rfl|exact Or.inr (congrArg some (qh _ _ _ _))|exact ⟨Or.inl rfl,rfl⟩|exact ⟨Or.inr rfl,rfl⟩),rfl⟩,?_⟩)|(refine fS S rfl rfl ?_<;>refine qg ⟨⟨by (first|exact True.intro|exact Or.inl rfl|exact Or.inr rfl|exact Or.inr (congrArg some (qh _ _ _ _))|exact ⟨Or.inl rfl,rfl⟩|exact ⟨Or.inr rfl,rfl⟩),rfl⟩,?_⟩)|(refine fA ?_<;>refine qg ⟨⟨by (first|exact True.intro|exact Or.inl rfl|exact Or.inr rfl|exact Or.inr (congrArg some (qh _ _ _ _))|exact ⟨Or.inl rfl,rfl⟩|exact ⟨Or.inr rfl,rfl⟩),rfl⟩,?_⟩));refine qB ?_;(first|(refine lB S rfl rfl ?_<;>refine qg ⟨⟨by (first|exact True.intro|exact Or.inl rfl|exact Or.inr rfl|exact Or.inr (congrArg some (qh _ _ _ _))|exact ⟨Or.inl rfl,rfl⟩|exact ⟨Or.inr rfl,rfl⟩),rfl⟩,?_⟩)|(refine qH S rfl rfl ?_<;>refine qg ⟨⟨by (first|exact True.intro|exact Or.inl rfl|exact Or.inr rfl|exact Or.inr (congrArg some (qh _ _ _ _))|exact ⟨Or.inl rfl,rfl⟩|exact ⟨Or.inr rfl,rfl⟩),rfl⟩,?_⟩)|(refine qZ S ?_<;>refine qg ⟨⟨by (first|exact True.intro|exact Or.inl rfl|exact Or.inr rfl|exact Or.inr (congrArg some (qh _ _ _ _))|exact ⟨Or.inl rfl,rfl⟩|exact ⟨Or.inr rfl,rfl⟩),rfl⟩,?_⟩)|(refine lH S ?_<;>refine qg ⟨⟨by (first|exact True.intro|exact Or.inl rfl|exact Or.inr rfl|exact Or.inr (congrArg some (qh _ _ _ _))|exact ⟨Or.inl rfl,rfl⟩|exact ⟨Or.inr rfl,rfl⟩),rfl⟩,?_⟩)))
  ((refine qB ?_;first|refine qI rfl rfl rfl rfl rfl ((xG S.wf g.side.toNat hsd (by omega)).mono ?_));rintro _ h ⟨rfl,x⟩)<;>((refine qg ⟨⟨True.intro,?_⟩,?_⟩;(focus ((show keepsX _ _ _ _ _;simp only [keepsX];(repeat' (first|exact True.intro|refine And.intro ?_ ?_));all_goals (intro hw;first|exact True.intro|exact rfl|exact absurd hw (by decide +kernel)|exact x.ext.old _ S.bB|exact x.ext.old _ (S.bR (by first|omega|grind))|exact x.ext.old _ (S.bX (by assumption) (by assumption) (by first|omega|grind))|exact x.ext.old _ (S.bY (by assumption) (by assumption))|(refine x.ext.old _ ?_;assumption)|exact absurd hw (by decide +kernel))))));replace S:=S.zk x;clear x;refine qB ?_;(first|(refine XU ?_<;>refine qg ⟨⟨by (first|exact True.intro|exact Or.inl rfl|exact Or.inr rfl|exact Or.inr (congrArg some (qh _ _ _ _))|exact ⟨Or.inl rfl,rfl⟩|exact ⟨Or.inr rfl,rfl⟩),rfl⟩,?_⟩));refine qB ?_;(first|(refine XU ?_<;>refine qg ⟨⟨by (first|exact True.intro|exact Or.inl rfl|exact Or.inr rfl|exact Or.inr (congrArg some (qh _ _ _ _))|exact ⟨Or.inl rfl,rfl⟩|exact ⟨Or.inr rfl,rfl⟩),rfl⟩,?_⟩));refine qB ?_;(first|(refine vl ?_<;>refine qg ⟨⟨by (first|exact True.intro|exact Or.inl rfl|exact Or.inr rfl|exact Or.inr (congrArg some (qh _ _ _ _))|exact ⟨Or.inl rfl,rfl⟩|exact ⟨Or.inr rfl,rfl⟩),rfl⟩,?_⟩)|(refine fB S ?_<;>refine qg ⟨⟨by (first|exact True.intro|exact Or.inl rfl|exact Or.inr rfl|exact Or.inr (congrArg some (qh _ _ _ _))|exact ⟨Or.inl rfl,rfl⟩|exact ⟨Or.inr rfl,rfl⟩),rfl⟩,?_⟩)|(refine fS S rfl rfl ?_<;>refine qg ⟨⟨by (first|exact True.intro|exact Or.inl rfl|exact Or.inr rfl|exact Or.inr (congrArg some (qh _ _ _ _))|exact ⟨Or.inl rfl,rfl⟩|exact ⟨Or.inr rfl,rfl⟩),rfl⟩,?_⟩)|(refine fA ?_<;>refine qg ⟨⟨by (first|exact True.intro|exact Or.inl rfl|exact Or.inr rfl|exact Or.inr (congrArg some (qh _ _ _ _))|exact ⟨Or.inl rfl,rfl⟩|exact ⟨Or.inr rfl,rfl⟩),rfl⟩,?_⟩));refine qB ?_;(first|(refine lB S rfl rfl ?_<;>refine qg ⟨⟨by (first|exact True.intro|exact Or.inl rfl|exact Or.inr rfl|exact Or.inr (congrArg some (qh _ _ _ _))|exact ⟨Or.inl rfl,rfl⟩|exact ⟨Or.inr rfl,rfl⟩),rfl⟩,?_⟩)|(refine qH S rfl rfl ?_<;>refine qg ⟨⟨by (first|exact True.intro|exact Or.inl rfl|exact Or.inr rfl|exact Or.inr (congrArg some (qh _ _ _ _))|exact ⟨Or.inl rfl,rfl⟩|exact ⟨Or.inr rfl,rfl⟩),rfl⟩,?_⟩)|(refine qZ S ?_<;>refine qg ⟨⟨by (first|exact True.intro|exact Or.inl rfl|exact Or.inr rfl|exact Or.inr (congrArg some (qh _ _ _ _))|exact ⟨Or.inl rfl,rfl⟩|exact ⟨Or.inr rfl,rfl⟩),rfl⟩,?_⟩)|(refine lH S ?_<;>refine qg ⟨⟨by (first|exact True.intro|exact Or.inl rfl|exact Or.inr rfl|exact Or.inr (congrArg some (qh _ _ _ _))|exact ⟨Or.inl rfl,rfl⟩|exact ⟨Or.inr rfl,rfl⟩),rfl⟩,?_⟩)))
  ((refine qB ?_;first|refine qI rfl rfl rfl rfl rfl ((WN S.wf g.diet).mono ?_));rintro _ h ⟨rfl,x⟩)<;>((refine qg ⟨⟨True.intro,?_⟩,?_⟩;(focus ((show keepsX _ _ _ _ _;simp only [keepsX];(repeat' (first|exact True.intro|refine And.intro ?_ ?_));all_goals (intro hw;first|exact True.intro|exact rfl|exact absurd hw (by decide +kernel)|exact x.ext.old _ S.bB|exact x.ext.old _ (S.bR (by first|omega|grind))|exact x.ext.old _ (S.bX (by assumption) (by assumption) (by first|omega|grind))|exact x.ext.old _ (S.bY (by assumption) (by assumption))|(refine x.ext.old _ ?_;assumption)|exact absurd hw (by decide +kernel))))));replace S:=S.zk x;clear x;refine qB ?_;(first|(refine XU ?_<;>refine qg ⟨⟨by (first|exact True.intro|exact Or.inl rfl|exact Or.inr rfl|exact Or.inr (congrArg some (qh _ _ _ _))|exact ⟨Or.inl rfl,rfl⟩|exact ⟨Or.inr rfl,rfl⟩),rfl⟩,?_⟩));refine qB ?_;(first|(refine XU ?_<;>refine qg ⟨⟨by (first|exact True.intro|exact Or.inl rfl|exact Or.inr rfl|exact Or.inr (congrArg some (qh _ _ _ _))|exact ⟨Or.inl rfl,rfl⟩|exact ⟨Or.inr rfl,rfl⟩),rfl⟩,?_⟩));refine qB ?_;(first|(refine XU ?_<;>refine qg ⟨⟨by (first|exact True.intro|exact Or.inl rfl|exact Or.inr rfl|exact Or.inr (congrArg some (qh _ _ _ _))|exact ⟨Or.inl rfl,rfl⟩|exact ⟨Or.inr rfl,rfl⟩),rfl⟩,?_⟩));refine qB ?_;(first|(refine mv ?_<;>refine qg ⟨⟨by (first|exact True.intro|exact Or.inl rfl|exact Or.inr rfl|exact Or.inr (congrArg some (qh _ _ _ _))|exact ⟨Or.inl rfl,rfl⟩|exact ⟨Or.inr rfl,rfl⟩),rfl⟩,?_⟩));refine Xw ?_)
  obtain ⟨U,hU⟩:∃ U,U=T ++ qcJ g.toGu:=⟨_,rfl⟩
  have lU:U.length≤157*64+200:=by
   rw [hU];simp only [qcJ,zB2,zC4,List.length_nil];omega
  all_goals (repeat' (first|refine qA ?_|refine qw rfl ?_|refine qx ?_|refine qy ?_|refine qi ?_|refine qj ?_|refine qo ?_|(refine qf 10 ?_;(first|refine vl ?_|refine fB S ?_|refine fS S rfl rfl ?_|refine fA ?_);(first|refine lB S rfl rfl ?_|refine qH S rfl rfl ?_|refine qZ S ?_|refine lH S ?_);refine qg ?_)))
  (repeat (refine qA ?_));first|refine XO (σ:=List UInt8) (fun u h'=>Hs h0 h' [.blk b7 [str g.name,str g.rank,str g.court,.int .i64 g.since,.int .i64 g.side,str g.diet,.bool g.host,.bool g.access,g.tv.val] 24,.blk b1 [v.vg.val,v.vt.val] 32]∧u=U ++ (if g.host then [104] else [])) (fun u=>[(1,.pointer (some ⟨b1,0,none⟩)),(5,str u),(6,.int .i64 i),(7,.pointer (some ⟨b7,0,none⟩))]) ?_ ?_|refine xW (σ:=List UInt8) (fun u h'=>Hs h0 h' [.blk b7 [str g.name,str g.rank,str g.court,.int .i64 g.since,.int .i64 g.side,str g.diet,.bool g.host,.bool g.access,g.tv.val] 24,.blk b1 [v.vg.val,v.vt.val] 32]∧u=U ++ (if g.host then [104] else [])) (fun u=>[(1,.pointer (some ⟨b1,0,none⟩)),(5,str u),(6,.int .i64 i),(7,.pointer (some ⟨b7,0,none⟩))]) ?_ ?_
  ·cases hh:g.host with
   | true =>
    all_goals (repeat' (first|refine qA ?_|refine qw rfl ?_|refine qx ?_|refine qy ?_|refine qi ?_|refine qj ?_|refine qo ?_|(refine qf 11 ?_;refine mv ?_;refine XU ?_;refine mv ?_;refine qg ?_)))
    exact ⟨U ++ [104],⟨hh ▸ S,rfl⟩,by rw [hU];exact (zh)⟩
   | false =>
    all_goals (repeat' (first|refine qA ?_|refine qw rfl ?_|refine qx ?_|refine qy ?_|refine qi ?_|refine qj ?_|refine qo ?_|(refine qf 11 ?_;refine mv ?_;refine XU ?_;refine mv ?_;refine qg ?_)))
    exact ⟨U,⟨hh ▸ S,by simp⟩,by rw [hU];exact (zh)⟩
  clear S;rintro u h ⟨S,hu⟩;have lu:u.length≤U.length+1:=by rw [hu,zB2];split<;>simp
  all_goals (repeat' (first|refine qA ?_|refine qw rfl ?_|refine qx ?_|refine qy ?_|refine qi ?_|refine qj ?_|refine qo ?_|(refine qf 12 ?_;(first|refine vl ?_|refine fB S ?_|refine fS S rfl rfl ?_|refine fA ?_);(first|refine lB S rfl rfl ?_|refine qH S rfl rfl ?_|refine qZ S ?_|refine lH S ?_);refine qg ?_)))
  (repeat (refine qA ?_));first|refine XO (σ:=List UInt8) (fun u h'=>Hs h0 h' [.blk b7 [str g.name,str g.rank,str g.court,.int .i64 g.since,.int .i64 g.side,str g.diet,.bool g.host,.bool g.access,g.tv.val] 24,.blk b1 [v.vg.val,v.vt.val] 32]∧u=U ++ VX g.toGu) (fun u=>[(1,.pointer (some ⟨b1,0,none⟩)),(5,str u),(6,.int .i64 i),(7,.pointer (some ⟨b7,0,none⟩))]) ?_ ?_|refine xW (σ:=List UInt8) (fun u h'=>Hs h0 h' [.blk b7 [str g.name,str g.rank,str g.court,.int .i64 g.since,.int .i64 g.side,str g.diet,.bool g.host,.bool g.access,g.tv.val] 24,.blk b1 [v.vg.val,v.vt.val] 32]∧u=U ++ VX g.toGu) (fun u=>[(1,.pointer (some ⟨b1,0,none⟩)),(5,str u),(6,.int .i64 i),(7,.pointer (some ⟨b7,0,none⟩))]) ?_ ?_
  ·cases ha:g.access with
   | true =>
    all_goals (repeat' (first|refine qA ?_|refine qw rfl ?_|refine qx ?_|refine qy ?_|refine qi ?_|refine qj ?_|refine qo ?_|(refine qf 13 ?_;refine mv ?_;refine XU ?_;refine mv ?_;refine qg ?_)))
    exact ⟨u ++ [97],⟨ha ▸ S,by unfold VX;rw [ha,hu];simp⟩,(zh)⟩
   | false =>
    all_goals (repeat' (first|refine qA ?_|refine qw rfl ?_|refine qx ?_|refine qy ?_|refine qi ?_|refine qj ?_|refine qo ?_|(refine qf 13 ?_;refine mv ?_;refine XU ?_;refine mv ?_;refine qg ?_)))
    exact ⟨u,⟨ha ▸ S,by unfold VX;rw [ha,hu];simp⟩,(zh)⟩
  clear S hu lu;rintro u h ⟨S,hu⟩;have lu:u.length≤U.length+2:=by rw [hu,zB2];unfold VX;simp only [zB2];split<;>split<;>simp
  (repeat (refine qA ?_));first|refine XO (σ:=Bool) (fun c h'=>Hs h0 h' [.blk b7 [str g.name,str g.rank,str g.court,.int .i64 g.since,.int .i64 g.side,str g.diet,.bool g.host,.bool g.access,g.tv.val] 24,.blk b1 [v.vg.val,v.vt.val] 32]∧c=(!g.host && !g.access)) (fun c=>[(1,.pointer (some ⟨b1,0,none⟩)),(5,str u),(6,.int .i64 i),(7,.pointer (some ⟨b7,0,none⟩)),(75,.bool c)]) ?_ ?_|refine xW (σ:=Bool) (fun c h'=>Hs h0 h' [.blk b7 [str g.name,str g.rank,str g.court,.int .i64 g.since,.int .i64 g.side,str g.diet,.bool g.host,.bool g.access,g.tv.val] 24,.blk b1 [v.vg.val,v.vt.val] 32]∧c=(!g.host && !g.access)) (fun c=>[(1,.pointer (some ⟨b1,0,none⟩)),(5,str u),(6,.int .i64 i),(7,.pointer (some ⟨b7,0,none⟩)),(75,.bool c)]) ?_ ?_
  ·rcases hh:g.host with _ | _<;>rcases ha:g.access with _ | _
   all_goals rw [hh,ha] at S
   all_goals (all_goals (repeat' (first|refine qA ?_|refine qw rfl ?_|refine qx ?_|refine qy ?_|refine qi ?_|refine qj ?_|refine qo ?_|(refine qf 14 ?_;(first|refine vl ?_|refine fB S ?_|refine fS S rfl rfl ?_|refine fA ?_);(first|refine lB S rfl rfl ?_|refine qH S rfl rfl ?_|refine qZ S ?_|refine lH S ?_);refine vl ?_;refine mv ?_;(first|refine off ?_|(first|refine vl ?_|refine fB S ?_|refine fS S rfl rfl ?_|refine fA ?_));(first|refine off ?_|(first|refine lB S rfl rfl ?_|refine qH S rfl rfl ?_|refine qZ S ?_|refine lH S ?_));(first|refine off ?_|refine vl ?_);refine vl ?_;refine qg ?_))))
   ·exact ⟨true,⟨S,rfl⟩,(zh)⟩
   ·exact ⟨false,⟨S,rfl⟩,(zh)⟩
   ·exact ⟨false,⟨S,rfl⟩,(zh)⟩
   ·exact ⟨false,⟨S,rfl⟩,(zh)⟩
  clear S;rintro c h ⟨S,hc⟩;(repeat (refine qA ?_));(repeat (refine qA ?_));first|refine XO (σ:=List UInt8) (fun u h'=>Hs h0 h' [.blk b7 [str g.name,str g.rank,str g.court,.int .i64 g.since,.int .i64 g.side,str g.diet,.bool g.host,.bool g.access,g.tv.val] 24,.blk b1 [v.vg.val,v.vt.val] 32]∧u=U ++ Zn (VX g.toGu)) (fun u=>[(1,.pointer (some ⟨b1,0,none⟩)),(5,str u),(6,.int .i64 i),(7,.pointer (some ⟨b7,0,none⟩))]) ?_ ?_|refine xW (σ:=List UInt8) (fun u h'=>Hs h0 h' [.blk b7 [str g.name,str g.rank,str g.court,.int .i64 g.since,.int .i64 g.side,str g.diet,.bool g.host,.bool g.access,g.tv.val] 24,.blk b1 [v.vg.val,v.vt.val] 32]∧u=U ++ Zn (VX g.toGu)) (fun u=>[(1,.pointer (some ⟨b1,0,none⟩)),(5,str u),(6,.int .i64 i),(7,.pointer (some ⟨b7,0,none⟩))]) ?_ ?_
  ·have hd:Zn (VX g.toGu)=VX g.toGu ++ (if c=true then [45] else []):=by
    rw [hc];unfold Zn VX;cases g.host<;>cases g.access<;>rfl
   cases c with
   | true =>
    refine qw rfl ?_;all_goals (repeat' (first|refine qA ?_|refine qw rfl ?_|refine qx ?_|refine qy ?_|refine qi ?_|refine qj ?_|refine qo ?_|(refine qf 15 ?_;refine mv ?_;refine XU ?_;refine mv ?_;refine qg ?_)))
    exact ⟨u ++ [45],⟨S,by rw [hd,hu];simp⟩,(zh)⟩
   | false =>
    refine qw rfl ?_;all_goals (repeat' (first|refine qA ?_|refine qw rfl ?_|refine qx ?_|refine qy ?_|refine qi ?_|refine qj ?_|refine qo ?_|(refine qf 15 ?_;refine mv ?_;refine XU ?_;refine mv ?_;refine qg ?_)))
    exact ⟨u,⟨S,by rw [hd,hu];simp⟩,(zh)⟩
  clear S hu lu hc;rintro u h ⟨S,hu⟩;have lu:u.length≤U.length+12:=by
   rw [hu,zB2];have:=wl (Zn (VX g.toGu)) (by simp [YJ]);omega
  all_goals (repeat' (first|refine qA ?_|refine qw rfl ?_|refine qx ?_|refine qy ?_|refine qi ?_|refine qj ?_|refine qo ?_|(refine qf 16 ?_;refine mv ?_;refine qg ?_)))
  refine zL (σ:=Nat×List UInt8) (fun (k,x) h'=>Hs h0 h' [.blk b7 [str g.name,str g.rank,str g.court,.int .i64 g.since,.int .i64 g.side,str g.diet,.bool g.host,.bool g.access,g.tv.val] 24,.blk b1 [v.vg.val,v.vt.val] 32]∧k≤g.tg.length∧x=u ++ yG (g.tg.take k)) (fun (k,x)=>g.tg.length - k) (fun (k,x)=>[(1,.pointer (some ⟨b1,0,none⟩)),(5,str x),(6,.int .i64 i),(7,.pointer (some ⟨b7,0,none⟩)),(8,.int .i64 k)]) (0,u) zh ?_ ?_
  ·exact ⟨S,zB0 _,by simp [yG]⟩
  clear S;rintro ⟨k,x⟩ h ⟨S,k1,hx⟩;have lk:=Gx (r:=g.tg.take k) fun y hy=>by
   have:=wl y (by simp only [YJ,zE7];exact .inr (.inr (.inr (.inr (.inr (.inr (.inr (.inr (List.mem_of_mem_take hy)))))))));omega
  have lk2:(g.tg.take k).length≤4:=by simp;omega
  have lx:x.length≤U.length+12+4004:=by rw [hx,zB2];omega
  all_goals (repeat' (first|refine qA ?_|refine qw rfl ?_|refine qx ?_|refine qy ?_|refine qi ?_|refine qj ?_|refine qo ?_|(refine qf 17 ?_;refine mv ?_;(first|refine vl ?_|refine fB S ?_|refine fS S rfl rfl ?_|refine fA ?_);(first|refine lB S rfl rfl ?_|refine qH S rfl rfl ?_|refine qZ S ?_|refine lH S ?_);(first|refine ZH S ?_|refine XD S rfl rfl ?_);(first|refine cT ?_|refine cF ?_|(refine cS ?_ ?_<;>intro hc))<;>(refine qg ?_))))
  ·have hkl:k<g.tg.length:=by omega
   have lw:(g.tg.getD k default).length≤12:=wl _ (by simp only [YJ,zE7];exact .inr (.inr (.inr (.inr (.inr (.inr (.inr (.inr (qK hkl)))))))));have lw':(g.tg.getD (k:Int).toNat default).length≤12:=lw;all_goals (repeat' (first|refine qA ?_|refine qw rfl ?_|refine qx ?_|refine qy ?_|refine qi ?_|refine qj ?_|refine qo ?_|(refine qf 19 ?_;refine mv ?_;(first|refine vl ?_|refine fB S ?_|refine fS S rfl rfl ?_|refine fA ?_);(first|refine lB S rfl rfl ?_|refine qH S rfl rfl ?_|refine qZ S ?_|refine lH S ?_);refine mv ?_;(first|refine Qd S ?_|refine zZ S rfl rfl ?_);(first|refine lB S rfl rfl ?_|refine qH S rfl rfl ?_|refine qZ S ?_|refine lH S ?_);refine XU ?_;refine XU ?_;refine mv ?_;refine qg ?_)))
   simp only [zA0];all_goals (repeat' (first|refine qA ?_|refine qw rfl ?_|refine qx ?_|refine qy ?_|refine qi ?_|refine qj ?_|refine qo ?_|(refine qf 18 ?_;refine mv ?_;(first|refine ad ?_|refine vl ?_);refine mv ?_;refine qg ?_)))
   refine ⟨(k+1,x ++ ([32] ++ g.tg.getD k default)),?_,?_,zh⟩
   ·show g.tg.length - (k+1)<g.tg.length - k;omega
   ·exact ⟨S,by omega,by rw [zl hkl,kY,hx];simp⟩
  ·obtain rfl:k=g.tg.length:=by omega
   rw [zD4] at hx;have e:x ++ [10]=txt ((r.us.take (i+1)).map Jl):=by
    rw [zl (by omega),zC9,List.map_cons,List.map_nil,J9,← hat,qd2,← hT,hx,hu,hU];simp
   all_goals (repeat' (first|refine qA ?_|refine qw rfl ?_|refine qx ?_|refine qy ?_|refine qi ?_|refine qj ?_|refine qo ?_|(refine qf 20 ?_;refine mv ?_;refine XU ?_;refine mv ?_;refine qg ?_)))
   rw [e];all_goals (repeat' (first|refine qA ?_|refine qw rfl ?_|refine qx ?_|refine qy ?_|refine qi ?_|refine qj ?_|refine qo ?_|(refine qf 7 ?_;refine mv ?_;(first|refine ad ?_|refine vl ?_);refine mv ?_;refine qg ?_)))
   refine ⟨i+1,?_,?_,zh⟩
   ·show r.us.length - (i+1)<r.us.length - i;omega
   ·exact ⟨S.pick,by omega⟩
 ·obtain rfl:i=r.us.length:=by omega
  rw [zD4] at ltx ltl;rw [zD4];all_goals (repeat' (first|refine qA ?_|refine qw rfl ?_|refine qx ?_|refine qy ?_|refine qi ?_|refine qj ?_|refine qo ?_|(refine qf 21 ?_;refine mv ?_;refine qg ?_)))
  refine zL (σ:=Nat×List UInt8) (fun (j,x) h'=>Hs h0 h' [.blk b1 [v.vg.val,v.vt.val] 32]∧j≤r.ts.length∧x=txt (r.us.map Jl ++ (r.ts.take j).map Yh)) (fun (j,x)=>r.ts.length - j) (fun (j,x)=>[(1,.pointer (some ⟨b1,0,none⟩)),(5,str x),(9,.int .i64 j)]) (0,txt (r.us.map Jl)) zh ?_ ?_
  ·exact ⟨S,zB0 _,by simp⟩
  clear S ltx ltl;rintro ⟨j,T⟩ h ⟨S,j1,hT⟩;have ltx:=Y2 (n:=157) (l:=r.us.map Jl ++ (r.ts.take j).map Yh) fun u hu=>by
   rcases zB8.1 hu with hu|hu
   ·obtain ⟨x,hx,rfl⟩:=zF0.1 hu;have:=(Yi (HR.chk _ hx)).2.2.1;omega
   ·obtain ⟨x,hx,rfl⟩:=zF0.1 hu;have hx:=List.mem_of_mem_take hx;have:=(WX (HR.tn hx).1 (HR.tn hx).2 (HR.tt _ hx).2.1).2.2.1;omega
  have ltl:(r.us.map Jl ++ (r.ts.take j).map Yh).length≤320:=by simp;omega
  rw [← hT] at ltx;all_goals (repeat' (first|refine qA ?_|refine qw rfl ?_|refine qx ?_|refine qy ?_|refine qi ?_|refine qj ?_|refine qo ?_|(refine qf 22 ?_;refine mv ?_;(first|refine vl ?_|refine fB S ?_|refine fS S rfl rfl ?_|refine fA ?_);(first|refine lB S rfl rfl ?_|refine qH S rfl rfl ?_|refine qZ S ?_|refine lH S ?_);(first|refine ZH S ?_|refine XD S rfl rfl ?_);(first|refine cT ?_|refine cF ?_|(refine cS ?_ ?_<;>intro hc))<;>(refine qg ?_))))
  ·have hjl:j<r.ts.length:=by omega
   have hmt:=qK hjl;obtain ⟨tn1,tn2⟩:=HR.tn hmt;have la:=tn1.2.1;have lb:=tn2.2.1;have e:=pq (r.ts.getD j default);have e2:txt (r.us.map Jl ++ (r.ts.take (j+1)).map Yh)=T ++ (Yh (r.ts.getD j default) ++ [10]):=by
    rw [zl hjl,zC9,List.map_cons,List.map_nil,← zF1,J9,hT]
   have la':(r.ts.getD (j:Int).toNat default).a.length≤12:=la;have lb':(r.ts.getD (j:Int).toNat default).b.length≤12:=lb;all_goals (repeat' (first|refine qA ?_|refine qw rfl ?_|refine qx ?_|refine qy ?_|refine qi ?_|refine qj ?_|refine qo ?_|(refine qf 24 ?_;(first|refine vl ?_|refine fB S ?_|refine fS S rfl rfl ?_|refine fA ?_);(first|refine lB S rfl rfl ?_|refine qH S rfl rfl ?_|refine qZ S ?_|refine lH S ?_);refine mv ?_;(first|refine Qd S ?_|refine zZ S rfl rfl ?_);(first|refine vl ?_|refine fB S ?_|refine fS S rfl rfl ?_|refine fA ?_);(first|refine lB S rfl rfl ?_|refine qH S rfl rfl ?_|refine qZ S ?_|refine lH S ?_);(first|refine cT ?_|refine cF ?_|(refine cS ?_ ?_<;>intro hc))<;>(refine qg ?_))))
   ·all_goals (repeat' (first|refine qA ?_|refine qw rfl ?_|refine qx ?_|refine qy ?_|refine qi ?_|refine qj ?_|refine qo ?_|(refine qf 25 ?_;refine mv ?_;refine XU ?_;refine mv ?_;refine qg ?_)|(refine zG 27 ?_;refine mv ?_;(first|refine vl ?_|refine fB S ?_|refine fS S rfl rfl ?_|refine fA ?_);(first|refine lB S rfl rfl ?_|refine qH S rfl rfl ?_|refine qZ S ?_|refine lH S ?_);refine mv ?_;(first|refine Qd S ?_|refine zZ S rfl rfl ?_);(first|refine vl ?_|refine fB S ?_|refine fS S rfl rfl ?_|refine fA ?_);(first|refine lB S rfl rfl ?_|refine qH S rfl rfl ?_|refine qZ S ?_|refine lH S ?_);refine XU ?_;(first|refine vl ?_|refine fB S ?_|refine fS S rfl rfl ?_|refine fA ?_);(first|refine lB S rfl rfl ?_|refine qH S rfl rfl ?_|refine qZ S ?_|refine lH S ?_);refine mv ?_;(first|refine Qd S ?_|refine zZ S rfl rfl ?_);(first|refine vl ?_|refine fB S ?_|refine fS S rfl rfl ?_|refine fA ?_);(first|refine lB S rfl rfl ?_|refine qH S rfl rfl ?_|refine qZ S ?_|refine lH S ?_);refine XU ?_;refine XU ?_;refine XU ?_;refine mv ?_;refine qg ?_)))
    simp only [zA0] at *;rw [if_pos (by omega)] at e;have e3:T ++ [102,114,105,101,110,100,32] ++ ((r.ts.getD j default).a ++ [32] ++ (r.ts.getD j default).b ++ [10])=T ++ (Yh (r.ts.getD j default) ++ [10]):=by rw [e];simp
    rw [e3];all_goals (repeat' (first|refine qA ?_|refine qw rfl ?_|refine qx ?_|refine qy ?_|refine qi ?_|refine qj ?_|refine qo ?_|(refine qf 23 ?_;refine mv ?_;(first|refine ad ?_|refine vl ?_);refine mv ?_;refine qg ?_)))
    refine ⟨(j+1,T ++ (Yh (r.ts.getD j default) ++ [10])),?_,?_,zh⟩
    ·show r.ts.length - (j+1)<r.ts.length - j;omega
    ·exact ⟨S,by omega,e2.symm⟩
   ·all_goals (repeat' (first|refine qA ?_|refine qw rfl ?_|refine qx ?_|refine qy ?_|refine qi ?_|refine qj ?_|refine qo ?_|(refine qf 26 ?_;refine mv ?_;refine XU ?_;refine mv ?_;refine qg ?_)|(refine zG 27 ?_;refine mv ?_;(first|refine vl ?_|refine fB S ?_|refine fS S rfl rfl ?_|refine fA ?_);(first|refine lB S rfl rfl ?_|refine qH S rfl rfl ?_|refine qZ S ?_|refine lH S ?_);refine mv ?_;(first|refine Qd S ?_|refine zZ S rfl rfl ?_);(first|refine vl ?_|refine fB S ?_|refine fS S rfl rfl ?_|refine fA ?_);(first|refine lB S rfl rfl ?_|refine qH S rfl rfl ?_|refine qZ S ?_|refine lH S ?_);refine XU ?_;(first|refine vl ?_|refine fB S ?_|refine fS S rfl rfl ?_|refine fA ?_);(first|refine lB S rfl rfl ?_|refine qH S rfl rfl ?_|refine qZ S ?_|refine lH S ?_);refine mv ?_;(first|refine Qd S ?_|refine zZ S rfl rfl ?_);(first|refine vl ?_|refine fB S ?_|refine fS S rfl rfl ?_|refine fA ?_);(first|refine lB S rfl rfl ?_|refine qH S rfl rfl ?_|refine qZ S ?_|refine lH S ?_);refine XU ?_;refine XU ?_;refine XU ?_;refine mv ?_;refine qg ?_)))
    simp only [zA0] at *;rw [if_neg (by omega)] at e;have e3:T ++ [102,101,117,100,32] ++ ((r.ts.getD j default).a ++ [32] ++ (r.ts.getD j default).b ++ [10])=T ++ (Yh (r.ts.getD j default) ++ [10]):=by rw [e];simp
    rw [e3];all_goals (repeat' (first|refine qA ?_|refine qw rfl ?_|refine qx ?_|refine qy ?_|refine qi ?_|refine qj ?_|refine qo ?_|(refine qf 23 ?_;refine mv ?_;(first|refine ad ?_|refine vl ?_);refine mv ?_;refine qg ?_)))
    refine ⟨(j+1,T ++ (Yh (r.ts.getD j default) ++ [10])),?_,?_,zh⟩
    ·show r.ts.length - (j+1)<r.ts.length - j;omega
    ·exact ⟨S,by omega,e2.symm⟩
  ·obtain rfl:j=r.ts.length:=by omega
   all_goals (repeat' (first|refine qA ?_|refine qw rfl ?_|refine qx ?_|refine qy ?_|refine qi ?_|refine qj ?_|refine qo ?_|(refine qf 28 ?_;refine mv ?_;refine mv ?_;refine qg ?_)))
   refine qE ⟨_,rfl,?_⟩;exact ⟨.inl ⟨HR,by rw [hT,zD4];rfl⟩,S.drop⟩
end Go.Proofs.Xx
namespace Go.Proofs.Xx
open Go Go.Proofs
theorem parse_nil:Z4 [] = .ok ⟨[],[]⟩:=by
 unfold Z4;rw [if_neg (by simp)];rfl
variable [Flag]
theorem VY {h0:AH} (w:WfH h0) (hf:Flag.b=true) (v:RlV) (r:Rl) (HR:RlOk h0 v r) (hcap:Q7 v.vg.val):Fn Tryz.prog Xh 15 [v.val] h0 (fun u _=>u = .bool true):=by
 have S:=Hs.start w;refine zB rfl Tryz.func15 rfl rfl ?_;unfold RlV.val;all_goals (repeat' (first|refine qA ?_|refine qw rfl ?_|refine qx ?_|refine qy ?_|refine qi ?_|refine qj ?_|refine qo ?_|(refine qf 0 ?_;(refine bx S ?_;clear S;intro b h S);refine mv ?_;refine qg ?_)))
 obtain ⟨b1,hnm⟩:∃ x,x=b:=⟨_,rfl⟩;subst hnm;replace S:Hs h0 h (.blk b1 [v.vg.val,v.vt.val] 32 :: []):=S;all_goals (repeat' (first|refine qA ?_|refine qw rfl ?_|refine qx ?_|refine qy ?_|refine qi ?_|refine qj ?_|refine qo ?_|(refine qf 1 ?_;(first|refine lB S rfl rfl ?_|refine qH S rfl rfl ?_|refine qZ S ?_|refine lH S ?_))))
 (refine qI rfl rfl rfl rfl rfl ((qca S.wf v r (HR.ext w S.ext)).mono ?_);rintro _ h ⟨⟨rfl,hb⟩|⟨rfl,hb⟩,x⟩)<;>(replace S:=S.zk x;clear x;refine vl ?_;refine qg ?_)
 rotate_left
 ·all_goals (repeat' (first|refine qA ?_|refine qw rfl ?_|refine qx ?_|refine qy ?_|refine qi ?_|refine qj ?_|refine qo ?_|(refine qf 1 ?_;(first|refine lB S rfl rfl ?_|refine qH S rfl rfl ?_|refine qZ S ?_|refine lH S ?_))|(refine qf 2 ?_;skip)))
  (refine qI rfl rfl rfl rfl rfl ((Vl S.wf).mono ?_);rintro _ h ⟨rfl,x⟩)<;>(replace S:=S.zk x;clear x;refine mv ?_;refine qg ?_)
  all_goals (repeat' (first|refine qA ?_|refine qw rfl ?_|refine qx ?_|refine qy ?_|refine qi ?_|refine qj ?_|refine qo ?_|(refine qf 0 ?_;(refine bx S ?_;clear S;intro b h S);refine mv ?_;refine qg ?_)|(refine qf 1 ?_;(first|refine lB S rfl rfl ?_|refine qH S rfl rfl ?_|refine qZ S ?_|refine lH S ?_))|(refine qf 2 ?_;skip)|(refine qf 3 ?_;(first|refine lB S rfl rfl ?_|refine qH S rfl rfl ?_|refine qZ S ?_|refine lH S ?_))))
  refine qE ⟨_,rfl,?_⟩;rfl
 all_goals (repeat' (first|refine qA ?_|refine qw rfl ?_|refine qx ?_|refine qy ?_|refine qi ?_|refine qj ?_|refine qo ?_|(refine qf 1 ?_;(first|refine lB S rfl rfl ?_|refine qH S rfl rfl ?_|refine qZ S ?_|refine lH S ?_))|(refine qf 3 ?_;(first|refine lB S rfl rfl ?_|refine qH S rfl rfl ?_|refine qZ S ?_|refine lH S ?_))))
 (refine qI rfl rfl rfl rfl rfl ((pK S.wf hf v r (HR.ext w S.ext)).mono ?_);rintro _ h ⟨⟨H,rfl⟩|⟨H,rfl⟩,x⟩)<;>(replace S:=S.zk x;clear x;refine mv ?_;refine qg ?_)
 ·have hV:=Ws.2 H;all_goals (repeat' (first|refine qA ?_|refine qw rfl ?_|refine qx ?_|refine qy ?_|refine qi ?_|refine qj ?_|refine qo ?_|(refine qf 4 ?_;refine mv ?_;(first|refine lB S rfl rfl ?_|refine qH S rfl rfl ?_|refine qZ S ?_|refine lH S ?_))))
  (refine qI rfl rfl rfl rfl rfl ((WJ S.wf v r (HR.ext w S.ext) hcap hb).mono ?_);rintro _ h ⟨⟨H2,rfl⟩|⟨H2,rfl⟩,x⟩)<;>(replace S:=S.zk x;clear x;(refine tS ?_ ?_<;>intro hc)<;>(refine qg ?_))
  all_goals first|exact absurd hV H2|exact absurd rfl hc|skip
  all_goals (repeat' (first|refine qA ?_|refine qw rfl ?_|refine qx ?_|refine qy ?_|refine qi ?_|refine qj ?_|refine qo ?_|(refine qf 6 ?_;(first|refine lB S rfl rfl ?_|refine qH S rfl rfl ?_|refine qZ S ?_|refine lH S ?_))))
  (refine qI rfl rfl rfl rfl rfl ((Y5 S.wf v r (HR.ext w S.ext) hcap hb).mono ?_);rintro _ h ⟨⟨rfl,hv3⟩|⟨i3,e3,rfl,hB3⟩,x⟩)<;>(replace S:=S.zk x;clear x;refine mv ?_;refine vl ?_;refine vl ?_;refine mv ?_;refine mv ?_;refine qg ?_)
  rotate_left
  ·exact absurd hV hB3.not
  all_goals (repeat' (first|refine qA ?_|refine qw rfl ?_|refine qx ?_|refine qy ?_|refine qi ?_|refine qj ?_|refine qo ?_|(refine qf 7 ?_;refine mv ?_)))
  (refine qI rfl rfl rfl rfl rfl ((y8 S.wf (fmt r)).mono ?_);rintro _ h (⟨r2,⟨vg,vt,gs⟩,p1,H4,rfl,hu,x⟩|⟨i,e,p1,rfl,x⟩))<;>((first|replace S:=S.zk x|(replace S:=S.join x;dsimp only [wB,List.cons_append,List.nil_append] at S));clear x;unfold RlV.val;(try unfold rlV0);(try dsimp only);(try dsimp only at hu);refine mv ?_;refine vl ?_;refine vl ?_;refine vl ?_;(refine al S ?_;clear S;intro b h S);(first|(refine sB S rfl rfl ?_;clear S;intro h S)|(refine JU S rfl rfl ?_;clear S;intro h S));refine mv ?_;refine mv ?_;refine qg ?_)
  rotate_left
  ·rw [H.parse] at p1;cases p1
  obtain rfl:r=r2:=by rw [H.parse] at p1;exact PB.ok.inj p1
  obtain ⟨b6,hnm⟩:∃ x,x=b:=⟨_,rfl⟩;subst hnm;replace S:Hs h0 h (.blk b6 [vg.val,vt.val] 32 :: .sl vg.val 24 9 eG gs :: .sl vt.val 111 3 Qn r.ts :: tgO gs :: .blk b1 [v.vg.val,v.vt.val] 32 :: []):=S;have S1:Hs h0 h (.sl vg.val 24 9 eG gs :: .sl vt.val 111 3 Qn r.ts :: tgO gs :: .blk b1 [v.vg.val,v.vt.val] 32 :: []):=S.tail;have R1:RlOk h ⟨vg,vt,gs⟩ r:=S1.qfE (v:=⟨vg,vt,gs⟩) hu H;all_goals (repeat' (first|refine qA ?_|refine qw rfl ?_|refine qx ?_|refine qy ?_|refine qi ?_|refine qj ?_|refine qo ?_|(refine qf 8 ?_;refine mv ?_;(first|refine cT ?_|refine cF ?_|(refine cS ?_ ?_<;>intro hc))<;>(refine mv ?_;(first|refine off ?_|refine mv ?_);(first|refine off ?_|(first|refine cT ?_|refine cF ?_|(refine cS ?_ ?_<;>intro hc)))<;>(refine vl ?_;refine mv ?_;(first|refine off ?_|refine mv ?_);(first|refine off ?_|(first|refine cT ?_|refine cF ?_|(refine cS ?_ ?_<;>intro hc)))<;>((first|refine off ?_|refine mv ?_);(first|refine off ?_|(first|refine vl ?_|refine fB S ?_|refine fS S rfl rfl ?_|refine fA ?_));(first|refine off ?_|(first|refine lB S rfl rfl ?_|refine qH S rfl rfl ?_|refine qZ S ?_|refine lH S ?_));(first|refine off ?_|(first|refine ZH S ?_|refine XD S rfl rfl ?_));(first|refine off ?_|(first|refine cT ?_|refine cF ?_|(refine cS ?_ ?_<;>intro hc)))<;>((first|refine off ?_|refine vl ?_);(first|refine off ?_|refine mv ?_);(first|refine off ?_|(first|refine lB S rfl rfl ?_|refine qH S rfl rfl ?_|refine qZ S ?_|refine lH S ?_));(first|refine off ?_|(first|refine lB S rfl rfl ?_|refine qH S rfl rfl ?_|refine qZ S ?_|refine lH S ?_));(first|(refine off ?_;(first|refine off ?_|refine vl ?_);refine vl ?_;refine mv ?_;(first|(refine off ?_;refine vl ?_;refine mv ?_;refine qg ?_)|skip))|skip))))))))
  (refine qI rfl rfl rfl rfl rfl ((gU S.wf ⟨vg,vt,gs⟩ v r r R1 (HR.ext w S.ext)).mono ?_);rintro _ h ⟨⟨rfl,z⟩|⟨rfl,z⟩,x⟩)<;>(replace S:=S.zk x;clear x;(first|refine off ?_|refine vl ?_);refine vl ?_;refine mv ?_;(first|(refine off ?_;refine vl ?_;refine mv ?_;refine qg ?_)|skip))
  all_goals first|exact absurd rfl z|skip
  (refine qI rfl rfl rfl rfl rfl ((Vl S.wf).mono ?_);rintro _ h ⟨rfl,x⟩)<;>(replace S:=S.zk x;clear x;refine vl ?_;refine mv ?_;refine qg ?_)
  all_goals (repeat' (first|refine qA ?_|refine qw rfl ?_|refine qx ?_|refine qy ?_|refine qi ?_|refine qj ?_|refine qo ?_|(refine qf 8 ?_;refine mv ?_;(first|refine cT ?_|refine cF ?_|(refine cS ?_ ?_<;>intro hc))<;>(refine mv ?_;(first|refine off ?_|refine mv ?_);(first|refine off ?_|(first|refine cT ?_|refine cF ?_|(refine cS ?_ ?_<;>intro hc)))<;>(refine vl ?_;refine mv ?_;(first|refine off ?_|refine mv ?_);(first|refine off ?_|(first|refine cT ?_|refine cF ?_|(refine cS ?_ ?_<;>intro hc)))<;>((first|refine off ?_|refine mv ?_);(first|refine off ?_|(first|refine vl ?_|refine fB S ?_|refine fS S rfl rfl ?_|refine fA ?_));(first|refine off ?_|(first|refine lB S rfl rfl ?_|refine qH S rfl rfl ?_|refine qZ S ?_|refine lH S ?_));(first|refine off ?_|(first|refine ZH S ?_|refine XD S rfl rfl ?_));(first|refine off ?_|(first|refine cT ?_|refine cF ?_|(refine cS ?_ ?_<;>intro hc)))<;>((first|refine off ?_|refine vl ?_);(first|refine off ?_|refine mv ?_);(first|refine off ?_|(first|refine lB S rfl rfl ?_|refine qH S rfl rfl ?_|refine qZ S ?_|refine lH S ?_));(first|refine off ?_|(first|refine lB S rfl rfl ?_|refine qH S rfl rfl ?_|refine qZ S ?_|refine lH S ?_));(first|(refine off ?_;(first|refine off ?_|refine vl ?_);refine vl ?_;refine mv ?_;(first|(refine off ?_;refine vl ?_;refine mv ?_;refine qg ?_)|skip))|skip))))))))
  refine qE ⟨_,rfl,?_⟩;rfl
 ·skip
  all_goals (repeat' (first|refine qA ?_|refine qw rfl ?_|refine qx ?_|refine qy ?_|refine qi ?_|refine qj ?_|refine qo ?_|(refine qf 4 ?_;refine mv ?_;(first|refine lB S rfl rfl ?_|refine qH S rfl rfl ?_|refine qZ S ?_|refine lH S ?_))))
  (refine qI rfl rfl rfl rfl rfl ((WJ S.wf v r (HR.ext w S.ext) hcap hb).mono ?_);rintro _ h ⟨⟨H2,rfl⟩|⟨H2,rfl⟩,x⟩)<;>(replace S:=S.zk x;clear x;(refine tS ?_ ?_<;>intro hc)<;>(refine qg ?_))
  all_goals first|exact absurd (Ws.2 H2) H|exact absurd rfl hc|skip
  all_goals (repeat' (first|refine qA ?_|refine qw rfl ?_|refine qx ?_|refine qy ?_|refine qi ?_|refine qj ?_|refine qo ?_|(refine qf 6 ?_;(first|refine lB S rfl rfl ?_|refine qH S rfl rfl ?_|refine qZ S ?_|refine lH S ?_))))
  (refine qI rfl rfl rfl rfl rfl ((Y5 S.wf v r (HR.ext w S.ext) hcap hb).mono ?_);rintro _ h ⟨⟨rfl,hv3⟩|⟨i3,e3,rfl,hB3⟩,x⟩)<;>(replace S:=S.zk x;clear x;refine mv ?_;refine vl ?_;refine vl ?_;refine mv ?_;refine mv ?_;refine qg ?_)
  ·exact absurd hv3 H
  have he:=hB3.1;all_goals (repeat' (first|refine qA ?_|refine qw rfl ?_|refine qx ?_|refine qy ?_|refine qi ?_|refine qj ?_|refine qo ?_|(refine qf 7 ?_;refine mv ?_)))
  (refine qI rfl rfl rfl rfl rfl ((y8 S.wf []).mono ?_);rintro _ h (⟨r2,⟨vg,vt,gs⟩,p1,H4,rfl,hu,x⟩|⟨i,e,p1,rfl,x⟩))<;>((first|replace S:=S.zk x|(replace S:=S.join x;dsimp only [wB,List.cons_append,List.nil_append] at S));clear x;unfold RlV.val;(try unfold rlV0);(try dsimp only);(try dsimp only at hu);refine mv ?_;refine vl ?_;refine vl ?_;refine vl ?_;(refine al S ?_;clear S;intro b h S);(first|(refine sB S rfl rfl ?_;clear S;intro h S)|(refine JU S rfl rfl ?_;clear S;intro h S));refine mv ?_;refine mv ?_;refine qg ?_)
  rotate_left
  ·rw [parse_nil] at p1;cases p1
  obtain rfl:(⟨[],[]⟩:Rl)=r2:=by rw [parse_nil] at p1;exact PB.ok.inj p1
  have hgs:gs=[]:=List.map_eq_nil_iff.1 hu;subst hgs;obtain ⟨b6,hnm⟩:∃ x,x=b:=⟨_,rfl⟩;subst hnm;replace S:Hs h0 h (.blk b6 [vg.val,vt.val] 32 :: .sl vg.val 24 9 eG [] :: .sl vt.val 111 3 Qn [] :: tgO [] :: .blk b1 [v.vg.val,v.vt.val] 32 :: []):=S;all_goals (repeat' (first|refine qA ?_|refine qw rfl ?_|refine qx ?_|refine qy ?_|refine qi ?_|refine qj ?_|refine qo ?_|(refine qf 8 ?_;refine mv ?_;(first|refine cT ?_|refine cF ?_|(refine cS ?_ ?_<;>intro hc))<;>(refine mv ?_;(first|refine off ?_|refine mv ?_);(first|refine off ?_|(first|refine cT ?_|refine cF ?_|(refine cS ?_ ?_<;>intro hc)))<;>(refine vl ?_;refine mv ?_;(first|refine off ?_|refine mv ?_);(first|refine off ?_|(first|refine cT ?_|refine cF ?_|(refine cS ?_ ?_<;>intro hc)))<;>((first|refine off ?_|refine mv ?_);(first|refine off ?_|(first|refine vl ?_|refine fB S ?_|refine fS S rfl rfl ?_|refine fA ?_));(first|refine off ?_|(first|refine lB S rfl rfl ?_|refine qH S rfl rfl ?_|refine qZ S ?_|refine lH S ?_));(first|refine off ?_|(first|refine ZH S ?_|refine XD S rfl rfl ?_));(first|refine off ?_|(first|refine cT ?_|refine cF ?_|(refine cS ?_ ?_<;>intro hc)))<;>((first|refine off ?_|refine vl ?_);(first|refine off ?_|refine mv ?_);(first|refine off ?_|(first|refine lB S rfl rfl ?_|refine qH S rfl rfl ?_|refine qZ S ?_|refine lH S ?_));(first|refine off ?_|(first|refine lB S rfl rfl ?_|refine qH S rfl rfl ?_|refine qZ S ?_|refine lH S ?_));(first|(refine off ?_;(first|refine off ?_|refine vl ?_);refine vl ?_;refine mv ?_;(first|(refine off ?_;refine vl ?_;refine mv ?_;refine qg ?_)|skip))|skip))))))))
  all_goals first|exact absurd rfl hc|skip
  (refine qI rfl rfl rfl rfl rfl ((Vl S.wf).mono ?_);rintro _ h ⟨rfl,x⟩)<;>(replace S:=S.zk x;clear x;refine vl ?_;refine mv ?_;refine qg ?_)
  all_goals (repeat' (first|refine qA ?_|refine qw rfl ?_|refine qx ?_|refine qy ?_|refine qi ?_|refine qj ?_|refine qo ?_|(refine qf 8 ?_;refine mv ?_;(first|refine cT ?_|refine cF ?_|(refine cS ?_ ?_<;>intro hc))<;>(refine mv ?_;(first|refine off ?_|refine mv ?_);(first|refine off ?_|(first|refine cT ?_|refine cF ?_|(refine cS ?_ ?_<;>intro hc)))<;>(refine vl ?_;refine mv ?_;(first|refine off ?_|refine mv ?_);(first|refine off ?_|(first|refine cT ?_|refine cF ?_|(refine cS ?_ ?_<;>intro hc)))<;>((first|refine off ?_|refine mv ?_);(first|refine off ?_|(first|refine vl ?_|refine fB S ?_|refine fS S rfl rfl ?_|refine fA ?_));(first|refine off ?_|(first|refine lB S rfl rfl ?_|refine qH S rfl rfl ?_|refine qZ S ?_|refine lH S ?_));(first|refine off ?_|(first|refine ZH S ?_|refine XD S rfl rfl ?_));(first|refine off ?_|(first|refine cT ?_|refine cF ?_|(refine cS ?_ ?_<;>intro hc)))<;>((first|refine off ?_|refine vl ?_);(first|refine off ?_|refine mv ?_);(first|refine off ?_|(first|refine lB S rfl rfl ?_|refine qH S rfl rfl ?_|refine qZ S ?_|refine lH S ?_));(first|refine off ?_|(first|refine lB S rfl rfl ?_|refine qH S rfl rfl ?_|refine qZ S ?_|refine lH S ?_));(first|(refine off ?_;(first|refine off ?_|refine vl ?_);refine vl ?_;refine mv ?_;(first|(refine off ?_;refine vl ?_;refine mv ?_;refine qg ?_)|skip))|skip))))))))
  refine qE ⟨_,rfl,?_⟩;rfl
end Go.Proofs.Xx
namespace Go.Proofs.Xx
open Go Go.RowKit
section
variable {H:Type} {enc:TypeId×Value→H} {P:Program} {W W':World}
theorem Jj {α β:Type} {f g:α→Option β}:∀ {l:List α} {r:List β},l.mapM f=some r→(∀ a b,a∈l→b∈r→f a=some b→g a=some b)→l.mapM g=some r:=by
 intro l;induction l with
 | nil=>intro r h _;simpa using h
 | cons a l ih =>
  intro r h hk;rw [List.mapM_cons] at h ⊢;cases hf:f a with
  | none=>rw [hf] at h;cases h
  | some b =>
   rw [hf] at h;cases hm:l.mapM f with
   | none=>rw [hm] at h;cases h
   | some r' =>
    rw [hm] at h;simp at h;subst h;rw [hk a b (by simp) (by simp) hf,ih hm fun x y hx hy=>hk x y (by simp [hx]) (by simp [hy])];rfl
theorem pW (hb:∀ k,k<W.heap.size→W'.heap[k]? = W.heap[k]?) {base n:Nat} {a:Addr} {cs:List Value} (h:W.cells? base a n=some cs):W'.cells? base a n=some cs:=by
 unfold World.cells? at h ⊢;split at h
 ·rename_i hba
  rw [if_pos hba];refine Jj h fun i v _ _ hv=>?_;have hlt:(a.add i).block<W.heap.size:=by
   rcases zA7 (a.add i).block W.heap.size with q|q
   ·exact q
   ·have:W.cell? (a.add i)=none:=by
     unfold World.cell?;rw [Array.getElem?_eq_none q]
    rw [this] at hv;cases hv
  rw [← hv];exact World.cell?_of_block (w:=W) (hb _ hlt)
 ·cases h
def yH (P:Program):List Field→Nat→Nat→Bool
 | [],at_,n=>Nat.beq at_ n
 | f :: r,at_,n=>Nat.beq f.offset at_ && yH P r (at_+P.cellsOf f.type) n
def QO (P:Program):Nat→TypeId→Bool
 | 0,_=>false
 | m+1,t=>match P.underlying t with
  | some .bool|some .string=>Nat.beq (P.cellsOf t) 1
  | some (.int _)=>Nat.beq (P.cellsOf t) 1
  | some (.slice e)=>Nat.beq (P.cellsOf t) 1 && (QO P m e && !Nat.beq (P.cellsOf e) 0)
  | some (.struct fs)=>fs.toList.all (fun f=>QO P m f.type) && yH P fs.toList 0 (P.cellsOf t)
  | some (.array n e)=>QO P m e && Nat.beq (P.cellsOf t) (n*P.cellsOf e)
  | _=>false
theorem qan (hb:∀ k,k<W.heap.size→W'.heap[k]? = W.heap[k]?) {base:Nat} {sp:Nat→Bool} {held:Bool}:∀ (fuel m:Nat) (t:TypeId) (cs:List Value) (x:DataW H×List MemPlace),QO P m t=true →
 DataW.trod enc P W base (fun _=>true) held fuel t cs=some x→(∀ p∈x.2,sp p.block=true)→DataW.trod enc P W' base sp held fuel t cs=some x:=by
 intro fuel;induction fuel with
 | zero=>intro m t cs x _ h _;cases h
 | succ fuel ih =>
  intro m t cs x hp h hsp;cases m with
  | zero=>cases hp
  | succ m =>
  unfold QO at hp;cases hu:P.underlying t with
  | none=>rw [hu] at hp;cases hp
  | some u =>
   rw [hu] at hp;cases u with
   | bool=>obtain ⟨b,rfl,rfl⟩:=DataW.trod_bool hu h;unfold DataW.trod;rw [hu]
   | int k =>
    obtain ⟨b,rfl,rfl,hwf⟩:=DataW.trod_int hu h;unfold DataW.trod;rw [hu];simp [hwf]
   | string =>
    obtain ⟨b,rfl,rfl,hs⟩:=DataW.trod_string hu h;unfold DataW.trod;rw [hu];simp [hs]
   | struct fs =>
    simp only [zA8,zC8] at hp;unfold DataW.trod at h ⊢;rw [hu] at h ⊢;simp only at h ⊢;split at h
    ·rename_i hc
     rw [if_pos hc];simp only [Option.map_eq_some_iff] at h ⊢;obtain ⟨xs,h1,rfl⟩:=h;refine ⟨xs,Jj h1 fun f y hf hy hq=>ih m _ _ _ (hp.1 f hf) hq fun p hp=>hsp p ?_,rfl⟩;simp only [zG9];exact ⟨y,hy,hp⟩
    ·cases h
   | array n e =>
    simp only [zA8] at hp;unfold DataW.trod at h ⊢;rw [hu] at h ⊢;simp only at h ⊢;split at h
    ·rename_i hc
     rw [if_pos hc];simp only [Option.map_eq_some_iff] at h ⊢;obtain ⟨xs,h1,rfl⟩:=h;refine ⟨xs,Jj h1 fun f y hf hy hq=>ih m _ _ _ hp.1 hq fun p hp=>hsp p ?_,rfl⟩;simp only [zG9];exact ⟨y,hy,hp⟩
    ·cases h
   | slice e =>
    simp only [zA8,zG2] at hp;have hz:P.cellsOf e≠0:=fun q=>by have:=hp.2.2;rw [q] at this;simp at this
    rcases DataW.trod_slice hu h with ⟨rfl,rfl⟩|⟨a,len,cap,-,-,-,-,rfl,-⟩
    ·unfold DataW.trod;rw [hu];rfl
    ·unfold DataW.trod at h ⊢;rw [hu] at h ⊢;simp only at h ⊢;split at h
     ·rename_i hc
      rw [if_pos hc];simp only [if_true,Option.map_eq_some_iff,Option.bind_eq_some_iff] at h ⊢;obtain ⟨elems,h1,rest,h2,rfl⟩:=h;have key:∀ i y,y∈elems ++ rest→(W.cells? base (a.add (i*P.cellsOf e)) (P.cellsOf e)).bind (DataW.trod enc P W base (fun _=>true) held fuel e)=some y →
       (W'.cells? base (a.add (i*P.cellsOf e)) (P.cellsOf e)).bind (DataW.trod enc P W' base sp held fuel e)=some y:=by
       intro i y hy hq;rw [Option.bind_eq_some_iff] at hq ⊢;obtain ⟨cs',q1,q2⟩:=hq;refine ⟨cs',pW hb q1,ih m _ _ _ hp.2.1 q2 fun p hp=>hsp p ?_⟩;simp only [zB8,zG9];exact .inr ⟨y,by simpa using hy,hp⟩
      refine ⟨elems,Jj h1 fun i y _ hy hq=>key i y (by simp [hy]) hq,rest,?_,rfl⟩;cases hs:sp a.block with
      | true =>
       simp only [if_true];exact Jj h2 fun i y _ hy hq=>key (len+i) y (by simp [hy]) hq
      | false =>
       simp only [zD9,if_false];cases rest with
       | nil=>rfl
       | cons y rest =>
        have hp':sp a.block=true:=by
         refine hsp (.cell a.block (a.off+0)) ?_;simp only [zB8];refine .inl ?_;unfold MemPlace.row;rw [zF0];exact ⟨0,zE3.2 (Nat.mul_pos (by simp only [zC4];omega) (by omega)),rfl⟩
        rw [hs] at hp';cases hp'
     ·cases h
   | _=>cases hp
theorem Yw (hb:∀ k,k<W.heap.size→W'.heap[k]? = W.heap[k]?) {base:Nat} {sp:Nat→Bool} {held:Bool}:∀ (ts:List TypeId) (vs:List Value) (ds:List (DataW H)) (ps:List MemPlace),ts.all (QO P 20)=true →
 DataW.TrodAll enc P W base (fun _=>true) held ts vs ds ps→(∀ p∈ps,sp p.block=true)→DataW.TrodAll enc P W' base sp held ts vs ds ps
 | [],[],[],ps,_,h,_=>h
 | t :: ts,v :: vs,d :: ds,ps,hp,h,hsp=>by
  simp only [List.all_cons,zA8] at hp;obtain ⟨p,q,⟨fuel,h1⟩,h2,rfl⟩:=h;exact ⟨p,q,⟨fuel,qan hb fuel 20 t _ _ hp.1 h1 fun x hx=>hsp x (by simp [hx])⟩,Yw hb ts vs ds q hp.2 h2 fun x hx=>hsp x (by simp [hx]),rfl⟩
 | [],[],_ :: _,_,_,h,_=>h.elim
 | [],_ :: _,_,_,_,h,_=>h.elim
 | _ :: _,[],_,_,_,h,_=>h.elim
 | _ :: _,_ :: _,[],_,_,h,_=>h.elim
end
end Go.Proofs.Xx
namespace Go.Proofs.Xx
open Go Go.RowKit
section
variable {P:Program}
theorem Rel.qah [Glob] {B:Bs} {e:Emb} {h:AH} {w:World} (r:Rel B e h w) {k sh:Nat} {cc:Array Value} {el:TypeId} {fr:Nat×Nat} {c:List Value} (hkB:k<B.lo) (hk:w.heap[k]? = some (.cells cc el fr)) (hsz:sh+c.length≤cc.size)
 (hc:∀ i v,c[i]? = some v→∃ v',cc[sh+i]? = some v'∧VR (e.put h.next ⟨k,sh,0⟩) v v') :
 Rel B (e.put h.next ⟨k,sh,0⟩) (h.add (.cells c el none true)) w∧e.le (e.put h.next ⟨k,sh,0⟩):=by
 have hle:=r.QE ⟨k,sh,0⟩;have hlt:k<w.heap.size:=(zB9.1 hk).1;refine ⟨⟨fun b M q=>?_,fun b hb=>?_,fun b M q=>?_,fun b M p q1 q2=>?_,fun b M p b' M' p' e1 e2 e3 e4 e5 e6 e7=>?_,fun b M p q1 q2 q3=>?_,r.base,r.keep,r.glob⟩,hle⟩
 ·by_cases hb:b=h.next
  ·subst hb;exact zF9 _
  ·rw [Emb.zf _ _ hb] at q;exact Nat.lt_succ_of_lt (r.dom b M q)
 ·have hb':h.next+1≤b:=hb
  rw [AH.qX,if_neg (by omega)];exact r.wf b (by omega)
 ·by_cases hb:b=h.next
  ·subst hb;rw [Emb.qP] at q;cases q;exact hlt
  ·rw [Emb.zf _ _ hb] at q;exact r.rng b M q
 ·rw [AH.qX] at q2;by_cases hb:b=h.next
  ·subst hb;rw [Emb.qP] at q1;cases q1;rw [if_pos rfl] at q2;cases q2
   exact ⟨cc,fr,hk,hsz,hc,(fun _=>⟨rfl,fun q=>by cases q⟩),(fun _ q=>by cases q),(fun q=>by cases q)⟩
  ·rw [Emb.zf _ _ hb] at q1;rw [if_neg hb] at q2;exact (r.obj b M p q1 q2).mono hle
 ·rw [AH.qX] at e2 e4;by_cases hb':b'=h.next
  ·subst hb';rw [if_pos rfl] at e4;cases e4;cases e7
  ·rw [Emb.zf _ _ hb'] at e3;rw [if_neg hb'] at e4;by_cases hb:b=h.next
   ·subst hb;rw [Emb.qP] at e1;cases e1
    rw [if_pos rfl] at e2;cases e2
    have:=r.own b' M' p' e3 e4 e7;simp only at e5;omega
   ·rw [Emb.zf _ _ hb] at e1;rw [if_neg hb] at e2;exact r.inj b M p b' M' p' e1 e2 e3 e4 e5 e6 e7
 ·rw [AH.qX] at q2;by_cases hb:b=h.next
  ·subst hb;rw [if_pos rfl] at q2;cases q2;cases q3
  ·rw [Emb.zf _ _ hb] at q1;rw [if_neg hb] at q2;exact r.own b M p q1 q2 q3
def Bs.of (w:World):Bs:=⟨w.heap.size,w.heap⟩
def RoH (h:AH):Prop:=∀ b o,h.get b=some o→Z8 o=false
structure WRel [Glob] (w:World) (e:Emb) (h:AH):Prop where
 rel:Rel (Bs.of w) e h w
 ro:RoH h
theorem WRel.empty [Glob] {w:World} (hg:Glob.ok w.heap.size w.heap):WRel w (fun _=>none) ⟨.e,0,0⟩ :=
 ⟨⟨fun b L q=>(by cases q),fun b _=>Tr.y9 b,fun b L q=>(by cases q),fun b L o q=>(by cases q),fun b L o b' L' o' q=>(by cases q),fun b L o q=>(by cases q),zA3 _,fun _ _=>rfl,hg⟩,
  fun b o q=>by rw [show (⟨.e,0,0⟩:AH).get b=none from Tr.y9 b] at q;cases q⟩
theorem WRel.wfH [Glob] {w:World} {e:Emb} {h:AH} (r:WRel w e h):WfH h:=r.rel.wf
theorem WRel.qah [Glob] {e:Emb} {h:AH} {w:World} (r:WRel w e h) {k sh:Nat} {cc:Array Value} {el:TypeId} {fr:Nat×Nat} {c:List Value} (hk:w.heap[k]? = some (.cells cc el fr)) (hsz:sh+c.length≤cc.size)
 (hc:∀ i v,c[i]? = some v→∃ v',cc[sh+i]? = some v'∧VR e v v') :
 ∃ e',WRel w e' (h.add (.cells c el none true))∧e.le e'∧Ext h (h.add (.cells c el none true))∧e' h.next=some ⟨k,sh,0⟩:=by
 have hle:=r.rel.QE ⟨k,sh,0⟩;obtain ⟨r1,r2⟩:=Rel.qah (sh:=sh) (c:=c) r.rel (show k<w.heap.size from (zB9.1 hk).1) hk hsz (fun i v hi=>by obtain ⟨v',h1,h2⟩:=hc i v hi;exact ⟨v',h1,h2.mono hle⟩);refine ⟨_,⟨r1,fun b o q=>?_⟩,r2,(Ext.refl r.wfH).add _,Emb.qP _ _ _⟩;rw [AH.qX] at q;split at q
 ·cases q;rfl
 ·exact r.ro b o q
def AR (P:Program) (h:AH):Nat→TypeId→List Value→Prop
 | 0,_,_=>False
 | f+1,t,cs =>
  match P.underlying t,cs with
  | some .bool,[.bool _]=>True
  | some (.int k),[.int k' n]=>k'=k∧(Lit.int k n).wf=true
  | some .string,[.string s]=>s.size≤maxLen
  | some (.slice e),[v]=>∃ n c,Rd h v (P.cellsOf e) n c∧(n≤maxLen∧n*P.bytesOf e≤reachBytes)∧Q7 v∧∀ i,i<n→AR P h f e ((c.drop (i*P.cellsOf e)).take (P.cellsOf e))
  | some (.struct fs),cs=>cs.length=P.cellsOf t∧∀ fd∈fs.toList,AR P h f fd.type ((cs.drop fd.offset).take (P.cellsOf fd.type))
  | some (.array n e),cs=>cs.length=P.cellsOf t∧∀ i,i<n→AR P h f e ((cs.drop (i*P.cellsOf e)).take (P.cellsOf e))
  | _,_=>False
theorem AR.ext {h h':AH} (w:WfH h) (x:Ext h h'):∀ (f:Nat) (t:TypeId) (cs:List Value),AR P h f t cs→AR P h' f t cs
 | 0,_,_,q=>q
 | f+1,t,cs,q=>by
  unfold AR at q ⊢;split at q
  ·exact q
  ·exact q
  ·exact q
  ·obtain ⟨n,c,h1,h2,hc,h3⟩:=q;exact ⟨n,c,h1.ext w x,h2,hc,fun i hi=>AR.ext w x f _ _ (h3 i hi)⟩
  ·exact ⟨q.1,fun fd hf=>AR.ext w x f _ _ (q.2 fd hf)⟩
  ·exact ⟨q.1,fun i hi=>AR.ext w x f _ _ (q.2 i hi)⟩
  ·exact q
section
variable {H:Type} {enc:TypeId×Value→H}
def Light (P:Program) (t:TypeId) (d:DataW H):Prop:=∀ n∈DataW.weights P t d,n≤reachBytes
theorem JQ:∀ (ts:List TypeId) (ds:List (DataW H)) (j:Nat) (t:TypeId) (d:DataW H),ts[j]? = some t→ds[j]? = some d→∀ n∈DataW.weights P t d,n∈DataW.weightsEach P ts ds
 | [],_,_,_,_,q,_=>by simp at q
 | _ :: _,[],_,_,_,_,q=>by simp at q
 | t :: ts,d :: ds,0,_,_,q1,q2=>by
  simp only [List.getElem?_cons_zero,Option.some.injEq] at q1 q2;subst q1;subst q2;intro n hn;rw [DataW.weightsEach];exact List.mem_append_left _ hn
 | t :: ts,d :: ds,j+1,_,_,q1,q2=>by
  intro n hn;rw [DataW.weightsEach];exact List.mem_append_right _ (JQ ts ds j _ _ (by simpa using q1) (by simpa using q2) n hn)
theorem weightsAll_mem (e:TypeId):∀ (ds:List (DataW H)) (j:Nat) (d:DataW H),ds[j]? = some d→∀ n∈DataW.weights P e d,n∈DataW.weightsAll P e ds
 | [],_,_,q=>by simp at q
 | d :: ds,0,_,q=>by
  simp only [List.getElem?_cons_zero,Option.some.injEq] at q;subst q;intro n hn;rw [DataW.weightsAll];exact List.mem_append_left _ hn
 | d :: ds,j+1,_,q=>by
  intro n hn;rw [DataW.weightsAll];exact List.mem_append_right _ (weightsAll_mem e ds j _ (by simpa using q) n hn)
theorem Light.field {t:TypeId} {fs:Array Field} {ds:List (DataW H)} (hu:P.underlying t=some (.struct fs)) (hl:Light P t (.agg ds)) {i:Nat} {f:Field} {d:DataW H} (hf:fs[i]? = some f) (hd:ds[i]? = some d):Light P f.type d:=fun n hn=>by
 refine hl n ?_;rw [DataW.weights,hu];exact JQ _ _ i _ _ (by simp [hf]) hd n hn
theorem Light.item {t e:TypeId} {k:Nat} {ds:List (DataW H)} (hu:P.underlying t=some (.array k e)) (hl:Light P t (.agg ds)) {i:Nat} {d:DataW H} (hd:ds[i]? = some d):Light P e d:=fun n hn=>by
 refine hl n ?_;rw [DataW.weights,hu];exact weightsAll_mem e _ i _ hd n hn
theorem Light.elem {t e:TypeId} {ds rs:List (DataW H)} (hu:P.underlying t=some (.slice e)) (hl:Light P t (.slice ds rs)) {i:Nat} {d:DataW H} (hd:ds[i]? = some d):Light P e d:=fun n hn=>by
 refine hl n ?_;rw [DataW.weights,hu];exact List.mem_cons_of_mem _ (List.mem_append_left _ (weightsAll_mem e _ i _ hd n hn))
theorem Light.slice {t e:TypeId} {ds rs:List (DataW H)} (hu:P.underlying t=some (.slice e)) (hl:Light P t (.slice ds rs)):ds.length*P.bytesOf e≤reachBytes:=by
 have h1:=hl ((ds.length+rs.length)*P.bytesOf e) (by rw [DataW.weights,hu];exact List.mem_cons_self);exact zD0 (zD3 _ (Nat.le_add_right _ _)) h1
theorem kZ:∀ (fs:List Field) (a n:Nat),yH P fs a n=true→a≤n
 | [],a,n,h=>by have:=zA6 h;omega
 | f :: r,a,n,h=>by
  simp only [yH,zA8] at h;have:=kZ r _ n h.2;omega
def qcn [Glob] (enc:TypeId×Value→H) (P:Program) (w:World) (base:Nat) (sp:Nat→Bool) (held:Bool) (n:Nat) (t:TypeId) (cs:List Value):Prop:=∀ e h,WRel w e h→∃ e' h' r,WRel w e' h'∧e.le e'∧Ext h h'∧VRs e' r cs∧AR P h' n t r
theorem VS [Glob] {w:World} {base n:Nat} {sp:Nat→Bool} {held:Bool} {cs:List Value}:∀ (fs:List Field) (a:Nat),yH P fs a cs.length=true →
 (∀ fd∈fs,qcn enc P w base sp held n fd.type ((cs.drop fd.offset).take (P.cellsOf fd.type)))→∀ e h,WRel w e h →
 ∃ e' h' r,WRel w e' h'∧e.le e'∧Ext h h'∧VRs e' r (cs.drop a)∧∀ fd∈fs,a≤fd.offset∧AR P h' n fd.type ((r.drop (fd.offset - a)).take (P.cellsOf fd.type))
 | [],a,ht,_,e,h,r=>by
  have:=zA6 ht;exact ⟨e,h,[],r,e.le_refl,Ext.refl r.wfH,by rw [this,List.drop_length];exact .nil,fun fd q=>by cases q⟩
 | f :: fs,a,ht,hk,e,h,r=>by
  simp only [yH,zA8] at ht;have hoff:=zA6 ht.1;have hle:=kZ fs _ _ ht.2;obtain ⟨e1,h1,c1,r1,l1,x1,v1,a1⟩:=hk f (by simp) e h r;obtain ⟨e2,h2,c2,r2,l2,x2,v2,a2⟩:=VS fs _ ht.2 (fun fd q=>hk fd (by simp [q])) e1 h1 r1;have hc1:c1.length=P.cellsOf f.type:=by
   have:=v1.length;rw [zA9,zB4,hoff] at this;omega
  refine ⟨e2,h2,c1 ++ c2,r2,Emb.le_trans l1 l2,x1.trans x2,?_,?_⟩
  ·have:=(v1.mono l2).append v2;rw [hoff,← List.drop_drop,zH0] at this;exact this
  ·intro fd q;rcases zE7.1 q with rfl|q
   ·refine ⟨by omega,?_⟩;rw [hoff,zG5,List.drop_zero,List.take_append_of_le_length (by omega),zF7 (by omega)];exact a1.ext r1.wfH x2 _ _ _
   ·obtain ⟨q1,q2⟩:=a2 fd q;refine ⟨by omega,?_⟩;rw [show fd.offset - a=c1.length+(fd.offset - (a+P.cellsOf f.type)) by omega,← List.drop_drop,List.drop_left];exact q2
theorem xA [Glob] {w:World} {base n:Nat} {sp:Nat→Bool} {held:Bool} {ty:TypeId} {z:Nat} {cs:List Value}:∀ (k:Nat),k*z≤cs.length →
 (∀ i,i<k→qcn enc P w base sp held n ty ((cs.drop (i*z)).take z))→∀ e h,WRel w e h →
 ∃ e' h' r,WRel w e' h'∧e.le e'∧Ext h h'∧VRs e' r (cs.take (k*z))∧∀ i,i<k→AR P h' n ty ((r.drop (i*z)).take z)
 | 0,_,_,e,h,r=>⟨e,h,[],r,e.le_refl,Ext.refl r.wfH,by simp;exact .nil,fun i q=>by omega⟩
 | k+1,hk,ht,e,h,r=>by
  rw [zE1,Nat.one_mul] at hk;obtain ⟨e1,h1,c1,r1,l1,x1,v1,a1⟩:=xA k (by omega) (fun i q=>ht i (by omega)) e h r;obtain ⟨e2,h2,c2,r2,l2,x2,v2,a2⟩:=ht k (by omega) e1 h1 r1;have hc1:c1.length=k*z:=by
   have:=v1.length;rw [zA9] at this;omega
  have hc2:c2.length=z:=by
   have:=v2.length;rw [zA9,zB4] at this;omega
  refine ⟨e2,h2,c1 ++ c2,r2,Emb.le_trans l1 l2,x1.trans x2,?_,fun i hi=>?_⟩
  ·have:=(v1.mono l2).append v2;rw [zE1,Nat.one_mul,List.take_add];exact this
  ·by_cases hik:i<k
   ·have:(i+1)*z≤k*z:=zD3 z hik;rw [zE1,Nat.one_mul] at this;rw [List.drop_append_of_le_length (by omega),List.take_append_of_le_length (by rw [zB4];omega)];exact (a1 i hik).ext r1.wfH x2 _ _ _
   ·obtain rfl:i=k:=by omega
    rw [← hc1,List.drop_left,zF7 (by omega)];exact a2
theorem embed [Glob] {w:World} {base:Nat} {sp:Nat→Bool} (hsp:∀ b,sp b=true) {held:Bool} (hw:∃ (k:Nat) (cc:Array Value) (el:TypeId) (fr:Nat×Nat),w.heap[k]? = some (.cells cc el fr)):∀ (n m:Nat) (t:TypeId) (cs:List Value) (x:DataW H×List MemPlace),QO P m t=true →
 DataW.trod enc P w base sp held n t cs=some x→Light P t x.1→qcn enc P w base sp held n t cs
 | 0,_,_,_,_,_,h,_=>by simp [DataW.trod] at h
 | _+1,0,_,_,_,h,_,_=>by cases h
 | n+1,m+1,t,cs,x,hp,h,hlt=>by
  intro e h0 r;unfold QO at hp;cases hu:P.underlying t with
  | none=>rw [hu] at hp;cases hp
  | some u =>
   rw [hu] at hp;cases u with
   | bool =>
    obtain ⟨b,rfl,-⟩:=DataW.trod_bool hu h;exact ⟨e,h0,[.bool b],r,e.le_refl,Ext.refl r.wfH,.one (.bool b),by unfold AR;rw [hu];trivial⟩
   | int k =>
    obtain ⟨b,rfl,-,hwf⟩:=DataW.trod_int hu h;exact ⟨e,h0,[.int k b],r,e.le_refl,Ext.refl r.wfH,.one (.int k b),by unfold AR;rw [hu];exact ⟨rfl,hwf⟩⟩
   | string =>
    obtain ⟨s,rfl,-,hs⟩:=DataW.trod_string hu h;exact ⟨e,h0,[.string s],r,e.le_refl,Ext.refl r.wfH,.one (.string s),by unfold AR;rw [hu];exact hs⟩
   | struct fs =>
    simp only [zA8,zC8] at hp;obtain ⟨xs,n',hn,hxe,hlen,hxl,hf⟩:=DataW.trod_struct hu h;rw [hxe] at hlt;obtain rfl:n'=n:=by omega
    obtain ⟨e1,h1,c1,r1,l1,x1,v1,a1⟩:=VS fs.toList 0 (by rw [hlen];exact hp.2) (fun fd hfd=>by
     obtain ⟨i,hi,rfl⟩:=List.getElem_of_mem hfd;have hg:fs[i]? = some fs.toList[i]:=by rw [← zC1];exact zA4 hi
     have h2:=hf i _ hg;have hix:i<xs.length:=by rw [hxl];simpa using hi
     rw [zA4 hix] at h2;exact embed hsp hw n' m _ _ _ (hp.1 _ (List.getElem_mem hi)) h2 (hlt.field hu hg (by rw [zH8,zA4 hix];rfl))) e h0 r
    refine ⟨e1,h1,c1,r1,l1,x1,by simpa using v1,?_⟩;unfold AR;rw [hu];have hl1:=v1.length;simp only [List.drop_zero] at hl1;exact ⟨by omega,fun fd hfd=>by have:=(a1 fd hfd).2;simpa using this⟩
   | array k el =>
    simp only [zA8] at hp;have hsz:=zA6 hp.2;obtain ⟨xs,n',hn,hxe,hlen,hxl,hf⟩:=DataW.trod_array hu h;rw [hxe] at hlt;obtain rfl:n'=n:=by omega
    obtain ⟨e1,h1,c1,r1,l1,x1,v1,a1⟩:=xA (z:=P.cellsOf el) (ty:=el) (cs:=cs) k (by omega) (fun i hi=>by
     have h2:=hf i hi;have hix:i<xs.length:=by omega
     rw [zA4 hix] at h2;exact embed hsp hw n' m _ _ _ hp.1 h2 (hlt.item hu (by rw [zH8,zA4 hix];rfl))) e h0 r
    rw [zF7 (by omega)] at v1;refine ⟨e1,h1,c1,r1,l1,x1,v1,?_⟩;unfold AR;rw [hu];exact ⟨by have:=v1.length;omega,a1⟩
   | slice el =>
    simp only [zA8,zG2] at hp;have hz:P.cellsOf el≠0:=fun q=>by have:=hp.2.2;rw [q] at this;simp at this
    rcases DataW.trod_slice hu h with ⟨rfl,-⟩|⟨a,len,cap,elems,rest,n',hn,rfl,hxe,hb,hl,hm,hlen,hel,hrest,-⟩
    ·refine ⟨e,h0,[.slice none 0 0],r,e.le_refl,Ext.refl r.wfH,.one .nilSlice,?_⟩;unfold AR;rw [hu];exact ⟨0,[],Rd.none_ _ _,⟨zB0 _,by rw [Nat.zero_mul];exact zB0 _⟩,zA3 _,fun i hi=>by omega⟩
    ·obtain rfl:n'=n:=by omega
     rw [hxe] at hlt;have hwt:len*P.bytesOf el≤reachBytes:=by have:=hlt.slice hu;rwa [zC5,hlen] at this
     obtain ⟨hr1,hr2⟩:=hrest (hsp _);rcases zF3 cap with hc0|hc0
     ·subst hc0;obtain rfl:len=0:=by omega
      obtain ⟨k,cc,el0,fr,hk⟩:=hw;obtain ⟨e1,r1,l1,x1,q1⟩:=r.qah (sh:=0) (c:=[]) hk (by simp) (fun i v hi=>by simp at hi);refine ⟨e1,_,[.slice (some ⟨h0.next,0,none⟩) 0 0],r1,l1,x1,.one (.slice h0.next 0 a 0 0 ⟨k,0,0⟩ q1 (zA3 _) (.inr ⟨rfl,rfl⟩)),?_⟩;unfold AR;rw [hu];exact ⟨0,[],.inr ⟨h0.next,0,0,[],el0,none,true,rfl,by rw [AH.qX,if_pos rfl],by simp [zt]⟩,⟨zB0 _,by rw [Nat.zero_mul];exact zB0 _⟩,zA3 _,fun i hi=>by omega⟩
     ·
      have hfirst:∃ cs0 y,w.cells? base a (P.cellsOf el)=some cs0∧DataW.trod enc P w base sp held n' el cs0=some y:=by
       rcases zF3 len with h0'|h0'
       ·have h2:=hr2 0 (by omega);have hix:0<rest.length:=by omega
        rw [zA4 hix,h0',Option.bind_eq_some_iff] at h2;obtain ⟨cs0,q1,q2⟩:=h2;exact ⟨cs0,_,by simpa [Addr.add] using q1,q2⟩
       ·have h2:=hel 0 h0';have hix:0<elems.length:=by omega
        rw [zA4 hix,Option.bind_eq_some_iff] at h2;obtain ⟨cs0,q1,q2⟩:=h2;exact ⟨cs0,_,by simpa [Addr.add] using q1,q2⟩
      obtain ⟨cs0,y0,g1,-⟩:=hfirst;obtain ⟨-,g2,g3⟩:=World.cells?_some g1;have g4:=g3 0 (by omega);rw [zA4 (by omega)] at g4;obtain ⟨ab,ao,asp⟩:=a;simp only [Addr.add,if_true] at g4;unfold World.cell? at g4;simp only at g4;cases hblk:w.heap[ab]? with
      | none=>rw [hblk] at g4;cases g4
      | some ob =>
       rw [hblk] at g4;cases ob with
       | cells cc el0 fr =>
        simp only at g4;cases asp with
        | some s=>simp at g4
        | none =>
         simp only [Option.isSome_none,zD9,if_false] at g4;have hao:ao<cc.size:=(zB9.1 g4).1;have hcell:∀ (i:Nat) (v:Value),w.cell? ⟨ab,ao+i,none⟩=some v↔cc[ao+i]? = some v:=fun i v=>by
          unfold World.cell?;simp [hblk]
         have helem:∀ i,i<len→∃ y,DataW.trod enc P w base sp held n' el (((cc.toList.drop ao).drop (i*P.cellsOf el)).take (P.cellsOf el))=some y∧Light P el y.1∧ao+i*P.cellsOf el+P.cellsOf el≤cc.size:=by
          intro i hi;have h2:=hel i hi;have hix:i<elems.length:=by omega
          rw [zA4 hix,Option.bind_eq_some_iff] at h2;obtain ⟨ci,q1,q2⟩:=h2;obtain ⟨-,q3,q4⟩:=World.cells?_some q1;have hadd:∀ j,((⟨ab,ao,none⟩:Addr).add (i*P.cellsOf el)).add j=⟨ab,ao+(i*P.cellsOf el+j),none⟩:=fun j=>by rw [jr,jr,zF6]
          have hlast:ao+i*P.cellsOf el+P.cellsOf el≤cc.size:=by
           have q5:=q4 (P.cellsOf el - 1) (by omega);rw [zA4 (by omega),hadd,hcell] at q5;have:=(zB9.1 q5).1;omega
          refine ⟨elems[i],?_,hlt.elem hu (i:=i) (by rw [zH8,zA4 hix];rfl),hlast⟩;rw [← q2];congr 1
          refine List.ext_getElem? fun j=>?_;by_cases hj:j<P.cellsOf el
          ·rw [zC7,if_pos hj,zC3,zC3];have q5:=q4 j hj;have e2:ci[j]? = some (ci[j]'(by omega)):=zA4 (by omega);rw [e2,hadd,hcell] at q5;rw [e2,zC1];exact q5
          ·rw [zG4 (by rw [zA9];omega),zG4 (by omega)]
         have hfit:ao+len*P.cellsOf el≤cc.size:=by
          rcases zF3 len with h0'|h0'
          ·rw [h0',Nat.zero_mul];omega
          ·obtain ⟨-,-,-,q⟩:=helem (len - 1) (by omega);have:(len - 1)*P.cellsOf el+P.cellsOf el=len*P.cellsOf el:=by
            rw [← Nat.succ_mul];congr 1;omega
           omega
         obtain ⟨e1,h1,c1,r1,l1,x1,v1,a1⟩:=xA (z:=P.cellsOf el) (ty:=el) (cs:=cc.toList.drop ao) len (by simp;omega) (fun i hi=>by
          obtain ⟨y,q1,q2,-⟩:=helem i hi;exact embed hsp hw n' m _ _ _ hp.2.1 q1 q2) e h0 r
         have hc1:c1.length=len*P.cellsOf el:=by
          have:=v1.length;rw [zA9,zB4,zC2] at this;omega
         obtain ⟨e2,r2,l2,x2,q2⟩:=r1.qah (sh:=ao) (c:=c1) hblk (by omega) (fun i v hi=>by
          obtain ⟨v',q1,q2⟩:=v1.get i v hi;refine ⟨v',?_,q2⟩;rw [zC7,zC3,zC1] at q1;split at q1
          ·exact q1
          ·cases q1)
         refine ⟨e2,_,[.slice (some ⟨h1.next,0,none⟩) len cap],r2,Emb.le_trans l1 l2,x1.trans x2,.one (.slice h1.next 0 ⟨ab,ao,none⟩ len cap ⟨ab,ao,0⟩ q2 hl (.inl rfl)),?_⟩;unfold AR;rw [hu];refine ⟨len,c1,.inr ⟨h1.next,0,cap,c1,el0,none,true,rfl,by rw [AH.qX,if_pos rfl],by rw [← hc1];exact jb c1⟩,⟨by omega,hwt⟩,hl,fun i hi=>(a1 i hi).ext r1.wfH x2 _ _ _⟩
       | _=>cases g4
   | _=>cases hp
end
end
end Go.Proofs.Xx
namespace Go.Proofs.Xx
open Go Go.RowKit Go.WideShapes Go.ChangeShapes
theorem VRs.Wl {e:Emb} {r:List Value} {v:Value} (h:VRs e r [v]):∃ u,r=[u]∧VR e u v:=by
 cases h with
 | cons u v' s s' h1 h2=>cases h2;exact ⟨u,rfl,h1⟩
section
variable {P:Program}
def qch (P:Program) (t:TypeId) (r:List Value):Value :=
 match P.underlying t with
 | some (.struct _)|some (.array _ _)=>.agg r.toArray
 | _=>r.headD .nilFunc
theorem qdk {w:World} {rc:Reach} {b0 m:Nat} {t:TypeId} {v:Value} {e:Emb} {r:List Value} (hp:QO P m t=true) (hval:Value.okWide P w rc b0 t v) (hv:VRs e r v.cells.toList):VR e (qch P t r) v:=by
 cases m with
 | zero=>cases hp
 | succ m =>
  unfold QO at hp;unfold qch;unfold Value.okWide at hval;cases hu:P.underlying t with
  | none=>rw [hu] at hp;cases hp
  | some u =>
   rw [hu] at hp hval;cases u with
   | struct fs =>
    obtain ⟨cs,rfl,-⟩:=hval;exact VR.agg (f:=e) r cs.toList (by simpa [Value.cells] using hv)
   | array n el =>
    obtain ⟨cs,rfl,-⟩:=hval;exact VR.agg (f:=e) r cs.toList (by simpa [Value.cells] using hv)
   | bool =>
    have:∃ b,v = .bool b:=by cases v<;>simp_all [Cell.okWide,Cell.ok]
    obtain ⟨b,rfl⟩:=this;obtain ⟨x,rfl,h1⟩:=VRs.Wl (show VRs e r [.bool b] from hv);exact h1
   | int k =>
    have:∃ k' b,v = .int k' b:=by cases v<;>simp_all [Cell.okWide,Cell.ok]
    obtain ⟨k',b,rfl⟩:=this;obtain ⟨x,rfl,h1⟩:=VRs.Wl (show VRs e r [.int k' b] from hv);exact h1
   | string =>
    have:∃ b,v = .string b:=by cases v<;>simp_all [Cell.okWide,Cell.ok]
    obtain ⟨b,rfl⟩:=this;obtain ⟨x,rfl,h1⟩:=VRs.Wl (show VRs e r [.string b] from hv);exact h1
   | slice el =>
    have:∃ a l c,v = .slice a l c:=by cases v<;>simp_all [Cell.okWide,Cell.ok]
    obtain ⟨a,l,c,rfl⟩:=this;obtain ⟨x,rfl,h1⟩:=VRs.Wl (show VRs e r [.slice a l c] from hv);exact h1
   | _=>cases hp
def ArgsR (P:Program) (h:AH):List TypeId→List Value→Prop
 | [],[]=>True
 | t :: ts,u :: us=>(∃ n r,AR P h n t r∧u=qch P t r)∧ArgsR P h ts us
 | _,_=>False
theorem ArgsR.ext {h h':AH} (w:WfH h) (x:Ext h h'):∀ (ts:List TypeId) (us:List Value),ArgsR P h ts us→ArgsR P h' ts us
 | [],[],q=>q
 | t :: ts,u :: us,q=>⟨let ⟨n,r,h1,h2⟩:=q.1;⟨n,r,h1.ext w x _ _ _,h2⟩,ArgsR.ext w x ts us q.2⟩
 | [],_ :: _,q=>q.elim
 | _ :: _,[],q=>q.elim
theorem ArgsR.cons_inv {h:AH} {t:TypeId} {ts:List TypeId} {us:List Value} (a:ArgsR P h (t :: ts) us):∃ n r us',us=qch P t r :: us'∧AR P h n t r∧ArgsR P h ts us':=by
 cases us with
 | nil=>exact a.elim
 | cons u us =>
  obtain ⟨⟨n,r,h1,rfl⟩,h2⟩:=a;exact ⟨n,r,us,rfl,h1,h2⟩
theorem ArgsR.jy {h:AH} {us:List Value} (a:ArgsR P h [] us):us=[]:=by
 cases us with
 | nil=>rfl
 | cons u us=>exact a.elim
section
variable {H:Type} {enc:TypeId×Value→H}
theorem vC [Glob] {w:World} {rc:Reach} {b0 base:Nat} {held:Bool} (hw:∃ (k:Nat) (cc:Array Value) (el:TypeId) (fr:Nat×Nat),w.heap[k]? = some (.cells cc el fr)):∀ (ts:List TypeId) (vs:List Value) (ds:List (DataW H)) (ps:List MemPlace),
 ts.all (QO P 20)=true→(∀ (j:Nat) t v,ts[j]? = some t→vs[j]? = some v→Value.okWide P w rc b0 t v)→DataW.TrodAll enc P w base (fun _=>true) held ts vs ds ps→(∀ n∈DataW.weightsEach P ts ds,n≤reachBytes)→∀ e h,WRel w e h →
 ∃ e' h' us,WRel w e' h'∧e.le e'∧Ext h h'∧VRs e' us vs∧ArgsR P h' ts us
 | [],[],[],_,_,_,_,_,e,h,r=>⟨e,h,[],r,e.le_refl,Ext.refl r.wfH,.nil,trivial⟩
 | t :: ts,v :: vs,d :: ds,ps,hp,hval,hA,hz,e,h,r=>by
  rw [DataW.weightsEach] at hz;simp only [List.all_cons,zA8] at hp;obtain ⟨p,q,⟨fuel,h1⟩,h2,rfl⟩:=hA;obtain ⟨e1,g1,r1,w1,l1,x1,v1,a1⟩:=embed (fun _=>rfl) hw fuel 20 t _ _ hp.1 h1 (fun n hn=>hz n (List.mem_append_left _ hn)) e h r;obtain ⟨e2,g2,us,w2,l2,x2,v2,a2⟩:=vC hw ts vs ds q hp.2 (fun j t v q1 q2=>hval (j+1) t v (by simpa using q1) (by simpa using q2)) h2 (fun n hn=>hz n (List.mem_append_right _ hn)) e1 g1 w1;exact ⟨e2,g2,qch P t r1 :: us,w2,Emb.le_trans l1 l2,x1.trans x2,.cons _ _ _ _ (qdk hp.1 (hval 0 t v rfl rfl) (v1.mono l2)) v2,⟨fuel,r1,a1.ext w1.wfH x2 _ _ _,rfl⟩,a2⟩
 | [],[],_ :: _,_,_,_,h,_,_,_,_=>h.elim
 | [],_ :: _,_,_,_,_,h,_,_,_,_=>h.elim
 | _ :: _,[],_,_,_,_,h,_,_,_,_=>h.elim
 | _ :: _,_ :: _,[],_,_,_,h,_,_,_,_=>h.elim
theorem yX:∀ {ts us:List TypeId} {ds gs:List (DataW H)},(DataW.weightsEach P (ts ++ us) (ds ++ gs)).all (·≤reachBytes)=true→∀ n∈DataW.weightsEach P ts ds,n≤reachBytes
 | [],_,_,_,_=>fun n hn=>by simp [DataW.weightsEach] at hn
 | _ :: _,_,[],_,_=>fun n hn=>by simp [DataW.weightsEach] at hn
 | t :: ts,us,d :: ds,gs,hz=>fun n hn=>by
  rw [zC6,zC6,DataW.weightsEach,List.all_append,zA8] at hz;rw [DataW.weightsEach] at hn;rcases zB8.1 hn with q|q
  ·exact of_decide_eq_true (zC8.1 hz.1 n q)
  ·exact yX hz.2 n q
theorem qaI [Glob] {X:Extern} (hm:P.follows .mixedOrders=true) (hX:Vx P X) (hN:∀ (f:FuncId) (fn:Func),P.funcs[f]? = some fn→fn.body.isSome=true→(fn.name == "runtime.NumGoroutine")=false)
 {f:FuncId} {fn:Func} {body:Code} (hfn:P.funcs[f]? = some fn) (hb:fn.body=some body) (hXn:∀ us h,X f us h=none) (hpl:fn.params.toList.all (QO P 20)=true)
 (core:∀ h us,WfH h→ArgsR P h fn.params.toList us→Fn P X f us h (fun x _=>x = .bool true))
 {w:World} {rc:Reach} {b0:Nat} {args:Array Value} {ds:List (DataW H)} {ps:List MemPlace} (hg:Glob.ok w.heap.size w.heap) (hw:∃ (k:Nat) (cc:Array Value) (el:TypeId) (fr:Nat×Nat),w.heap[k]? = some (.cells cc el fr))
 (hval:∀ (j:Nat) t v,fn.params[j]? = some t→args[j]? = some v→Value.okWide P w rc b0 t v) (hA:DataW.TrodAll enc P w 0 (fun _=>true) true fn.params.toList args.toList ds ps) (hz:∀ n∈DataW.weightsEach P fn.params.toList ds,n≤reachBytes) :
 Calls P f args w fun e w'=>e = .returned (.bool true)∧Below w.heap.size w w':=by
 obtain ⟨e,h,us,r,-,-,v1,a1⟩:=vC (P:=P) hw fn.params.toList args.toList ds ps hpl (fun j t v q1 q2=>hval j t v (by simpa using q1) (by simpa using q2)) hA hz _ _ (WRel.empty hg);obtain ⟨n,v,h',hc,rfl⟩:=core h us r.wfH a1;obtain ⟨e',v',w',r1,t1,hv,hcalls⟩:=Gh (xx hm hX hN n) hc (hXn us h) hfn hb r.rel v1;cases hv
 rw [Array.toArray_toList] at hcalls;refine hcalls.mono fun en w'' ⟨q1,q2⟩=>?_;subst q2;exact ⟨q1,t1.os,t1.tape,t1.output,t1.size,fun k hk=>r1.keep k hk⟩
end
end
end Go.Proofs.Xx
namespace Go.Proofs.Xx
open Go Go.RowKit Go.WideShapes Go.ChangeShapes
section
variable {H:Type} {enc:TypeId×Value→H} {P:Program}
theorem trodAll_length {W:World} {base:Nat} {sp:Nat→Bool} {held:Bool}:∀ {ts:List TypeId} {vs:List Value} {ds:List (DataW H)} {ps:List MemPlace},DataW.TrodAll enc P W base sp held ts vs ds ps→ds.length=ts.length
 | [],[],[],_,_=>rfl
 | t :: ts,v :: vs,d :: ds,ps,h=>by
  obtain ⟨p,q,_,h2,_⟩:=h;simp [trodAll_length h2]
 | [],[],_ :: _,_,h=>h.elim
 | [],_ :: _,_,_,h=>h.elim
 | _ :: _,[],_,_,h=>h.elim
 | _ :: _,_ :: _,[],_,h=>h.elim
theorem yh {f:Func} {s:ChangeSpec} {apart fresh handsOn again:Bool} {W W':World} {args:Array Value} {v:Value} {ds gs:List (DataW H)} {before pa pv:List MemPlace}
 (hW:DataW.Whole enc P f.params.toList s.vars apart W args.toList ds gs before)
 (hres:∀ (b:Nat) (sp:Nat→Bool) (hd:Bool),DataW.TrodAll enc P W' b sp hd f.resultTypes.toList (v.resultList f.resultTypes.size) (s.fn H (ds ++ gs)).results [])
 (hargs:∀ sp:Nat→Bool,(∀ p∈before,sp p.block=true)→DataW.TrodAll enc P W' 0 sp true f.params.toList args.toList (s.fn H (ds ++ gs)).args pa)
 (hvars:∀ sp:Nat→Bool,(∀ p∈before,sp p.block=true)→DataW.TrodVars enc P W' sp s.vars (s.fn H (ds ++ gs)).vars pv)
 (hps:before=pa ++ pv) (hb:Below W.heap.size W W')
 (hok:∀ (j:Nat) (t:TypeId) (r:Value),f.resultTypes[j]? = some t→(v.resultList f.resultTypes.size)[j]? = some r→Value.okWide P W' .any 0 t r) :
 s.post enc P f apart fresh handsOn again W args v W':=by
 have hlt:∀ p∈before,p.block<W.heap.size:=fun p hp=>hW.lt p hp;have hold:∀ p∈before,(fun b=>decide (b<W.heap.size)) p.block=true:=fun p hp=>by simpa using hlt p hp
 refine ⟨ds,gs,before,[],pa,pv,hW,hres _ _ _,hargs _ hold,hvars _ hold,World.keptBut_mono (fun p hp=>⟨hp,?_⟩) (hb.frame (·∈before)),fun _=>?_⟩
 ·rw [hps,zB8] at hp;exact Or.inr hp
 ·obtain ⟨_,_,_,_,_,hz,hn⟩:=hW;refine ⟨hok,_,_,([] ++ pa) ++ pv,⟨[] ++ pa,pv,trodAll_append (hargs _ (fun _ _=>rfl)) (hres _ _ _),hvars _ (fun _ _=>rfl),rfl,?_,?_⟩,?_⟩
  ·intro b off hp;have hin:MemPlace.cell b off∈before:=by rw [hps];simpa using hp
   rw [hb.frozen (hlt _ hin)];exact hz b off hin
  ·intro ha;have:=hn ha;rw [hps] at this;simpa using this
  ·intro p hp _;rw [hps];simpa using hp
end
end Go.Proofs.Xx
namespace Go.Proofs.Xx
open Go
section
variable {P:Program} {h:AH}
theorem AR.GI {n:Nat} {t:TypeId} {r:List Value} (a:AR P h n t r) (hu:P.underlying t=some .string):∃ s:List UInt8,r=[str s]∧s.length≤maxLen:=by
 cases n with
 | zero=>exact a.elim
 | succ n =>
  unfold AR at a;rw [hu] at a;split at a
  all_goals (first|exact a.elim|(rename_i q _;cases q;done)|(rename_i q;cases q;done)|skip)
  rename_i s q
  exact ⟨s.data.toList,by rw [qba],by simpa using a⟩
theorem AR.qd5 {n:Nat} {t:TypeId} {r:List Value} {k:IntKind} (a:AR P h n t r) (hu:P.underlying t=some (.int k)):∃ x:Int,r=[.int k x]∧(Lit.int k x).wf=true:=by
 cases n with
 | zero=>exact a.elim
 | succ n =>
  unfold AR at a;rw [hu] at a;split at a
  all_goals (first|exact a.elim|(rename_i q _;cases q;done)|(rename_i q;cases q;done)|skip)
  rename_i k0 k' x q
  cases q
  obtain ⟨rfl,h2⟩:=a;exact ⟨x,rfl,h2⟩
theorem AR.vU {n:Nat} {t:TypeId} {r:List Value} {fs:Array Field} {m:List (Nat×TypeId)} {z:Nat} (a:AR P h n t r) (hu:P.underlying t=some (.struct fs)) (hm:fs.toList.map (fun f=>(f.offset,f.type))=m) (hz:P.cellsOf t=z) :
 ∃ n',r.length=z∧∀ p∈m,AR P h n' p.2 ((r.drop p.1).take (P.cellsOf p.2)):=by
 cases n with
 | zero=>exact a.elim
 | succ n =>
  unfold AR at a;rw [hu] at a;replace a:r.length=P.cellsOf t∧∀ fd∈fs.toList,AR P h n fd.type ((r.drop fd.offset).take (P.cellsOf fd.type)):=a;refine ⟨n,by rw [a.1,hz],fun p hp=>?_⟩;rw [← hm,zF0] at hp;obtain ⟨fd,hf,rfl⟩:=hp;exact a.2 fd hf
theorem pieces {α:Type} {z:Nat} {enc:α→List Value} {good:α→Prop}:∀ (n:Nat) (c:List Value),c.length=n*z→(∀ i,i<n→∃ y,(c.drop (i*z)).take z=enc y∧good y)→∃ l:List α,l.length=n∧c=l.flatMap enc∧∀ y∈l,good y
 | 0,c,hc,_=>⟨[],rfl,by rw [Nat.zero_mul] at hc;rw [zE8.1 hc];rfl,fun y q=>by cases q⟩
 | n+1,c,hc,hk=>by
  rw [zE1,Nat.one_mul] at hc;obtain ⟨y,h1,h2⟩:=hk 0 (by omega);obtain ⟨l,l1,l2,l3⟩:=pieces (z:=z) (enc:=enc) (good:=good) n (c.drop z) (by rw [zB4,hc];omega) (fun i hi=>by
   obtain ⟨y,q1,q2⟩:=hk (i+1) (by omega);refine ⟨y,?_,q2⟩;rw [List.drop_drop,← q1,zE1,Nat.one_mul,Nat.add_comm z])
  rw [Nat.zero_mul,List.drop_zero] at h1;refine ⟨y :: l,by simp [l1],?_,fun x q=>?_⟩
  ·rw [zG1,← h1,← l2,zH0]
  ·rcases zE7.1 q with rfl|q
   ·exact h2
   ·exact l3 x q
theorem AR.wo {α:Type} [Inhabited α] {n:Nat} {t e:TypeId} {r:List Value} {z:Nat} (enc:α→List Value) (good:α→Prop) (a:AR P h n t r) (hu:P.underlying t=some (.slice e)) (hz:P.cellsOf e=z) (hk:∀ n cs,AR P h n e cs→∃ y,cs=enc y∧good y) :
 ∃ v l,r=[v]∧Qy h v z enc l∧(l.length≤maxLen∧l.length*P.bytesOf e≤reachBytes)∧Q7 v∧∀ i,i<l.length→good (l.getD i default):=by
 cases n with
 | zero=>exact a.elim
 | succ n =>
  unfold AR at a;rw [hu] at a;split at a
  all_goals (first|exact a.elim|(rename_i q _;cases q;done)|(rename_i q;cases q;done)|skip)
  rename_i e' v q
  cases q
  obtain ⟨k,c,h1,h2,hc,h3⟩:=a;rw [hz] at h1 h3;obtain ⟨l,l1,l2,l3⟩:=pieces (enc:=enc) (good:=good) k c h1.length (fun i hi=>hk n _ (h3 i hi));subst l1 l2;refine ⟨v,l,rfl,h1,h2,hc,fun i hi=>?_⟩;rw [zA2,zA4 hi];exact l3 _ (List.getElem_mem hi)
end
end Go.Proofs.Xx
