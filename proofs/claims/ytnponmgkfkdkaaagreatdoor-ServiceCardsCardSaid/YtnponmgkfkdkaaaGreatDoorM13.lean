/-
  The reference's check of a problem and of a partial plan.
-/
import Derived.Test.YtnponmgkfkdkaaaGreatDoorM12
import Derived.Test.YtnponmgkfkdkaaaGreatDoorM10
import Derived.Test.YtnponmgkfkdkaaaGreatDoorM11
import Derived.Test.YtnponmgkfkdkaaaGreatDoorM6
import Derived.Test.YtnponmgkfkdkaaaGreatDoorM4
import Derived.Test.YtnponmgkfkdkaaaGreatDoorM8
import Derived.Test.YtnponmgkfkdkaaaGreatDoorM7
set_option linter.unusedSimpArgs false
set_option linter.unusedVariables false
set_option linter.unusedSectionVars false
set_option maxRecDepth 100000
set_option maxHeartbeats 4000000
namespace Go.Proofs.Xx
open Go Go.Proofs
variable [Flag]
structure PbM (v:PbV) (p:Pb):Prop where
 cg:Qn v.vg.val
 few:p.us.length≤200∧p.ts.length≤600
 ru:∀ r∈p.ru,0≤r.k∧r.k≤255
theorem qcr {h0:AH} (w:WfH h0) (v:PbV) (p:Pb) (H:PbOk h0 v p) (M:PbM v p):Fn Tryz.prog Xh 234 [v.val] h0 (fun u h'=>∃ i e,u = .tuple #[.int .i64 i,.int .i64 e]∧BasP p i e∧Hs h0 h' []):=by
 have S:=Hs.start w;have hr:=H.rol.rg;have hl:=H.rol.len;have hlg:=H.rol.lg;have hcr:=H.cl;have hcl:=H.lc;have hl':v.gs.length=p.us.length:=hl;have hlg':p.us.length≤9223372036854775807:=hlg;have htab:=H.tab.rd;have htl:=H.tab.len;unfold PbV.val;refine qA (by first|rfl) Tryz.func234 rfl rfl ?_;all_goals (repeat' (first|refine qg ?_|(refine qc 0 ?_;(refine bx S ?_;clear S;intro b h S);refine mv ?_;refine mv ?_;refine qf ?_)))
 obtain ⟨bp,hnm⟩:∃ x,x=b:=⟨_,rfl⟩;subst hnm;all_goals (repeat' (first|(refine qc 1 ?_;refine vl ?_;refine lB S rfl rfl ?_)))
 (refine qm rfl rfl rfl rfl rfl ((xN S.wf v.vt.val p.tabs (H.tab.ext w S.ext)).mono ?_);rintro _ h ⟨i,e,rfl,hk,x⟩)<;>(replace S:=S.qx x;clear x;refine mv ?_;refine vl ?_;refine vl ?_;refine mv ?_;refine mv ?_;refine qf ?_)
 all_goals (repeat' (first|refine qg ?_|refine qh rfl ?_|refine qi ?_|(refine qc 2 ?_;refine mv ?_;(first|(refine cS ?_ ?_<;>intro hc))<;>(refine qf ?_))|(refine qc 3 ?_;(iterate 4 refine mv ?_);refine qf ?_)))
 ·refine qj ⟨_,rfl,?_⟩;exact ⟨i,e,rfl,.inl ⟨by assumption,hk⟩,S.drop⟩
 have hv:ValidL p.tabs:=hk.valid.1 (by omega);all_goals (repeat' (first|(refine qc 4 ?_;refine vl ?_;refine lB S rfl rfl ?_;refine vl ?_;refine lB S rfl rfl ?_;refine vl ?_)))
 (refine qm rfl rfl rfl rfl rfl ((qco S.wf v.rl p.rl (H.rol.ext w S.ext) M.cg M.few).mono ?_);rintro _ h ⟨⟨rfl,hq⟩|⟨i2,e2,rfl,hq⟩,x⟩)<;>(replace S:=S.qx x;clear x;refine mv ?_;refine vl ?_;refine vl ?_;refine mv ?_;refine mv ?_;refine qf ?_)
 rotate_left
 ·all_goals (repeat' (first|refine qg ?_|refine qh rfl ?_|refine qi ?_|(refine qc 5 ?_;refine mv ?_;(first|(refine cS ?_ ?_<;>intro hc))<;>(refine qf ?_))|(refine qc 6 ?_;(iterate 4 refine mv ?_);refine qf ?_)))
  ·refine qj ⟨_,rfl,?_⟩;exact ⟨i2,e2,rfl,.inr (.inl ⟨hv,hq⟩),S.drop⟩
  ·exact absurd (by omega) hq.1
 have ho:RO p.rl:=Vf.1 hq;all_goals (repeat' (first|refine qg ?_|refine qh rfl ?_|refine qi ?_|(refine qc 5 ?_;refine mv ?_;(refine cF ?_)<;>(refine qf ?_))))
 (repeat (refine qg ?_));first|refine zL (σ:=Unit) (fun _ h'=>Hs h0 h' [.blk bp v.cs 28]∧(p.cl.length=0∨p.cl.length=p.us.length)) (fun _=>[(1,.pointer (some ⟨bp,0,none⟩))]) ?_ ?_
 ·have hl2:v.rl.gs.length=p.us.length:=hl;all_goals (repeat' (first|refine qg ?_|refine qh rfl ?_|refine qi ?_|(refine qc 7 ?_;refine vl ?_;refine lB S rfl rfl ?_;refine jc S ?_;(first|(refine cS ?_ ?_<;>intro hc))<;>(refine mv ?_;(first|refine off ?_|(refine vl ?_));(first|refine off ?_|(refine lB S rfl rfl ?_));(first|refine off ?_|(refine jc S ?_));(first|refine off ?_|(refine vl ?_));(first|refine off ?_|(refine lB S rfl rfl ?_));(first|refine off ?_|(refine jc S ?_));(first|refine off ?_|(first|(refine cS ?_ ?_<;>intro hc)))<;>(refine vl ?_;refine qf ?_)))|(refine qc 8 ?_;refine mv ?_;refine mv ?_;refine qf ?_)))
  ·refine qj ⟨_,rfl,?_⟩;exact ⟨0,44,rfl,.inr (.inr ⟨hv,ho,.inl ⟨fun q=>by have:=q.1;omega,rfl,rfl⟩⟩),S.drop⟩
  ·exact ⟨(),⟨S,by omega⟩,(qw)⟩
  ·exact ⟨(),⟨S,by omega⟩,(qw)⟩
 clear S;rintro _ h ⟨S,h1⟩;all_goals (repeat' (first|refine qg ?_|refine ql ?_|(refine qc 9 ?_;refine mv ?_;refine qf ?_)))
 refine qB (σ:=Nat) (fun i h'=>Hs h0 h' [.blk bp v.cs 28]∧i≤p.cl.length∧∀ j,j<i→0≤p.cl.getD j default∧p.cl.getD j default<64) (fun i=>p.cl.length - i) (fun i=>[(1,.pointer (some ⟨bp,0,none⟩)),(7,.int .i64 i)]) 0 qw ?_ ?_
 ·exact ⟨S,zB0 _,fun j hj=>absurd hj (zB7 _)⟩
 clear S;rintro i h ⟨S,k1,k2⟩;all_goals (repeat' (first|refine qg ?_|refine qh rfl ?_|refine qi ?_|refine qy ?_|refine ql ?_|(refine qc 10 ?_;refine mv ?_;refine vl ?_;refine lB S rfl rfl ?_;refine jc S ?_;(first|(refine cS ?_ ?_<;>intro hc))<;>(refine qf ?_))|(refine qc 12 ?_;refine vl ?_;refine lB S rfl rfl ?_;refine mv ?_;refine zT S ?_;refine zQ S ?_;(first|(refine cS ?_ ?_<;>intro hc))<;>(refine mv ?_;(first|refine off ?_|(refine vl ?_));(first|refine off ?_|(refine lB S rfl rfl ?_));(first|refine off ?_|refine mv ?_);(first|refine off ?_|(refine zT S ?_));(first|refine off ?_|(refine zQ S ?_));(first|refine off ?_|(first|(refine cS ?_ ?_<;>intro hc)))<;>(refine vl ?_;refine qf ?_)))|(refine qc 13 ?_;refine mv ?_;refine mv ?_;refine qf ?_)))
 ·refine qj ⟨_,rfl,?_⟩;exact ⟨0,44,rfl,.inr (.inr ⟨hv,ho,.inl ⟨fun q=>by have:=(q.2 _ (qK (show i<p.cl.length by omega))).1;simp only [zA0] at *;omega,rfl,rfl⟩⟩),S.drop⟩
 ·refine qj ⟨_,rfl,?_⟩;exact ⟨0,44,rfl,.inr (.inr ⟨hv,ho,.inl ⟨fun q=>by have:=(q.2 _ (qK (show i<p.cl.length by omega))).2;simp only [zA0] at *;omega,rfl,rfl⟩⟩),S.drop⟩
 ·(try simp only [zA0] at *)
  all_goals (repeat' (first|(refine qc 11 ?_;refine mv ?_;refine ad ?_;refine mv ?_;refine qf ?_)))
  refine ⟨i+1,?_,?_,qw⟩
  ·show p.cl.length - (i+1)<p.cl.length - i;omega
  ·exact ⟨S,by omega,Qb k2 ⟨by omega,by omega⟩⟩
 have hco:(p.cl.length=0∨p.cl.length=p.us.length)∧∀ c∈p.cl,0≤c∧c<64:=⟨h1,fun c hc2=>by
  obtain ⟨j,hj,rfl⟩:=zy.1 hc2;exact k2 j (by omega)⟩
 have hs:=zD p.tabs p.tabs.length;have hl2:v.rl.gs.length=p.us.length:=hl;(repeat (refine qg ?_));refine Zy (id:=14) [(1,(0,1))] [some (bp)] ?_;refine qp ?_;(first|(refine vl ?_<;>refine qf ⟨⟨by (first|exact True.intro),rfl⟩,?_⟩));refine qp ?_;(first|(refine lB S rfl rfl ?_<;>refine qf ⟨⟨by (first|exact Or.inr rfl),rfl⟩,?_⟩));refine qp ?_;(first|(refine jc S ?_<;>refine qf ⟨⟨by (first|exact True.intro),rfl⟩,?_⟩));refine qp ?_;(first|(refine vl ?_<;>refine qf ⟨⟨by (first|exact True.intro),rfl⟩,?_⟩));refine qp ?_;(first|(refine lB S rfl rfl ?_<;>refine qf ⟨⟨by (first|exact True.intro),rfl⟩,?_⟩));((refine qp ?_;first|refine qm rfl rfl rfl rfl rfl ((XN S.wf v.vt.val p.tabs (htab.ext w S.ext) htl).mono ?_));rintro _ h ⟨rfl,x⟩)<;>((refine qf ⟨⟨True.intro,?_⟩,?_⟩;(focus ((show keepsX _ _ _ _ _;simp only [keepsX];(repeat' (first|exact True.intro|refine And.intro ?_ ?_));all_goals (intro hw;first|exact x.ext.old _ S.bB)))));replace S:=S.qx x;clear x;refine qp ?_;(first|((refine cS ?_ ?_<;>intro hc)<;>refine qf ⟨⟨by (first|exact True.intro),rfl⟩,?_⟩))<;>(refine Zm ?_))
 all_goals (all_goals (repeat' (first|refine qg ?_|refine qh rfl ?_|refine qi ?_|(refine qc 15 ?_;refine mv ?_;refine mv ?_;refine qf ?_))))
 ·refine qj ⟨_,rfl,?_⟩;exact ⟨0,45,rfl,.inr (.inr ⟨hv,ho,.inr ⟨hco,.inl ⟨by omega,rfl,rfl⟩⟩⟩),S.drop⟩
 ·all_goals (repeat' (first|(refine qc 16 ?_;refine mv ?_;refine mv ?_;refine qf ?_)))
  refine qj ⟨_,rfl,?_⟩;exact ⟨0,0,rfl,.inr (.inr ⟨hv,ho,.inr ⟨hco,.inr ⟨by omega,rfl,rfl⟩⟩⟩),S.drop⟩
theorem qaM {h0:AH} (w:WfH h0) (v:PbV) (p:Pb) (H:PbOk h0 v p) (M:PbM v p):Fn Tryz.prog Xh 156 [v.val] h0 (fun u h'=>∃ i e,u = .tuple #[.int .i64 i,.int .i64 e]∧CkP p i e∧Hs h0 h' []):=by
 have S:=Hs.start w;have hr:=H.ru;have hlr:=H.lr;unfold PbV.val;refine qA (by first|rfl) Tryz.func156 rfl rfl ?_;all_goals (repeat' (first|refine qg ?_|(refine qc 0 ?_;(refine bx S ?_;clear S;intro b h S);refine mv ?_;refine mv ?_;refine qf ?_)|(refine qc 1 ?_;refine lB S rfl rfl ?_)))
 obtain ⟨bp,hnm⟩:∃ x,x=b:=⟨_,rfl⟩;subst hnm;(refine qm rfl rfl rfl rfl rfl ((qcr S.wf v p (H.ext w S.ext) M).mono ?_);rintro _ h ⟨i,e,rfl,hk,x⟩)<;>(replace S:=S.qx x;clear x;refine mv ?_;refine vl ?_;refine vl ?_;refine mv ?_;refine mv ?_;refine qf ?_)
 all_goals (repeat' (first|refine qg ?_|refine qh rfl ?_|refine qi ?_|(refine qc 2 ?_;refine mv ?_;(first|(refine cS ?_ ?_<;>intro hc))<;>(refine qf ?_))|(refine qc 3 ?_;(iterate 4 refine mv ?_);refine qf ?_)))
 ·refine qj ⟨_,rfl,?_⟩;exact ⟨i,e,rfl,.inl ⟨by assumption,hk⟩,S.drop⟩
 have he:e=0:=by omega
 subst he;obtain ⟨hb,rfl⟩:=hk.bo;all_goals (repeat' (first|refine ql ?_|(refine qc 4 ?_;refine mv ?_;refine qf ?_)))
 refine qB (σ:=Nat) (fun i h'=>Hs h0 h' [.blk bp v.cs 28]∧i≤p.ru.length∧i≤64∧∀ j,j<i→wR p (p.ru.getD j default)=0) (fun i=>p.ru.length - i) (fun i=>[(1,.pointer (some ⟨bp,0,none⟩)),(6,.int .i64 i)]) 0 qw ?_ ?_
 ·exact ⟨S,zB0 _,zB0 _,fun j hj=>absurd hj (zB7 _)⟩
 clear S;rintro i h ⟨S,k1,k3,k2⟩;all_goals (repeat' (first|refine qg ?_|refine qh rfl ?_|refine qi ?_|refine qy ?_|refine ql ?_|(refine qc 5 ?_;refine mv ?_;refine vl ?_;refine lB S rfl rfl ?_;refine jc S ?_;(first|(refine cS ?_ ?_<;>intro hc))<;>(refine qf ?_))))
 ·have hi:i<p.ru.length:=by omega
  all_goals (repeat' (first|(refine qF 7 ?_;refine lB S rfl rfl ?_;refine vl ?_;refine lB S rfl rfl ?_;refine mv ?_;refine zT S ?_;refine zQ S ?_)))
  (try simp only [zA0] at *)
  obtain ⟨r,hre⟩:∃ r,p.ru.getD i default=r:=⟨_,rfl⟩
  have hrk:=M.ru r (by rw [← hre];exact qK hi);rw [hre];(refine qm rfl rfl rfl rfl rfl ((qaJ S.wf v p (H.ext w S.ext) r hrk).mono ?_);rintro _ h ⟨rfl,x⟩)<;>(replace S:=S.qx x;clear x;refine mv ?_;refine qf ?_)
  all_goals (repeat' (first|refine qg ?_|refine qh rfl ?_|refine qi ?_|(refine qc 8 ?_;refine mv ?_;(first|(refine cS ?_ ?_<;>intro hc))<;>(refine qf ?_))|(refine qc 9 ?_;(iterate 4 refine mv ?_);refine qf ?_)|(refine qc 10 ?_;refine mv ?_;(first|(refine cS ?_ ?_<;>intro hc))<;>(refine qf ?_))|(refine qc 11 ?_;(iterate 3 refine mv ?_);refine qf ?_)))
  ·refine qj ⟨_,rfl,?_⟩;exact ⟨i,_,rfl,.inr ⟨hb,.inl ⟨i,hi,rfl,k3,k2,.inl ⟨by rw [hre];assumption,by rw [hre]⟩⟩⟩,S.drop⟩
  ·refine qj ⟨_,rfl,?_⟩;exact ⟨i,7,rfl,.inr ⟨hb,.inl ⟨i,hi,rfl,k3,k2,.inr ⟨by rw [hre];omega,by omega,rfl⟩⟩⟩,S.drop⟩
  ·all_goals (repeat' (first|(refine qc 6 ?_;refine mv ?_;refine ad ?_;refine mv ?_;refine qf ?_)))
   refine ⟨i+1,?_,?_,qw⟩
   ·show p.ru.length - (i+1)<p.ru.length - i;omega
   ·exact ⟨S,by omega,by omega,Qb k2 (by rw [hre];omega)⟩
 ·all_goals (repeat' (first|(refine qc 12 ?_;refine mv ?_;refine mv ?_;refine qf ?_)))
  refine qj ⟨_,rfl,?_⟩;exact ⟨0,0,rfl,.inr ⟨hb,.inr ⟨by omega,fun j hj=>k2 j (by omega),rfl,rfl⟩⟩,S.drop⟩
theorem qaL {h0:AH} (w:WfH h0) (v:PbV) (p:Pb) (H:PbOk h0 v p) (M:PbM v p) (vq:Value) (q:List Int) (rq:zl h0 vq 1 eI q) (hq:q.length≤9223372036854775807) (wh:Bool) :
 Fn Tryz.prog Xh 96 [v.val,vq,.bool wh] h0 (fun u h'=>∃ i e,u = .tuple #[.int .i64 i,.int .i64 e]∧PaC p q wh i e∧Hs h0 h' []):=by
 have S:=Hs.start w;have hrg:=H.rol.rg;have hgl:v.gs.length=p.us.length:=H.rol.len;have hgl2:v.rl.gs.length=p.us.length:=hgl;have hs:=zD p.tabs p.tabs.length;have htl:=H.tab.len;have htab:=H.tab.rd;unfold PbV.val;refine qA (by first|rfl) Tryz.func96 rfl rfl ?_;all_goals (repeat' (first|refine qg ?_|(refine qc 0 ?_;(refine bx S ?_;clear S;intro b h S);refine mv ?_;refine mv ?_;refine qf ?_)|(refine qc 1 ?_;refine lB S rfl rfl ?_)))
 obtain ⟨b3,hnm⟩:∃ x,x=b:=⟨_,rfl⟩;subst hnm;(refine qm rfl rfl rfl rfl rfl ((qaM S.wf v p (H.ext w S.ext) M).mono ?_);rintro _ h ⟨i,e,rfl,hk,x⟩)<;>(replace S:=S.qx x;clear x;refine mv ?_;refine vl ?_;refine vl ?_;refine mv ?_;refine mv ?_;refine qf ?_)
 have hpo:=hk.po;all_goals (repeat' (first|refine qg ?_|refine qh rfl ?_|refine qi ?_|(refine qc 2 ?_;refine mv ?_;(first|(refine cS ?_ ?_<;>intro hc))<;>(refine qf ?_))|(refine qc 3 ?_;(iterate 3 refine mv ?_);refine qf ?_)))
 ·refine qj ⟨_,rfl,?_⟩;exact ⟨0,e,rfl,.inl ⟨fun q=>(by assumption:¬ e=0) (hpo.2 q),rfl,by assumption,i,hk⟩,S.drop⟩
 have hp:PO p:=hpo.1 (by omega);obtain ⟨N,hN⟩:∃ N:Nat,sumT p.tabs p.tabs.length=N:=⟨(sumT p.tabs p.tabs.length).toNat,by omega⟩
 have mk:∀ {i e:Int},PaE N q p.us.length wh i e→PaC p q wh i e:=fun h=>.inr ⟨hp,by rw [hN];exact h⟩;all_goals (repeat' (first|refine qg ?_|refine qh rfl ?_|refine qi ?_|(refine qc 4 ?_;refine mv ?_;refine jc S ?_;refine vl ?_;refine lB S rfl rfl ?_;refine jc S ?_;(first|(refine cS ?_ ?_<;>intro hc))<;>(refine qf ?_))|(refine qc 5 ?_;refine mv ?_;refine mv ?_;refine qf ?_)))
 ·refine qj ⟨_,rfl,?_⟩;exact ⟨0,53,rfl,mk (.inl ⟨by omega,rfl,rfl⟩),S.drop⟩
 have hql:q.length=p.us.length:=by omega
 all_goals (repeat' (first|(refine qc 6 ?_;refine vl ?_;refine lB S rfl rfl ?_)))
 (refine qm rfl rfl rfl rfl rfl ((XN S.wf v.vt.val p.tabs (htab.ext w S.ext) htl).mono ?_);rintro _ h ⟨rfl,x⟩)<;>(replace S:=S.qx x;clear x;refine mv ?_;refine qf ?_)
 rw [hN];all_goals (repeat' (first|refine qg ?_|refine ql ?_|(refine qc 7 ?_;refine mv ?_;refine qf ?_)))
 refine qB (σ:=Nat) (fun k h'=>Hs h0 h' [.blk b3 v.cs 28]∧k≤p.us.length∧PaI N q k∧(wh=true→∀ j,j<k→q.getD j default≠-1)) (fun k=>p.us.length - k) (fun k=>[(1,vq),(2,.bool wh),(10,.int .i64 N),(11,.int .i64 k)]) 0 qw ?_ ?_
 ·exact ⟨S,zB0 _,⟨fun i hi=>absurd hi (zB7 _),fun i j _ hj=>absurd hj (zB7 _)⟩,fun _ j hj=>absurd hj (zB7 _)⟩
 clear S;rintro k h ⟨S,g1,g2,g3⟩;all_goals (repeat' (first|refine qg ?_|refine qh rfl ?_|refine qi ?_|refine qy ?_|refine ql ?_|(refine qc 8 ?_;refine mv ?_;refine mv ?_;refine jc S ?_;(first|(refine cS ?_ ?_<;>intro hc))<;>(refine qf ?_))))
 ·have hk:k<p.us.length:=by omega
  have hx:q.getD k default=q.getD (k:Int).toNat default:=rfl;have step : -1≤q.getD (k:Int).toNat default∧q.getD (k:Int).toNat default<N→(0≤q.getD (k:Int).toNat default→∀ j,j<k→q.getD j default≠q.getD (k:Int).toNat default)→PaI N q (k+1):=fun h1 h2=>by
   refine ⟨Qb g2.1 h1,fun i j hij hj h0=>?_⟩;rcases zA7 j k with r|r
   ·exact g2.2 i j hij r h0
   ·obtain rfl:j=k:=by omega
    intro e;exact h2 (by omega) i hij e
  have stepW:¬ (wh=true∧q.getD (k:Int).toNat default = -1)→(wh=true→∀ j,j<k+1→q.getD j default≠-1):=fun h1 h2=>Qb (g3 h2) (fun e=>h1 ⟨h2,e⟩);all_goals (repeat' (first|refine qg ?_|refine qh rfl ?_|refine qi ?_|(refine qc 10 ?_;refine mv ?_;refine mv ?_;refine zT S ?_;refine zQ S ?_;(first|(refine cS ?_ ?_<;>intro hc))<;>(refine qf ?_))))
  ·cases hwh:wh
   ·subst hwh;all_goals (repeat' (first|refine qh rfl ?_|refine qi ?_|refine qy ?_|(refine qc 9 ?_;refine mv ?_;refine ad ?_;refine mv ?_;refine qf ?_)|(refine qc 11 ?_;refine mv ?_;refine qf ?_)))
    refine ⟨k+1,?_,?_,qw⟩
    ·show p.us.length - (k+1)<p.us.length - k;omega
    ·exact ⟨S,by omega,step ⟨by omega,by omega⟩ (fun h=>by omega),stepW (fun h=>by cases h.1)⟩
   ·subst hwh;all_goals (repeat' (first|refine qg ?_|refine qh rfl ?_|(refine qc 11 ?_;refine mv ?_;refine qf ?_)|(refine qc 12 ?_;(iterate 3 refine mv ?_);refine qf ?_)))
    refine qj ⟨_,rfl,?_⟩;exact ⟨k,52,rfl,mk (.inr ⟨hql,.inl ⟨k,hk,rfl,g2,g3,.inl ⟨rfl,by rw [hx];assumption,rfl⟩⟩⟩),S.drop⟩
  have hne:¬ q.getD (k:Int).toNat default = -1:=by assumption
  all_goals (repeat' (first|refine qg ?_|refine qh rfl ?_|refine qi ?_|(refine qc 13 ?_;refine mv ?_;refine mv ?_;refine zT S ?_;refine zQ S ?_;(first|(refine cS ?_ ?_<;>intro hc))<;>(refine mv ?_;(first|refine off ?_|refine mv ?_);(first|refine off ?_|refine mv ?_);(first|refine off ?_|(refine zT S ?_));(first|refine off ?_|(refine zQ S ?_));(first|refine off ?_|refine mv ?_);(first|refine off ?_|(first|(refine cS ?_ ?_<;>intro hc)))<;>(refine vl ?_;refine qf ?_)))|(refine qc 14 ?_;(iterate 3 refine mv ?_);refine qf ?_)))
  ·refine qj ⟨_,rfl,?_⟩;exact ⟨k,50,rfl,mk (.inr ⟨hql,.inl ⟨k,hk,rfl,g2,g3,.inr (.inl ⟨by rw [hx];omega,rfl⟩)⟩⟩),S.drop⟩
  ·refine qj ⟨_,rfl,?_⟩;exact ⟨k,50,rfl,mk (.inr ⟨hql,.inl ⟨k,hk,rfl,g2,g3,.inr (.inl ⟨by rw [hx];omega,rfl⟩)⟩⟩),S.drop⟩
  have hrg2:0≤q.getD (k:Int).toNat default∧q.getD (k:Int).toNat default<N:=by omega
  all_goals (repeat' (first|refine ql ?_|(refine qc 15 ?_;refine mv ?_;refine qf ?_)))
  refine qB (σ:=Nat) (fun m h'=>Hs h0 h' [.blk b3 v.cs 28]∧m≤k∧∀ j,j<m→q.getD j default≠q.getD (k:Int).toNat default) (fun m=>k - m) (fun m=>[(1,vq),(2,.bool wh),(10,.int .i64 N),(11,.int .i64 k),(12,.int .i64 m)]) 0 qw ?_ ?_
  ·exact ⟨S,zB0 _,fun j hj=>absurd hj (zB7 _)⟩
  clear S;rintro m h ⟨S,f1,f2⟩;all_goals (repeat' (first|refine qg ?_|refine qh rfl ?_|refine qi ?_|refine qy ?_|refine ql ?_|(refine qc 16 ?_;refine mv ?_;refine mv ?_;(first|(refine cS ?_ ?_<;>intro hc))<;>(refine qf ?_))))
  ·have hm:m<k:=by omega
   all_goals (repeat' (first|refine qg ?_|refine qh rfl ?_|refine qi ?_|(refine qF 18 ?_;refine mv ?_;refine mv ?_;refine zT S ?_;refine zQ S ?_;refine mv ?_;refine mv ?_;refine zT S ?_;refine zQ S ?_;(first|(refine cS ?_ ?_<;>intro hc))<;>(refine qf ?_))|(refine qc 19 ?_;(iterate 3 refine mv ?_);refine qf ?_)))
   ·refine qj ⟨_,rfl,?_⟩;exact ⟨k,51,rfl,mk (.inr ⟨hql,.inl ⟨k,hk,rfl,g2,g3,.inr (.inr ⟨hrg2.1,hrg2.2,⟨m,hm,by assumption⟩,rfl⟩)⟩⟩),S.drop⟩
   ·all_goals (repeat' (first|(refine qc 17 ?_;refine mv ?_;refine ad ?_;refine mv ?_;refine qf ?_)))
    refine ⟨m+1,?_,?_,qw⟩
    ·show k - (m+1)<k - m;omega
    ·exact ⟨S,by omega,Qb f2 (by assumption)⟩
  ·obtain rfl:m=k:=by omega
   all_goals (repeat' (first|(refine qc 9 ?_;refine mv ?_;refine ad ?_;refine mv ?_;refine qf ?_)))
   refine ⟨m+1,?_,?_,qw⟩
   ·show p.us.length - (m+1)<p.us.length - m;omega
   ·exact ⟨S,by omega,step ⟨by omega,by omega⟩ (fun _=>f2),stepW (fun h=>hne h.2)⟩
 ·obtain rfl:k=p.us.length:=by omega
  all_goals (repeat' (first|(refine qc 20 ?_;refine mv ?_;refine mv ?_;refine qf ?_)))
  refine qj ⟨_,rfl,?_⟩;exact ⟨0,0,rfl,mk (.inr ⟨hql,.inr ⟨g2,g3,rfl,rfl⟩⟩),S.drop⟩
end Go.Proofs.Xx
namespace Go.Proofs.Xx
open Go Go.Proofs
variable [Flag]
structure qgh (h:AH) (v:PbV) (p:Pb):Prop where
 ok:PbOk h v p
 op:∀ i,i<p.tabs.length→(p.tabs.getD i default).opn.length*8≤140737488351232
 tg:∀ i,i<v.gs.length→(v.gs.getD i default).tg.length≤8796093021952
 few:p.tabs.length≤1000∧p.us.length≤1000∧p.ts.length≤1000∧p.cl.length≤1000∧p.ru.length≤1000
abbrev pbL (v:PbV) (p:Pb):List Rs:=[.sl v.vt.val 93 7 eT p.tabs,xW WB p.tabs,.sl v.vg.val 45 9 eG v.gs,tgO v.gs,.sl v.vi.val 198 3 Qy p.ts,.sl v.vc.val 3 1 eI p.cl,.sl v.vr.val 158 6 Xv p.ru]
theorem qg8 {h0:AH} (w:WfH h0) (v:PbV) (p:Pb) (H:qgh h0 v p):Fn Tryz.prog Xh 35 [v.val] h0 (fun u h'=>∃ (v':PbV) (tabs:List Tab),u=v'.val∧tabs.map (·.toC)=p.tabs.map (·.toC)∧v'.gs.map (·.toGu)=p.us∧Hs h0 h' (pbL v' { p with tabs:=tabs })):=by
 have S:=Hs.start w;obtain ⟨f1,f2,f3,f4,f5⟩:=H.few;have hgl:v.gs.length=p.us.length:=by have e:=congrArg List.length H.ok.rol.us;simpa using e
 unfold PbV.val;refine qA (by first|rfl) Tryz.func35 rfl rfl ?_;all_goals (repeat' (first|refine qg ?_|(refine qc 0 ?_;(refine bx S ?_;clear S;intro b h S);(refine al S ?_;clear S;intro b h S);refine qf ?_)))
 obtain ⟨b2,hnm⟩:∃ x,x=b:=⟨_,rfl⟩;subst hnm;obtain ⟨b1,hnm⟩:∃ x,x=b:=⟨_,rfl⟩;subst hnm;(repeat (refine qg ?_));refine Zy (id:=1) [(4,(0,1)),(7,(0,2)),(10,(0,3)),(13,(0,4))] [some (b1),some (b1),some (b1),some (b1)] ?_;refine qp ?_;(first|(refine vl ?_<;>refine qf ⟨⟨by (first|exact True.intro),rfl⟩,?_⟩));refine qp ?_;(first|(refine lB S rfl rfl ?_<;>refine qf ⟨⟨by (first|exact True.intro),rfl⟩,?_⟩));((refine qp ?_;first|refine qm rfl rfl rfl rfl rfl ((qen S.wf v.vt.val p.tabs (H.ok.tab.rd.ext w S.ext) (fun i hi=>⟨(H.ok.tab.tab i hi).1.ext w S.ext,H.op i hi⟩) (by omega)).mono ?_));rintro _ h ⟨vt,tabs,rfl,g1,x⟩)<;>((refine qf ⟨⟨True.intro,?_⟩,?_⟩;(focus ((show keepsX _ _ _ _ _;simp only [keepsX];(repeat' (first|exact True.intro|refine And.intro ?_ ?_));all_goals (intro hw;first|exact x.ext.old _ S.bB)))));replace S:=S.qga x;clear x;refine qp ?_;(first|(refine vl ?_<;>refine qf ⟨⟨by (first|exact True.intro),rfl⟩,?_⟩));refine qp ?_;(first|(refine lB S rfl rfl ?_<;>refine qf ⟨⟨by (first|exact Or.inr rfl),rfl⟩,?_⟩)))
 ((refine qp ?_;first|refine qm rfl rfl rfl rfl rfl ((qfC S.wf v.vg.val v.gs (H.ok.rol.rg.ext w S.ext) (fun i hi=>⟨(H.ok.rol.tg i hi).1.ext w S.ext,H.tg i hi⟩) (by omega)).mono ?_));rintro _ h ⟨vg,gs,rfl,g2,x⟩)<;>((refine qf ⟨⟨True.intro,?_⟩,?_⟩;(focus ((show keepsX _ _ _ _ _;simp only [keepsX];(repeat' (first|exact True.intro|refine And.intro ?_ ?_));all_goals (intro hw;first|exact absurd hw (by decide +kernel)|exact x.ext.old _ S.bB)))));replace S:=S.qga x;clear x;refine qp ?_;(first|(refine vl ?_<;>refine qf ⟨⟨by (first|exact True.intro),rfl⟩,?_⟩));refine qp ?_;(first|(refine lB S rfl rfl ?_<;>refine qf ⟨⟨by (first|exact Or.inr rfl),rfl⟩,?_⟩)))
 ((refine qp ?_;first|refine qm rfl rfl rfl rfl rfl ((qg7 S.wf v.vi.val p.ts (H.ok.rol.rt.ext w S.ext) (by omega)).mono ?_));rintro u h x)<;>((refine qf ⟨⟨True.intro,?_⟩,?_⟩;(focus ((show keepsX _ _ _ _ _;simp only [keepsX];(repeat' (first|exact True.intro|refine And.intro ?_ ?_));all_goals (intro hw;first|exact absurd hw (by decide +kernel)|exact x.ext.old _ S.bB)))));replace S:=S.QD x;clear x;obtain ⟨vi,rfl⟩:=S.sV u;refine qp ?_;(first|(refine vl ?_<;>refine qf ⟨⟨by (first|exact True.intro),rfl⟩,?_⟩));refine qp ?_;(first|(refine lB S rfl rfl ?_<;>refine qf ⟨⟨by (first|exact Or.inr rfl),rfl⟩,?_⟩)))
 ((refine qp ?_;first|refine qm rfl rfl rfl rfl rfl ((qeo S.wf v.vc.val p.cl (H.ok.cl.ext w S.ext) (by omega)).mono ?_));rintro u h x)<;>((refine qf ⟨⟨True.intro,?_⟩,?_⟩;(focus ((show keepsX _ _ _ _ _;simp only [keepsX];(repeat' (first|exact True.intro|refine And.intro ?_ ?_));all_goals (intro hw;first|exact absurd hw (by decide +kernel)|exact x.ext.old _ S.bB)))));replace S:=S.QD x;clear x;obtain ⟨vc,rfl⟩:=S.sV u;refine qp ?_;(first|(refine vl ?_<;>refine qf ⟨⟨by (first|exact True.intro),rfl⟩,?_⟩));refine qp ?_;(first|(refine lB S rfl rfl ?_<;>refine qf ⟨⟨by (first|exact Or.inr rfl),rfl⟩,?_⟩)))
 ((refine qp ?_;first|refine qm rfl rfl rfl rfl rfl ((qfB S.wf v.vr.val p.ru (H.ok.ru.ext w S.ext) (by omega)).mono ?_));rintro u h x)<;>((refine qf ⟨⟨True.intro,?_⟩,?_⟩;(focus ((show keepsX _ _ _ _ _;simp only [keepsX];(repeat' (first|exact True.intro|refine And.intro ?_ ?_));all_goals (intro hw;first|exact absurd hw (by decide +kernel))))));replace S:=S.QD x;clear x;obtain ⟨vr,rfl⟩:=S.sV u;refine qp ?_;(first|(refine vl ?_<;>refine qf ⟨⟨by (first|exact True.intro),rfl⟩,?_⟩));refine qp ?_;(first|((refine sB S rfl rfl ?_;have S0:=S;clear S;intro h S);refine qf ⟨⟨True.intro,?_⟩,?_⟩;(focus ((show keepsX _ _ _ _ _;simp only [keepsX];(repeat' (first|exact True.intro|refine And.intro ?_ ?_));all_goals (intro hw;first|exact absurd hw (by decide +kernel)))));clear S0));refine Zm ?_)
 all_goals (repeat' (fail))
 refine qj ⟨_,jQ S rfl (by first|exact .there (.there (.there (.there (.there (.there (.there .here))))))) (by exact rfl) (by exact rfl),?_⟩;refine ⟨⟨vt,vg,vi,vc,vr,gs⟩,tabs,rfl,g1,g2.trans H.ok.rol.us,?_⟩;exact (show Hs h0 h [.sl vt.val 93 7 eT tabs,xW WB tabs,.sl vg.val 45 9 eG gs,tgO gs,.sl vi.val 198 3 Qy p.ts,.sl vc.val 3 1 eI p.cl,.sl vr.val 158 6 Xv p.ru] from S.pick)
end Go.Proofs.Xx
namespace Go.Proofs.Xx
open Go Go.Proofs
variable [Flag]
def qeN (p q:Pb):Prop:=p.tabs.map (·.toC)=q.tabs.map (·.toC)∧p.us=q.us∧p.ts=q.ts∧p.cl=q.cl∧p.ru=q.ru
theorem qci {h0:AH} (w:WfH h0) (v u:PbV) (p q:Pb) (H:PbOk h0 v p) (K:PbOk h0 u q):Fn Tryz.prog Xh 97 [v.val,u.val] h0 (fun x h'=>qI x (qeN p q)∧Hs h0 h' []):=by
 have S:=Hs.start w;have e1:=H.rol.len;have e2:=K.rol.len;have l1:=H.rol.lg;have l2:=K.rol.lg;have us1:v.gs.map (·.toGu)=p.us:=H.rol.us;have us2:u.gs.map (·.toGu)=q.us:=K.rol.us;have g1:v.gs.length≤9223372036854775807:=zD0 (Nat.le_of_eq H.rol.len) H.rol.lg;have g2:u.gs.length≤9223372036854775807:=zD0 (Nat.le_of_eq K.rol.len) K.rol.lg;have k1:=H.tab.len;have k2:=K.tab.len;have m1:=H.lc;have m2:=K.lc;have n1:=H.lr;have n2:=K.lr;have t1:p.ts.length≤9223372036854775807:=H.rol.lt;have t2:q.ts.length≤9223372036854775807:=K.rol.lt;unfold PbV.val;refine qA (by first|rfl) Tryz.func97 rfl rfl ?_;all_goals (repeat' (first|refine qg ?_|(refine qc 0 ?_;(refine bx S ?_;clear S;intro b h S);(refine bx S ?_;clear S;intro b h S);refine mv ?_;refine qf ?_)|(refine qc 1 ?_;refine vl ?_;refine lB S rfl rfl ?_;refine vl ?_;refine lB S rfl rfl ?_)))
 (refine qm rfl rfl rfl rfl rfl ((qaD S.wf v.vt.val u.vt.val p.tabs q.tabs (H.tab.rd.ext w S.ext) (K.tab.rd.ext w S.ext) (fun i hi=>⟨(H.tab.tab i hi).1.ext w S.ext,(H.tab.tab i hi).2.2⟩) (fun i hi=>⟨(K.tab.tab i hi).1.ext w S.ext,(K.tab.tab i hi).2.2⟩) (by omega) (by omega)).mono ?_);rintro _ h ⟨⟨rfl,z1⟩|⟨rfl,z1⟩,x⟩)<;>(replace S:=S.qx x;clear x;refine mv ?_;(first|refine off ?_|(refine vl ?_));(first|refine off ?_|(refine lB S rfl rfl ?_));(first|refine off ?_|(refine vl ?_));(first|refine off ?_|(refine lB S rfl rfl ?_));(first|(refine off ?_;refine vl ?_;refine mv ?_;refine off ?_;refine off ?_;refine off ?_;refine off ?_;(first|(refine off ?_;refine vl ?_;refine mv ?_;refine off ?_;refine off ?_;refine off ?_;refine off ?_;(first|(refine off ?_;refine vl ?_;refine mv ?_;refine off ?_;refine off ?_;refine off ?_;refine off ?_;(first|(refine off ?_;refine vl ?_;refine mv ?_;refine qf ?_)))))))|skip))
 rotate_left
 ·all_goals (repeat' (fail))
  refine qj ⟨_,rfl,?_⟩;exact ⟨.inr ⟨rfl,fun e=>z1 e.1⟩,S.drop⟩
 (refine qm rfl rfl rfl rfl rfl ((vK S.wf v.vg.val u.vg.val v.gs u.gs (H.rol.rg.ext w S.ext) (K.rol.rg.ext w S.ext) (fun i hi=>⟨(H.rol.tg i hi).1.ext w S.ext,(H.rol.tg i hi).2⟩) (fun i hi=>⟨(K.rol.tg i hi).1.ext w S.ext,(K.rol.tg i hi).2⟩) g1 g2).mono ?_);rintro _ h ⟨⟨rfl,z2⟩|⟨rfl,z2⟩,x⟩)<;>(replace S:=S.qx x;clear x;refine vl ?_;refine mv ?_;(first|refine off ?_|(refine vl ?_));(first|refine off ?_|(refine lB S rfl rfl ?_));(first|refine off ?_|(refine vl ?_));(first|refine off ?_|(refine lB S rfl rfl ?_));(first|(refine off ?_;refine vl ?_;refine mv ?_;refine off ?_;refine off ?_;refine off ?_;refine off ?_;(first|(refine off ?_;refine vl ?_;refine mv ?_;refine off ?_;refine off ?_;refine off ?_;refine off ?_;(first|(refine off ?_;refine vl ?_;refine mv ?_;refine qf ?_)))))|skip))
 rotate_left
 ·all_goals (repeat' (fail))
  refine qj ⟨_,rfl,?_⟩;exact ⟨.inr ⟨rfl,fun e=>z2 (by rw [us1,us2];exact e.2.1)⟩,S.drop⟩
 (refine qm rfl rfl rfl rfl rfl ((pz S.wf v.vi.val u.vi.val p.ts q.ts (H.rol.rt.ext w S.ext) (K.rol.rt.ext w S.ext) t1 t2).mono ?_);rintro _ h ⟨⟨rfl,z3⟩|⟨rfl,z3⟩,x⟩)<;>(replace S:=S.qx x;clear x;refine vl ?_;refine mv ?_;(first|refine off ?_|(refine vl ?_));(first|refine off ?_|(refine lB S rfl rfl ?_));(first|refine off ?_|(refine vl ?_));(first|refine off ?_|(refine lB S rfl rfl ?_));(first|(refine off ?_;refine vl ?_;refine mv ?_;refine off ?_;refine off ?_;refine off ?_;refine off ?_;(first|(refine off ?_;refine vl ?_;refine mv ?_;refine qf ?_)))|skip))
 rotate_left
 ·all_goals (repeat' (fail))
  refine qj ⟨_,rfl,?_⟩;exact ⟨.inr ⟨rfl,fun e=>z3 e.2.2.1⟩,S.drop⟩
 (refine qm rfl rfl rfl rfl rfl ((V9 S.wf v.vc.val u.vc.val p.cl q.cl (H.cl.ext w S.ext) (K.cl.ext w S.ext) (by omega) (by omega)).mono ?_);rintro _ h ⟨⟨rfl,z4⟩|⟨rfl,z4⟩,x⟩)<;>(replace S:=S.qx x;clear x;refine vl ?_;refine mv ?_;(first|refine off ?_|(refine vl ?_));(first|refine off ?_|(refine lB S rfl rfl ?_));(first|refine off ?_|(refine vl ?_));(first|refine off ?_|(refine lB S rfl rfl ?_));(first|(refine off ?_;refine vl ?_;refine mv ?_;refine qf ?_)|skip))
 rotate_left
 ·all_goals (repeat' (fail))
  refine qj ⟨_,rfl,?_⟩;exact ⟨.inr ⟨rfl,fun e=>z4 e.2.2.2.1⟩,S.drop⟩
 (refine qm rfl rfl rfl rfl rfl ((Kq S.wf v.vr.val u.vr.val p.ru q.ru (H.ru.ext w S.ext) (K.ru.ext w S.ext) (by omega) (by omega)).mono ?_);rintro _ h ⟨⟨rfl,z5⟩|⟨rfl,z5⟩,x⟩)<;>(replace S:=S.qx x;clear x;refine vl ?_;refine mv ?_;refine qf ?_)
 rotate_left
 ·all_goals (repeat' (fail))
  refine qj ⟨_,rfl,?_⟩;exact ⟨.inr ⟨rfl,fun e=>z5 e.2.2.2.2⟩,S.drop⟩
 all_goals (repeat' (fail))
 refine qj ⟨_,rfl,?_⟩;exact ⟨.inl ⟨rfl,z1,by rw [← us1,← us2];exact z2,z3,z4,z5⟩,S.drop⟩
end Go.Proofs.Xx
namespace Go.Proofs.Xx
open Go Go.Proofs
variable [Flag]
structure PbZ (h:AH) (v:PbV) (p:Pb):Prop where
 tr:zl h v.vt.val 7 eT p.tabs
 tt:∀ i,i<p.tabs.length→TabR h (tb p.tabs i)
 tc:Qn v.vt.val
 op:∀ i,i<p.tabs.length→(p.tabs.getD i default).opn.length*8≤140737488351232
 rol:RlOk h v.rl p.rl
 gc:Qn v.vg.val
 tg:∀ i,i<v.gs.length→(v.gs.getD i default).tg.length≤8796093021952
 cl:zl h v.vc.val 1 eI p.cl
 ru:zl h v.vr.val 6 Xv p.ru
 rk:∀ r∈p.ru,0≤r.k∧r.k≤255
 lt:p.tabs.length≤9223372036854775807
 lc:p.cl.length≤9223372036854775807
 lr:p.ru.length≤9223372036854775807
theorem PbZ.ext {h h':AH} {v:PbV} {p:Pb} (a:PbZ h v p) (w:WfH h) (x:Ext h h'):PbZ h' v p:=⟨a.tr.ext w x,fun i hi=>(a.tt i hi).ext w x,a.tc,a.op,a.rol.ext w x,a.gc,a.tg,a.cl.ext w x,a.ru.ext w x,a.rk,a.lt,a.lc,a.lr⟩
def qag (p:Pb) (n:Nat):Prop:=p.tabs.length≤n∧p.us.length≤n∧p.ts.length≤n∧p.cl.length≤n∧p.ru.length≤n
theorem PbZ.ok {h:AH} {v:PbV} {p:Pb} (a:PbZ h v p) (f:qag p 20):PbOk h v p:=⟨⟨a.tr,a.tt,by have:=f.1;omega,a.tc⟩,a.rol,a.cl,a.ru,by have:=f.2.2.2.1;omega,by have:=f.2.2.2.2;omega⟩
theorem PbZ.fit {h:AH} {v:PbV} {p:Pb} (a:PbZ h v p) (f:qag p 20):qgh h v p:=⟨a.ok f,a.op,a.tg,by obtain ⟨f1,f2,f3,f4,f5⟩:=f;omega⟩
theorem PbZ.m {h:AH} {v:PbV} {p:Pb} (a:PbZ h v p) (f:qag p 20):PbM v p:=⟨a.gc,by obtain ⟨f1,f2,f3,f4,f5⟩:=f;omega,a.rk⟩
theorem qfe {h0:AH} (w:WfH h0) (pv:PbV) (p:Pb) (H:PbZ h0 pv p) (n:Nat) :
 Fn Tryz.prog Xh 32 [pv.val,.int .i64 n] h0 (fun u h'=>qI u (qag p n)∧Hs h0 h' []):=by
 have S:=Hs.start w;have h1:=H.tr;have h2:=H.rol.rg;have h3:zl h0 pv.vi.val 3 Qy p.ts:=H.rol.rt;have h4:=H.cl;have h5:=H.ru;have e:pv.gs.length=p.us.length:=H.rol.len;have e2:pv.rl.gs.length=p.us.length:=H.rol.len;unfold PbV.val;refine qA (by first|rfl) Tryz.func32 rfl rfl ?_;all_goals (repeat' (first|refine qg ?_|(refine qc 0 ?_;(refine bx S ?_;clear S;intro b h S);refine mv ?_;refine qf ?_)|(refine qc 1 ?_;refine vl ?_;refine lB S rfl rfl ?_;refine jc S ?_;refine mv ?_;(first|(refine cS ?_ ?_<;>intro hc))<;>(refine mv ?_;(first|refine off ?_|(refine vl ?_));(first|refine off ?_|(refine lB S rfl rfl ?_));(first|refine off ?_|(refine jc S ?_));(first|refine off ?_|refine mv ?_);(first|refine off ?_|(first|(refine cS ?_ ?_<;>intro hc)))<;>(refine vl ?_;refine mv ?_;(first|refine off ?_|(refine vl ?_));(first|refine off ?_|(refine lB S rfl rfl ?_));(first|refine off ?_|(refine jc S ?_));(first|refine off ?_|refine mv ?_);(first|refine off ?_|(first|(refine cS ?_ ?_<;>intro hc)))<;>(refine vl ?_;refine mv ?_;(first|refine off ?_|(refine vl ?_));(first|refine off ?_|(refine lB S rfl rfl ?_));(first|refine off ?_|(refine jc S ?_));(first|refine off ?_|refine mv ?_);(first|refine off ?_|(first|(refine cS ?_ ?_<;>intro hc)))<;>(refine vl ?_;refine mv ?_;(first|refine off ?_|(refine vl ?_));(first|refine off ?_|(refine lB S rfl rfl ?_));(first|refine off ?_|(refine jc S ?_));(first|refine off ?_|refine mv ?_);(first|refine off ?_|(first|(refine cS ?_ ?_<;>intro hc)))<;>(refine vl ?_;refine mv ?_;refine qf ?_))))))))
 all_goals (refine qj ⟨_,rfl,?_⟩)
 all_goals (refine ⟨?_,S.drop⟩;unfold qI qag)
 all_goals first|exact .inl ⟨rfl,by omega⟩|exact .inr ⟨rfl,by omega⟩
theorem qft {h0:AH} (w:WfH h0) (v:Value) (l:List Int) (r:zl h0 v 1 eI l):Fn Tryz.prog Xh 34 [v] h0 (fun u h'=>qI u (30<l.length)∧Hs h0 h' []):=by
 have S:=Hs.start w;refine qA (by first|rfl) Tryz.func34 rfl rfl ?_;all_goals (repeat' (first|refine qg ?_|(refine qc 0 ?_;refine mv ?_;refine qf ?_)|(refine qc 1 ?_;refine mv ?_;refine jc S ?_;(first|(refine cS ?_ ?_<;>intro hc))<;>(refine mv ?_;refine qf ?_))))
 all_goals (refine qj ⟨_,rfl,?_⟩)
 all_goals (refine ⟨?_,S.drop⟩;unfold qI)
 all_goals first|exact .inl ⟨rfl,by omega⟩|exact .inr ⟨rfl,by omega⟩
theorem qfI {h0:AH} (w:WfH h0) (v:Value) (rows:List Gy) (r:zl h0 v 1 qfu rows) (rr:∀ i,i<rows.length→zl h0 (rows.getD i default).sv.val 1 eI (rows.getD i default).r) (hl:rows.length≤1000) :
 Fn Tryz.prog Xh 90 [v,.func (.func 34) #[] #[]] h0 (fun u h'=>y9 u (fun i=>30<(rows.getD i default).r.length) rows.length∧Hs h0 h' []):=by
 have S:=Hs.start w;refine qA (by first|rfl) Tryz.func90 rfl rfl ?_;all_goals (repeat' (first|refine qg ?_|refine ql ?_|(refine qc 0 ?_;refine mv ?_;refine qf ?_)|(refine qc 1 ?_;refine mv ?_;refine jc S ?_;refine mv ?_;refine qf ?_)))
 refine qB (σ:=Nat) (fun i h'=>Hs h0 h' []∧i≤rows.length∧(∀ j,j<i→¬ 30<(rows.getD j default).r.length)) (fun i=>rows.length - i) (fun i=>[(0,v),(1,.func (.func 34) #[] #[]),(7,.int .i64 rows.length),(8,.int .i64 i)]) 0 qw ?_ ?_
 ·exact ⟨S,zB0 _,fun j hj=>absurd hj (zB7 _)⟩
 clear S;rintro i h ⟨S,g1,g2⟩;all_goals (repeat' (first|refine qg ?_|refine qh rfl ?_|refine qi ?_|refine qy ?_|refine ql ?_|(refine qc 2 ?_;(first|(refine cS ?_ ?_<;>intro hc))<;>(refine qf ?_))))
 ·have hi:i<rows.length:=by omega
  have ri:=(rr i hi).ext w S.ext;all_goals (repeat' (first|refine qg ?_|(refine qc 3 ?_;refine mv ?_;refine mv ?_;refine qf ?_)|(refine qc 4 ?_;(iterate 3 refine mv ?_);refine zT S ?_;refine zQ S ?_)))
  simp only [zA0];(refine zk rfl rfl rfl rfl ((qft S.wf (rows.getD i default).sv.val (rows.getD i default).r ri).mono ?_);rintro _ h ⟨⟨rfl,z⟩|⟨rfl,z⟩,x⟩)<;>(replace S:=S.qx x;clear x;refine qf ?_)
  ·all_goals (repeat' (first|refine qg ?_|refine qh rfl ?_|(refine qc 5 ?_;refine mv ?_;refine mv ?_;refine qf ?_)))
   refine qj ⟨_,rfl,?_⟩;exact ⟨.inl ⟨i,hi,rfl,z,g2⟩,S⟩
  ·all_goals (repeat' (first|refine qh rfl ?_|refine qi ?_|(refine qc 6 ?_;refine ad ?_;refine mv ?_;refine qf ?_)))
   refine ⟨i+1,?_,?_,qw⟩
   ·show rows.length - (i+1)<rows.length - i;omega
   ·exact ⟨S,by omega,Qb g2 z⟩
 ·all_goals (repeat' (first|(refine qc 7 ?_;refine mv ?_;refine qf ?_)))
  refine qj ⟨_,rfl,?_⟩;exact ⟨.inr ⟨rfl,fun j hj=>g2 j (by omega)⟩,S⟩
theorem qfJ {h0:AH} (w:WfH h0) (v:Value) (rows:List Gy) (r:zl h0 v 1 qfu rows) (rr:∀ i,i<rows.length→zl h0 (rows.getD i default).sv.val 1 eI (rows.getD i default).r) (hl:rows.length≤1000) :
 Fn Tryz.prog Xh 33 [v,.func (.func 34) #[] #[]] h0 (fun u h'=>qI u (∃ i,i<rows.length∧30<(rows.getD i default).r.length)∧Hs h0 h' []):=by
 have S:=Hs.start w;refine qA (by first|rfl) Tryz.func33 rfl rfl ?_;all_goals (repeat' (first|refine qg ?_|(refine qc 0 ?_;refine mv ?_;refine qf ?_)|(refine qc 1 ?_;refine mv ?_;refine mv ?_)))
 (refine qm rfl rfl rfl rfl rfl ((qfI S.wf v rows r rr hl).mono ?_);rintro _ h ⟨⟨i,hi,rfl,z,-⟩|⟨rfl,z⟩,x⟩)<;>(replace S:=S.qx x;clear x;(first|refine cT ?_|refine cF ?_)<;>(refine mv ?_;refine qf ?_))
 all_goals (all_goals (repeat' (fail)))
 all_goals (refine qj ⟨_,rfl,?_⟩)
 all_goals (refine ⟨?_,S.drop⟩;unfold qI)
 ·exact .inl ⟨rfl,i,hi,z⟩
 ·exact .inr ⟨rfl,fun ⟨j,hj,z2⟩=>z j hj z2⟩
theorem qfc {h0:AH} (w:WfH h0) (pv:PbV) (p:Pb) (H:PbZ h0 pv p) (v:Value) (rows:List Gy) (r:zl h0 v 1 qfu rows) (rr:∀ i,i<rows.length→zl h0 (rows.getD i default).sv.val 1 eI (rows.getD i default).r) (hl:rows.length≤1000) :
 Fn Tryz.prog Xh 7 [pv.val,v] h0 (fun u h'=>qI u (p.tabs.length≤5∧qag p 20∧∀ i,i<rows.length→(rows.getD i default).r.length≤30)∧Hs h0 h' []):=by
 have S:=Hs.start w;have h1:=H.tr;unfold PbV.val;refine qA (by first|rfl) Tryz.func7 rfl rfl ?_;all_goals (repeat' (first|refine qg ?_|(refine qc 0 ?_;(refine bx S ?_;clear S;intro b h S);refine mv ?_;refine qf ?_)|(refine qc 1 ?_;refine vl ?_;refine lB S rfl rfl ?_;refine jc S ?_;(first|(refine cS ?_ ?_<;>intro hc))<;>(refine mv ?_;(first|refine off ?_|(refine lB S rfl rfl ?_));(first|(refine off ?_;refine vl ?_;refine mv ?_;refine off ?_;(first|(refine off ?_;refine off ?_;refine vl ?_;refine mv ?_;refine qf ?_)))|skip)))))
 all_goals (try ((refine qm rfl rfl rfl rfl rfl ((qfe S.wf pv p (H.ext w S.ext) 20).mono ?_);rintro _ h ⟨⟨rfl,z1⟩|⟨rfl,z1⟩,x⟩)<;>(replace S:=S.qx x;clear x;refine vl ?_;refine mv ?_;(first|refine off ?_|refine mv ?_);(first|(refine off ?_;refine off ?_;refine vl ?_;refine mv ?_;refine qf ?_)|skip))))
 all_goals (try ((refine qm rfl rfl rfl rfl rfl ((qfJ S.wf v rows (r.ext w S.ext) (fun i hi=>(rr i hi).ext w S.ext) hl).mono ?_);rintro _ h ⟨⟨rfl,z2⟩|⟨rfl,z2⟩,x⟩)<;>(replace S:=S.qx x;clear x;refine vl ?_;refine vl ?_;refine mv ?_;refine qf ?_)))
 all_goals (all_goals (repeat' (fail)))
 all_goals (refine qj ⟨_,rfl,?_⟩)
 all_goals (refine ⟨?_,S.drop⟩;unfold qI)
 all_goals first
  | exact .inl ⟨rfl,by omega,z1,fun i hi=>Nat.le_of_not_lt fun q=>z2 ⟨i,hi,q⟩⟩
  | exact .inr ⟨rfl,fun q=>z1 q.2.1⟩
  | exact .inr ⟨rfl,fun q=>by obtain ⟨i,hi,h3⟩:=z2;have:=q.2.2 i hi;omega⟩
  | exact .inr ⟨rfl,fun q=>by have:=q.1;omega⟩
theorem qd1 {h0:AH} (w:WfH h0) (v u:PbV) (p q:Pb) (H:PbOk h0 v p) (K:PbOk h0 u q) (he:qeN p q) (va vb:Value) (l m:List Int) (ra:zl h0 va 1 eI l) (rb:zl h0 vb 1 eI m) (hlm:l=m) (hl:l.length≤1000000) :
 Fn Tryz.prog Xh 37 [v.val,u.val,va,vb] h0 (fun x h'=>x = .bool true∧Hs h0 h' []):=by
 have S:=Hs.start w;unfold PbV.val;refine qA (by first|rfl) Tryz.func37 rfl rfl ?_;all_goals (repeat' (first|refine qg ?_|(refine qc 0 ?_;(refine bx S ?_;clear S;intro b h S);(refine bx S ?_;clear S;intro b h S);refine mv ?_;refine qf ?_)|(refine qc 1 ?_;refine lB S rfl rfl ?_;refine lB S rfl rfl ?_)))
 (refine qm rfl rfl rfl rfl rfl ((qci S.wf v u p q (H.ext w S.ext) (K.ext w S.ext)).mono ?_);rintro _ h ⟨⟨rfl,z⟩|⟨rfl,z⟩,x⟩)<;>(replace S:=S.qx x;clear x;refine mv ?_;(first|refine off ?_|refine mv ?_);(first|refine off ?_|refine mv ?_);(first|(refine off ?_;refine vl ?_;refine mv ?_;refine qf ?_)|skip))
 rotate_left
 ·exact absurd he z
 all_goals (repeat' (fail))
 (refine qm rfl rfl rfl rfl rfl ((qcL S.wf va vb l m (ra.ext w S.ext) (rb.ext w S.ext) hl).mono ?_);rintro _ h ⟨⟨rfl,z⟩|⟨rfl,z⟩,x⟩)<;>(replace S:=S.qx x;clear x;refine vl ?_;refine mv ?_;refine qf ?_)
 rotate_left
 ·exact absurd hlm z
 all_goals (repeat' (fail))
 refine qj ⟨_,rfl,?_⟩;exact ⟨rfl,S.drop⟩
theorem qej {h0:AH} (w:WfH h0) (v:PbV) (p:Pb) (H:PbOk h0 v p) (M:PbM v p) (vq:Value) (q:List Int) (rq:zl h0 vq 1 eI q) (hq:q.length≤9223372036854775807) :
 Fn Tryz.prog Xh 36 [v.val,vq] h0 (fun u h'=>∃ i e,u = .int .i64 e∧PaC p q false i e∧Hs h0 h' []):=by
 have S:=Hs.start w;unfold PbV.val;refine qA (by first|rfl) Tryz.func36 rfl rfl ?_;all_goals (repeat' (first|refine qg ?_|(refine qc 0 ?_;(refine bx S ?_;clear S;intro b h S);refine mv ?_;refine qf ?_)|(refine qc 1 ?_;refine lB S rfl rfl ?_;refine mv ?_)))
 (refine qm rfl rfl rfl rfl rfl ((qaL S.wf v p (H.ext w S.ext) M vq q (rq.ext w S.ext) hq false).mono ?_);rintro _ h ⟨i,e,rfl,hk,x⟩)<;>(replace S:=S.qx x;clear x;refine mv ?_;refine vl ?_;refine vl ?_;refine mv ?_;refine mv ?_;refine qf ?_)
 all_goals (repeat' (first|refine qg ?_|(refine qc 2 ?_;refine mv ?_;refine mv ?_;refine qf ?_)))
 refine qj ⟨_,rfl,?_⟩;exact ⟨i,e,rfl,hk,S.drop⟩
theorem BasP.uniq {p:Pb} {i e i' e':Int} (a:BasP p i e) (b:BasP p i' e'):e=e':=by
 by_cases hb:BO p
 ·rw [(hb.qeB a).2,(hb.qeB b).2]
 rcases a with ⟨h1,h2⟩|⟨h1,h2⟩|⟨h1,h2,h3⟩<;>rcases b with ⟨g1,g2⟩|⟨g1,g2⟩|⟨g1,g2,g3⟩
 ·exact (h2.uniq g2).2
 ·exact absurd (h2.valid.2 g1) h1
 ·exact absurd (h2.valid.2 g1) h1
 ·exact absurd (g2.valid.2 h1) g1
 ·exact (h2.uniq g2).2
 ·exact absurd (Vf.2 g2) h2.not
 ·exact absurd (g2.valid.2 h1) g1
 ·exact absurd (Vf.2 h2) g2.not
 ·rcases h3 with ⟨h3,h4,h5⟩|⟨h3,h4⟩<;>rcases g3 with ⟨g3,g4,g5⟩|⟨g3,g4⟩
  ·omega
  ·exact absurd g3 h3
  ·exact absurd h3 g3
  ·omega
theorem CkP.uniq {p:Pb} {i e i' e':Int} (a:CkP p i e) (b:CkP p i' e'):e=e':=by
 rcases a with ⟨h1,h2⟩|⟨h1,h2⟩<;>rcases b with ⟨g1,g2⟩|⟨g1,g2⟩
 ·exact h2.uniq g2
 ·exact absurd (g1.qeB h2).2 h1
 ·exact absurd (h1.qeB g2).2 g1
 ·rcases h2 with ⟨j,k1,k2,k3,k4,k5⟩|⟨k1,k2,k3,k4⟩<;>rcases g2 with ⟨m,l1,l2,l3,l4,l5⟩|⟨l1,l2,l3,l4⟩
  ·have hjm:j=m:=by
    rcases zE7 j m with r|r|r
    ·exfalso
     rcases k5 with ⟨k5,-⟩|⟨-,k5,-⟩
     ·exact k5 (l4 j r)
     ·omega
    ·exact r
    ·exfalso
     rcases l5 with ⟨l5,-⟩|⟨-,l5,-⟩
     ·exact l5 (k4 m r)
     ·omega
   subst hjm;rcases k5 with ⟨k5,k6⟩|⟨k5,k6,k7⟩<;>rcases l5 with ⟨l5,l6⟩|⟨l5,l6,l7⟩
   ·omega
   ·exact absurd l5 k5
   ·exact absurd k5 l5
   ·omega
  ·exfalso
   rcases k5 with ⟨k5,-⟩|⟨-,k5,-⟩
   ·exact k5 (l2 j k1)
   ·omega
  ·exfalso
   rcases l5 with ⟨l5,-⟩|⟨-,l5,-⟩
   ·exact l5 (k2 m l1)
   ·omega
  ·omega
theorem PaE.uniq {N n:Nat} {q:List Int} {wh:Bool} {i e i' e':Int} (a:PaE N q n wh i e) (b:PaE N q n wh i' e'):e=e':=by
 have bad:∀ {g:Nat} {e:Int},((wh=true∧q.getD g default = -1∧e=52)∨((q.getD g default < -1∨(N:Int)≤q.getD g default)∧e=50)∨(0≤q.getD g default∧q.getD g default<N∧(∃ j,j<g∧q.getD j default=q.getD g default)∧e=51))→∀ m,g<m→PaI N q m→(wh=true→∀ j,j<m→q.getD j default≠-1)→False:=by
  rintro g e (⟨h1,h2,-⟩|⟨h1,-⟩|⟨h1,h2,⟨j,h3,h4⟩,-⟩) m hm k1 k2
  ·exact k2 h1 g hm h2
  ·have:=k1.1 g hm;omega
  ·exact k1.2 j g h3 hm (by omega) h4
 rcases a with ⟨h1,-,h2⟩|⟨h1,⟨g,h2,h3,h4,h5,h6⟩|⟨h2,h3,h4,h5⟩⟩<;>rcases b with ⟨g1,-,g2⟩|⟨g1,⟨m,l2,l3,l4,l5,l6⟩|⟨l2,l3,l4,l5⟩⟩
 ·omega
 ·exact absurd g1 h1
 ·exact absurd g1 h1
 ·exact absurd h1 g1
 ·have hgm:g=m:=by
   rcases zE7 g m with r|r|r
   ·exact (bad h6 m r l4 l5).elim
   ·exact r
   ·exact (bad l6 g r h4 h5).elim
  subst hgm;rcases h6 with ⟨a1,a2,a3⟩|⟨a1,a2⟩|⟨a1,a2,a3,a4⟩<;>rcases l6 with ⟨b1,b2,b3⟩|⟨b1,b2⟩|⟨b1,b2,b3,b4⟩<;>omega
 ·exact (bad h6 n h2 l2 l3).elim
 ·exact absurd h1 g1
 ·exact (bad l6 n l2 h2 h3).elim
 ·omega
theorem PaC.uniq {p:Pb} {q:List Int} {wh:Bool} {i e i' e':Int} (a:PaC p q wh i e) (b:PaC p q wh i' e'):e=e':=by
 rcases a with ⟨h1,-,-,j,h2⟩|⟨h1,h2⟩<;>rcases b with ⟨g1,-,-,m,g2⟩|⟨g1,g2⟩
 ·exact h2.uniq g2
 ·exact absurd g1 h1
 ·exact absurd h1 g1
 ·exact h2.uniq g2
end Go.Proofs.Xx
namespace Go.Proofs.Xx
open Go Go.Proofs
abbrev Pb.wt (p:Pb) (tabs:List Tab):Pb:=⟨tabs,p.us,p.ts,p.cl,p.ru⟩
theorem qgy {h0 h hA:AH} {rs:List Rs} {v u:PbV} {p:Pb} {tabs:List Tab} (S:Hs h0 h (pbL v (p.wt tabs) ++ rs)) (e:tabs.map (·.toC)=p.tabs.map (·.toC)) (hu:v.gs.map (·.toGu)=p.us) (K:PbZ hA u p) (F:qag p 20):PbOk h v (p.wt tabs):=by
 have hl:=Xm e;obtain ⟨f1,f2,f3,f4,f5⟩:=F;have K2:u.gs.map (·.toGu)=p.us:=K.rol.us;refine ⟨⟨Rd.jZ S .here,fun i hi=>?_,by show tabs.length≤_;omega,S.qhb .here⟩,⟨Rd.jZ S (.there (.there .here)),Rd.jZ S (.there (.there (.there (.there .here)))),fun i hi=>⟨?_,?_⟩,hu,by show p.us.length≤_;omega,by show p.ts.length≤_;omega⟩,Rd.jZ S (.there (.there (.there (.there (.there .here))))),Rd.jZ S (.there (.there (.there (.there (.there (.there .here)))))),by show p.cl.length≤_;omega,by show p.ru.length≤_;omega⟩
 ·have hi':i<p.tabs.length:=by have:i<tabs.length:=hi;omega
  obtain ⟨fp,k⟩:=Hs.qfH (p:=fun h fp=>Star h (tabs.map WB) fp) S (.there .here);obtain ⟨fq,q⟩:=Star.qgQ (r:=WB (tabs.getD i default)) k (zF1.2 ⟨_,qK hi,rfl⟩);refine ⟨qbt q,?_,?_⟩
  ·have e1:(tb tabs i).name=(tb p.tabs i).name:=Vz e i;show (tb tabs i).name.length≤_
   rw [e1];exact (K.tt i hi').2.1
  ·have e1:(tb tabs i).opn=(tb p.tabs i).opn:=congrArg TabC.opn (xm e i);show (tb tabs i).opn.length≤_
   rw [e1];exact (K.tt i hi').2.2
 ·obtain ⟨fp,k⟩:=Hs.qfH (p:=fun h fp=>Star h (v.gs.map qe0) fp) S (.there (.there (.there .here)));obtain ⟨fq,q⟩:=Star.qgQ (r:=qe0 (v.gs.getD i default)) k (zF1.2 ⟨_,qK hi,rfl⟩);exact qbt q
 ·have hgl:v.gs.length=u.gs.length:=by rw [← K2] at hu;have:=congrArg List.length hu;simpa using this
  have hi':i<u.gs.length:=by have:i<v.gs.length:=hi;omega
  have e1:(v.gs.getD i default).toGu=(u.gs.getD i default).toGu:=by
   rw [← ji (f:=fun g:ZL=>g.toGu) (show i<v.gs.length from hi),← ji (f:=fun g:ZL=>g.toGu) hi',hu,K2]
  have e2:(v.gs.getD i default).tg=(u.gs.getD i default).tg:=congrArg Gu.tg e1;show (v.gs.getD i default).tg.length≤_
  rw [e2];exact (K.rol.tg i hi').2
section
variable {l m:List Tab} (h:l.map (·.toC)=m.map (·.toC))
include h
end
variable [Flag]
end Go.Proofs.Xx
namespace Go.Proofs.Xx
open Go Go.RowKit Go.Proofs
structure GstA (h:AH) (g:ZL):Prop where
 rd:zl h g.tv.val 1 eS g.tg
 cap:Qn g.tv.val
 len:g.tg.length≤maxLen
 l1:g.name.length≤maxLen
 l2:g.rank.length≤maxLen
 l3:g.court.length≤maxLen
 l4:g.diet.length≤maxLen
 l5:∀ i,i<g.tg.length→(g.tg.getD i default).length≤maxLen
 wt:g.tg.length*16≤reachBytes
 i64:(-9223372036854775808≤g.since∧g.since≤9223372036854775807)∧(-9223372036854775808≤g.side∧g.side≤9223372036854775807)
theorem GstA.ext {h h':AH} {g:ZL} (a:GstA h g) (w:WfH h) (x:Ext h h'):GstA h' g:=⟨a.rd.ext w x,a.cap,a.len,a.l1,a.l2,a.l3,a.l4,a.l5,a.wt,a.i64⟩
theorem GstA.r {h:AH} {g:ZL} (a:GstA h g):qhw h g:=⟨a.rd,by have:=a.len;unfold maxLen at this;omega⟩
theorem qd8 {x:Int} (h:(Lit.int .i64 x).wf=true) : -9223372036854775808≤x∧x≤9223372036854775807:=by
 simp [Lit.wf,IntKind.min,IntKind.max,IntKind.signed,IntKind.bits] at h
 omega
theorem AR.qgg {P:Program} {h:AH} {n:Nat} {t:TypeId} {r:List Value} (a:AR P h n t r) (hu:P.underlying t=some .bool):∃ b:Bool,r=[.bool b]:=by
 cases n with
 | zero=>exact a.elim
 | succ n =>
  unfold AR at a;rw [hu] at a;split at a
  all_goals (first|exact a.elim|(rename_i q _;cases q;done)|(rename_i q;cases q;done)|skip)
  all_goals exact ⟨_,rfl⟩
theorem AR.qhN {h:AH} {n:Nat} {r:List Value} (a:AR Tryz.prog h n 43 r):∃ v l,r=[v]∧zl h v 1 eS l∧(l.length≤maxLen∧l.length*Tryz.prog.bytesOf 9≤reachBytes)∧Qn v∧∀ i,i<l.length→(l.getD i default).length≤maxLen :=
 AR.JD (e:=9) (z:=1) eS (fun s=>s.length≤maxLen) a (by kernel_rfl) (by kernel_rfl) (fun n cs q=>by
  obtain ⟨s,hs,hl⟩:=q.xq (by kernel_rfl);exact ⟨s,hs,hl⟩)
theorem AR.qjq {h:AH} {n:Nat} {r:List Value} (a:AR Tryz.prog h n 45 r):∃ g,r=eG g∧GstA h g:=by
 obtain ⟨n',hl,hk⟩:=a.YM (m:=[(0,9),(1,9),(2,9),(3,3),(4,3),(5,9),(6,4),(7,4),(8,43)]) (z:=9) rfl (by kernel_rfl) (by kernel_rfl);match r,hl with
 | [x0,x1,x2,x3,x4,x5,x6,x7,x8],_ =>
  obtain ⟨s0,e0,h0⟩:=AR.xq (show AR Tryz.prog h n' 9 [x0] from hk (0,9) (by simp)) (by kernel_rfl);obtain ⟨s1,e1,h1⟩:=AR.xq (show AR Tryz.prog h n' 9 [x1] from hk (1,9) (by simp)) (by kernel_rfl);obtain ⟨s2,e2,h2⟩:=AR.xq (show AR Tryz.prog h n' 9 [x2] from hk (2,9) (by simp)) (by kernel_rfl);obtain ⟨y3,e3,h3⟩:=AR.VF (k:=.i64) (show AR Tryz.prog h n' 3 [x3] from hk (3,3) (by simp)) (by kernel_rfl);obtain ⟨y4,e4,h4⟩:=AR.VF (k:=.i64) (show AR Tryz.prog h n' 3 [x4] from hk (4,3) (by simp)) (by kernel_rfl);obtain ⟨s5,e5,h5⟩:=AR.xq (show AR Tryz.prog h n' 9 [x5] from hk (5,9) (by simp)) (by kernel_rfl);obtain ⟨b6,e6⟩:=AR.qgg (show AR Tryz.prog h n' 4 [x6] from hk (6,4) (by simp)) (by kernel_rfl);obtain ⟨b7,e7⟩:=AR.qgg (show AR Tryz.prog h n' 4 [x7] from hk (7,4) (by simp)) (by kernel_rfl);obtain ⟨v,l,e8,g1,g2,g3,g4⟩:=AR.qhN (show AR Tryz.prog h n' 43 [x8] from hk (8,43) (by simp));cases e0;cases e1;cases e2;cases e3;cases e4;cases e5;cases e6;cases e7
  obtain ⟨sv,rfl⟩:=g1.KI;cases e8
  exact ⟨⟨⟨s0,s1,s2,y3,y4,s5,b6,b7,l⟩,sv⟩,rfl,g1,g3,g2.1,h0,h1,h2,h5,g4,(show Tryz.prog.bytesOf 9=16 by kernel_rfl) ▸ g2.2,qd8 h3,qd8 h4⟩
theorem AR.tie1 {h:AH} {n:Nat} {r:List Value} (a:AR Tryz.prog h n 198 r):∃ t:Ti,r=Qy t∧0≤t.k∧t.k<256:=by
 obtain ⟨n',hl,hk⟩:=a.YM (m:=[(0,9),(1,9),(2,196)]) (z:=3) rfl (by kernel_rfl) (by kernel_rfl);match r,hl with
 | [x0,x1,x2],_ =>
  obtain ⟨s0,e0,-⟩:=AR.xq (show AR Tryz.prog h n' 9 [x0] from hk (0,9) (by simp)) (by kernel_rfl);obtain ⟨s1,e1,-⟩:=AR.xq (show AR Tryz.prog h n' 9 [x1] from hk (1,9) (by simp)) (by kernel_rfl);obtain ⟨y2,e2,h2⟩:=AR.VF (k:=.u8) (show AR Tryz.prog h n' 196 [x2] from hk (2,196) (by simp)) (by kernel_rfl);cases e0;cases e1;cases e2
  have:0≤y2∧y2<256:=by
   simp [Lit.wf,IntKind.min,IntKind.max,IntKind.signed,IntKind.bits] at h2
   omega
  exact ⟨⟨s0,s1,y2⟩,rfl,this⟩
structure qiZ (h:AH) (t:Tab):Prop where
 rd:zl h t.ov 1 eI t.opn
 name:t.name.length≤maxLen
 opn:t.opn.length≤maxLen
 w8:t.opn.length*8≤reachBytes
theorem AR.qi8 {h:AH} {n:Nat} {r:List Value} (a:AR Tryz.prog h n 93 r):∃ t,r=eT t∧qiZ h t:=by
 obtain ⟨n',hl,hk⟩:=a.YM (m:=[(0,9),(1,91),(2,3),(3,3),(4,25),(5,3),(6,3)]) (z:=7) rfl (by kernel_rfl) (by kernel_rfl);match r,hl with
 | [x0,x1,x2,x3,x4,x5,x6],_ =>
  obtain ⟨s,e0,h0⟩:=AR.xq (show AR Tryz.prog h n' 9 [x0] from hk (0,9) (by simp)) (by kernel_rfl);obtain ⟨y1,e1,-⟩:=AR.VF (k:=.u8) (show AR Tryz.prog h n' 91 [x1] from hk (1,91) (by simp)) (by kernel_rfl);obtain ⟨y2,e2,-⟩:=AR.VF (k:=.i64) (show AR Tryz.prog h n' 3 [x2] from hk (2,3) (by simp)) (by kernel_rfl);obtain ⟨y3,e3,-⟩:=AR.VF (k:=.i64) (show AR Tryz.prog h n' 3 [x3] from hk (3,3) (by simp)) (by kernel_rfl);obtain ⟨v,l,e4,h1,h2,h3,-⟩:=AR.JD (e:=3) (z:=1) eI (fun _=>True) (show AR Tryz.prog h n' 25 [x4] from hk (4,25) (by simp)) (by kernel_rfl) (by kernel_rfl) (fun n cs q=>by
   obtain ⟨x,e,-⟩:=AR.VF (k:=.i64) q (by kernel_rfl);exact ⟨x,e,trivial⟩)
  obtain ⟨y5,e5,-⟩:=AR.VF (k:=.i64) (show AR Tryz.prog h n' 3 [x5] from hk (5,3) (by simp)) (by kernel_rfl);obtain ⟨y6,e6,-⟩:=AR.VF (k:=.i64) (show AR Tryz.prog h n' 3 [x6] from hk (6,3) (by simp)) (by kernel_rfl);cases e0;cases e1;cases e2;cases e3;cases e5;cases e6
  obtain ⟨sv,rfl⟩:=h1.KI;cases e4
  have w1:l.length*8≤reachBytes:=(show Tryz.prog.bytesOf 3=8 by kernel_rfl) ▸ h2.2;exact ⟨⟨s,y1,y2,y3,sv,l,y5,y6⟩,rfl,h1,h0,h2.1,w1⟩
theorem AR.ru1 {h:AH} {n:Nat} {r:List Value} (a:AR Tryz.prog h n 158 r):∃ x:Ru,r=Xv x∧0≤x.k∧x.k≤255:=by
 obtain ⟨n',hl,hk⟩:=a.YM (m:=[(0,156),(1,3),(2,9),(3,9),(4,9),(5,3)]) (z:=6) rfl (by kernel_rfl) (by kernel_rfl);match r,hl with
 | [x0,x1,x2,x3,x4,x5],_ =>
  obtain ⟨y0,e0,h0⟩:=AR.VF (k:=.u8) (show AR Tryz.prog h n' 156 [x0] from hk (0,156) (by simp)) (by kernel_rfl);obtain ⟨y1,e1,-⟩:=AR.VF (k:=.i64) (show AR Tryz.prog h n' 3 [x1] from hk (1,3) (by simp)) (by kernel_rfl);obtain ⟨s2,e2,-⟩:=AR.xq (show AR Tryz.prog h n' 9 [x2] from hk (2,9) (by simp)) (by kernel_rfl);obtain ⟨s3,e3,-⟩:=AR.xq (show AR Tryz.prog h n' 9 [x3] from hk (3,9) (by simp)) (by kernel_rfl);obtain ⟨s4,e4,-⟩:=AR.xq (show AR Tryz.prog h n' 9 [x4] from hk (4,9) (by simp)) (by kernel_rfl);obtain ⟨y5,e5,-⟩:=AR.VF (k:=.i64) (show AR Tryz.prog h n' 3 [x5] from hk (5,3) (by simp)) (by kernel_rfl);cases e0;cases e1;cases e2;cases e3;cases e4;cases e5
  have:0≤y0∧y0≤255:=by
   simp [Lit.wf,IntKind.min,IntKind.max,IntKind.signed,IntKind.bits] at h0
   omega
  exact ⟨⟨y0,y1,s2,s3,s4,y5⟩,rfl,this⟩
theorem AR.int64 {h:AH} {n:Nat} {r:List Value} (a:AR Tryz.prog h n 3 r):∃ x:Int,r=[.int .i64 x]∧-9223372036854775808≤x∧x≤9223372036854775807:=by
 obtain ⟨x,e,h⟩:=a.VF (k:=.i64) (by kernel_rfl);refine ⟨x,e,?_⟩;simp [Lit.wf,IntKind.min,IntKind.max,IntKind.signed,IntKind.bits] at h
 omega
theorem AR.qgb {h:AH} {n:Nat} {r:List Value} (a:AR Tryz.prog h n 25 r):∃ (sv:SlV) (l:List Int),r=[sv.val]∧zl h sv.val 1 eI l∧l.length≤maxLen∧Qn sv.val∧∀ x∈l,-9223372036854775808≤x∧x≤9223372036854775807:=by
 obtain ⟨v,l,e,h1,h2,h3,h4⟩:=AR.JD (e:=3) (z:=1) eI (fun x=>-9223372036854775808≤x∧x≤9223372036854775807) a (by kernel_rfl) (by kernel_rfl) (fun n cs q=>by
  obtain ⟨x,e,h⟩:=AR.int64 q;exact ⟨x,e,h⟩)
 obtain ⟨sv,rfl⟩:=h1.KI;refine ⟨sv,l,e,h1,h2.1,h3,fun x hx=>?_⟩;obtain ⟨j,hj,rfl⟩:=zy.1 hx;exact h4 j hj
theorem AR.qh0 {h:AH} {n:Nat} {r:List Value} (a:AR Tryz.prog h n 28 r):∃ (v:PbV) (p:Pb),r=v.cs∧PbZ h v p:=by
 obtain ⟨n',hl,hk⟩:=a.YM (m:=[(0,22),(1,23),(2,24),(3,25),(4,26)]) (z:=5) rfl (by kernel_rfl) (by kernel_rfl);match r,hl with
 | [x0,x1,x2,x3,x4],_ =>
  obtain ⟨v0,tabs,e0,a1,a2,a3,a4⟩:=AR.JD (e:=93) (z:=7) eT (qiZ h) (show AR Tryz.prog h n' 22 [x0] from hk (0,22) (by simp)) (by kernel_rfl) (by kernel_rfl) (fun n cs q=>q.qi8);obtain ⟨v1,gs,e1,g1,g2,g3,g4⟩:=AR.JD (e:=45) (z:=9) eG (fun g=>GstA h g) (show AR Tryz.prog h n' 23 [x1] from hk (1,23) (by simp)) (by kernel_rfl) (by kernel_rfl) (fun n cs q=>q.qjq);obtain ⟨v2,ts,e2,t1,t2,t3,t4⟩:=AR.JD (e:=198) (z:=3) Qy (fun t=>0≤t.k∧t.k<256) (show AR Tryz.prog h n' 24 [x2] from hk (2,24) (by simp)) (by kernel_rfl) (by kernel_rfl) (fun n cs q=>q.tie1);obtain ⟨sc,cl,e3,c1,c2,c3,c4⟩:=AR.qgb (show AR Tryz.prog h n' 25 [x3] from hk (3,25) (by simp));obtain ⟨v4,ru,e4,r1,r2,r3,r4⟩:=AR.JD (e:=158) (z:=6) Xv (fun x=>0≤x.k∧x.k≤255) (show AR Tryz.prog h n' 26 [x4] from hk (4,26) (by simp)) (by kernel_rfl) (by kernel_rfl) (fun n cs q=>q.ru1);obtain ⟨st,rfl⟩:=a1.KI;obtain ⟨sg,rfl⟩:=g1.KI;obtain ⟨si,rfl⟩:=t1.KI;obtain ⟨sr,rfl⟩:=r1.KI;cases e0;cases e1;cases e2;cases e3;cases e4
  have m1:=g2.1;have m2:=t2.1;have m3:=a2.1;have m5:=r2.1;have e:reachBytes=140737488351232:=rfl;unfold maxLen at m1 m2 m3 m5 c2;refine ⟨⟨st,sg,si,sc,sr,gs⟩,⟨tabs,gs.map (·.toGu),ts,cl,ru⟩,rfl,a1,fun i hi=>⟨(a4 i hi).rd,?_,?_⟩,a3,fun i hi=>?_,⟨g1,t1,fun i hi=>(g4 i hi).r,rfl,by rw [zC5];omega,by show ts.length≤_;omega⟩,g3,fun i hi=>?_,c1,r1,fun x hx=>?_,by show tabs.length≤_;omega,by show cl.length≤_;omega,by show ru.length≤_;omega⟩
  ·have:=(a4 i hi).name;unfold maxLen at this;show (tabs.getD i default).name.length≤_;omega
  ·have:=(a4 i hi).opn;unfold maxLen at this;show (tabs.getD i default).opn.length≤_;omega
  ·have:=(a4 i hi).w8;rw [e] at this;exact this
  ·have:=(g4 i hi).wt;rw [e] at this;show (gs.getD i default).tg.length≤_;omega
  ·obtain ⟨j,hj,rfl⟩:=zy.1 hx;exact r4 j hj
def WH (n:Nat):Nat:=if n<256 then (lenTab.getD n 0).toNat else 8+(lenTab.getD (n / 256) 0).toNat
theorem PD:∀ n,n<512→0<n→WH n≤9∧n<2 ^ WH n∧2 ^ WH n≤2*n:=by decide +kernel
theorem qfd (n:Nat) (h:n<512):WH n≤9:=by
 rcases zF4 n with q|q
 ·subst q;decide
 ·exact (PD n h q).1
abbrev cvT:Value:=.func (.func 342) #[] #[]
variable [Flag]
theorem qcD {h0:AH} (w:WfH h0) (n:Nat) (hn:n<512):Fn Tryz.prog Xh 146 [.int .u64 n] h0 (fun v h'=>v = .int .i64 (WH n:Int)∧Hs h0 h' []):=by
 rcases zA7 n 256 with q|q
 ·have:=qd4 w n q;unfold WH;rw [if_pos q];exact this
 unfold WH;rw [if_neg (by omega)];have S:=Hs.start w;have hl:=yh;have hb:(lenTab.getD (n / 256) 0).toNat<256:=UInt8.toNat_lt _;refine qA (by first|rfl) Tryz.func146 rfl rfl ?_;have e:(n:Int) / ((2 ^ min (Int.toNat 8) IntKind.u64.bits:Nat):Int)=((n / 256:Nat):Int):=by
  rw [show (2 ^ min (Int.toNat 8) IntKind.u64.bits:Nat)=256 by decide];rfl
 all_goals (repeat' (first|refine qg ?_|refine qh rfl ?_|refine qi ?_|(refine qc 0 ?_;refine mv ?_;refine qf ?_)|(refine qc 1 ?_;refine mv ?_;(refine cF ?_)<;>(refine qf ?_))|(refine qc 4 ?_;refine mv ?_;(refine cF ?_)<;>(refine qf ?_))|(refine qc 7 ?_;refine mv ?_;(refine cT ?_)<;>(refine qf ?_))|(refine qc 8 ?_;refine mv ?_;refine sR ?_;refine mv ?_;refine qf ?_)|(refine qc 9 ?_;refine mv ?_;refine ad ?_;refine mv ?_;refine qf ?_)))
 simp only [e];refine qc 10 ?_;refine mv ?_;refine mv ?_;refine cU ?_;refine ti (l:=lenTab) ?_;rw [zA0];(refine cI ?_);refine ad ?_;refine mv ?_;refine qf ?_;all_goals (repeat' (fail))
 refine qj ⟨_,rfl,?_⟩;exact ⟨by show Value.int .i64 (8+_)=_;rfl,S⟩
theorem KG {h0:AH} (w:WfH h0) (n:Nat) (hn:n<512):Fn Tryz.prog Xh 82 [.int .u64 n] h0 (fun v h'=>v = .int .i64 (WH n:Int)∧Hs h0 h' []):=by
 have S:=Hs.start w;refine qA (by first|rfl) Tryz.func82 rfl rfl ?_;all_goals (repeat' (first|refine qg ?_|refine qh rfl ?_|refine qi ?_|(refine qc 0 ?_;refine mv ?_;refine qf ?_)|(refine qc 2 ?_;refine mv ?_)))
 (refine qm rfl rfl rfl rfl rfl ((qcD S.wf n hn).mono ?_);rintro _ h ⟨rfl,x⟩)<;>(replace S:=S.qx x;clear x;refine mv ?_;refine qf ?_)
 all_goals (repeat' (fail))
 refine qj ⟨_,rfl,?_⟩;exact ⟨rfl,S⟩
theorem qdT {h0:AH} (w:WfH h0) (n:Nat) (hn:0<n∧n<512):Fn Tryz.prog Xh 194 [.int .i64 n] h0 (fun v h'=>∃ P:Int,v = .int .u64 P∧(n:Int)<P∧P≤2*n∧Hs h0 h' []):=by
 have S:=Hs.start w;have hk:=PD n hn.2 hn.1;refine qA (by first|rfl) Tryz.func194 rfl rfl ?_;all_goals (repeat' (first|refine qg ?_|(refine qc 0 ?_;refine mv ?_;refine qf ?_)|(refine qc 1 ?_;refine mv ?_;refine cW ?_)))
 (refine qm rfl rfl rfl rfl rfl ((KG S.wf n hn.2).mono ?_);rintro _ h ⟨rfl,x⟩)<;>(replace S:=S.qx x;clear x;refine sL ?_;refine mv ?_;refine qf ?_)
 all_goals (repeat' (fail))
 refine qj ⟨_,rfl,?_⟩;refine ⟨_,rfl,?_,?_,S⟩
 ·have:(n:Int)<((2 ^ WH n:Nat):Int):=by exact_mod_cast hk.2.1
  simpa using this
 ·have:((2 ^ WH n:Nat):Int)≤((2*n:Nat):Int):=by exact_mod_cast hk.2.2
  simpa using this
end Go.Proofs.Xx
namespace Go.Proofs.Xx
open Go Go.Proofs
def PW (n:Nat) (x:Int):Int:=if 0≤x∧x<n then x else 0
def eQ (n:Nat) (x:Int):List Value:=[.int .i64 (PW n x)]
def jG (n:Nat) (key:Int→Int) (x y:Int):Prop:=key (PW n x)<key (PW n y)
theorem Qv (n:Nat) (key:Int→Int):WOrd (jG n key):=⟨fun x h=>Int.lt_irrefl _ h,fun h g=>Int.lt_trans h g,fun {x y z} h1 h2 h=>by
 unfold jG at *;omega⟩
abbrev Zk (g:Nat) (cap:List Value):Value:=.func (.func g) #[] cap.toArray
class CmpK (h0:AH) (g:Nat) (cap:List Value) (n:outParam Nat) (key:outParam (Int→Int)):Prop where
 ok:∀ {h:AH},Ext h0 h→WfH h→∀ x y:Int,Fn Tryz.prog Xh g (.int .i64 (PW n x) :: .int .i64 (PW n y) :: cap) h (fun v h'=>∃ d,v = .int .i64 d∧((d<0∧jG n key x y)∨(0≤d∧¬ jG n key x y))∧Hs h h' [])
end Go.Proofs.Xx
