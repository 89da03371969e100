/-
  ServiceDishes: its contract.
-/
import Derived.Test.YtnponmgkfkdkaaaGreatDoorM17
import Derived.Test.YtnponmgkfkdkaaaGreatDoorM11
import Derived.Test.YtnponmgkfkdkaaaGreatDoorM6
import Derived.Test.YtnponmgkfkdkaaaGreatDoorM14
import Derived.Test.YtnponmgkfkdkaaaGreatDoorM8
import Derived.Test.YtnponmgkfkdkaaaGreatDoorM5
import Derived.Test.YtnponmgkfkdkaaaGreatDoorRows
import Derived.Lib.LaidTab
import Derived.Stop.LaidErr
import Derived.Shelf.Vars
set_option linter.unusedSimpArgs false
set_option linter.unusedVariables false
set_option linter.unusedSectionVars false
set_option maxRecDepth 100000
set_option maxHeartbeats 4000000
namespace Go.Proofs.Xx
open Go Go.RowKit Go.Proofs
theorem qeF (s:ByteArray):zA s s=true:=by unfold zA;simp
theorem qdk (x:Di):QO Tryz.prog .eql 76 (diV x) (diV x)=some (.bool true):=by
 have e:QO Tryz.prog .eql 76 (diV x) (diV x)=some (.bool (((x.tt:Int) == (x.tt:Int)) && (zA ⟨x.d.toArray⟩ ⟨x.d.toArray⟩ && ((x.n == x.n) && true)))):=by kernel_rfl
 rw [e,qeF];simp
theorem qdc {h0:AH} (w:WfH h0) (x:Di):Fn Tryz.prog Xh 41 [diV x,diV x] h0 (fun u h'=>u = .bool true∧Hs h0 h' []):=by
 have S:=Hs.start w;refine qL (by first|rfl) Tryz.func41 rfl rfl ?_;all_goals (repeat' (first|refine qg ?_|(refine qc 0 ?_;(refine bx S ?_;clear S;intro b h S);(refine bx S ?_;clear S;intro b h S);refine mv ?_;refine qf ?_)))
 obtain ⟨bq,hnm⟩:∃ x,x=b:=⟨_,rfl⟩;subst hnm;obtain ⟨bp,hnm⟩:∃ x,x=b:=⟨_,rfl⟩;subst hnm;replace S:Hs h0 h [.blk bq (jb x) 76,.blk bp (jb x) 50]:=S;(repeat (refine qg ?_));refine qc 1 ?_;(refine lB S rfl rfl ?_);(refine lB S rfl rfl ?_);refine jD (a:=diV x) (b:=diV x) rfl rfl rfl rfl (qdk x) rfl ?_;refine mv ?_;refine qf ?_;refine qo ⟨_,rfl,?_⟩;exact ⟨rfl,S.drop⟩
theorem qbh {h0:AH} (w:WfH h0) (v u:Value) (L:List Di) (ra:zC h0 v 3 jb L) (rb:zC h0 u 3 jb L) (hL:L.length≤1000000) :
 Fn Tryz.prog Xh 39 [v,u,.func (.func 41) #[] #[]] h0 (fun x h'=>x = .bool true∧Hs h0 h' []):=by
 have S:=Hs.start w;refine qL (by first|rfl) Tryz.func39 rfl rfl ?_;all_goals (repeat' (first|refine qg ?_|refine qh rfl ?_|refine qi ?_|refine qj ?_|(refine qc 0 ?_;refine mv ?_;refine qf ?_)|(refine qc 1 ?_;refine mv ?_;refine jf S ?_;refine mv ?_;refine jf S ?_;(refine cF ?_)<;>(refine qf ?_))|(refine qc 3 ?_;refine mv ?_;refine jf S ?_;refine mv ?_;refine qf ?_)))
 refine qH (σ:=Nat) (fun i h'=>Hs h0 h' []∧i≤L.length) (fun i=>L.length - i) (fun i=>[(0,v),(1,u),(2,.func (.func 41) #[] #[]),(15,v),(16,.int .i64 L.length),(17,.int .i64 i)]) 0 qx ?_ ?_
 ·exact ⟨S,zB0 _⟩
 clear S;rintro i h ⟨S,g1⟩;all_goals (repeat' (first|refine qg ?_|refine qh rfl ?_|refine qi ?_|refine qC ?_|refine qj ?_|(refine qc 4 ?_;(first|(refine cS ?_ ?_<;>intro hc))<;>(refine qf ?_))))
 ·have hi:i<L.length:=by omega
  all_goals (repeat' (first|refine qg ?_|(refine qc 5 ?_;refine mv ?_;refine jF S ?_;refine jk S ?_;(refine al S ?_;clear S;intro b h S);refine mv ?_;(first|(refine sB S rfl rfl ?_;clear S;intro h S));refine qf ?_)|(refine qc 6 ?_;refine mv ?_;refine mv ?_;refine jF S ?_;refine jk S ?_;(refine al S ?_;clear S;intro b h S);(first|(refine sB S rfl rfl ?_;clear S;intro h S));refine qf ?_)|(refine qc 7 ?_;refine mv ?_;refine lB S rfl rfl ?_;refine lB S rfl rfl ?_)))
  simp only [zA0];(refine zK rfl rfl rfl rfl ((qdc S.wf (L.getD i default)).mono ?_);rintro _ h ⟨rfl,x⟩)<;>(replace S:=S.qE x;clear x;refine vl ?_;refine qf ?_)
  all_goals (repeat' (first|refine qh rfl ?_|refine qi ?_|(refine qc 9 ?_;refine ad ?_;refine mv ?_;refine qf ?_)))
  refine ⟨i+1,?_,?_,qx⟩
  ·show L.length - (i+1)<L.length - i;omega
  ·exact ⟨S.drop,by (try dsimp only);omega⟩
 ·all_goals (repeat' (first|(refine qc 10 ?_;refine mv ?_;refine qf ?_)))
  refine qo ⟨_,rfl,?_⟩;exact ⟨rfl,S⟩
theorem qdP {l m:List Tab} (e:l.map (·.toC)=m.map (·.toC)) {q:List Int} {t:Int}:∀ n,zT l q t n=zT m q t n
 | 0=>rfl
 | n+1=>by rw [zT,zT,qdP e n,qdE e]
theorem qhb {l m:List Tab} (e:l.map (·.toC)=m.map (·.toC)) {us:List Gu} {ts:List Ti} {cl:List Int} {ru:List Ru} {q:List Int}:Zj ⟨l,us,ts,cl,ru⟩ q=Zj ⟨m,us,ts,cl,ru⟩ q:=by
 funext t
 show Kw _ (zT l q t q.length)=Kw _ (zT m q t q.length)
 rw [qdP e];rfl
theorem qaX {h0:AH} (w:WfH h0) (pv:PbV) (p:Pb) (H:PbOk h0 pv p) (vq:Value) (q:List Int) (rq:zC h0 vq 1 eI q) (hq:q.length≤9223372036854775807) (hP:PO p) (hQ:PartOk p q) :
 Fn Tryz.prog Xh 12 [pv.val,vq] h0 (fun u h'=>Hs h0 h' [.sl u 3 1 eI (zS p q)]):=(kQ w pv p H vq q rq hq).mono fun u h' z=>by
 rcases z with ⟨z,-⟩|⟨-,-,z⟩
 ·exact absurd ⟨hP,hQ⟩ z
 ·exact z
theorem qaY {h0:AH} (w:WfH h0) (pv:PbV) (p:Pb) (H:PbOk h0 pv p) (vq:Value) (q:List Int) (rq:zC h0 vq 1 eI q) (hq:q.length≤9223372036854775807) (hn:¬ (PO p∧PartOk p q)) :
 Fn Tryz.prog Xh 12 [pv.val,vq] h0 (fun u h'=>u = .slice none 0 0∧Hs h0 h' []):=(kQ w pv p H vq q rq hq).mono fun u h' z=>by
 rcases z with ⟨-,z⟩|⟨z1,z2,-⟩
 ·exact z
 ·exact absurd ⟨z1,z2⟩ hn
theorem qcr {h0:AH} (w:WfH h0) (pv:PbV) (p:Pb) (H:PbOk h0 pv p) (vq:Value) (q:List Int) (rq:zC h0 vq 1 eI q) (hq:q.length≤9223372036854775807) (hP:PO p) (hQ:PartOk p q) :
 Fn Tryz.prog Xh 22 [pv.val,vq] h0 (fun u h'=>Hs h0 h' [.sl u 3 1 eI (jh (Zj p q) (srv (zS p q)) 64)]):=(pM w pv p H vq q rq hq).mono fun u h' z=>by
 rcases z with ⟨z,-⟩|⟨-,-,l,z1,z2,z⟩
 ·exact absurd ⟨hP,hQ⟩ z
 ·rw [qcq hP hQ z1 z2] at z;exact z
theorem qcs {h0:AH} (w:WfH h0) (pv:PbV) (p:Pb) (H:PbOk h0 pv p) (vq:Value) (q:List Int) (rq:zC h0 vq 1 eI q) (hq:q.length≤9223372036854775807) (hn:¬ (PO p∧PartOk p q)) :
 Fn Tryz.prog Xh 22 [pv.val,vq] h0 (fun u h'=>u = .slice none 0 0∧Hs h0 h' []):=(pM w pv p H vq q rq hq).mono fun u h' z=>by
 rcases z with ⟨-,z⟩|⟨z1,z2,-⟩
 ·exact z
 ·exact absurd ⟨z1,z2⟩ hn
theorem qa8 {h0:AH} (w:WfH h0) (pv:PbV) (p:Pb) (Z:PbZ h0 pv p) (F5:p.tabs.length≤5) (F:qan p 20) (vq:Value) (q:List Int) (rq:zC h0 vq 1 eI q) (hq:q.length≤30) :
 Fn Tryz.prog (Xo p) 8 [pv.val,vq] h0 (fun u h'=>u = .bool true∧Hs h0 h' []):=by
 have S:=Hs.start w;unfold PbV.val;refine qL (GK _ rfl _ _) Tryz.func8 rfl rfl ?_;all_goals (repeat' (first|refine qg ?_|(refine qc 0 ?_;(refine bx S ?_;clear S;intro b h S);refine mv ?_;refine qf ?_)))
 obtain ⟨b2,hnm⟩:∃ x,x=b:=⟨_,rfl⟩;subst hnm;all_goals (repeat' (first|(refine qc 1 ?_;refine lB S rfl rfl ?_)))
 (refine qw rfl rfl rfl rfl rfl (((qhH S.wf pv p ((Z.ext w S.ext).fit F)).xo).mono ?_);rintro _ h ⟨v',tabs,rfl,et,eu,x⟩)<;>(replace S:=S.join x;clear x;refine mv ?_)
 (refine qw rfl rfl rfl rfl rfl (((qdf S.wf vq q (rq.ext w S.ext) (by omega)).xo).mono ?_);rintro vl_ h x)<;>(replace S:=S.jm x;clear x;(refine al S ?_;clear S;intro b h S);(first|(refine sB S rfl rfl ?_;clear S;intro h S));refine mv ?_;refine qf ?_)
 all_goals (repeat' (refine qg ?_))
 replace S:Hs h0 h [.blk b v'.cs 28,.sl vl_ 3 1 eI q,.sl v'.vt.val 93 7 eT tabs,xZ WJ tabs,.sl v'.vg.val 45 9 eG v'.gs,tgO v'.gs,.sl v'.vi.val 198 3 QG p.ts,.sl v'.vc.val 3 1 eI p.cl,.sl v'.vr.val 158 6 XR p.ru,.blk b2 pv.cs 28]:=S;obtain ⟨sl,rfl⟩:=S.sV vl_;have w1:=S.wf;have g3:=Hs.gB (b:=b2) S;have g7:=Hs.gB (b:=b) S;have rl:=Rd.QU S (.there .here);have HC:=qhe (rs:=[.blk b2 pv.cs 28]) (show Hs h0 h (pbL v' (p.wt tabs) ++ [.blk b2 pv.cs 28]) from S.tail.tail) et eu Z F;have HO:=(Z.ext w S.ext).ok F;have MO:=Z.m F;have rq2:=rq.ext w S.ext;have S00:=S;clear S;have S:=Hs.start w1;obtain ⟨hB,hnm⟩:∃ x,x=h:=⟨_,rfl⟩;subst hnm;have hPO:PO (p.wt tabs)↔PO p:=qjP et;have hPA:PartOk (p.wt tabs) q↔PartOk p q:=qd9 et;have hPL:zS (p.wt tabs) q=zS p q:=qhc et;have hRV:Zj (p.wt tabs) q=Zj p q:=qhb et;by_cases hv:PO p∧PartOk p q
 ·obtain ⟨hP,hQ⟩:=hv;have hP':=hPO.2 hP;have hQ':=hPA.2 hQ;(repeat (refine qg ?_));refine ZJ (id:=2) [(3,(0,1)),(6,(0,2))] [some (b),some (b)] ?_;refine qy ?_;(first|(refine lH S ?_<;>refine qf ⟨⟨by (first|exact True.intro),rfl⟩,?_⟩));refine qy ?_;(first|(refine mv ?_<;>refine qf ⟨⟨by (first|exact True.intro),rfl⟩,?_⟩));((refine qy ?_;first|refine qw rfl rfl rfl rfl rfl (((qaX S.wf v' (p.wt tabs) (HC.ext w1 S.ext) sl.val q (rl.ext w1 S.ext) (by omega) hP' hQ').xo).mono ?_));rintro u1 h x)<;>((refine qf ⟨⟨True.intro,?_⟩,?_⟩;(focus ((show keepsX _ _ _ _ _;simp only [keepsX];(repeat' (first|exact True.intro|refine And.intro ?_ ?_));all_goals (intro hw;first|exact x.ext.old _ (S.bY (by assumption) (by assumption)))))));replace S:=S.jm x;clear x;refine qy ?_;(first|(refine lH S ?_<;>refine qf ⟨⟨by (first|exact Or.inr rfl),rfl⟩,?_⟩));refine qy ?_;(first|(refine mv ?_<;>refine qf ⟨⟨by (first|exact True.intro),rfl⟩,?_⟩)))
  ((refine qy ?_;first|refine qw rfl rfl rfl rfl rfl ((qc8 S.wf v' et (HC.ext w1 S.ext) hP' sl q (rl.ext w1 S.ext) hQ').mono ?_));rintro u2 h x)<;>((refine qf ⟨⟨True.intro,?_⟩,?_⟩;(focus ((show keepsX _ _ _ _ _;simp only [keepsX];(repeat' (first|exact True.intro|refine And.intro ?_ ?_));all_goals (intro hw;first|exact absurd hw (by decide +kernel)|exact x.ext.old _ (S.bY (by assumption) (by assumption)))))));replace S:=S.jm x;clear x;refine qy ?_;(first|(refine lH S ?_<;>refine qf ⟨⟨by (first|exact Or.inr rfl),rfl⟩,?_⟩));refine qy ?_;(first|(refine mv ?_<;>refine qf ⟨⟨by (first|exact True.intro),rfl⟩,?_⟩)))
  ((refine qy ?_;first|refine qw rfl rfl rfl rfl rfl (((qcr S.wf v' (p.wt tabs) (HC.ext w1 S.ext) sl.val q (rl.ext w1 S.ext) (by omega) hP' hQ').xo).mono ?_));rintro u3 h x)<;>((refine qf ⟨⟨True.intro,?_⟩,?_⟩;(focus ((show keepsX _ _ _ _ _;simp only [keepsX];(repeat' (first|exact True.intro|refine And.intro ?_ ?_));all_goals (intro hw;first|exact absurd hw (by decide +kernel))))));replace S:=S.jm x;clear x;refine qy ?_;(first|(refine mv ?_<;>refine qf ⟨⟨by (first|exact True.intro),rfl⟩,?_⟩));refine qy ?_;(first|(refine mv ?_<;>refine qf ⟨⟨by (first|exact True.intro),rfl⟩,?_⟩));refine qy ?_;(first|(refine mv ?_<;>refine qf ⟨⟨by (first|exact True.intro),rfl⟩,?_⟩));refine Xq ?_)
  rw [hPL,hRV] at S;all_goals (repeat' (first|refine qg ?_|(refine qc 3 ?_;refine lH S ?_;refine mv ?_)))
  (refine qw rfl rfl rfl rfl rfl (((PZ S.wf pv p (HO.ext w1 S.ext) MO vq q (rq2.ext w1 S.ext) (by omega)).xo).mono ?_);rintro _ h ⟨i,e,rfl,hk,x⟩)<;>(replace S:=S.qE x;clear x;(first|(refine cS ?_ ?_<;>intro hc))<;>(refine qf ?_))
  ·exact absurd (hk.part.2 ⟨hP,hQ⟩) hc
  have hqb:∀ x∈q,-1≤x∧x≤1000000:=fun x hx=>by
   have:=hQ.rng x hx;have:=zQ p.tabs p.tabs.length;have:=hP.tabs.1;omega
  have hpl:=Zk (p:=p) (q:=q);have hdl:=qb5 (p:=p) (q:=q);have hsl:(jh (Zj p q) (srv (zS p q)) 64).length≤1000000:=by
   have h1:=gX (pl:=zS p q);have hol:∀ c:Nat,(jh (Zj p q) (srv (zS p q)) c).length≤16*c:=fun c=>by
    unfold jh;induction c with
    | zero=>exact zB0 _
    | succ c ih =>
     rw [List.range_succ,List.flatMap_append,zB2];have:=zE9 (fun t=>decide (Zj p q t=(c:Int))) (srv (zS p q));simp only [zG2,List.flatMap_nil,zD6];omega
   have:=hol 64;omega
  all_goals (repeat' (first|refine qg ?_|refine qh rfl ?_|refine qi ?_|(refine qc 5 ?_;refine mv ?_;refine lH S ?_;refine mv ?_)))
  (refine qw rfl rfl rfl rfl rfl (((qaS S.wf pv p (HO.ext w1 S.ext) hP.tabs vq q (rq2.ext w1 S.ext) (by omega) hqb).xo).mono ?_);rintro u4 h x)<;>(replace S:=S.jm x;clear x)
  (refine qw rfl rfl rfl rfl rfl (((VP S.wf u1 u4 (zS p q) (zS p q) (Rd.QU S (.there (.there (.there .here)))) (Rd.QU S .here) (by omega)).xo).mono ?_);rintro _ h ⟨⟨rfl,z⟩|⟨rfl,z⟩,x⟩)<;>(replace S:=S.qE x;clear x;refine mv ?_;(first|refine off ?_|refine mv ?_);(first|refine off ?_|(refine lH S ?_));(first|refine off ?_|refine mv ?_);(first|(refine off ?_;(first|(refine off ?_;refine vl ?_;refine mv ?_;refine off ?_;refine off ?_;refine off ?_;(first|(refine off ?_;(first|(refine off ?_;refine vl ?_;refine mv ?_;refine off ?_;refine off ?_;refine off ?_;refine off ?_;(first|(refine off ?_;refine vl ?_;refine mv ?_;refine qf ?_)))))))))|skip))
  rotate_left
  ·exact absurd rfl z
  (refine qw rfl rfl rfl rfl rfl (((qaT S.wf pv p (HO.ext w1 S.ext) hP vq q (rq2.ext w1 S.ext) hQ).xo).mono ?_);rintro u5 h x)<;>(replace S:=S.jm x;clear x;(skip))
  (refine qw rfl rfl rfl rfl rfl (((qbh S.wf u2 u5 (Ja p q) (Rd.QU S (.there (.there (.there .here)))) (Rd.QU S .here) (by omega)).xo).mono ?_);rintro _ h ⟨rfl,x⟩)<;>(replace S:=S.qE x;clear x;refine vl ?_;refine mv ?_;refine mv ?_;(first|(refine lH S ?_));refine mv ?_;(skip))
  (refine qw rfl rfl rfl rfl rfl (((qcF S.wf pv p (HO.ext w1 S.ext) hP vq q (rq2.ext w1 S.ext) hQ).xo).mono ?_);rintro u6 h x)<;>(replace S:=S.jm x;clear x;(skip))
  (refine qw rfl rfl rfl rfl rfl (((VP S.wf u3 u6 (jh (Zj p q) (srv (zS p q)) 64) (jh (Zj p q) (srv (zS p q)) 64) (Rd.QU S (.there (.there (.there .here)))) (Rd.QU S .here) hsl).xo).mono ?_);rintro _ h ⟨⟨rfl,z⟩|⟨rfl,z⟩,x⟩)<;>(replace S:=S.qE x;clear x;refine vl ?_;refine mv ?_;(first|refine off ?_|(refine lH S ?_));(first|refine off ?_|(refine lH S ?_));(first|refine off ?_|refine mv ?_);(first|refine off ?_|refine mv ?_);(first|(refine off ?_;refine vl ?_;refine mv ?_;refine qf ?_)|skip))
  rotate_left
  ·exact absurd rfl z
  (refine qw rfl rfl rfl rfl rfl (((PI S.wf v' pv (p.wt tabs) p (HC.ext w1 S.ext) (HO.ext w1 S.ext) ⟨et,rfl,rfl,rfl,rfl⟩ sl.val vq q q (rl.ext w1 S.ext) (rq2.ext w1 S.ext) rfl (by omega)).xo).mono ?_);rintro _ h ⟨rfl,x⟩)<;>(replace S:=S.qE x;clear x;refine vl ?_;refine mv ?_;refine qf ?_)
  all_goals (repeat' (fail))
  refine qo ⟨_,rfl,?_⟩;exact ⟨rfl,(S00.join S).drop⟩
 ·have hv':¬ (PO (p.wt tabs)∧PartOk (p.wt tabs) q):=fun z=>hv ⟨hPO.1 z.1,hPA.1 z.2⟩;(repeat (refine qg ?_));refine ZJ (id:=2) [(3,(0,1)),(6,(0,2))] [some (b),some (b)] ?_;refine qy ?_;(first|(refine lH S ?_<;>refine qf ⟨⟨by (first|exact True.intro),rfl⟩,?_⟩));refine qy ?_;(first|(refine mv ?_<;>refine qf ⟨⟨by (first|exact True.intro),rfl⟩,?_⟩));((refine qy ?_;first|refine qw rfl rfl rfl rfl rfl (((qaY S.wf v' (p.wt tabs) (HC.ext w1 S.ext) sl.val q (rl.ext w1 S.ext) (by omega) hv').xo).mono ?_));rintro _ h ⟨rfl,x⟩)<;>((refine qf ⟨⟨True.intro,?_⟩,?_⟩;(focus ((show keepsX _ _ _ _ _;simp only [keepsX];(repeat' (first|exact True.intro|refine And.intro ?_ ?_));all_goals (intro hw;first|exact x.ext.old _ (S.bY (by assumption) (by assumption)))))));replace S:=S.qE x;clear x;refine qy ?_;(first|(refine lH S ?_<;>refine qf ⟨⟨by (first|exact Or.inr rfl),rfl⟩,?_⟩));refine qy ?_;(first|(refine mv ?_<;>refine qf ⟨⟨by (first|exact True.intro),rfl⟩,?_⟩)))
  ((refine qy ?_;first|refine qw rfl rfl rfl rfl rfl ((qbf S.wf v' et (HC.ext w1 S.ext) sl q (rl.ext w1 S.ext) (by omega) hv').mono ?_));rintro _ h ⟨rfl,x⟩)<;>((refine qf ⟨⟨True.intro,?_⟩,?_⟩;(focus ((show keepsX _ _ _ _ _;simp only [keepsX];(repeat' (first|exact True.intro|refine And.intro ?_ ?_));all_goals (intro hw;first|exact absurd hw (by decide +kernel)|exact x.ext.old _ (S.bY (by assumption) (by assumption)))))));replace S:=S.qE x;clear x;refine qy ?_;(first|(refine lH S ?_<;>refine qf ⟨⟨by (first|exact Or.inr rfl),rfl⟩,?_⟩));refine qy ?_;(first|(refine mv ?_<;>refine qf ⟨⟨by (first|exact True.intro),rfl⟩,?_⟩)))
  ((refine qy ?_;first|refine qw rfl rfl rfl rfl rfl (((qcs S.wf v' (p.wt tabs) (HC.ext w1 S.ext) sl.val q (rl.ext w1 S.ext) (by omega) hv').xo).mono ?_));rintro _ h ⟨rfl,x⟩)<;>((refine qf ⟨⟨True.intro,?_⟩,?_⟩;(focus ((show keepsX _ _ _ _ _;simp only [keepsX];(repeat' (first|exact True.intro|refine And.intro ?_ ?_));all_goals (intro hw;first|exact absurd hw (by decide +kernel))))));replace S:=S.qE x;clear x;refine qy ?_;(first|(refine mv ?_<;>refine qf ⟨⟨by (first|exact True.intro),rfl⟩,?_⟩));refine qy ?_;(first|(refine mv ?_<;>refine qf ⟨⟨by (first|exact True.intro),rfl⟩,?_⟩));refine qy ?_;(first|(refine mv ?_<;>refine qf ⟨⟨by (first|exact True.intro),rfl⟩,?_⟩));refine Xq ?_)
  all_goals (repeat' (first|refine qg ?_|(refine qc 3 ?_;refine lH S ?_;refine mv ?_)))
  (refine qw rfl rfl rfl rfl rfl (((PZ S.wf pv p (HO.ext w1 S.ext) MO vq q (rq2.ext w1 S.ext) (by omega)).xo).mono ?_);rintro _ h ⟨i,e,rfl,hk,x⟩)<;>(replace S:=S.qE x;clear x;(first|(refine cS ?_ ?_<;>intro hc))<;>(refine qf ?_))
  rotate_left
  ·exact absurd (fun z=>hv (hk.part.1 z)) hc
  replace S:Hs hB h [.sl (.slice none 0 0) 3 1 eI []]:=S.Xg;all_goals (repeat' (first|refine qg ?_|refine qh rfl ?_|(refine qc 4 ?_;refine mv ?_;refine xe S rfl rfl ?_;refine mv ?_;refine xe S rfl rfl ?_;refine ad ?_;refine mv ?_;refine xe S rfl rfl ?_;refine ad ?_;(first|(refine cS ?_ ?_<;>intro hc))<;>(refine mv ?_;(first|refine off ?_|(refine lH S ?_));(first|refine off ?_|(refine lH S ?_));(first|refine off ?_|refine mv ?_);(first|refine off ?_|refine mv ?_);(first|(refine off ?_;refine vl ?_;refine mv ?_;refine qf ?_)|skip)))))
  (refine qw rfl rfl rfl rfl rfl (((PI S.wf v' pv (p.wt tabs) p (HC.ext w1 S.ext) (HO.ext w1 S.ext) ⟨et,rfl,rfl,rfl,rfl⟩ sl.val vq q q (rl.ext w1 S.ext) (rq2.ext w1 S.ext) rfl (by omega)).xo).mono ?_);rintro _ h ⟨rfl,x⟩)<;>(replace S:=S.qE x;clear x;refine vl ?_;refine mv ?_;refine qf ?_)
  rotate_left
  ·exact absurd (by simp) hc
  all_goals (repeat' (fail))
  refine qo ⟨_,rfl,?_⟩;exact ⟨rfl,(S00.join S).drop⟩
theorem YD {h0:AH} (w:WfH h0) (pv:PbV) (p:Pb) (Z:PbZ h0 pv p) (sq:SlV) (q:List Int) (rq:zC h0 sq.val 1 eI q) :
 Fn Tryz.prog (Xo p) 3 [pv.val,sq.val] h0 (fun u _=>u = .bool true):=by
 have S:=Hs.start w;unfold PbV.val;refine qL (GK _ rfl _ _) Tryz.func3 rfl rfl ?_;all_goals (repeat' (first|refine qg ?_|(refine qc 0 ?_;(refine bx S ?_;clear S;intro b h S);refine mv ?_;refine qf ?_)))
 obtain ⟨b2,hnm⟩:∃ x,x=b:=⟨_,rfl⟩;subst hnm;all_goals (repeat' (first|(refine qc 1 ?_;refine lB S rfl rfl ?_;refine mv ?_;(refine one 1 S ?_;clear S;intro u h S))))
 have ru:zC h u 1 qfV [⟨sq,q⟩]:=(show zC h u 1 YN [[sq.val]] from Rd.QU S .here)
 have hone:∀ i,i<[(⟨sq,q⟩:GL)].length→zC h ([(⟨sq,q⟩:GL)].getD i default).sv.val 1 eI ([(⟨sq,q⟩:GL)].getD i default).r:=fun i hi=>by
  obtain rfl:i=0:=by simp at hi;exact hi
  exact rq.ext w S.ext
 (refine qw rfl rfl rfl rfl rfl (((qfH S.wf pv p (Z.ext w S.ext) u [⟨sq,q⟩] ru hone (by simp)).xo).mono ?_);rintro _ h ⟨⟨rfl,z⟩|⟨rfl,z⟩,x⟩)<;>(replace S:=S.qE x;clear x;refine vl ?_;refine mv ?_;(first|refine off ?_|(refine lB S rfl rfl ?_));(first|refine off ?_|refine mv ?_);(first|(refine off ?_;refine vl ?_;refine mv ?_;(skip))|skip))
 all_goals (try ((refine qw rfl rfl rfl rfl rfl ((qa8 S.wf pv p (Z.ext w S.ext) z.1 z.2.1 sq.val q (rq.ext w S.ext) (z.2.2 0 (by simp))).mono ?_);rintro _ h ⟨rfl,x⟩)<;>(replace S:=S.qE x;clear x;refine vl ?_;refine mv ?_;(skip))))
 all_goals (try ((refine qw rfl rfl rfl rfl rfl (((qdi S.wf).xo).mono ?_);rintro _ h ⟨rfl,x⟩)<;>(replace S:=S.qE x;clear x;refine vl ?_;refine mv ?_;refine qf ?_)))
 all_goals (all_goals (repeat' (fail)))
 all_goals (refine qo ⟨_,rfl,?_⟩)
 all_goals rfl
end Go.Proofs.Xx
namespace Go.Proofs.Xx
open Go Go.RowKit Go.Proofs
theorem YE (h:AH) (us:List Value) (w:WfH h) (a:ArgsR Tryz.prog h Tryz.f3.params.toList us):∃ X,Yl Tryz.prog X∧(∀ us h,X 3 us h=none)∧Fn Tryz.prog X 3 us h (fun x _=>x = .bool true):=by
 rw [show Tryz.f3.params.toList=[28,25] by kernel_rfl] at a;obtain ⟨n0,r0,us,rfl,a0,a⟩:=a.cons_inv;obtain ⟨n1,r1,us,rfl,a1,a⟩:=a.cons_inv;obtain rfl:=a.jv;obtain ⟨v,p,rfl,Z⟩:=a0.qiB;obtain ⟨sq,q,rfl,rq,lq,cq,bq⟩:=a1.qgI;exact ⟨Xo p,qjI p,fun us h=>GK _ rfl us h,YD w v p Z sq q rq⟩
end Go.Proofs.Xx
namespace Go.Proofs.Xx
open Go Go.RowKit Go.Proofs
def KN:List Nat:=[9,280,186,378,375,364,243,65,247,127]
theorem VI {W:World} (h:W.ShapedOpen Tryz.prog):1<W.heap.size∧∃ m el fr,W.heap[0]? = some (.cells #[.int .i64 m] el fr):=by
 have h0:((begin Tryz.prog (fun _ _=>0) default).world.heap[0]?).bind Obj.row? = some (#[.int .i64 0],3):=by kernel_rfl
 obtain ⟨m,hm⟩:=cell_of_shapedOpen_int h (g:=0) (t:=3) (of_decide_eq_true (by kernel_rfl)) h0 rfl (by kernel_rfl) (by kernel_rfl) Tryz.underlying3;obtain ⟨cs,hh,hs,-⟩:=h.1 0 _ 3 (of_decide_eq_true (by kernel_rfl)) h0;refine ⟨?_,m,3,(0,0),?_⟩
 ·have h1:(((begin Tryz.prog (fun _ _=>0) default).world.heap[1]?).bind Obj.row?).isSome=true:=by kernel_rfl
  obtain ⟨⟨z,t⟩,h1⟩:=Option.isSome_iff_exists.1 h1;obtain ⟨cs,hh,-⟩:=h.1 1 z t (of_decide_eq_true (by kernel_rfl)) h1;exact (zB9.1 hh).1
 ·rw [hh];have:cs=#[.int .i64 m]:=by
   simp only [World.cell?,hh] at hm;obtain ⟨l⟩:=cs;match l,hs,hm with
   | [x],_,hm=>simp at hm;rw [hm]
   | [],hs,_=>cases hs
   | _ :: _ :: _,hs,_=>simp at hs
  rw [this]
theorem qad {W:World} (h:W.ShapedOpen Tryz.prog):∃ (k:Nat) (cc:Array Value) (el:TypeId) (fr:Nat×Nat),W.heap[k]? = some (.cells cc el fr):=by
 obtain ⟨-,m,el,fr,q⟩:=VI h;exact ⟨0,_,el,fr,q⟩
end Go.Proofs.Xx
namespace Go.Proofs.Xx
open Go Go.RowKit Go.Proofs
theorem qeA:(Tryz.prog.globals[1]?).map (·.type)=some 310:=by kernel_rfl
theorem qey [Flag] {W:World} {x y:String×DataW Unit} {rest:List (String×DataW Unit)} (h:laidMet Tryz.prog (x :: y :: ("internal/strconv.uint64pow10", YtnponmgkfkdkaaaGreatDoor.Rows.laid_internal_strconv_uint64pow10) :: rest) W) (hS:W.ShapedOpen Tryz.prog) :
 Glob.ok W.heap.size W.heap:=by
 refine ⟨(VI hS).1,(VI hS).2,fun _=>?_⟩;have t:Lib.TabIs Tryz.prog W "internal/strconv.uint64pow10" .u64 Lib.pow10Tab :=
  Lib.tabIs_of_head qhx qeA (n:=20) (e:=183) (by kernel_rfl) (by kernel_rfl) (by kernel_rfl) (by kernel_rfl) (laidMet.tail (laidMet.tail h))
 unfold Lib.TabIs World.var? at t;rw [qhx] at t;simp only [Option.bind_some] at t;split at t
 ·rename_i cs el fr hc
  cases t
  exact ⟨el,fr,hc⟩
 ·cases t
section
variable {P:Program} {X:Extern} {sz:Nat} {ops:Array Oper} {os:List Oper} {R:Ks→AH→Prop}
theorem qkC {L0:Ks} {h0:AH} {o0 o1 o2:Oper} {L1:Ks} {x0:Operand} {v0:Value} {L2:Ks} {x1 y1:Operand} {ty1 tz1:TypeId} {a1 b1:Int} {L3:Ks} {x2:Operand} {v2:Value} (w:R L3 h0) (ho0:Z9 o0.op=some x0:=by exact rfl) (hg0:qp ops L0.tree o0.guard=some true:=by exact rfl) (hx0:kA L0 x0=some v0:=by exact rfl) (hp0:qJ sz L0 o0.dst v0=some L1:=by exact rfl) (ho1:o1.op = .binOp .add ty1 x1 y1 tz1:=by exact rfl) (hg1:qp ops L1.tree o1.guard=some true:=by exact rfl) (hx1:kA L1 x1=some (.int .i64 a1):=by exact rfl) (hy1:kA L1 y1=some (.int .i64 b1):=by exact rfl) (hb1 : -9223372036854775808≤a1+b1∧a1+b1≤9223372036854775807:=by first|omega|grind) (hp1:qJ sz L1 o1.dst (.int .i64 (a1+b1))=some L2:=by exact rfl) (ho2:Z9 o2.op=some x2:=by exact rfl) (hg2:qp ops L2.tree o2.guard=some true:=by exact rfl) (hx2:kA L2 x2=some v2:=by exact rfl) (hp2:qJ sz L2 o2.dst v2=some L3:=by exact rfl):KO P X sz ops [o0,o1,o2] L0 h0 R:=mv (ad (mv (qf w) ho2 hg2 hx2 hp2) ho1 hg1 hx1 hy1 hb1 hp1) ho0 hg0 hx0 hp0
theorem qkB {L0:Ks} {h0:AH} {o0 o1 o2:Oper} {L1:Ks} {x0:Operand} {v0:Value} {L2:Ks} {x1 y1:Operand} {ty1 tz1:TypeId} {a1 b1:Int} {L3:Ks} {x2:Operand} {v2:Value} (w:R L3 h0) (ho0:Z9 o0.op=some x0:=by exact rfl) (hg0:qp ops L0.tree o0.guard=some true:=by exact rfl) (hx0:kA L0 x0=some v0:=by exact rfl) (hp0:qJ sz L0 o0.dst v0=some L1:=by exact rfl) (ho1:o1.op = .binOp .sub ty1 x1 y1 tz1:=by exact rfl) (hg1:qp ops L1.tree o1.guard=some true:=by exact rfl) (hx1:kA L1 x1=some (.int .i64 a1):=by exact rfl) (hy1:kA L1 y1=some (.int .i64 b1):=by exact rfl) (hb1 : -9223372036854775808≤a1 - b1∧a1 - b1≤9223372036854775807:=by first|omega|grind) (hp1:qJ sz L1 o1.dst (.int .i64 (a1 - b1))=some L2:=by exact rfl) (ho2:Z9 o2.op=some x2:=by exact rfl) (hg2:qp ops L2.tree o2.guard=some true:=by exact rfl) (hx2:kA L2 x2=some v2:=by exact rfl) (hp2:qJ sz L2 o2.dst v2=some L3:=by exact rfl):KO P X sz ops [o0,o1,o2] L0 h0 R:=mv (sb (mv (qf w) ho2 hg2 hx2 hp2) ho1 hg1 hx1 hy1 hb1 hp1) ho0 hg0 hx0 hp0
theorem qjU {L0:Ks} {h0:AH} {o0 o1 o2 o3 o4:Oper} {L1:Ks} {x0:Operand} {v0:Value} {L2:Ks} {h2:AH} {v1:Value} {L3:Ks} {h3:AH} {v2:Value} {L4:Ks} {x3:Operand} {v3:Value} {L5:Ks} {x4:Operand} {v4:Value} (w:R L5 h3) (ho0:Z9 o0.op=some x0:=by exact rfl) (hg0:qp ops L0.tree o0.guard=some true:=by exact rfl) (hx0:kA L0 x0=some v0:=by exact rfl) (hp0:qJ sz L0 o0.dst v0=some L1:=by exact rfl) (hg1:qp ops L1.tree o1.guard=some true:=by exact rfl) (ha1:ja P L1.tree h0 o1.op=some (.val v1 h2):=by exact rfl) (hp1:qJ sz L1 o1.dst v1=some L2:=by exact rfl) (hg2:qp ops L2.tree o2.guard=some true:=by exact rfl) (ha2:ja P L2.tree h2 o2.op=some (.val v2 h3):=by exact rfl) (hp2:qJ sz L2 o2.dst v2=some L3:=by exact rfl) (ho3:Z9 o3.op=some x3:=by exact rfl) (hg3:qp ops L3.tree o3.guard=some true:=by exact rfl) (hx3:kA L3 x3=some v3:=by exact rfl) (hp3:qJ sz L3 o3.dst v3=some L4:=by exact rfl) (ho4:Z9 o4.op=some x4:=by exact rfl) (hg4:qp ops L4.tree o4.guard=some true:=by exact rfl) (hx4:kA L4 x4=some v4:=by exact rfl) (hp4:qJ sz L4 o4.dst v4=some L5:=by exact rfl):KO P X sz ops [o0,o1,o2,o3,o4] L0 h0 R:=mv (vl (vl (mv (mv (qf w) ho4 hg4 hx4 hp4) ho3 hg3 hx3 hp3) hg2 ha2 hp2) hg1 ha1 hp1) ho0 hg0 hx0 hp0
theorem qj9 {L0:Ks} {h0:AH} {o0 o1 o2 o3:Oper} {L1:Ks} {x0:Operand} {v0:Value} {L2:Ks} {x1:Operand} {v1:Value} {L3:Ks} {x2 y2:Operand} {ty2 tz2:TypeId} {a2 b2:Int} {L4:Ks} {x3:Operand} {v3:Value} (w:R L4 h0) (ho0:Z9 o0.op=some x0:=by exact rfl) (hg0:qp ops L0.tree o0.guard=some true:=by exact rfl) (hx0:kA L0 x0=some v0:=by exact rfl) (hp0:qJ sz L0 o0.dst v0=some L1:=by exact rfl) (ho1:Z9 o1.op=some x1:=by exact rfl) (hg1:qp ops L1.tree o1.guard=some true:=by exact rfl) (hx1:kA L1 x1=some v1:=by exact rfl) (hp1:qJ sz L1 o1.dst v1=some L2:=by exact rfl) (ho2:o2.op = .binOp .sub ty2 x2 y2 tz2:=by exact rfl) (hg2:qp ops L2.tree o2.guard=some true:=by exact rfl) (hx2:kA L2 x2=some (.int .i64 a2):=by exact rfl) (hy2:kA L2 y2=some (.int .i64 b2):=by exact rfl) (hb2 : -9223372036854775808≤a2 - b2∧a2 - b2≤9223372036854775807:=by first|omega|grind) (hp2:qJ sz L2 o2.dst (.int .i64 (a2 - b2))=some L3:=by exact rfl) (ho3:Z9 o3.op=some x3:=by exact rfl) (hg3:qp ops L3.tree o3.guard=some true:=by exact rfl) (hx3:kA L3 x3=some v3:=by exact rfl) (hp3:qJ sz L3 o3.dst v3=some L4:=by exact rfl):KO P X sz ops [o0,o1,o2,o3] L0 h0 R:=mv (mv (sb (mv (qf w) ho3 hg3 hx3 hp3) ho2 hg2 hx2 hy2 hb2 hp2) ho1 hg1 hx1 hp1) ho0 hg0 hx0 hp0
theorem qkV {L0:Ks} {h0:AH} {o0 o1:Oper} {L1:Ks} {x0:Operand} {v0:Value} {L2:Ks} {x1:Operand} {v1:Value} (w:R L2 h0) (ho0:Z9 o0.op=some x0:=by exact rfl) (hg0:qp ops L0.tree o0.guard=some true:=by exact rfl) (hx0:kA L0 x0=some v0:=by exact rfl) (hp0:qJ sz L0 o0.dst v0=some L1:=by exact rfl) (ho1:Z9 o1.op=some x1:=by exact rfl) (hg1:qp ops L1.tree o1.guard=some true:=by exact rfl) (hx1:kA L1 x1=some v1:=by exact rfl) (hp1:qJ sz L1 o1.dst v1=some L2:=by exact rfl):KO P X sz ops [o0,o1] L0 h0 R:=mv (mv (qf w) ho1 hg1 hx1 hp1) ho0 hg0 hx0 hp0
theorem qkW {L0:Ks} {h0:AH} {o0 o1:Oper} {L1:Ks} {x0 y0:Operand} {ty0 tz0:TypeId} {a0 b0:Int} {L2:Ks} {x1:Operand} {v1:Value} (w:R L2 h0) (ho0:o0.op = .binOp .add ty0 x0 y0 tz0:=by exact rfl) (hg0:qp ops L0.tree o0.guard=some true:=by exact rfl) (hx0:kA L0 x0=some (.int .i64 a0):=by exact rfl) (hy0:kA L0 y0=some (.int .i64 b0):=by exact rfl) (hb0 : -9223372036854775808≤a0+b0∧a0+b0≤9223372036854775807:=by first|omega|grind) (hp0:qJ sz L0 o0.dst (.int .i64 (a0+b0))=some L1:=by exact rfl) (ho1:Z9 o1.op=some x1:=by exact rfl) (hg1:qp ops L1.tree o1.guard=some true:=by exact rfl) (hx1:kA L1 x1=some v1:=by exact rfl) (hp1:qJ sz L1 o1.dst v1=some L2:=by exact rfl):KO P X sz ops [o0,o1] L0 h0 R:=ad (mv (qf w) ho1 hg1 hx1 hp1) ho0 hg0 hx0 hy0 hb0 hp0
theorem qkS {L0:Ks} {h0:AH} {o0 o1:Oper} {L1:Ks} {h1:AH} {v0:Value} {L2:Ks} {x1:Operand} {v1:Value} (w:R L2 h1) (hg0:qp ops L0.tree o0.guard=some true:=by exact rfl) (ha0:ja P L0.tree h0 o0.op=some (.val v0 h1):=by exact rfl) (hp0:qJ sz L0 o0.dst v0=some L1:=by exact rfl) (ho1:Z9 o1.op=some x1:=by exact rfl) (hg1:qp ops L1.tree o1.guard=some true:=by exact rfl) (hx1:kA L1 x1=some v1:=by exact rfl) (hp1:qJ sz L1 o1.dst v1=some L2:=by exact rfl):KO P X sz ops [o0,o1] L0 h0 R:=vl (mv (qf w) ho1 hg1 hx1 hp1) hg0 ha0 hp0
theorem qkU {L0:Ks} {h0:AH} {o0 o1:Oper} {L1:Ks} {x0:Operand} {v0:Value} {L2:Ks} {h2:AH} {v1:Value} (w:R L2 h2) (ho0:Z9 o0.op=some x0:=by exact rfl) (hg0:qp ops L0.tree o0.guard=some true:=by exact rfl) (hx0:kA L0 x0=some v0:=by exact rfl) (hp0:qJ sz L0 o0.dst v0=some L1:=by exact rfl) (hg1:qp ops L1.tree o1.guard=some true:=by exact rfl) (ha1:ja P L1.tree h0 o1.op=some (.val v1 h2):=by exact rfl) (hp1:qJ sz L1 o1.dst v1=some L2:=by exact rfl):KO P X sz ops [o0,o1] L0 h0 R:=mv (vl (qf w) hg1 ha1 hp1) ho0 hg0 hx0 hp0
theorem qkA {L0:Ks} {h0:AH} {o0 o1 o2 o3:Oper} {L1:Ks} {x0:Operand} {v0:Value} {L2:Ks} {h2:AH} {v1:Value} {L3:Ks} {h3:AH} {v2:Value} {L4:Ks} {h4:AH} {v3:Value} (w:KO P X sz ops os L4 h4 R) (ho0:Z9 o0.op=some x0:=by exact rfl) (hg0:qp ops L0.tree o0.guard=some true:=by exact rfl) (hx0:kA L0 x0=some v0:=by exact rfl) (hp0:qJ sz L0 o0.dst v0=some L1:=by exact rfl) (hg1:qp ops L1.tree o1.guard=some true:=by exact rfl) (ha1:ja P L1.tree h0 o1.op=some (.val v1 h2):=by exact rfl) (hp1:qJ sz L1 o1.dst v1=some L2:=by exact rfl) (hg2:qp ops L2.tree o2.guard=some true:=by exact rfl) (ha2:ja P L2.tree h2 o2.op=some (.val v2 h3):=by exact rfl) (hp2:qJ sz L2 o2.dst v2=some L3:=by exact rfl) (hg3:qp ops L3.tree o3.guard=some true:=by exact rfl) (ha3:ja P L3.tree h3 o3.op=some (.val v3 h4):=by exact rfl) (hp3:qJ sz L3 o3.dst v3=some L4:=by exact rfl):KO P X sz ops (o0 :: o1 :: o2 :: o3 :: os) L0 h0 R:=mv (vl (vl (vl (w) hg3 ha3 hp3) hg2 ha2 hp2) hg1 ha1 hp1) ho0 hg0 hx0 hp0
theorem qkT {L0:Ks} {h0:AH} {o0 o1 o2:Oper} {L1:Ks} {x0:Operand} {v0:Value} {L2:Ks} {h2:AH} {v1:Value} {L3:Ks} {h3:AH} {v2:Value} (w:KO P X sz ops os L3 h3 R) (ho0:Z9 o0.op=some x0:=by exact rfl) (hg0:qp ops L0.tree o0.guard=some true:=by exact rfl) (hx0:kA L0 x0=some v0:=by exact rfl) (hp0:qJ sz L0 o0.dst v0=some L1:=by exact rfl) (hg1:qp ops L1.tree o1.guard=some true:=by exact rfl) (ha1:ja P L1.tree h0 o1.op=some (.val v1 h2):=by exact rfl) (hp1:qJ sz L1 o1.dst v1=some L2:=by exact rfl) (hg2:qp ops L2.tree o2.guard=some true:=by exact rfl) (ha2:ja P L2.tree h2 o2.op=some (.val v2 h3):=by exact rfl) (hp2:qJ sz L2 o2.dst v2=some L3:=by exact rfl):KO P X sz ops (o0 :: o1 :: o2 :: os) L0 h0 R:=mv (vl (vl (w) hg2 ha2 hp2) hg1 ha1 hp1) ho0 hg0 hx0 hp0
theorem kmn {L0:Ks} {h0:AH} {o0:Oper} {L1:Ks} {x0:Operand} {v0:Value} (w:R L1 h0) (ho0:Z9 o0.op=some x0:=by exact rfl) (hg0:qp ops L0.tree o0.guard=some true:=by exact rfl) (hx0:kA L0 x0=some v0:=by exact rfl) (hp0:qJ sz L0 o0.dst v0=some L1:=by exact rfl):KO P X sz ops [o0] L0 h0 R:=mv (qf w) ho0 hg0 hx0 hp0
theorem kvn {L0:Ks} {h0:AH} {o0:Oper} {L1:Ks} {h1:AH} {v0:Value} (w:R L1 h1) (hg0:qp ops L0.tree o0.guard=some true:=by exact rfl) (ha0:ja P L0.tree h0 o0.op=some (.val v0 h1):=by exact rfl) (hp0:qJ sz L0 o0.dst v0=some L1:=by exact rfl):KO P X sz ops [o0] L0 h0 R:=vl (qf w) hg0 ha0 hp0
theorem kmm {L0:Ks} {h0:AH} {o0 o1:Oper} {L1:Ks} {x0:Operand} {v0:Value} {L2:Ks} {x1:Operand} {v1:Value} (w:KO P X sz ops os L2 h0 R) (ho0:Z9 o0.op=some x0:=by exact rfl) (hg0:qp ops L0.tree o0.guard=some true:=by exact rfl) (hx0:kA L0 x0=some v0:=by exact rfl) (hp0:qJ sz L0 o0.dst v0=some L1:=by exact rfl) (ho1:Z9 o1.op=some x1:=by exact rfl) (hg1:qp ops L1.tree o1.guard=some true:=by exact rfl) (hx1:kA L1 x1=some v1:=by exact rfl) (hp1:qJ sz L1 o1.dst v1=some L2:=by exact rfl):KO P X sz ops (o0 :: o1 :: os) L0 h0 R:=mv (mv (w) ho1 hg1 hx1 hp1) ho0 hg0 hx0 hp0
end
end Go.Proofs.Xx
