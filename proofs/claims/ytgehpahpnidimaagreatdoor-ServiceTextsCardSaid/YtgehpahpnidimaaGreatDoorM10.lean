/-
  The check of a problem.
-/
import Derived.Test.YtgehpahpnidimaaGreatDoorM9
import Derived.Test.YtgehpahpnidimaaGreatDoorM8
set_option linter.unusedSectionVars false
set_option linter.unusedSimpArgs false
set_option linter.unusedVariables false
set_option maxRecDepth 100000
set_option maxHeartbeats 4000000
namespace Go.Proofs.Xx
open Go Go.Proofs
theorem qfw (k:Int):QU (.int .u8) (.int .u8 k) kEs 0=some (if 1≤k∧k≤18 then some (k.toNat - 1,Wu k) else none):=by
 by_cases h:1≤k∧k≤18
 ·rw [if_pos h];obtain ⟨h1,h2⟩:=h;have:k=1∨k=2∨k=3∨k=4∨k=5∨k=6∨k=7∨k=8∨k=9∨k=10∨k=11∨k=12∨k=13∨k=14∨k=15∨k=16∨k=17∨k=18:=by omega
  rcases this with rfl|rfl|rfl|rfl|rfl|rfl|rfl|rfl|rfl|rfl|rfl|rfl|rfl|rfl|rfl|rfl|rfl|rfl<;>rfl
 ·rw [if_neg h];have e:∀ (es:List (Value×Value×Nat)) (i:Nat),(∀ e∈es,∃ j:Int,e.1 = .int .u8 j∧1≤j∧j≤18)→QU (.int .u8) (.int .u8 k) es i=some none:=by
   intro es;induction es with
   | nil=>intro i _;rfl
   | cons e es ih =>
    intro i he;obtain ⟨j,h1,h2⟩:=he e (by simp);have hs:Instr.sameNow (.int .u8) (.int .u8 k) e.1=some false:=by
     rw [h1];show some (decide (k=j))=_
     rw [decide_eq_false (by omega)]
    unfold QU;rw [hs];exact ih _ fun x hx=>he x (List.mem_cons_of_mem _ hx)
  refine e kEs 0 fun x hx=>?_;unfold kEs at hx;obtain ⟨i,hi,rfl⟩:=zF0.1 hx;have:=zE3.1 hi;exact ⟨_,rfl,by omega,by omega⟩
theorem kdv (k:Int):mvO (if 1≤k∧k≤18 then some (k.toNat - 1,Wu k) else none) (kdV [] ⟨0,false,0,false,0,false⟩ .nilFunc)=Wu k:=by
 by_cases h:1≤k∧k≤18
 ·rw [if_pos h];rfl
 ·rw [if_neg h];unfold Wu mvO;rw [if_neg h]
theorem Gz {h0:AH} (w:WfH h0) (v:PbV) (p:Pb) (H:PbOk h0 v p) (hv:ValidL p.tabs) (r:Ru) :
 Fn Tryz.prog Xh 116 [Wu r.k,v.val,ruV r] h0 (fun u h'=>u = .int .i64 (xX p r)∧Hs h0 h' []):=by
 unfold Wu xX;by_cases h:1≤r.k∧r.k≤18
 ·rw [if_pos h,if_pos h];refine qan w _ _ _ v p H hv r ?_ ?_
  ·have:∀ i,i<18→kwL.getD i []≠[]:=by decide
   exact this _ (by omega)
  ·have:∀ i,i<18→(kdL.getD i default).seat=true→(kdL.getD i default).t=116:=by decide
   exact this _ (by omega)
 ·rw [if_neg h,if_neg h];have S:=Hs.start w;unfold kdV eKd ruV JL PbV.val;refine qF (by first|rfl) Tryz.func116 rfl rfl ?_;all_goals (repeat' (first|refine qg ?_|refine qh rfl ?_|refine ql ?_|(refine qc 0 ?_;(refine bx S ?_;clear S;intro b h S);(refine bx S ?_;clear S;intro b h S);(refine bx S ?_;clear S;intro b h S);refine mv ?_;refine qf ?_)|(refine qc 1 ?_;refine vl ?_;refine lB S rfl rfl ?_;(refine tS ?_ ?_<;>intro hc)<;>(refine mv ?_;refine qf ?_))|(refine qc 2 ?_;refine mv ?_;refine qf ?_)))
  ·refine qi ⟨_,rfl,?_⟩;exact ⟨rfl,S.drop⟩
  ·exact absurd rfl hc
def qg2 (p:Pb):Prop:=(p.cl.length=0∨p.cl.length=p.us.length)∧∀ c∈p.cl,0≤c∧c<64
theorem qb5 {h0:AH} (w:WfH h0) (v:PbV) (p:Pb) (H:PbOk h0 v p):Fn Tryz.prog Xh 114 [v.val] h0 (fun u h'=>∃ i e,u = .tuple #[.int .i64 i,.int .i64 e]∧BasP p i e∧Hs h0 h' []):=by
 have S:=Hs.start w;have hr:=H.rol.rg;have hl:=H.rol.len;have hlg:=H.rol.lg;have hcr:=H.cl;have hcl:=H.lc;have hl':v.gs.length=p.us.length:=hl;have hlg':p.us.length≤9223372036854775807:=hlg;unfold PbV.val;refine qF (by first|rfl) Tryz.func114 rfl rfl ?_;all_goals (repeat' (first|refine qg ?_|(refine qc 0 ?_;(refine bx S ?_;clear S;intro b h S);refine mv ?_;refine mv ?_;refine qf ?_)|(refine qc 1 ?_;refine vl ?_;refine lB S rfl rfl ?_)))
 (refine qo rfl rfl rfl rfl rfl ((JO S.wf v.vt.val p.tabs (H.tab.ext w S.ext)).mono ?_);rintro _ h ⟨i,e,rfl,hk,x⟩)<;>(replace S:=S.join0 x;clear x;refine mv ?_;refine vl ?_;refine vl ?_;refine mv ?_;refine mv ?_;refine qf ?_)
 all_goals (repeat' (first|refine qg ?_|refine qh rfl ?_|refine qj ?_|(refine qc 2 ?_;refine mv ?_;(first|(refine cS ?_ ?_<;>intro hc))<;>(refine qf ?_))|(refine qc 3 ?_;(iterate 4 refine mv ?_);refine qf ?_)))
 ·refine qi ⟨_,rfl,?_⟩;exact ⟨i,e,rfl,.inl ⟨hc,hk⟩,S.drop⟩
 have hv:ValidL p.tabs:=hk.valid.1 (by omega);all_goals (repeat' (first|(refine qc 4 ?_;refine vl ?_;refine lB S rfl rfl ?_;refine vl ?_;refine lB S rfl rfl ?_;refine vl ?_)))
 (refine qo rfl rfl rfl rfl rfl ((qap S.wf v.rl p.rl (H.rol.ext w S.ext)).mono ?_);rintro _ h ⟨⟨rfl,hq⟩|⟨i2,e2,rfl,hq⟩,x⟩)<;>(replace S:=S.join0 x;clear x;refine mv ?_;refine vl ?_;refine vl ?_;refine mv ?_;refine mv ?_;refine qf ?_)
 rotate_left
 ·all_goals (repeat' (first|refine qg ?_|refine qh rfl ?_|refine qj ?_|(refine qc 5 ?_;refine mv ?_;(first|(refine cS ?_ ?_<;>intro hc))<;>(refine qf ?_))|(refine qc 6 ?_;(iterate 4 refine mv ?_);refine qf ?_)))
  ·refine qi ⟨_,rfl,?_⟩;exact ⟨i2,e2,rfl,.inr (.inl ⟨hv,hq⟩),S.drop⟩
  ·exact absurd (by omega) hq.1
 have ho:RO p.rl:=Yt.1 hq;all_goals (repeat' (first|refine qg ?_|refine qh rfl ?_|refine qj ?_|(refine qc 5 ?_;refine mv ?_;(refine cF ?_)<;>(refine qf ?_))))
 (repeat (refine qg ?_));first|refine zL (σ:=Unit) (fun _ h'=>Hs h0 h' [.blk b v.cs 28]∧(p.cl.length=0∨p.cl.length=p.us.length)) (fun _=>[(1,.pointer (some ⟨b,0,none⟩)),(2,.int .i64 0),(3,.int .i64 0)]) ?_ ?_
 ·have hl2:v.rl.gs.length=p.us.length:=hl;all_goals (repeat' (first|refine qg ?_|refine qh rfl ?_|refine qj ?_|(refine qc 7 ?_;refine vl ?_;refine lB S rfl rfl ?_;refine zT S ?_;(first|(refine cS ?_ ?_<;>intro hc))<;>(refine mv ?_;(first|refine off ?_|(refine vl ?_));(first|refine off ?_|(refine lB S rfl rfl ?_));(first|refine off ?_|(refine zT S ?_));(first|refine off ?_|(refine vl ?_));(first|refine off ?_|(refine lB S rfl rfl ?_));(first|refine off ?_|(refine zT S ?_));(first|refine off ?_|(first|(refine cS ?_ ?_<;>intro hc)))<;>(refine vl ?_;refine qf ?_)))|(refine qc 8 ?_;refine mv ?_;refine mv ?_;refine qf ?_)))
  ·refine qi ⟨_,rfl,?_⟩;exact ⟨0,44,rfl,.inr (.inr ⟨hv,ho,.inl ⟨fun q=>by have:=q.1;omega,rfl,rfl⟩⟩),S.drop⟩
  ·exact ⟨(),⟨S,by omega⟩,(qw)⟩
  ·exact ⟨(),⟨S,by omega⟩,(qw)⟩
 clear S;rintro _ h ⟨S,h1⟩;all_goals (repeat' (first|refine qg ?_|refine ql ?_|(refine qc 9 ?_;refine vl ?_;refine lB S rfl rfl ?_;refine zT S ?_;refine mv ?_;refine qf ?_)))
 refine qG (σ:=Nat) (fun i h'=>Hs h0 h' [.blk b v.cs 28]∧i≤p.cl.length∧∀ j,j<i→0≤p.cl.getD j default∧p.cl.getD j default<64) (fun i=>p.cl.length - i) (fun i=>[(1,.pointer (some ⟨b,0,none⟩)),(2,.int .i64 0),(3,.int .i64 0),(47,v.vc.val),(48,.int .i64 p.cl.length),(49,.int .i64 i)]) 0 qw ?_ ?_
 ·exact ⟨S,zB0 _,fun j hj=>absurd hj (zB7 _)⟩
 clear S;rintro i h ⟨S,k1,k2⟩;all_goals (repeat' (first|refine qg ?_|refine qh rfl ?_|refine qj ?_|refine qx ?_|refine ql ?_|(refine qc 10 ?_;(first|(refine cS ?_ ?_<;>intro hc))<;>(refine qf ?_))|(refine qc 11 ?_;refine jB S ?_;refine jA S ?_;refine mv ?_;refine qf ?_)|(refine qc 12 ?_;refine mv ?_;(first|(refine cS ?_ ?_<;>intro hc))<;>(refine mv ?_;(first|refine off ?_|refine mv ?_);(first|refine off ?_|(first|(refine cS ?_ ?_<;>intro hc)))<;>(refine vl ?_;refine qf ?_)))|(refine qc 13 ?_;refine mv ?_;refine mv ?_;refine qf ?_)|(refine qc 14 ?_;refine ad ?_;refine mv ?_;refine qf ?_)))
 ·refine qi ⟨_,rfl,?_⟩;exact ⟨0,44,rfl,.inr (.inr ⟨hv,ho,.inl ⟨fun q=>by have:=(q.2 _ (qL (show i<p.cl.length by omega))).1;simp only [zA0] at hc;omega,rfl,rfl⟩⟩),S.drop⟩
 ·refine qi ⟨_,rfl,?_⟩;exact ⟨0,44,rfl,.inr (.inr ⟨hv,ho,.inl ⟨fun q=>by have:=(q.2 _ (qL (show i<p.cl.length by omega))).2;simp only [zA0] at hc;omega,rfl,rfl⟩⟩),S.drop⟩
 ·(try simp only [zA0] at *)
  refine ⟨i+1,?_,?_,qw⟩
  ·show p.cl.length - (i+1)<p.cl.length - i;omega
  ·exact ⟨S,by omega,jr k2 ⟨by omega,by omega⟩⟩
 have hco:(p.cl.length=0∨p.cl.length=p.us.length)∧∀ c∈p.cl,0≤c∧c<64:=⟨h1,fun c hc2=>by
  obtain ⟨j,hj,rfl⟩:=qR.1 hc2;exact k2 j (by omega)⟩
 have hs:=Zk p.tabs p.tabs.length;have htl:=H.tab.len;have hcv:YN p.tabs=sumT p.tabs p.tabs.length:=by unfold YN;rw [if_pos hv]
 have hl2:v.rl.gs.length=p.us.length:=hl;(repeat (refine qg ?_));refine Zy (id:=15) [(1,(0,1))] [some (b)] ?_;refine qp ?_;(first|(refine vl ?_<;>refine qf ⟨⟨by (first|exact True.intro),rfl⟩,?_⟩));refine qp ?_;(first|(refine lB S rfl rfl ?_<;>refine qf ⟨⟨by (first|exact Or.inr rfl),rfl⟩,?_⟩));refine qp ?_;(first|(refine zT S ?_<;>refine qf ⟨⟨by (first|exact True.intro),rfl⟩,?_⟩));refine qp ?_;(first|(refine vl ?_<;>refine qf ⟨⟨by (first|exact True.intro),rfl⟩,?_⟩));refine qp ?_;(first|(refine lB S rfl rfl ?_<;>refine qf ⟨⟨by (first|exact True.intro),rfl⟩,?_⟩));((refine qp ?_;first|refine qo rfl rfl rfl rfl rfl ((gU S.wf v.vt.val p.tabs (H.tab.ext w S.ext)).mono ?_));rintro _ h ⟨rfl,x⟩)<;>((refine qf ⟨⟨True.intro,?_⟩,?_⟩;(focus ((show keepsX _ _ _ _ _;simp only [keepsX];(repeat' (first|exact True.intro|refine And.intro ?_ ?_));all_goals (intro hw;first|exact x.ext.old _ S.bB)))));replace S:=S.join0 x;clear x;refine qp ?_;(first|((refine cS ?_ ?_<;>intro hc)<;>refine qf ⟨⟨by (first|exact True.intro),rfl⟩,?_⟩))<;>(refine Ji ?_))
 all_goals (all_goals (repeat' (first|refine qg ?_|refine qh rfl ?_|refine qj ?_|(refine qc 16 ?_;refine mv ?_;refine mv ?_;refine qf ?_))))
 ·refine qi ⟨_,rfl,?_⟩;exact ⟨0,45,rfl,.inr (.inr ⟨hv,ho,.inr ⟨hco,.inl ⟨by rw [hcv] at hc;omega,rfl,rfl⟩⟩⟩),S.drop⟩
 ·all_goals (repeat' (first|(refine qc 17 ?_;refine mv ?_;refine mv ?_;refine qf ?_)))
  refine qi ⟨_,rfl,?_⟩;exact ⟨0,0,rfl,.inr (.inr ⟨hv,ho,.inr ⟨hco,.inr ⟨by rw [hcv] at hc;omega,rfl,rfl⟩⟩⟩),S.drop⟩
theorem V3 {h0:AH} (w:WfH h0) (v:PbV) (p:Pb) (H:PbOk h0 v p):Fn Tryz.prog Xh 57 [v.val] h0 (fun u h'=>∃ i e,u = .tuple #[.int .i64 i,.int .i64 e]∧CkP p i e∧Hs h0 h' []):=by
 have S:=Hs.start w;have hr:=H.ru;have hlr:=H.lr;unfold PbV.val;refine qF (by first|rfl) Tryz.func57 rfl rfl ?_;all_goals (repeat' (first|refine qg ?_|(refine qc 0 ?_;(refine bx S ?_;clear S;intro b h S);refine mv ?_;refine mv ?_;refine qf ?_)|(refine qc 1 ?_;refine lB S rfl rfl ?_)))
 obtain ⟨bp,hnm⟩:∃ x,x=b:=⟨_,rfl⟩;subst hnm;(refine qo rfl rfl rfl rfl rfl ((qb5 S.wf v p (H.ext w S.ext)).mono ?_);rintro _ h ⟨i,e,rfl,hk,x⟩)<;>(replace S:=S.join0 x;clear x;refine mv ?_;refine vl ?_;refine vl ?_;refine mv ?_;refine mv ?_;refine qf ?_)
 all_goals (repeat' (first|refine qg ?_|refine qh rfl ?_|refine qj ?_|(refine qc 2 ?_;refine mv ?_;(first|(refine cS ?_ ?_<;>intro hc))<;>(refine qf ?_))|(refine qc 3 ?_;(iterate 4 refine mv ?_);refine qf ?_)))
 ·refine qi ⟨_,rfl,?_⟩;exact ⟨i,e,rfl,.inl ⟨hc,hk⟩,S.drop⟩
 have he:e=0:=by omega
 subst he;obtain ⟨hb,rfl⟩:=hk.bo;all_goals (repeat' (first|(refine qc 4 ?_;skip)))
 (refine qo rfl rfl rfl rfl rfl ((qbA S.wf).mono ?_);rintro _ h ⟨m,rfl,x⟩)<;>(replace S:=S.join1 x;clear x;refine mv ?_;refine qf ?_)
 all_goals (repeat' (first|refine qg ?_|refine ql ?_|(refine qc 5 ?_;refine vl ?_;refine lB S rfl rfl ?_;refine zT S ?_;refine mv ?_;refine qf ?_)))
 refine qG (σ:=Nat) (fun i h'=>Hs h0 h' [mkR m kEs 18,.blk bp v.cs 28]∧i≤p.ru.length∧i≤64∧∀ j,j<i→xX p (p.ru.getD j default)=0) (fun i=>p.ru.length - i) (fun i=>[(1,.pointer (some ⟨bp,0,none⟩)),(2,.int .i64 0),(3,.int .i64 0),(6,.map (some m)),(21,v.vr.val),(22,.int .i64 p.ru.length),(23,.int .i64 i)]) 0 qw ?_ ?_
 ·exact ⟨S,zB0 _,zB0 _,fun j hj=>absurd hj (zB7 _)⟩
 clear S;rintro i h ⟨S,k1,k3,k2⟩;all_goals (repeat' (first|refine qg ?_|refine qh rfl ?_|refine qj ?_|refine qx ?_|refine ql ?_|(refine qc 6 ?_;(first|(refine cS ?_ ?_<;>intro hc))<;>(refine qf ?_))|(refine qc 7 ?_;refine mv ?_;refine jB S ?_;refine jA S ?_;(refine al S ?_;clear S;intro b h S);refine mv ?_;(first|(refine sB S rfl rfl ?_;clear S;intro h S));refine qf ?_)|(refine qc 8 ?_;refine mv ?_;refine vl ?_;refine lB S rfl rfl ?_)))
 ·(try simp only [zA0] at *)
  have hi:i<p.ru.length:=by omega
  obtain ⟨r,hre⟩:∃ r,p.ru.getD i default=r:=⟨_,rfl⟩
  rw [hre] at S ⊢;replace S:Hs h0 h [.blk b (JL r) 155,mkR m kEs 18,.blk bp v.cs 28]:=S;refine lkK (v:=Wu r.k) (z:=kdV [] ⟨0,false,0,false,0,false⟩ .nilFunc) S (.there .here) (qfw r.k) (kdv r.k) ?_;((refine lB S rfl rfl ?_);refine lB S rfl rfl ?_);(refine qo rfl rfl rfl rfl rfl ((Gz S.wf v p (H.ext w S.ext) hb.tabs r).mono ?_);rintro _ h ⟨rfl,x⟩)<;>(replace S:=S.join0 x;clear x;refine mv ?_;refine qf ?_)
  all_goals (repeat' (first|refine qg ?_|refine qh rfl ?_|refine qj ?_|(refine qc 9 ?_;refine mv ?_;(first|(refine cS ?_ ?_<;>intro hc))<;>(refine qf ?_))|(refine qc 10 ?_;(iterate 4 refine mv ?_);refine qf ?_)|(refine qc 11 ?_;refine mv ?_;(first|(refine cS ?_ ?_<;>intro hc))<;>(refine qf ?_))|(refine qc 12 ?_;(iterate 3 refine mv ?_);refine qf ?_)))
  ·refine qi ⟨_,rfl,?_⟩;exact ⟨i,_,rfl,.inr ⟨hb,.inl ⟨i,hi,rfl,k3,k2,.inl ⟨by rw [hre];exact hc,by rw [hre]⟩⟩⟩,S.drop⟩
  ·refine qi ⟨_,rfl,?_⟩;exact ⟨i,7,rfl,.inr ⟨hb,.inl ⟨i,hi,rfl,k3,k2,.inr ⟨by rw [hre];omega,by omega,rfl⟩⟩⟩,S.drop⟩
  ·all_goals (repeat' (first|(refine qc 13 ?_;refine ad ?_;refine mv ?_;refine qf ?_)))
   refine ⟨i+1,?_,?_,qw⟩
   ·show p.ru.length - (i+1)<p.ru.length - i;omega
   ·exact ⟨S.tail,by omega,by omega,jr k2 (by rw [hre];omega)⟩
 ·all_goals (repeat' (first|(refine qc 14 ?_;refine mv ?_;refine mv ?_;refine qf ?_)))
  refine qi ⟨_,rfl,?_⟩;exact ⟨0,0,rfl,.inr ⟨hb,.inr ⟨by omega,fun j hj=>k2 j (by omega),rfl,rfl⟩⟩,S.drop⟩
def PaI (N:Nat) (q:List Int) (k:Nat):Prop:=(∀ i,i<k→-1≤q.getD i default∧q.getD i default<N)∧∀ i j,i<j→j<k→0≤q.getD i default→q.getD i default≠q.getD j default
def PaE (N:Nat) (q:List Int) (n:Nat) (wh:Bool) (i e:Int):Prop :=
 (q.length≠n∧i=0∧e=53)∨(q.length=n∧((∃ g:Nat,g<n∧i=g∧PaI N q g∧(wh=true→∀ j,j<g→q.getD j default≠-1) ∧
  ((wh=true∧q.getD g default = -1∧e=52)∨((q.getD g default < -1∨(N:Int)≤q.getD g default)∧e=50)∨(0≤q.getD g default∧q.getD g default<N∧(∃ j,j<g∧q.getD j default=q.getD g default)∧e=51))) ∨
  (PaI N q n∧(wh=true→∀ j,j<n→q.getD j default≠-1)∧i=0∧e=0)))
def PaC (p:Pb) (q:List Int) (wh:Bool) (i e:Int):Prop:=(¬ PO p∧i=0∧e≠0∧∃ i,CkP p i e)∨(PO p∧PaE (sumT p.tabs p.tabs.length).toNat q p.us.length wh i e)
theorem PartOk.pai {p:Pb} {q:List Int} (h:PartOk p q):PaI (sumT p.tabs p.tabs.length).toNat q q.length:=by
 have:=Zk p.tabs p.tabs.length;exact ⟨fun i hi=>by have:=h.rng _ (qL hi);omega,fun i j h1 h2 h3=>h.nd i j h1 h2 h3⟩
theorem PaE.part {p:Pb} {q:List Int} {i e:Int} (h:PaE (sumT p.tabs p.tabs.length).toNat q p.us.length false i e):e=0↔PartOk p q:=by
 have hs:=Zk p.tabs p.tabs.length;constructor
 ·rintro rfl;rcases h with ⟨-,-,h⟩|⟨hl,⟨g,h1,h2,h3,h4,h5⟩|⟨h1,h2,h3,h4⟩⟩
  ·cases h
  ·rcases h5 with ⟨h5,-⟩|⟨-,h5⟩|⟨-,-,-,h5⟩
   ·cases h5
   ·cases h5
   ·cases h5
  ·refine ⟨hl,fun x hx=>?_,fun i j h3 h4 h5=>h1.2 i j h3 (by omega) h5⟩;obtain ⟨j,hj,rfl⟩:=qR.1 hx;have:=h1.1 j (by omega);omega
 ·intro k;have hp:=k.pai;have hl:=k.len;rcases h with ⟨h,-⟩|⟨-,⟨g,h1,h2,h3,h4,h5⟩|⟨-,-,-,h⟩⟩
  ·exact absurd hl h
  ·rcases h5 with ⟨h5,-⟩|⟨h5,-⟩|⟨h5,h6,⟨j,h7,h8⟩,-⟩
   ·cases h5
   ·have:=hp.1 g (by omega);omega
   ·exact absurd h8 (hp.2 j g h7 (by omega) (by omega))
  ·exact h
theorem PaC.part {p:Pb} {q:List Int} {i e:Int} (h:PaC p q false i e):e=0↔PO p∧PartOk p q:=by
 rcases h with ⟨h1,-,h2,-⟩|⟨h1,h2⟩
 ·exact ⟨fun k=>absurd k h2,fun k=>absurd k.1 h1⟩
 ·rw [h2.part];exact ⟨fun k=>⟨h1,k⟩,fun k=>k.2⟩
def WhereI (l:List Tab) (s:Int) (i k:Nat):Prop:=ValidL l∧i<l.length∧(k:Int)<zl (tb l i)∧s=sumT l i+k
theorem xK (l:List Tab) {i j:Nat} (h:i≤j):sumT l i≤sumT l j:=by
 induction h with
 | refl=>exact Int.le_refl _
 | @step m _ ih=>have:=QH (tb l m);simp only [sumT];omega
theorem WhereI.unique {l:List Tab} {s:Int} {i k j m:Nat} (h:WhereI l s i k) (g:WhereI l s j m):i=j∧k=m:=by
 obtain ⟨-,h2,h3,h4⟩:=h;obtain ⟨-,g2,g3,g4⟩:=g;rcases zE6 i j with q|q|q
 ·have:=xK l (show i+1≤j by omega);simp only [sumT] at this;omega
 ·subst q;exact ⟨rfl,by omega⟩
 ·have:=xK l (show j+1≤i by omega);simp only [sumT] at this;omega
def WhereR (l:List Tab) (s a b:Int) (f:Bool):Prop:=(f=true∧∃ i k:Nat,a=i∧b=k∧WhereI l s i k)∨(f=false∧a=0∧b=0∧∀ i k,¬ WhereI l s i k)
theorem WhereR.unique {l:List Tab} {s a b a' b':Int} {f f':Bool} (h:WhereR l s a b f) (g:WhereR l s a' b' f'):a=a'∧b=b'∧f=f':=by
 rcases h with ⟨rfl,i,k,rfl,rfl,h⟩|⟨rfl,rfl,rfl,h⟩<;>rcases g with ⟨rfl,j,m,rfl,rfl,g⟩|⟨rfl,rfl,rfl,g⟩
 ·obtain ⟨rfl,rfl⟩:=h.unique g;exact ⟨rfl,rfl,rfl⟩
 ·exact absurd h (g _ _)
 ·exact absurd g (h _ _)
 ·exact ⟨rfl,rfl,rfl⟩
open Classical in
noncomputable def tOf (l:List Tab) (s:Int):Int:=if h:∃ i:Nat,∃ k,WhereI l s i k then ((Classical.choose h:Nat):Int) else -1
theorem qdR {l:List Tab} {s:Int} {i k:Nat} (h:WhereI l s i k):tOf l s=i:=by
 unfold tOf;have e:∃ i:Nat,∃ k,WhereI l s i k:=⟨i,k,h⟩
 rw [dif_pos e];obtain ⟨k',hk⟩:=Classical.choose_spec e;rw [(hk.unique h).1]
theorem qdQ {l:List Tab} {s:Int} (h:∀ i k,¬ WhereI l s i k):tOf l s = -1:=by
 unfold tOf;rw [dif_neg];rintro ⟨i,k,q⟩;exact h i k q
theorem WhereR.tOf {l:List Tab} {s a b:Int} {f:Bool} (h:WhereR l s a b f):tOf l s=if f=true then a else -1:=by
 rcases h with ⟨rfl,i,k,rfl,rfl,h⟩|⟨rfl,rfl,rfl,h⟩
 ·rw [qdR h,if_pos rfl]
 ·rw [qdQ h,if_neg (by simp)]
def qgr (ts:List Int) (n:Nat):List Int:=(List.range n).map fun t:Nat=>((ts.count (t:Int):Nat):Int)
noncomputable def qbk (p:Pb) (q:List Int):List Int:=qgr (q.map (tOf p.tabs)) p.tabs.length
def qdT (pl:List Int):Nat→List Int
 | 0=>[]
 | n+1=>if 0<pl.getD n default then qdT pl n ++ [(n:Int)] else qdT pl n
def srv (pl:List Int):List Int:=qdT pl pl.length
variable [Flag]
theorem jm {h:AH} (n a b:Int):Fn Tryz.prog Xh 191 [.int .i64 n,.int .i64 a,.int .i64 b] h (fun v h'=>qI v (a≤n∧n≤b)∧h'=h):=by
 refine qF (by first|rfl) Tryz.func191 rfl rfl ?_;all_goals (repeat' (first|refine qg ?_|(refine qc 0 ?_;refine mv ?_;refine qf ?_)|(refine qc 1 ?_;refine mv ?_;refine mv ?_;(first|(refine cS ?_ ?_<;>intro hc))<;>(refine mv ?_;(first|refine off ?_|refine mv ?_);(first|refine off ?_|refine mv ?_);(first|refine off ?_|(first|(refine cS ?_ ?_<;>intro hc)))<;>(refine vl ?_;refine mv ?_;refine qf ?_)))))
 all_goals (refine qi ⟨_,rfl,?_⟩)
 all_goals (refine ⟨?_,rfl⟩;unfold qI)
 all_goals first|exact .inl ⟨rfl,by omega⟩|exact .inr ⟨rfl,by omega⟩
theorem XA {h0:AH} (w:WfH h0) (t:Tab):Fn Tryz.prog Xh 131 [ZZ t] h0 (fun v h'=>v = .int .i64 (zl t)∧Hs h0 h' []):=by
 have S:=Hs.start w;refine qF (by first|rfl) Tryz.func131 rfl rfl ?_;all_goals (repeat' (first|refine qg ?_|refine qh rfl ?_|refine qj ?_|refine ql ?_|(refine qc 0 ?_;(refine bx S ?_;clear S;intro b h S);refine mv ?_;refine qf ?_)|(refine qc 1 ?_;refine vl ?_;refine lB S rfl rfl ?_;refine qf ?_)|(refine qc 2 ?_;(first|(refine cS ?_ ?_<;>intro hc))<;>(refine mv ?_;refine qf ?_))|(refine qc 3 ?_;refine vl ?_;refine lB S rfl rfl ?_)|(refine qc 5 ?_;(first|(refine cS ?_ ?_<;>intro hc))<;>(refine mv ?_;refine qf ?_))|(refine qc 6 ?_;refine vl ?_;refine lB S rfl rfl ?_)|(refine qc 8 ?_;(first|(refine cS ?_ ?_<;>intro hc))<;>(refine mv ?_;refine qf ?_))|(refine qc 9 ?_;refine vl ?_;refine lB S rfl rfl ?_)|(refine qc 11 ?_;(first|(refine cS ?_ ?_<;>intro hc))<;>(refine mv ?_;refine qf ?_))|(refine qc 12 ?_;refine vl ?_;refine lB S rfl rfl ?_)|(refine qc 14 ?_;refine mv ?_;refine qf ?_)))
 ·(refine qo rfl rfl rfl rfl rfl ((jm _ _ _).mono ?_);rintro _ _ ⟨⟨rfl,hq⟩|⟨rfl,hq⟩,rfl⟩)<;>(refine mv ?_;(first|refine off ?_|(refine vl ?_));(first|refine off ?_|(refine lB S rfl rfl ?_));(first|refine off ?_|(first|(refine cS ?_ ?_<;>intro hc)))<;>(refine vl ?_;refine qf ?_))
  all_goals (repeat' (first|refine qg ?_|refine qh rfl ?_|refine qj ?_|(refine qc 4 ?_;refine vl ?_;refine lB S rfl rfl ?_;refine mv ?_;refine qf ?_)|(refine qc 14 ?_;refine mv ?_;refine qf ?_)))
  all_goals (refine qi ⟨_,rfl,?_⟩)
  all_goals (refine ⟨?_,S.drop⟩;unfold zl je;rw [if_pos (by omega)];unfold ZK)
  all_goals first|(rw [if_pos (by omega)];rfl)|(rw [if_neg (by omega)];rfl)
 ·(refine qo rfl rfl rfl rfl rfl ((jm _ _ _).mono ?_);rintro _ _ ⟨⟨rfl,hq⟩|⟨rfl,hq⟩,rfl⟩)<;>(refine mv ?_;(first|refine off ?_|(refine vl ?_));(first|refine off ?_|(refine lB S rfl rfl ?_));(first|(refine off ?_;refine vl ?_;refine qf ?_)|skip))
  any_goals ((refine qo rfl rfl rfl rfl rfl ((jm _ _ _).mono ?_);rintro _ _ ⟨⟨rfl,hq2⟩|⟨rfl,hq2⟩,rfl⟩)<;>(refine vl ?_;refine qf ?_))
  all_goals (repeat' (first|refine qg ?_|refine qh rfl ?_|refine qj ?_|(refine qc 7 ?_;refine vl ?_;refine lB S rfl rfl ?_;refine ml ?_;refine vl ?_;refine lB S rfl rfl ?_;refine ad ?_;refine mv ?_;refine qf ?_)|(refine qc 14 ?_;refine mv ?_;refine qf ?_)))
  all_goals (refine qi ⟨_,rfl,?_⟩)
  all_goals (refine ⟨?_,S.drop⟩;unfold zl je;rw [if_neg (by omega),if_pos (by omega)];unfold JE)
  all_goals first|(rw [if_pos (by omega)];rfl)|(rw [if_neg (by omega)];rfl)
 ·(refine qo rfl rfl rfl rfl rfl ((jm _ _ _).mono ?_);rintro _ _ ⟨⟨rfl,hq⟩|⟨rfl,hq⟩,rfl⟩)<;>(refine mv ?_;(first|refine off ?_|(refine vl ?_));(first|refine off ?_|(refine lB S rfl rfl ?_));(first|(refine off ?_;refine vl ?_;refine qf ?_)|skip))
  any_goals ((refine qo rfl rfl rfl rfl rfl ((jm _ _ _).mono ?_);rintro _ _ ⟨⟨rfl,hq2⟩|⟨rfl,hq2⟩,rfl⟩)<;>(refine vl ?_;refine qf ?_))
  all_goals (repeat' (first|refine qg ?_|refine qh rfl ?_|refine qj ?_|(refine qc 10 ?_;refine vl ?_;refine lB S rfl rfl ?_;refine vl ?_;refine lB S rfl rfl ?_;refine ml ?_;refine ad ?_;refine mv ?_;refine qf ?_)|(refine qc 14 ?_;refine mv ?_;refine qf ?_)))
  all_goals (refine qi ⟨_,rfl,?_⟩)
  all_goals (refine ⟨?_,S.drop⟩;unfold zl je;rw [if_neg (by omega),if_neg (by omega),if_pos (by omega)];unfold Jw)
  all_goals first|(rw [if_pos (by omega)];rfl)|(rw [if_neg (by omega)];rfl)
 ·(refine qo rfl rfl rfl rfl rfl ((jm _ _ _).mono ?_);rintro _ _ ⟨⟨rfl,hq⟩|⟨rfl,hq⟩,rfl⟩)<;>(refine mv ?_;(first|refine off ?_|(refine vl ?_));(first|refine off ?_|(refine lB S rfl rfl ?_));(first|refine off ?_|(refine vl ?_));(first|refine off ?_|(refine lB S rfl rfl ?_));(first|(refine off ?_;refine vl ?_;refine qf ?_)|skip))
  any_goals ((refine qo rfl rfl rfl rfl rfl ((jm _ _ _).mono ?_);rintro _ _ ⟨⟨rfl,hq2⟩|⟨rfl,hq2⟩,rfl⟩)<;>(refine vl ?_;refine qf ?_))
  all_goals (repeat' (first|refine qg ?_|refine qh rfl ?_|refine qj ?_|(refine qc 13 ?_;refine vl ?_;refine lB S rfl rfl ?_;refine mv ?_;refine qf ?_)|(refine qc 14 ?_;refine mv ?_;refine qf ?_)))
  all_goals (refine qi ⟨_,rfl,?_⟩)
  all_goals (refine ⟨?_,S.drop⟩;unfold zl je;rw [if_neg (by omega),if_neg (by omega),if_neg (by omega),if_pos (by omega)];unfold Z8)
  all_goals first|(rw [if_pos (by omega)];rfl)|(rw [if_neg (by omega)];rfl)
 ·refine qi ⟨_,rfl,?_⟩;refine ⟨?_,S.drop⟩;unfold zl je;rw [if_neg (by omega),if_neg (by omega),if_neg (by omega),if_neg (by omega)];rfl
theorem qac {h0:AH} (w:WfH h0) (v:Value) (l:List Tab) (hr:qY h0 v 7 eT l) (hl:l.length≤1000) (n:Nat) (hn:n≤l.length):Fn Tryz.prog Xh 127 [v,.int .i64 n] h0 (fun u h'=>u = .int .i64 (sumT l n)∧Hs h0 h' []):=by
 have S:=Hs.start w;refine qF (by first|rfl) Tryz.func127 rfl rfl ?_;all_goals (repeat' (first|refine qg ?_|refine ql ?_|(refine qc 0 ?_;refine mv ?_;refine qf ?_)|(refine qc 1 ?_;refine mv ?_;refine qf ?_)|(refine qc 2 ?_;refine mv ?_;refine qf ?_)))
 refine qG (σ:=Nat) (fun i h'=>Hs h0 h' []∧i≤n) (fun i=>n - i) (fun i=>[(0,v),(1,.int .i64 n),(5,.int .i64 (sumT l i)),(6,.int .i64 i)]) 0 qw ?_ ?_
 ·exact ⟨S,zB0 _⟩
 clear S;rintro i h ⟨S,g1⟩;have b1:=Zk l i;all_goals (repeat' (first|refine qg ?_|refine qh rfl ?_|refine qj ?_|refine qx ?_|refine ql ?_|(refine qc 3 ?_;refine mv ?_;refine mv ?_;(first|(refine cS ?_ ?_<;>intro hc))<;>(refine qf ?_))))
 ·have hi:i<l.length:=by omega
  have b2:=QH (tb l i);all_goals (repeat' (first|(refine qc 5 ?_;(iterate 3 refine mv ?_);refine jB S ?_;refine jA S ?_)))
  simp only [zA0];(refine qo rfl rfl rfl rfl rfl ((XA S.wf (tb l i)).mono ?_);rintro _ h ⟨rfl,x⟩)<;>(replace S:=S.join0 x;clear x;refine ad ?_;refine mv ?_;refine qf ?_)
  all_goals (repeat' (first|(refine qc 4 ?_;refine mv ?_;refine ad ?_;refine mv ?_;refine qf ?_)))
  refine ⟨i+1,?_,?_,qw⟩
  ·show n - (i+1)<n - i;omega
  ·exact ⟨S,by omega⟩
 ·obtain rfl:i=n:=by omega
  all_goals (repeat' (first|(refine qc 6 ?_;refine mv ?_;refine mv ?_;refine qf ?_)))
  refine qi ⟨_,rfl,?_⟩;exact ⟨rfl,S⟩
theorem qad {h0:AH} (w:WfH h0) (v:Value) (l:List Tab) (hr:qY h0 v 7 eT l) (hl:l.length≤1000):Fn Tryz.prog Xh 76 [v] h0 (fun u h'=>u = .int .i64 (sumT l l.length)∧Hs h0 h' []):=by
 have S:=Hs.start w;refine qF (by first|rfl) Tryz.func76 rfl rfl ?_;all_goals (repeat' (first|refine qg ?_|(refine qc 0 ?_;refine mv ?_;refine qf ?_)|(refine qc 1 ?_;refine mv ?_;refine mv ?_;refine zT S ?_)))
 (refine qo rfl rfl rfl rfl rfl ((qac S.wf v l (hr.ext w S.ext) hl l.length (zA3 _)).mono ?_);rintro _ h ⟨rfl,x⟩)<;>(replace S:=S.join0 x;clear x;refine mv ?_;refine qf ?_)
 all_goals (repeat' (fail))
 refine qi ⟨_,rfl,?_⟩;exact ⟨rfl,S⟩
end Go.Proofs.Xx
namespace Go.Proofs.Xx
open Go Go.Proofs
variable [Flag]
noncomputable def qe5 (l:List Tab) (q:List Int) (t:Int):Nat→List Int
 | 0=>[]
 | i+1=>if 0≤q.getD i default∧tOf l (q.getD i default)=t then qe5 l q t i ++ [(i:Int)] else qe5 l q t i
end Go.Proofs.Xx
namespace Go.Proofs.Xx
section
variable {α:Type} [Inhabited α]
theorem gy (l:List α) {i:Nat} (x:α) (h:i<l.length) (j:Nat):(l.set i x).getD j default=if j=i then x else l.getD j default:=by
 rw [zA2,zA2,List.getElem?_set];by_cases e:i=j
 ·subst e;rw [if_pos rfl,if_pos rfl,if_pos h];rfl
 ·rw [if_neg e,if_neg (fun q=>e q.symm)]
def swp (l:List α) (i j:Nat):List α:=(l.set i (l.getD j default)).set j (l.getD i default)
theorem qcm (l:List α) (i j:Nat):(swp l i j).length=l.length:=by simp [swp]
theorem swp_get {l:List α} {i j:Nat} (hi:i<l.length) (hj:j<l.length) (k:Nat):(swp l i j).getD k default=if k=j then l.getD i default else if k=i then l.getD j default else l.getD k default:=by
 unfold swp;rw [gy _ _ (by simpa using hj),gy _ _ hi]
theorem qaP {l:List α} {i j:Nat} (hi:i<l.length) (hj:j<l.length):(swp l i j).Perm l:=by
 unfold swp;have e1:l.getD i default=l[i]:=by simp [zA2,zA4 hi]
 have e2:l.getD j default=l[j]:=by simp [zA2,zA4 hj]
 rw [e1,e2];exact List.set_set_perm hi hj
inductive Sw (a b:Nat):List α→List α→Prop
 | refl (l:List α):Sw a b l l
 | step {l l':List α} (i j:Nat) (h:Sw a b l l') (hi:a≤i∧i<b) (hj:a≤j∧j<b) (hb:b≤l'.length):Sw a b l (swp l' i j)
theorem Sw.len {a b:Nat} {l l':List α} (h:Sw a b l l'):l'.length=l.length:=by
 induction h with
 | refl=>rfl
 | step i j h hi hj hb ih=>rw [qcm,ih]
theorem Sw.perm {a b:Nat} {l l':List α} (h:Sw a b l l'):l'.Perm l:=by
 induction h with
 | refl=>exact .refl _
 | step i j h hi hj hb ih=>exact (qaP (by omega) (by omega)).trans ih
theorem Sw.out {a b:Nat} {l l':List α} (h:Sw a b l l') {k:Nat} (hk:k<a∨b≤k):l'.getD k default=l.getD k default:=by
 induction h with
 | refl=>rfl
 | step i j h hi hj hb ih=>rw [swp_get (by omega) (by omega),if_neg (by omega),if_neg (by omega),ih]
theorem Sw.in_ {a b:Nat} {l l':List α} (h:Sw a b l l'):∀ {k:Nat},a≤k→k<b→∃ m,a≤m∧m<b∧l'.getD k default=l.getD m default:=by
 induction h with
 | refl=>intro k h1 h2;exact ⟨k,h1,h2,rfl⟩
 | step i j h hi hj hb ih =>
  intro k h1 h2;rw [swp_get (by omega) (by omega)];split
  ·exact ih hi.1 hi.2
  ·split
   ·exact ih hj.1 hj.2
   ·exact ih h1 h2
theorem Sw.trans {a b:Nat} {l m n:List α} (h:Sw a b l m) (g:Sw a b m n):Sw a b l n:=by
 induction g with
 | refl=>exact h
 | step i j g hi hj hb ih=>exact .step i j ih hi hj hb
theorem Sw.mono {a b a' b':Nat} {l m:List α} (h:Sw a b l m) (ha:a'≤a) (hb:b≤b') (hl:b'≤l.length):Sw a' b' l m:=by
 induction h with
 | refl=>exact .refl _
 | step i j g hi hj hbl ih =>
  exact .step i j ih ⟨by omega,by omega⟩ ⟨by omega,by omega⟩ (by rw [g.len];exact hl)
theorem Sw.one {a b:Nat} {l:List α} (i j:Nat) (hi:a≤i∧i<b) (hj:a≤j∧j<b) (hb:b≤l.length):Sw a b l (swp l i j):=.step i j (.refl l) hi hj hb
structure WOrd (lt:α→α→Prop):Prop where
 irr:∀ x,¬ lt x x
 tr:∀ {x y z},lt x y→lt y z→lt x z
 ntr:∀ {x y z},¬ lt y x→¬ lt z y→¬ lt z x
theorem WOrd.asym {lt:α→α→Prop} (W:WOrd lt) {x y:α} (h:lt x y):¬ lt y x:=fun g=>W.irr x (W.tr h g)
def Srt (lt:α→α→Prop) (a b:Nat) (l:List α):Prop:=∀ i j,a≤i→i<j→j<b→¬ lt (l.getD j default) (l.getD i default)
theorem Srt.adj {lt:α→α→Prop} (W:WOrd lt) {a b:Nat} {l:List α} (h:∀ i,a≤i→i+1<b→¬ lt (l.getD (i+1) default) (l.getD i default)):Srt lt a b l:=by
 intro i j h1 h2 h3;induction j with
 | zero=>omega
 | succ j ih =>
  rcases zA7 i j with q|q
  ·exact W.ntr (ih q (by omega)) (h j (by omega) h3)
  ·have:i=j:=by omega
   subst this;exact h i h1 h3
def InsI (lt:α→α→Prop) (a i j:Nat) (l:List α):Prop:=∀ p q,a≤p→p<q→q≤i→q≠j→¬ lt (l.getD q default) (l.getD p default)
theorem InsI.start {lt:α→α→Prop} {a i:Nat} {l:List α} (h:Srt lt a i l):InsI lt a i i l:=fun p q h1 h2 h3 h4=>h p q h1 h2 (by omega)
theorem InsI.next {lt:α→α→Prop} (W:WOrd lt) {a i j:Nat} {l:List α} (h:InsI lt a i j l) (hj:a<j) (hji:j≤i) (hl:i<l.length) (hc:lt (l.getD j default) (l.getD (j - 1) default)):InsI lt a i (j - 1) (swp l j (j - 1)):=by
 intro p q h1 h2 h3 h4;have g:=swp_get (l:=l) (i:=j) (j:=j - 1) (by omega) (by omega);rw [g q,g p,if_neg h4];by_cases e1:q=j
 ·subst e1;rw [if_pos rfl];by_cases e2:p=q - 1
  ·rw [if_pos e2];exact W.asym hc
  ·rw [if_neg e2,if_neg (by omega)];exact h p (q - 1) h1 (by omega) (by omega) (by omega)
 ·rw [if_neg e1];by_cases e2:p=j - 1
  ·rw [if_pos e2];exact h j q (by omega) (by omega) h3 e1
  ·rw [if_neg e2];by_cases e3:p=j
   ·rw [if_pos e3];exact h (j - 1) q (by omega) (by omega) h3 e1
   ·rw [if_neg e3];exact h p q h1 h2 h3 e1
theorem InsI.done {lt:α→α→Prop} (W:WOrd lt) {a i j:Nat} {l:List α} (h:InsI lt a i j l) (hc:j≤a∨¬ lt (l.getD j default) (l.getD (j - 1) default)):Srt lt a (i+1) l:=by
 intro p q h1 h2 h3;by_cases e:q=j
 ·subst e;rcases hc with hc|hc
  ·omega
  ·by_cases e2:p=q - 1
   ·rw [e2];exact hc
   ·exact W.ntr (h p (q - 1) h1 (by omega) (by omega) (by omega)) hc
 ·exact h p q h1 h2 (by omega) e
def wK (lt:α→α→Prop) (f hi k:Nat) (l:List α):Prop :=
 (2*k+1<hi→¬ lt (l.getD (f+k) default) (l.getD (f+(2*k+1)) default))∧(2*k+2<hi→¬ lt (l.getD (f+k) default) (l.getD (f+(2*k+2)) default))
def Heap (lt:α→α→Prop) (f lo hi:Nat) (l:List α):Prop:=∀ k,lo≤k→wK lt f hi k l
def SiftI (lt:α→α→Prop) (f lo hi root:Nat) (l:List α):Prop :=
 (∀ k,lo≤k→k≠root→wK lt f hi k l)∧∀ k,lo≤k→(root=2*k+1∨root=2*k+2)→∀ c,(c=2*root+1∨c=2*root+2)→c<hi→¬ lt (l.getD (f+k) default) (l.getD (f+c) default)
theorem SiftI.start {lt:α→α→Prop} {f lo hi:Nat} {l:List α} (h:Heap lt f (lo+1) hi l):SiftI lt f lo hi lo l:=⟨fun k h1 h2=>h k (by omega),fun k h1 h2=>by omega⟩
theorem SiftI.done {lt:α→α→Prop} {f lo hi root:Nat} {l:List α} (h:SiftI lt f lo hi root l) (hc:wK lt f hi root l):Heap lt f lo hi l:=fun k h1=>by
 by_cases e:k=root
 ·subst e;exact hc
 ·exact h.1 k h1 e
theorem SiftI.next {lt:α→α→Prop} (W:WOrd lt) {f lo hi root c:Nat} {l:List α} (h:SiftI lt f lo hi root l) (hr:lo≤root) (hcc:c=2*root+1∨c=2*root+2) (hch:c<hi) (hl:f+hi≤l.length)
 (hm:∀ d,(d=2*root+1∨d=2*root+2)→d<hi→¬ lt (l.getD (f+c) default) (l.getD (f+d) default)) (hc:lt (l.getD (f+root) default) (l.getD (f+c) default)) :
 SiftI lt f lo hi c (swp l (f+root) (f+c)):=by
 have g:=swp_get (l:=l) (i:=f+root) (j:=f+c) (by omega) (by omega);have at_c:(swp l (f+root) (f+c)).getD (f+c) default=l.getD (f+root) default:=by rw [g,if_pos rfl]
 have at_r:(swp l (f+root) (f+c)).getD (f+root) default=l.getD (f+c) default:=by rw [g,if_neg (by omega),if_pos rfl]
 have at_o:∀ k,k≠c→k≠root→(swp l (f+root) (f+c)).getD (f+k) default=l.getD (f+k) default:=fun k h1 h2=>by rw [g,if_neg (by omega),if_neg (by omega)]
 refine ⟨fun k h1 h2=>?_,fun k h1 h2 d hd hdh=>?_⟩
 ·by_cases e:k=root
  ·subst e;refine ⟨fun q=>?_,fun q=>?_⟩
   ·rw [at_r];by_cases e1:2*k+1=c
    ·rw [e1,at_c];exact W.asym hc
    ·rw [at_o _ e1 (by omega)];exact hm _ (.inl rfl) q
   ·rw [at_r];by_cases e1:2*k+2=c
    ·rw [e1,at_c];exact W.asym hc
    ·rw [at_o _ e1 (by omega)];exact hm _ (.inr rfl) q
  ·have hk:=h.1 k h1 e;rw [wK,at_o k h2 e];refine ⟨fun q=>?_,fun q=>?_⟩
   ·by_cases e1:2*k+1=root
    ·rw [e1,at_r];exact h.2 k h1 (.inl e1.symm) c hcc hch
    ·by_cases e2:2*k+1=c
     ·omega
     ·rw [at_o _ e2 e1];exact hk.1 q
   ·by_cases e1:2*k+2=root
    ·rw [e1,at_r];exact h.2 k h1 (.inr e1.symm) c hcc hch
    ·by_cases e2:2*k+2=c
     ·omega
     ·rw [at_o _ e2 e1];exact hk.2 q
 ·have e:k=root:=by omega
  subst e;rw [at_r,at_o d (by omega) (by omega)];have hk:=h.1 c (by omega) (by omega);rcases hd with hd|hd
  ·subst hd;exact hk.1 hdh
  ·subst hd;exact hk.2 hdh
theorem Heap.max {lt:α→α→Prop} (W:WOrd lt) {f hi:Nat} {l:List α} (h:Heap lt f 0 hi l) (k:Nat) (hk:k<hi):¬ lt (l.getD (f+0) default) (l.getD (f+k) default):=by
 induction k using Nat.strongRecOn with
 | _ k ih =>
  rcases zF3 k with e|e
  ·subst e;exact W.irr _
  ·have hp:=h ((k - 1) / 2) (zB0 _);have hi':=ih ((k - 1) / 2) (by omega) (by omega);rcases (by omega:k=2*((k - 1) / 2)+1∨k=2*((k - 1) / 2)+2) with q|q
   ·have:=hp.1 (by omega);rw [← q] at this;exact W.ntr this hi'
   ·have:=hp.2 (by omega);rw [← q] at this;exact W.ntr this hi'
def HeapI (lt:α→α→Prop) (f i n:Nat) (l:List α):Prop:=Heap lt f 0 i l∧∀ p q,p<q→i≤q→q<n→¬ lt (l.getD (f+q) default) (l.getD (f+p) default)
def DoneI (lt:α→α→Prop) (a b a' b':Nat) (l:List α):Prop:=∀ i j,a≤i→i<j→j<b→(i<a'∨b'≤j)→¬ lt (l.getD j default) (l.getD i default)
theorem DoneI.start {lt:α→α→Prop} {a b:Nat} {l:List α}:DoneI lt a b a b l:=fun i j h1 h2 h3 h4=>by omega
theorem DoneI.sw {lt:α→α→Prop} {a b a' b':Nat} {l l':List α} (h:DoneI lt a b a' b' l) (s:Sw a' b' l l') (h1:a≤a') (h2:b'≤b):DoneI lt a b a' b' l':=by
 intro i j q1 q2 q3 q4;rcases q4 with q4|q4
 ·rw [s.out (k:=i) (.inl q4)];rcases zA7 j a' with q5|q5
  ·rw [s.out (.inl q5)];exact h i j q1 q2 q3 (.inl q4)
  ·rcases zA7 j b' with q6|q6
   ·obtain ⟨m,m1,m2,m3⟩:=s.in_ q5 q6;rw [m3];exact h i m q1 (by omega) (by omega) (.inl q4)
   ·rw [s.out (.inr q6)];exact h i j q1 q2 q3 (.inl q4)
 ·rw [s.out (k:=j) (.inr q4)];rcases zA7 i a' with q5|q5
  ·rw [s.out (.inl q5)];exact h i j q1 q2 q3 (.inl q5)
  ·rcases zA7 i b' with q6|q6
   ·obtain ⟨m,m1,m2,m3⟩:=s.in_ q5 q6;rw [m3];exact h m j (by omega) (by omega) q3 (.inr q4)
   ·rw [s.out (.inr q6)];exact h i j q1 q2 q3 (.inr q4)
theorem DoneI.finish {lt:α→α→Prop} {a b a' b':Nat} {l:List α} (h:DoneI lt a b a' b' l) (s:Srt lt a' b' l):Srt lt a b l:=by
 intro i j q1 q2 q3;by_cases e:i<a'∨b'≤j
 ·exact h i j q1 q2 q3 e
 ·exact s i j (by omega) q2 (by omega)
def Parted (lt:α→α→Prop) (a b m:Nat) (l:List α):Prop:=(∀ k,a≤k→k<m→lt (l.getD k default) (l.getD m default))∧∀ k,m<k→k<b→¬ lt (l.getD k default) (l.getD m default)
theorem Parted.across {lt:α→α→Prop} (W:WOrd lt) {a b m:Nat} {l:List α} (h:Parted lt a b m l) {i j:Nat} (h1:a≤i) (h2:i≤m) (h3:m≤j) (h4:j<b) (h5:i<j):¬ lt (l.getD j default) (l.getD i default):=by
 have e1:¬ lt (l.getD m default) (l.getD i default):=by
  rcases zA7 i m with q|q
  ·exact W.asym (h.1 i h1 q)
  ·have:i=m:=by omega
   subst this;exact W.irr _
 have e2:¬ lt (l.getD j default) (l.getD m default):=by
  rcases zA7 m j with q|q
  ·exact h.2 j q h4
  ·have:j=m:=by omega
   subst this;exact W.irr _
 exact W.ntr e1 e2
theorem DoneI.left {lt:α→α→Prop} (W:WOrd lt) {a b a' b' m:Nat} {l l':List α} (h:DoneI lt a b a' b' l) (p:Parted lt a' b' m l) (hm:a'≤m∧m<b') (hab:a≤a'∧b'≤b) (s:Sw a' m l l') (hs:Srt lt a' m l') (hl:b'≤l.length):DoneI lt a b (m+1) b' l':=by
 have h':=h.sw (s.mono (zA3 _) (by omega) hl) hab.1 hab.2;intro i j q1 q2 q3 q4;by_cases e:i<a'∨b'≤j
 ·exact h' i j q1 q2 q3 e
 ·rcases q4 with q4|q4
  ·rcases zA7 j m with q5|q5
   ·exact hs i j (by omega) q2 q5
   ·rw [s.out (k:=j) (.inr q5)];rcases zA7 i m with q6|q6
    ·obtain ⟨k,k1,k2,k3⟩:=s.in_ (k:=i) (by omega) q6;rw [k3];exact p.across W k1 (by omega) q5 (by omega) (by omega)
    ·rw [s.out (.inr q6)];exact p.across W (by omega) (by omega) q5 (by omega) q2
  ·omega
theorem DoneI.right {lt:α→α→Prop} (W:WOrd lt) {a b a' b' m:Nat} {l l':List α} (h:DoneI lt a b a' b' l) (p:Parted lt a' b' m l) (hm:a'≤m∧m<b') (hab:a≤a'∧b'≤b) (s:Sw (m+1) b' l l') (hs:Srt lt (m+1) b' l') (hl:b'≤l.length):DoneI lt a b a' m l':=by
 have h':=h.sw (s.mono (by omega) (zA3 _) hl) hab.1 hab.2;intro i j q1 q2 q3 q4;by_cases e:i<a'∨b'≤j
 ·exact h' i j q1 q2 q3 e
 ·rcases q4 with q4|q4
  ·omega
  ·rcases zA7 m i with q5|q5
   ·exact hs i j (by omega) q2 (by omega)
   ·rw [s.out (k:=i) (.inl (by omega))];rcases zA7 m j with q6|q6
    ·obtain ⟨k,k1,k2,k3⟩:=s.in_ (k:=j) (by omega) (by omega);rw [k3];exact p.across W (by omega) q5 (by omega) k2 (by omega)
    ·rw [s.out (.inl (by omega))];exact p.across W (by omega) q5 (by omega) (by omega) q2
theorem Sw.all {a b:Nat} {l l':List α} (s:Sw a b l l') {p:α→Prop} (h:∀ k,a≤k→k<b→p (l.getD k default)):∀ k,a≤k→k<b→p (l'.getD k default):=fun k h1 h2=>by
 obtain ⟨m,m1,m2,m3⟩:=s.in_ h1 h2;rw [m3];exact h m m1 m2
end
end Go.Proofs.Xx
namespace Go.Proofs.Xx
section
variable {α:Type} [Inhabited α]
def xch (a b n k:Nat):Nat:=if a≤k∧k<a+n then k+(b - a) else if b≤k∧k<b+n then k - (b - a) else k
def IsXch (a b n:Nat) (l l':List α):Prop:=∀ k,l'.getD k default=l.getD (xch a b n k) default
theorem IsXch.zero {a b:Nat} {l:List α}:IsXch a b 0 l l:=fun k=>by
 unfold xch;rw [if_neg (by omega),if_neg (by omega)]
theorem IsXch.next {a b i:Nat} {l l':List α} (h:IsXch a b i l l') (hab:a+i<b) (hl:b+i<l'.length):IsXch a b (i+1) l (swp l' (a+i) (b+i)):=fun k=>by
 rw [swp_get (by omega) hl];rw [h,h,h];unfold xch;repeat' split
 all_goals first|omega|rfl|(congr 1<;>omega)
def rot (a m b k:Nat):Nat:=if k<a then k else if k<a+(b - m) then k+(m - a) else if k<b then k - (b - m) else k
def qdJ (a m b:Nat) (l l':List α):Prop:=∀ k,l'.getD k default=l.getD (rot a m b k) default
def RotI (a m b i j:Nat) (l c:List α):Prop:=∀ k,l.getD (rot a m b k) default=c.getD (rot (m - i) m (m+j) k) default
theorem RotI.start {a m b:Nat} {l:List α} (h1:a≤m) (h2:m≤b):RotI a m b (m - a) (b - m) l l:=fun k=>by
 rw [show m - (m - a)=a by omega,show m+(b - m)=b by omega]
theorem RotI.left {a m b i j:Nat} {l c c':List α} (h:RotI a m b i j l c) (hi:i≤m) (hij:j<i) (x:IsXch (m - i) m j c c'):RotI a m b (i - j) j l c':=fun k=>by
 rw [h k,x];congr 1
 unfold xch rot;repeat' split
 all_goals omega
theorem RotI.right {a m b i j:Nat} {l c c':List α} (h:RotI a m b i j l c) (hi:i≤m) (hij:i<j) (x:IsXch (m - i) (m+j - i) i c c'):RotI a m b i (j - i) l c':=fun k=>by
 rw [h k,x];congr 1
 unfold xch rot;repeat' split
 all_goals omega
theorem RotI.done {a m b i:Nat} {l c c':List α} (h:RotI a m b i i l c) (hi:i≤m) (x:IsXch (m - i) m i c c'):qdJ a m b l c':=fun k=>by
 rw [h k,x];congr 1
 unfold xch rot;repeat' split
 all_goals omega
def IsUp (a k:Nat) (l l':List α):Prop:=∀ x,l'.getD x default=l.getD (if x<a then x else if x<k then x+1 else if x=k then a else x) default
theorem IsUp.start {a:Nat} {l:List α}:IsUp a a l l:=fun x=>by
 congr 1
 repeat' split
 all_goals omega
theorem IsUp.next {a k:Nat} {l l':List α} (h:IsUp a k l l') (hak:a≤k) (hl:k+1<l'.length):IsUp a (k+1) l (swp l' k (k+1)):=fun x=>by
 rw [swp_get (by omega) hl];rw [h,h,h];repeat' split
 all_goals first|omega|rfl|(congr 1<;>omega)
def IsDown (m k:Nat) (l l':List α):Prop:=∀ x,l'.getD x default=l.getD (if x<k then x else if x=k then m else if x≤m then x - 1 else x) default
theorem IsDown.start {m:Nat} {l:List α}:IsDown m m l l:=fun x=>by
 congr 1
 repeat' split
 all_goals omega
theorem IsDown.next {m k:Nat} {l l':List α} (h:IsDown m k l l') (hk:0<k∧k≤m) (hl:m<l'.length):IsDown m (k - 1) l (swp l' k (k - 1)):=fun x=>by
 rw [swp_get (by omega) (by omega)];rw [h,h,h];repeat' split
 all_goals first|omega|rfl|(congr 1<;>omega)
end
def Za (key:Int→Int) (x y:Int):Prop:=key x<key y∨(key x=key y∧x<y)
theorem Wn (key:Int→Int):WOrd (Za key) where
 irr x h:=by unfold Za at h;omega
 tr h1 h2:=by unfold Za at *;omega
 ntr h1 h2:=by unfold Za at *;omega
structure Mrg (key:Int→Int) (a m b:Nat) (l:List Int):Prop where
 sl:Srt (Za key) a m l
 sr:Srt (Za key) m b l
 cr:∀ p q,a≤p→p<m→m≤q→q<b→l.getD p default<l.getD q default
theorem Mrg.up {key:Int→Int} {a b i:Nat} {l l':List Int} (h:Mrg key a (a+1) b l) (hi:a+1≤i∧i≤b) (h1:∀ k,a+1≤k→k<i→Za key (l.getD k default) (l.getD a default)) (h2:∀ k,i≤k→k<b→¬ Za key (l.getD k default) (l.getD a default)) (u:IsUp a (i - 1) l l'):Srt (Za key) a b l':=by
 have W:=Wn key;have u1:∀ x,a≤x→x<i - 1→l'.getD x default=l.getD (x+1) default:=fun x q1 q2=>by rw [u x,if_neg (by omega),if_pos q2]
 have u2:l'.getD (i - 1) default=l.getD a default:=by
  rw [u,if_neg (by omega),if_neg (by omega),if_pos rfl]
 have u3:∀ x,i - 1<x→l'.getD x default=l.getD x default:=fun x q1=>by rw [u x,if_neg (by omega),if_neg (by omega),if_neg (by omega)]
 intro p q q1 q2 q3;rcases zE6 p (i - 1) with e1|e1|e1
 ·rw [u1 p q1 e1];rcases zE6 q (i - 1) with e2|e2|e2
  ·rw [u1 q (by omega) e2];exact h.sr _ _ (by omega) (by omega) (by omega)
  ·rw [e2,u2];exact W.asym (h1 _ (by omega) (by omega))
  ·rw [u3 q e2];exact h.sr _ _ (by omega) (by omega) (by omega)
 ·rw [e1,u2,u3 q (by omega)];exact h2 _ (by omega) q3
 ·rw [u3 p e1,u3 q (by omega)];exact h.sr _ _ (by omega) (by omega) (by omega)
theorem Mrg.down {key:Int→Int} {a m i:Nat} {l l':List Int} (h:Mrg key a m (m+1) l) (hi:a≤i∧i≤m) (h1:∀ k,a≤k→k<i→¬ Za key (l.getD m default) (l.getD k default)) (h2:∀ k,i≤k→k<m→Za key (l.getD m default) (l.getD k default)) (u:IsDown m i l l'):Srt (Za key) a (m+1) l':=by
 have W:=Wn key;have u1:∀ x,x<i→l'.getD x default=l.getD x default:=fun x q1=>by rw [u x,if_pos q1]
 have u2:l'.getD i default=l.getD m default:=by
  rw [u,if_neg (by omega),if_pos rfl]
 have u3:∀ x,i<x→x≤m→l'.getD x default=l.getD (x - 1) default:=fun x q1 q2=>by rw [u x,if_neg (by omega),if_neg (by omega),if_pos q2]
 intro p q q1 q2 q3;rcases zE6 p i with e1|e1|e1
 ·rw [u1 p e1];rcases zE6 q i with e2|e2|e2
  ·rw [u1 q e2];exact h.sl _ _ (by omega) (by omega) (by omega)
  ·rw [e2,u2];exact h1 _ (by omega) (by omega)
  ·rw [u3 q e2 (by omega)];exact h.sl _ _ (by omega) (by omega) (by omega)
 ·rw [e1,u2,u3 q (by omega) (by omega)];exact W.asym (h2 _ (by omega) (by omega))
 ·rw [u3 p e1 (by omega),u3 q (by omega) (by omega)];exact h.sl _ _ (by omega) (by omega) (by omega)
structure SrI (key:Int→Int) (a m b mid s r:Nat) (l:List Int):Prop where
 lo:(if m > mid then mid+m - b else a)≤s
 sr:s≤r
 hi:r≤(if m > mid then mid else m)
 low:(if m > mid then mid+m - b else a)<s→¬ Za key (l.getD (mid+m - s) default) (l.getD (s - 1) default)
 high:r<(if m > mid then mid else m)→Za key (l.getD (mid+m - 1 - r) default) (l.getD r default)
theorem Mrg.search {key:Int→Int} {a m b mid s:Nat} {l l2:List Int} (h:Mrg key a m b l) (hm:mid=(a+b) / 2) (hab:a<m∧m<b) (I:SrI key a m b mid s s l)
 (hr:qdJ s m (mid+m - s) l l2):(a≤s∧s≤mid∧s≤m∧m≤mid+m - s∧mid+m - s≤b)∧Mrg key a s mid l2∧Mrg key mid (mid+m - s) b l2∧∀ x y,a≤x→x<mid→mid≤y→y<b→¬ Za key (l2.getD y default) (l2.getD x default):=by
 have W:=Wn key;have lo:=I.lo;have hi:=I.hi;have low:=I.low;have high:=I.high;have hs:a≤s∧s≤mid∧s≤m∧m≤mid+m - s∧mid+m - s≤b:=by
  split at lo<;>split at hi<;>omega
 have r1:∀ k,k<s→l2.getD k default=l.getD k default:=fun k hk=>by rw [hr k];unfold rot;rw [if_pos hk]
 have r2:∀ k,s≤k→k<mid→l2.getD k default=l.getD (k+(m - s)) default:=fun k h1 h2=>by rw [hr k];unfold rot;rw [if_neg (by omega),if_pos (by omega)]
 have r3:∀ k,mid≤k→k<mid+m - s→l2.getD k default=l.getD (k - (mid - s)) default:=fun k h1 h2=>by
  rw [hr k];unfold rot;rw [if_neg (by omega),if_neg (by omega),if_pos (by omega)];congr 1;omega
 have r4:∀ k,mid+m - s≤k→l2.getD k default=l.getD k default:=fun k h1=>by rw [hr k];unfold rot;rw [if_neg (by omega),if_neg (by omega),if_neg (by omega)]
 refine ⟨hs,⟨fun i j q1 q2 q3=>?_,fun i j q1 q2 q3=>?_,fun p q q1 q2 q3 q4=>?_⟩,⟨fun i j q1 q2 q3=>?_,fun i j q1 q2 q3=>?_,fun p q q1 q2 q3 q4=>?_⟩,fun x y q1 q2 q3 q4=>?_⟩
 ·rw [r1 i (by omega),r1 j q3];exact h.sl i j q1 q2 (by omega)
 ·rw [r2 i q1 (by omega),r2 j (by omega) q3];exact h.sr _ _ (by omega) (by omega) (by omega)
 ·rw [r1 p q2,r2 q q3 q4];exact h.cr _ _ q1 (by omega) (by omega) (by omega)
 ·rw [r3 i q1 (by omega),r3 j (by omega) q3];exact h.sl _ _ (by omega) (by omega) (by omega)
 ·rw [r4 i q1,r4 j (by omega)];exact h.sr _ _ (by omega) q2 q3
 ·rw [r3 p q1 q2,r4 q q3];exact h.cr _ _ (by omega) (by omega) (by omega) q4
 ·
  have le_of:∀ {i j:Nat},a≤i→i≤j→j<m→¬ Za key (l.getD j default) (l.getD i default):=fun {i j} g1 g2 g3=>by
   rcases zA7 i j with q|q
   ·exact h.sl i j g1 q g3
   ·have:i=j:=by omega
    subst this;exact W.irr _
  have le_of2:∀ {i j:Nat},m≤i→i≤j→j<b→¬ Za key (l.getD j default) (l.getD i default):=fun {i j} g1 g2 g3=>by
   rcases zA7 i j with q|q
   ·exact h.sr i j g1 q g3
   ·have:i=j:=by omega
    subst this;exact W.irr _
  rcases zA7 x s with e1|e1
  ·rw [r1 x e1];rcases zA7 y (mid+m - s) with e2|e2
   ·rw [r3 y q3 e2];exact le_of q1 (by omega) (by omega)
   ·rw [r4 y e2];have g:¬ Za key (l.getD (mid+m - s) default) (l.getD (s - 1) default):=low (by split<;>omega);have g1:¬ Za key (l.getD (s - 1) default) (l.getD x default):=le_of q1 (by omega) (by omega);have g2:¬ Za key (l.getD y default) (l.getD (mid+m - s) default):=le_of2 (by omega) e2 q4;exact W.ntr (W.ntr g1 g) g2
  ·rw [r2 x e1 q2];rcases zA7 y (mid+m - s) with e2|e2
   ·rw [r3 y q3 e2];have g:Za key (l.getD (mid+m - 1 - s) default) (l.getD s default):=high (by split<;>omega);have g1:¬ Za key (l.getD (y - (mid - s)) default) (l.getD s default):=le_of (by omega) (by omega) (by omega);have g2:¬ Za key (l.getD (mid+m - 1 - s) default) (l.getD (x+(m - s)) default):=le_of2 (by omega) (by omega) (by omega);exact W.ntr (W.ntr g2 (W.asym g)) g1
   ·rw [r4 y e2];exact le_of2 (by omega) (by omega) q4
end Go.Proofs.Xx
namespace Go.Proofs.Xx
section
variable {α:Type} [Inhabited α] {lt:α→α→Prop}
theorem HeapI.done {f n b:Nat} {l:List α} (h:HeapI lt f 0 n l) (hb:b=f+n):Srt lt f b l:=fun i j h1 h2 h3=>by
 have:=h.2 (i - f) (j - f) (by omega) (zB0 _) (by omega);rwa [show f+(j - f)=j by omega,show f+(i - f)=i by omega] at this
structure PartI (lt:α→α→Prop) (a b:Nat) (x:α) (i j:Nat) (m:List α):Prop where
 bi:a<i∧i≤j+1∧j<b
 lo:∀ k,a<k→k<i→lt (m.getD k default) x
 hi:∀ k,j<k→k<b→¬ lt (m.getD k default) x
 x:m.getD a default=x
theorem PartI.swap {a b:Nat} {x:α} {i j:Nat} {m:List α} (h:PartI lt a b x i j m) (hb:b≤m.length) (hij:i≤j) (h1:¬ lt (m.getD i default) x) (h2:lt (m.getD j default) x):i<j∧PartI lt a b x (i+1) (j - 1) (swp m i j):=by
 have hbi:=h.bi;have hne:i≠j:=fun q=>by subst q;exact h1 h2
 have g:=swp_get (l:=m) (i:=i) (j:=j) (by omega) (by omega);refine ⟨by omega,⟨by omega,fun k q1 q2=>?_,fun k q1 q2=>?_,?_⟩⟩
 ·rw [g,if_neg (by omega)];split
  ·exact h2
  ·exact h.lo k q1 (by omega)
 ·rw [g];split
  ·exact h1
  ·rw [if_neg (by omega)];exact h.hi k (by omega) q2
 ·rw [g,if_neg (by omega),if_neg (by omega)];exact h.x
theorem PartI.done (W:WOrd lt) {a b:Nat} {x:α} {i j:Nat} {m:List α} (h:PartI lt a b x i j m) (hb:b≤m.length) (hij:j<i):Parted lt a b j (swp m j a):=by
 have hbi:=h.bi;have g:=swp_get (l:=m) (i:=j) (j:=a) (by omega) (by omega);have gj:(swp m j a).getD j default=x:=by
  rw [g];split
  ·rename_i e;rw [e];exact h.x
  ·rw [if_pos rfl];exact h.x
 refine ⟨fun k q1 q2=>?_,fun k q1 q2=>?_⟩
 ·rw [gj,g];split
  ·exact h.lo j (by omega) (by omega)
  ·rw [if_neg (by omega)];exact h.lo k (by omega) (by omega)
 ·rw [gj,g,if_neg (by omega),if_neg (by omega)];exact h.hi k q1 q2
structure EqI (lt:α→α→Prop) (a b:Nat) (x:α) (i j:Nat) (m:List α):Prop where
 bi:a<i∧i≤j+1∧j<b
 lo:∀ k,a<k→k<i→¬ lt x (m.getD k default)
 hi:∀ k,j<k→k<b→lt x (m.getD k default)
 x:m.getD a default=x
theorem EqI.swap {a b:Nat} {x:α} {i j:Nat} {m:List α} (h:EqI lt a b x i j m) (hb:b≤m.length) (hij:i≤j) (h1:lt x (m.getD i default)) (h2:¬ lt x (m.getD j default)):i<j∧EqI lt a b x (i+1) (j - 1) (swp m i j):=by
 have hbi:=h.bi;have hne:i≠j:=fun q=>by subst q;exact h2 h1
 have g:=swp_get (l:=m) (i:=i) (j:=j) (by omega) (by omega);refine ⟨by omega,⟨by omega,fun k q1 q2=>?_,fun k q1 q2=>?_,?_⟩⟩
 ·rw [g,if_neg (by omega)];split
  ·exact h2
  ·exact h.lo k q1 (by omega)
 ·rw [g];split
  ·exact h1
  ·rw [if_neg (by omega)];exact h.hi k (by omega) q2
 ·rw [g,if_neg (by omega),if_neg (by omega)];exact h.x
theorem DoneI.low {a b a' b':Nat} {l:List α} (h:DoneI lt a b a' b' l) (h1:a<a') (h2:b'≤b):∀ k,a'≤k→k<b'→¬ lt (l.getD k default) (l.getD (a' - 1) default):=fun k q1 q2=>h (a' - 1) k (by omega) (by omega) (by omega) (.inl (by omega))
end
def qgm:List UInt8:=[0,1] ++ List.replicate 2 2 ++ List.replicate 4 3 ++ List.replicate 8 4 ++ List.replicate 16 5 ++ List.replicate 32 6 ++ List.replicate 64 7 ++ List.replicate 128 8
variable [Flag]
end Go.Proofs.Xx
namespace Go.Proofs.Xx
open Go Go.Proofs
abbrev FV:=Nat×Array Value
theorem qay {h0:AH} (w:WfH h0) (v:Value) (a:List Int) (r:qY h0 v 1 eI a) (hl:a.length≤1000000):Fn Tryz.prog Xh 24 [v] h0 (fun u h'=>Hs h0 h' [.sl u 3 1 eI a]):=by
 have S:=Hs.start w;have r0:=r;rcases r with ⟨rfl,h1,-⟩|⟨b,o,cap,cc,e,s,q,rfl,h1,h2⟩
 ·obtain rfl:a=[]:=zE8.1 h1;refine qF (by first|rfl|exact KX.no _ _ _ (by decide) rfl) Tryz.func24 rfl rfl ?_;all_goals (repeat' (first|refine qg ?_|refine qh rfl ?_|refine qj ?_|refine qx ?_|refine ql ?_|refine qZ ?_|refine zf ?_|(refine qc 0 ?_;refine mv ?_;refine qf ?_)|(refine qc 1 ?_;refine mv ?_;refine vl ?_;refine qf ?_)|(refine qc 2 ?_;refine mv ?_;refine qf ?_)|(refine qc 3 ?_;skip)))
  refine qi ⟨_,rfl,?_⟩;exact S.nilS
 ·refine qF (by first|rfl|exact KX.no _ _ _ (by decide) rfl) Tryz.func24 rfl rfl ?_;all_goals (repeat' (first|refine qg ?_|refine qh rfl ?_|refine qj ?_|refine qx ?_|refine ql ?_|refine qZ ?_|refine zf ?_|(refine qc 0 ?_;refine mv ?_;refine qf ?_)|(refine qc 1 ?_;refine mv ?_;refine vl ?_;refine qf ?_)|(refine qc 2 ?_;refine mv ?_;refine qf ?_)|(refine qc 3 ?_;skip)))
  refine nw 1 eI S ?_;clear S;intro u h S;(refine mv ?_);refine apd S rfl rfl (r0.ext w S.ext) ?_;clear S;intro v' h S;(refine mv ?_;refine qf ?_);all_goals (repeat' (first|refine qg ?_|refine qh rfl ?_|refine qj ?_|refine qx ?_|refine ql ?_|refine qZ ?_|refine zf ?_))
  refine qi ⟨_,rfl,?_⟩;exact S
def qgZ (x y:Int):Int:=if x<y then -1 else if y<x then 1 else 0
abbrev ltI (x y:Int):Prop:=x<y
def ltL:List Int→List Int→Prop
 | [],[]=>False
 | [],_ :: _=>True
 | _ :: _,[]=>False
 | a :: l,b :: m=>a<b∨(a=b∧ltL l m)
def CmpR (d:Int) (a b:List Int):Prop:=(d<0∧ltL a b)∨(d=0∧a=b)∨(0<d∧ltL b a)
theorem drop_cons {l:List Int} {i:Nat} (h:i<l.length):l.drop i=l.getD i default :: l.drop (i+1):=by
 rw [zG6 h];simp [List.getD,h]
theorem CmpR.step {a b:List Int} {i:Nat} (hi:∀ d,CmpR d (a.drop i) (b.drop i)→CmpR d a b) (ha:i<a.length) (hb:i<b.length) (e:a.getD i default=b.getD i default):∀ d,CmpR d (a.drop (i+1)) (b.drop (i+1))→CmpR d a b:=fun d k=>hi d (by
 rw [drop_cons ha,drop_cons hb,e];rcases k with ⟨k1,k2⟩|⟨k1,k2⟩|⟨k1,k2⟩
 ·exact .inl ⟨k1,.inr ⟨rfl,k2⟩⟩
 ·exact .inr (.inl ⟨k1,by rw [k2]⟩)
 ·exact .inr (.inr ⟨k1,.inr ⟨rfl,k2⟩⟩))
theorem qas {h0:AH} (w:WfH h0) (v u:Value) (a b:List Int) (ra:qY h0 v 1 eI a) (rb:qY h0 u 1 eI b) (ha:a.length≤1000000):Fn Tryz.prog Xh 38 [v,u] h0 (fun r h'=>qI r (a=b)∧Hs h0 h' []):=by
 have S:=Hs.start w;refine qF (by first|rfl|exact KX.no _ _ _ (by decide) rfl) Tryz.func38 rfl rfl ?_;all_goals (repeat' (first|refine qg ?_|refine qh rfl ?_|refine qj ?_|refine qx ?_|refine ql ?_|refine qZ ?_|refine zf ?_|(refine qc 0 ?_;refine mv ?_;refine qf ?_)|(refine qc 1 ?_;refine mv ?_;(first|refine zT S ?_|refine wM S rfl rfl ?_);refine mv ?_;(first|refine zT S ?_|refine wM S rfl rfl ?_);(first|refine cT ?_|refine cF ?_|(refine cS ?_ ?_<;>intro hc))<;>(refine qf ?_))|(refine qc 2 ?_;refine mv ?_;refine qf ?_)))
 ·refine qi ⟨_,rfl,?_⟩;exact ⟨.inr ⟨rfl,fun q=>by subst q;exact hc rfl⟩,S⟩
 have hl:a.length=b.length:=by omega
 all_goals (repeat' (first|refine qg ?_|refine qh rfl ?_|refine qj ?_|refine qx ?_|refine ql ?_|refine qZ ?_|refine zf ?_|(refine qc 3 ?_;refine mv ?_;(first|refine zT S ?_|refine wM S rfl rfl ?_);refine mv ?_;refine qf ?_)))
 refine qG (σ:=Nat) (fun i h'=>Hs h0 h' []∧i≤a.length∧∀ j,j<i→a.getD j default=b.getD j default) (fun i=>a.length - i) (fun i=>[(0,v),(1,u),(12,.int .i64 a.length),(13,.int .i64 i)]) 0 qw ?_ ?_
 ·exact ⟨S,zB0 _,fun j hj=>absurd hj (zB7 _)⟩
 clear S;rintro i h ⟨S,h1,h2⟩;all_goals (repeat' (first|refine qg ?_|refine qh rfl ?_|refine qj ?_|refine qx ?_|refine ql ?_|refine qZ ?_|refine zf ?_|(refine qc 4 ?_;(first|refine cT ?_|refine cF ?_|(refine cS ?_ ?_<;>intro hc))<;>(refine qf ?_))|(refine qc 5 ?_;refine mv ?_;refine mv ?_;refine qf ?_)|(refine qQ 6 ?_;refine mv ?_;refine mv ?_;(first|refine jB S ?_|refine Xc S rfl rfl ?_);(first|refine lB S rfl rfl ?_|refine XD S rfl rfl ?_|refine jA S ?_|refine lH S ?_);refine mv ?_;refine mv ?_;(first|refine jB S ?_|refine Xc S rfl rfl ?_);(first|refine lB S rfl rfl ?_|refine XD S rfl rfl ?_|refine jA S ?_|refine lH S ?_);(first|refine cT ?_|refine cF ?_|(refine cS ?_ ?_<;>intro hc))<;>(refine qf ?_))|(refine qc 7 ?_;refine mv ?_;refine qf ?_)))
 all_goals (try simp only [zA0] at *)
 ·refine qi ⟨_,rfl,?_⟩;exact ⟨.inr ⟨rfl,fun q=>by subst q;exact hc rfl⟩,S⟩
 ·all_goals (repeat' (first|refine qg ?_|refine qh rfl ?_|refine qj ?_|refine qx ?_|refine ql ?_|refine qZ ?_|refine zf ?_|(refine qc 8 ?_;(first|refine ad ?_|refine vl ?_);refine mv ?_;refine qf ?_)))
  refine ⟨i+1,?_,?_,qw⟩
  ·show a.length - (i+1)<a.length - i;omega
  ·exact ⟨S,by omega,jr h2 (by omega)⟩
 ·all_goals (repeat' (first|refine qg ?_|refine qh rfl ?_|refine qj ?_|refine qx ?_|refine ql ?_|refine qZ ?_|refine zf ?_|(refine qc 9 ?_;refine mv ?_;refine qf ?_)))
  refine qi ⟨_,rfl,?_⟩;refine ⟨.inl ⟨rfl,List.ext_getElem hl fun j k1 k2=>?_⟩,S⟩;have:=h2 j (by omega);rw [zA2,zA2,zA4 k1,zA4 k2] at this;exact this
end Go.Proofs.Xx
namespace Go.Proofs.Xx
structure Met (d:Int→Int→Int):Prop where
 nn:∀ a b,0≤d a b
 z:∀ a,d a a=0
 sym:∀ a b,d a b=d b a
 tri:∀ a b c,d a c≤d a b+d b c
def QN (d:Int→Int→Int):Int→List Int→Int→Int
 | a,[],b=>d a b
 | a,t :: l,b=>d a t+QN d t l b
theorem kN {d:Int→Int→Int}:∀ (l:List Int) (a t:Int) (r:List Int) (b:Int),QN d a (l ++ t :: r) b=QN d a l t+QN d t r b
 | [],a,t,r,b=>rfl
 | x :: l,a,t,r,b=>by
  rw [zC6,QN,QN,kN l x t r b];omega
theorem pY {d:Int→Int→Int} (m:Met d):∀ (l:List Int) (a b:Int),d a b≤QN d a l b
 | [],a,b=>Int.le_refl _
 | x :: l,a,b=>by
  have h1:=pY m l x b;have h2:=m.tri a x b;rw [QN];omega
theorem qcx {d:Int→Int→Int} (m:Met d) (l:List Int) (a b:Int):0≤QN d a l b:=by
 have h1:=pY m l a b;have h2:=m.nn a b;omega
def tour (d:Int→Int→Int) (l:List Int):Int:=QN d (-1) l (-1)
def qeT (stops:List Int):Nat→List Int→List (List Int)
 | 0,done=>[done]
 | n+1,done=>stops.flatMap fun t=>if t∈done then [] else qeT stops n (done ++ [t])
abbrev Kz:=List Int×Int
def qdO (L:List Int→Int) (s:Kz) (c:List Int):Kz:=if s.2<0∨L c<s.2 then (c,L c) else s
inductive Cov (d:Int→Int→Int):List Int→List Int→Int→Prop where
 | nil {J:List Int}:Cov d J [] 0
 | snoc {J R:List Int} {c x p:Int} (h:Cov d J R c) (hp:p∈J∨p∈R):Cov d J (R ++ [x]) (c+d x p)
theorem Cov.mono {d:Int→Int→Int} {J J' R:List Int} {c:Int} (h:Cov d J R c) (hs:∀ x∈J,x∈J'):Cov d J' R c:=by
 induction h with
 | nil=>exact .nil
 | snoc _ hp ih=>exact .snoc ih (hp.imp (hs _) id)
theorem Cov.shift {d:Int→Int→Int} {J J' R:List Int} {c p v:Int} (h:Cov d (p :: J) R c) (hv:v∈J') (hs:∀ x∈J,x∈J'):Cov d J' (p :: R) (c+d p v):=by
 generalize hJ:p :: J=K at h
 induction h with
 | nil =>
  have:=Cov.snoc (d:=d) (J:=J') (R:=[]) (c:=0) (x:=p) (p:=v) .nil (.inl hv);simpa using this
 | @snoc R c x q h hq ih =>
  subst hJ;have:=Cov.snoc (x:=x) (p:=q) ih (by
   rcases hq with hq|hq
   ·rcases zE7.1 hq with rfl|hq
    ·exact .inr (by simp)
    ·exact .inl (hs _ hq)
   ·exact .inr (List.mem_cons_of_mem _ hq))
  have e:c+d p v+d x q=c+d x q+d p v:=by omega
  rw [e] at this;exact this
theorem Cov.exch {d:Int→Int→Int} (m:Met d) {J:List Int} {w:Int} {R:List Int} {c:Int} (h:Cov d J R c):∀ {v:Int},v∈R→(∀ x∈R,∀ y∈J,w≤d x y)→R.Nodup →
 ∃ R' c',R'.Perm (R.erase v)∧Cov d (v :: J) R' c'∧c'+w≤c:=by
 induction h with
 | nil=>intro v hv;cases hv
 | @snoc R c x p h hp ih =>
  intro v hv hw hnd;rw [zG3] at hnd;obtain ⟨nd,-,ndx⟩:=hnd;have hxR:x ∉ R:=fun q=>ndx x q x (by simp) rfl;have hw0:∀ y∈R,∀ z∈J,w≤d y z:=fun y hy=>hw y (List.mem_append_left _ hy);by_cases e:v=x
  ·subst e;have eR:(R ++ [v]).erase v=R:=by rw [List.erase_append_right _ hxR];simp
   rw [eR];by_cases hpR:p∈R
   ·obtain ⟨R',c',k1,k2,k3⟩:=ih hpR hw0 nd;refine ⟨p :: R',c'+d p v,?_,k2.shift (by simp) fun y hy=>List.mem_cons_of_mem _ hy,?_⟩
    ·exact (k1.cons p).trans (List.perm_cons_erase hpR).symm
    ·have:=m.sym v p;omega
   ·have hpJ:p∈J:=hp.resolve_right hpR;have:=hw v (by simp) p hpJ;exact ⟨R,c,.refl _,h.mono fun y hy=>List.mem_cons_of_mem _ hy,by omega⟩
  ·have hvR:v∈R:=by
    rcases zB8.1 hv with q|q
    ·exact q
    ·exact absurd (zB5.1 q) e
   obtain ⟨R',c',k1,k2,k3⟩:=ih hvR hw0 nd;refine ⟨R' ++ [x],c'+d x p,?_,k2.snoc ?_,by omega⟩
   ·rw [List.erase_append_left _ hvR];exact k1.append_right [x]
   ·by_cases q:p=v
    ·exact .inl (by simp [q])
    ·rcases hp with hp|hp
     ·exact .inl (List.mem_cons_of_mem _ hp)
     ·exact .inr (k1.mem_iff.2 ((List.mem_erase_of_ne q).2 hp))
inductive Prim (d:Int→Int→Int):List Int→List Int→Int→Prop where
 | nil {J:List Int}:Prim d J [] 0
 | step {J L:List Int} {c v u:Int} (hv:v∈L) (hu:u∈J) (hm:∀ x∈L,∀ y∈J,d v u≤d x y) (h:Prim d (v :: J) (L.erase v) c):Prim d J L (d v u+c)
theorem Cov.perm0 {d:Int→Int→Int} {J R:List Int} {c:Int} (h:Cov d J R c) (hR:R=[]):c=0:=by
 cases h with
 | nil=>rfl
 | snoc _ _=>simp at hR
theorem Prim.le {d:Int→Int→Int} (m:Met d) {J L:List Int} {c:Int} (h:Prim d J L c):∀ {R:List Int} {e:Int},R.Perm L→L.Nodup→Cov d J R e→c≤e:=by
 induction h with
 | nil=>intro R e hp _ k;rw [k.perm0 (List.perm_nil.1 hp)];exact Int.le_refl _
 | @step J L c v u hv hu hm h ih =>
  intro R e hp nd k;obtain ⟨R',e',k1,k2,k3⟩:=Cov.exch m k (hp.mem_iff.2 hv) (fun x hx y hy=>hm x (hp.mem_iff.1 hx) y hy) (hp.symm.nodup nd);have:=ih (k1.trans (hp.erase v)) (nd.erase v) k2;omega
theorem Cov.way {d:Int→Int→Int} (m:Met d) (a b:Int):∀ (R:List Int),∃ e,Cov d [a] R e∧e≤QN d a R b:=fun R=>by
 have key:∀ (n:Nat) (R:List Int),R.length=n→∀ b,∃ e,Cov d [a] R e∧e+d (R.getLast?.getD a) b≤QN d a R b:=by
  intro n;induction n with
  | zero=>intro R h b;rw [zE8.1 h];exact ⟨0,.nil,by simp [QN]⟩
  | succ n ih =>
   intro R h b;rcases List.eq_nil_or_concat R with rfl|⟨R',x,rfl⟩
   ·cases h
   ·rw [List.concat_eq_append] at h ⊢;obtain ⟨e,k1,k2⟩:=ih R' (by simpa using h) x;refine ⟨e+d x (R'.getLast?.getD a),k1.snoc ?_,?_⟩
    ·cases hq:R'.getLast? with
     | none=>exact .inl (by simp)
     | some y=>exact .inr (List.mem_of_getLast? hq)
    ·rw [kN,m.sym x];simp [QN]
     omega
 obtain ⟨e,k1,k2⟩:=key _ R rfl b;have:=m.nn (R.getLast?.getD a) b;exact ⟨e,k1,by omega⟩
theorem wR {d:Int→Int→Int} (m:Met d) (a:Int):∀ (l:List Int) (v u b:Int),u=a∨u∈l→∃ l',l'.Perm (v :: l)∧QN d a l' b≤QN d a l b+2*d v u
 | l,v,u,b,h=>by
  by_cases e:u=a
  ·subst e;refine ⟨v :: l,.refl _,?_⟩;rw [QN];have h1:=m.sym v u;cases l with
   | nil=>rw [QN,QN];have:=m.tri v u b;omega
   | cons t l=>rw [QN,QN];have:=m.tri v u t;omega
  ·have hu:u∈l:=h.resolve_left e;cases l with
   | nil=>cases hu
   | cons t l =>
    obtain ⟨l',k1,k2⟩:=wR m t l v u b (by rcases zE7.1 hu with q|q;exact .inl q;exact .inr q);refine ⟨t :: l',(k1.cons t).trans (List.Perm.swap v t l),?_⟩;rw [QN,QN];omega
theorem Prim.tour {d:Int→Int→Int} (m:Met d) (a b:Int) {J L:List Int} {c:Int} (h:Prim d J L c):∀ {K:List Int},(∀ x∈J,x=a∨x∈K)→∃ l,l.Perm (L ++ K)∧QN d a l b≤QN d a K b+2*c:=by
 induction h with
 | nil=>intro K _;exact ⟨K,.refl _,by omega⟩
 | @step J L c v u hv hu hm h ih =>
  intro K hK;obtain ⟨K',k1,k2⟩:=wR m a K v u b (hK u hu);obtain ⟨l,k3,k4⟩:=ih (K:=K') fun x hx=>by
   rcases zE7.1 hx with rfl|hx
   ·exact .inr (k1.mem_iff.2 (by simp))
   ·exact (hK x hx).imp id fun q=>k1.mem_iff.2 (List.mem_cons_of_mem _ q)
  refine ⟨l,k3.trans ?_,by omega⟩;have p1:(L.erase v ++ K').Perm (L.erase v ++ (v :: K)):=k1.append_left _;have p2:(L.erase v ++ (v :: K)).Perm (v :: (L.erase v ++ K)):=List.perm_middle;have p3:(v :: (L.erase v ++ K)).Perm (L ++ K):=by
   rw [← zC6];exact (List.perm_cons_erase hv).symm.append_right K
  exact p1.trans (p2.trans p3)
end Go.Proofs.Xx
namespace Go.Proofs.Xx
def qgT (a b:List Int):Prop:=∃ pre x y s t,a=pre ++ x :: s∧b=pre ++ y :: t∧x<y
end Go.Proofs.Xx
namespace Go.Proofs.Xx
def qfv (l:List Int):Int:=l.getLast?.getD (-1)
def qgG (d:Int→Int→Int) (l:List Int):Int:=tour d l - d (qfv l) (-1)
def qgQ (stops:List Int) (n:Nat) (done:List Int) (i:Nat):List (List Int):=(stops.take i).flatMap fun t=>if t∈done then [] else qeT stops n (done ++ [t])
section
variable {P:Program} {X:Extern} {ops:Array Oper} {os:List Oper} {o:Oper} {sz:Nat} {h h0:AH} {rs:List Rs} {R:Ks→AH→Prop}
inductive HSteps (P:Program) (ops:Array Oper) (sz:Nat) (h:AH):Ks→List Nat→Ks→Prop where
 | nil {L:Ks}:HSteps P ops sz h L [] L
 | cons {L L1 L':Ks} {k:Nat} {ks:List Nat} {ok:Oper} {v:Value} {h':AH} (hok:ops[k]? = some ok) (hg:qm ops L.tree ok.guard=some true) (ha:zC P L.tree h ok.op=some (.val v h')) (hd:qB sz L ok.dst v=some L1) (r:HSteps P ops sz h L1 ks L'):HSteps P ops sz h L (k :: ks) L'
theorem HSteps.mv {L L1 L':Ks} {k:Nat} {ks:List Nat} {ok:Oper} {v:Value} {x:Operand} (hok:ops[k]? = some ok) (hm:ok.op = .move x) (hx:kA L x=some v) (hg:qm ops L.tree ok.guard=some true) (hd:qB sz L ok.dst v=some L1) (r:HSteps P ops sz h L1 ks L'):HSteps P ops sz h L (k :: ks) L' :=
 .cons (h':=h) hok hg (by rw [hm];simp only [zC,qA hx,qH]) hd r
theorem HSteps.bin {L L1 L':Ks} {k:Nat} {ks:List Nat} {ok:Oper} {op:BinOp} {x y:Operand} {ty ty2:TypeId} {a b v:Value} (hv:jM P op ty a b=some v) (hok:ops[k]? = some ok) (hm:ok.op = .binOp op ty x y ty2) (hx:kA L x=some a) (hy:kA L y=some b) (hg:qm ops L.tree ok.guard=some true) (hd:qB sz L ok.dst v=some L1) (r:HSteps P ops sz h L1 ks L'):HSteps P ops sz h L (k :: ks) L' :=
 .cons (h':=h) hok hg (by rw [hm];simp only [zC,qA hx,qA hy,hv,qH]) hd r
theorem HSteps.cU {L L1 L':Ks} {k:Nat} {ks:List Nat} {ok:Oper} {x:Operand} {s d:TypeId} {k1 k2:IntKind} {a:Int} (hb:0≤a∧a≤255) (hok:ops[k]? = some ok) (hm:ok.op = .convert s d x) (hx:kA L x=some (.int k1 a)) (hs:P.underlying s=some (.int k2)) (hd':P.underlying d=some (.int .u8)) (hg:qm ops L.tree ok.guard=some true) (hd:qB sz L ok.dst (.int .u8 a)=some L1) (r:HSteps P ops sz h L1 ks L'):HSteps P ops sz h L (k :: ks) L' :=
 .cons (h':=h) hok hg (by rw [hm];simp only [zC,qA hx,zD,hs,hd',wrap_u8 hb]) hd r
theorem HSteps.run {L L':Ks} {ks:List Nat} (s:HSteps P ops sz h L ks L'):∀ {t:Tr Value},Kn t L→Kn (ks.foldl (xM P ops sz h) t) L':=by
 induction s with
 | nil=>intro t hk;exact hk
 | @cons _ _ _ k _ _ _ _ hok hg ha hd r ih =>
  intro t hk;obtain ⟨t1,e1,k1⟩:=JX hk hd;rw [List.foldl_cons];have:xM P ops sz h t k=t1:=by
   unfold xM;simp only [hok,jL hk.tle hg,WQ hk.tle ha,e1]
  rw [this];exact ih k1
theorem HintOk.many {L L':Ks} {j:Nat} {ks:List Nat} {o:Oper} {x:Option Nat} {c:List Value} {e:TypeId} (hp:y8 ops (masks ops.toList []) j=ks) (ho:ops[j]? = some o) (s:HSteps P ops sz h L ks L') (hf:jJ P L'.tree o.op=some (x,c,e)):HintOk P ops sz L h j c e:=fun t hk=>by
 unfold JZ;rw [ho,hp];simp only [J7 (s.run hk).tle hf]
theorem qcv {ty:TypeId} {a b:Int} (h1:0≤a) (h2:0<b):jM P .rem ty (.int .i64 a) (.int .i64 b)=some (.int .i64 (a % b)):=by
 have h3:¬ b=0:=by omega
 have h4:a.tmod b=a % b:=Int.tmod_eq_emod_of_nonneg h1;simp only [jM,decide_true,decide_eq_false h3,h4]
end
def qeM (L:List (Value×List Int)) (h:AH) (fp:Fp):Prop:=∀ x∈L,(Rs.rd x.1 1 eI x.2).ok h fp
abbrev qdy (L:List (Value×List Int)):Rs:=.any (qeM L)
class InP (L:List (Value×List Int)) (v:Value) (l:outParam (List Int)):Prop where
 mem:(v,l)∈L
theorem qff {h:AH} {fp:Fp} {v:Value} {l:List Int} (q:(Rs.rd v 1 eI l).ok h fp):qY h v 1 eI l:=by
 rcases q with ⟨q1,q2⟩|⟨b,o,cap,cc,e,s,r,q1,q2,q3,q4⟩
 ·exact .inl ⟨q1,by rw [q2];rfl,by rw [q2];rfl⟩
 ·exact .inr ⟨b,o,cap,cc,e,s,r,q1,q2,q4⟩
instance HasR.pool {L:List (Value×List Int)} {v:Value} {l:List Int} {rs:List Rs} [i:InP L v l]:HasR (qdy L :: rs) v Int 1 eI l:=⟨fun S=>by
 obtain ⟨fp,k⟩:=S.anyP .here;exact qff (k _ i.mem)⟩
def cvW (b9 b2 b5 b4 b10:Nat):Value:=.func (.func 90) #[] #[.pointer (some ⟨b9,0,none⟩),.pointer (some ⟨b2,0,none⟩),.pointer (some ⟨b5,0,none⟩),.pointer (some ⟨b4,0,none⟩),.pointer (some ⟨b10,0,none⟩)]
abbrev rtR (v:PbV) (b9 b2 b5 b4 b10:Nat) (vs:Value) (stops:List Int) (L:List (Value×List Int)) (vw:Value) (al:Int):List Rs :=
 [qdy L,.blk b4 [vw] 25,.blk b5 [.int .i64 al] 3,.sl vs 3 1 eI stops,.blk b9 [vs] 25,.blk b2 v.cs 28,.blk b10 [cvW b9 b2 b5 b4 b10] 133]
noncomputable def qgL (p:Pb) (q:List Int):Kz:=(qeT (srv (qbk p q)) (srv (qbk p q)).length []).foldl (qdO (tour (stp p.tabs))) ([],-1)
structure Chg (h h':AH) (b:Nat) (o:jP):Prop where
 at_:h'.get b=some o
 old:∀ j,j≠b→j<h.next→h'.get j=h.get j
 next:h.next≤h'.next
 wf:WfH h'
theorem Chg.trans {h h' h'':AH} {b:Nat} {o o':jP} (c:Chg h h' b o) (d:Chg h' h'' b o'):Chg h h'' b o' :=
 ⟨d.at_,fun j hj hn=>(d.old j hj (zE4 hn c.next)).trans (c.old j hj hn),zD0 c.next d.next,d.wf⟩
theorem Gf {c:List Value} {o:Nat} (h:o≤c.length):splice c o []=c:=by simp [splice]
section
variable {P:Program} {X:Extern} {sz:Nat} {L L':Ks} {h:AH} {ops:Array Oper} {os:List Oper} {o:Oper} {R:Ks→AH→Prop}
theorem rwa {x y:Operand} {ts tx e e2:TypeId} {zc new cc:List Value} {by_ b o' n cap m z:Nat} {slk:Option Nat} {u:Value} {d:Tmp} (hb:h.get b=some (.cells cc e2 slk false)) (wf:WfH h) (hr:Rd h u z m new)
 (w:∀ h',Chg h h' b (.cells (splice cc (o'+n*z) new) e2 slk false)→KO P X sz ops os (L.put d (.slice (some ⟨b,o',none⟩) (n+m) cap)) h' R)
 (ho:o.op = .call { callee:=.builtin .append,args:=#[x,y],argTypes:=#[ts,tx] }:=by exact rfl) (hg:qm ops L.tree o.guard=some true:=by exact rfl) (hx:kA L x=some (.slice (some ⟨b,o',none⟩) n cap):=by exact rfl) (hy:kA L y=some u:=by exact rfl)
 (hs:qJ P ts=some e:=by exact rfl) (hz:qM P e=some zc:=by exact rfl) (hzl:zc.length=z:=by exact rfl) (hby:jH P e=some (by_+1):=by exact rfl) (hxs:P.underlying tx=some (.slice e):=by exact rfl)
 (hc:n+m≤cap:=by omega) (hcc:o'+cap*z≤cc.length:=by assumption) (h1:new.all one? = true:=by assumption) (hsz:(m+1)*(by_+1)≤140737488355328:=by omega) (hdst:o.dst=some d:=by exact rfl) (hds:Nat.blt d sz=true:=by exact rfl):KO P X sz ops (o :: os) L h R:=by
 subst hzl;have hlen:=hr.length;have hfit:o'+n*zc.length+new.length≤cc.length:=by
  rw [hlen,zF6,← zE1];exact zD0 (Nat.add_le_add_left (zD3 _ hc) _) hcc
 have k2:Nat.beq new.length (m*zc.length)=true:=by rw [hlen];simp
 have hsrc:QG zc.length u h=some (m,new):=hr.source;have go:∀ h',zB P [ts,tx] (.slice (some ⟨b,o',none⟩) n cap) u h=some (.slice (some ⟨b,o',none⟩) (n+m) cap,h')→Chg h h' b (.cells (splice cc (o'+n*zc.length) new) e2 slk false)→KO P X sz ops (o :: os) L h R:=fun h' q1 q2=>by
  refine qV (v:=.slice (some ⟨b,o',none⟩) (n+m) cap) (h':=h') hg ?_ (by simp only [qB,hdst,hds]) (w h' q2);rw [ho];simp [zC,qA hx,qA hy,ja,zQ,q1,jy]
 cases m with
 | zero =>
  have hn:new=[]:=zE8.1 (by omega);subst hn;refine go h ?_ ⟨by rw [Gf (by simp at hfit;omega)];exact hb,fun _ _ _=>rfl,zA3 _,wf⟩;simp only [zB,hs,hxs,hz,hby,hsrc,zB3 hsz,h1,k2,zF8,hb,zB3 (show n≤cap from hc),Nat.add_zero]
 | succ m =>
  refine go (h.put b (.cells (splice cc (o'+n*zc.length) new) e2 slk false)) ?_ ⟨by rw [AH.get_put,if_pos rfl],fun j hj _=>by rw [AH.get_put,if_neg hj],zA3 _,wf.put (wf.lt hb) _⟩;simp only [zB,hs,hxs,hz,hby,hsrc,zB3 hsz,h1,k2,zF8,hb,zB3 hc,putCells,zB3 hfit]
end
def Bst (d:Int→Int→Int) (L J:List Int) (i k best:Nat) (least:Int):Prop :=
 (i=0∧k=0∧best=0∧least = -1)∨(best<L.length∧0≤least∧(∃ u∈J,least=d (L.getD best default) u)∧(∀ j,j<i→∀ y∈J,least≤d (L.getD j default) y)∧∀ m,m<k→least≤d (L.getD i default) (J.getD m default))
theorem Bst.new {d:Int→Int→Int} (m:Met d) {L J:List Int} {i k best:Nat} {least:Int} (h:Bst d L J i k best least) (hi:i<L.length) (hk:k<J.length) (hx:least<0∨d (L.getD i default) (J.getD k default)<least) :
 Bst d L J i (k+1) i (d (L.getD i default) (J.getD k default)):=by
 refine .inr ⟨hi,m.nn _ _,⟨_,qL hk,rfl⟩,?_,?_⟩
 ·rcases h with ⟨rfl,-,-,-⟩|⟨-,h2,-,h4,-⟩
  ·exact fun j hj=>absurd hj (zB7 _)
  ·exact fun j hj y hy=>by have:=h4 j hj y hy;omega
 ·rcases h with ⟨-,rfl,-,-⟩|⟨-,h2,-,-,h5⟩
  ·intro j hj;rw [show j=0 by omega];exact Int.le_refl _
  ·exact jr (fun j hj=>by have:=h5 j hj;omega) (Int.le_refl _)
theorem Bst.old {d:Int→Int→Int} {L J:List Int} {i k best:Nat} {least:Int} (h:Bst d L J i k best least) (hx:¬ least<0) (hy:¬ d (L.getD i default) (J.getD k default)<least):Bst d L J i (k+1) best least:=by
 rcases h with ⟨-,-,-,rfl⟩|⟨h1,h2,h3,h4,h5⟩
 ·exact absurd (show (-1:Int)<0 by omega) hx
 ·exact .inr ⟨h1,h2,h3,h4,jr h5 (by omega)⟩
theorem Bst.row {d:Int→Int→Int} {L J:List Int} {i best:Nat} {least:Int} (h:Bst d L J i J.length best least) (hJ:J≠[]):Bst d L J (i+1) 0 best least:=by
 rcases h with ⟨-,h,-,-⟩|⟨h1,h2,h3,h4,h5⟩
 ·exact absurd (zE8.1 h) hJ
 ·refine .inr ⟨h1,h2,h3,jr h4 fun y hy=>?_,fun m hm=>absurd hm (zB7 _)⟩;obtain ⟨j,hj,rfl⟩:=qR.1 hy;exact h5 j hj
theorem Bst.fin {d:Int→Int→Int} {L J:List Int} {best:Nat} {least:Int} (h:Bst d L J L.length 0 best least) (hL:0<L.length):best<L.length∧0≤least∧∃ u∈J,least=d (L.getD best default) u∧∀ x∈L,∀ y∈J,d (L.getD best default) u≤d x y:=by
 rcases h with ⟨h,-,-,-⟩|⟨h1,h2,⟨u,h3,h4⟩,h5,-⟩
 ·omega
 ·refine ⟨h1,h2,u,h3,h4,fun x hx y hy=>?_⟩;obtain ⟨j,hj,rfl⟩:=qR.1 hx;rw [← h4];exact h5 j hj y hy
end Go.Proofs.Xx
namespace Go.Proofs.Xx
def exch (l:List Int) (a b:Nat):List Int:=(l.set a (l.getD b default)).set b (l.getD a default)
def e82 (x:Nat×Nat):List Value:=[.int .u8 x.1,.int .u8 x.2]
end Go.Proofs.Xx
namespace Go.Proofs.Xx
def qaR (ld:Int→Int):List Int→Int
 | []=>0
 | t :: l=>ld t+qaR ld l
def seg (w:List Int) (i j:Nat):List Int:=(w.drop i).take (j - i)
theorem qa1 {w:List Int} {i j:Nat} (h:i≤j):seg w i j ++ w.drop j=w.drop i:=by
 have:=zG9 (j - i) (w.drop i);rw [List.drop_drop,show i+(j - i)=j by omega] at this;exact this
def qf6 (ld:Int→Int) (k:Int) (c:List (List Int)):Prop:=∀ p∈c,p≠[]∧qaR ld p≤k
def cost (d:Int→Int→Int):List (List Int)→Int
 | []=>0
 | p :: c=>tour d p+cost d c
def BestC (d:Int→Int→Int) (ld:Int→Int) (k:Int) (w:List Int) (i:Nat) (f:Int):Prop:=∀ c,qf6 ld k c→c.flatten=w.drop i→f≤cost d c
theorem BestC.last {d:Int→Int→Int} (m:Met d) {ld:Int→Int} {k:Int} {w:List Int}:BestC d ld k w w.length 0:=fun c _ h=>by
 rw [List.drop_length] at h;induction c with
 | nil=>exact Int.le_refl _
 | cons p c ih =>
  simp only [List.flatten_cons,List.append_eq_nil_iff] at h;have h1:=qcx m p (-1) (-1);have h2:=ih (fun q hq=>by rename_i hc;exact hc q (List.mem_cons_of_mem _ hq)) h.2;show 0≤tour d p+cost d c
  unfold tour;omega
theorem BestC.step {d:Int→Int→Int} {ld:Int→Int} {k:Int} {w:List Int} {i:Nat} {f:Int} {F:Nat→Int} (hi:i<w.length) (hF:∀ j,i<j→j≤w.length→BestC d ld k w j (F j))
 (h:∀ j,i<j→j≤w.length→qaR ld (seg w i j)≤k→f≤tour d (seg w i j)+F j):BestC d ld k w i f:=fun c hc e=>by
 cases c with
 | nil =>
  have:=congrArg List.length e;simp at this;omega
 | cons p c =>
  obtain ⟨h1,h2⟩:=hc p (by simp);have hp:0<p.length:=List.length_pos_iff.2 h1;rw [List.flatten_cons] at e;have el:=congrArg List.length e;simp only [zB2,zB4] at el;have es:seg w i (i+p.length)=p:=by
   unfold seg;rw [← e,show i+p.length - i=p.length by omega];simp
  have ed:c.flatten=w.drop (i+p.length):=by
   have:=qa1 (w:=w) (i:=i) (j:=i+p.length) (by omega);rw [es,← e] at this;exact (List.append_cancel_left this).symm
  have h3:=h (i+p.length) (by omega) (by omega) (by rw [es];exact h2);have h4:=hF (i+p.length) (by omega) (by omega) c (fun q hq=>hc q (List.mem_cons_of_mem _ hq)) ed;rw [es] at h3;show f≤tour d p+cost d c
  omega
section
variable {P:Program} {X:Extern} {sz:Nat} {L L':Ks} {h h0:AH} {rs:List Rs} {ops:Array Oper} {os:List Oper} {o:Oper} {R:Ks→AH→Prop}
end
abbrev zY {α:Type} (f:α→Rs) (l:List α):Rs:=.any (fun h fp=>Star h (l.map f) fp)
theorem Star.snoc_ {h:AH} {r:Rs} {fp:Fp} (hr:r.ok h fp):∀ {l:List Rs} {U:Fp},Star h l U→(∀ b,fp b→¬ U b)→Star h (l ++ [r]) (fun b=>U b∨fp b)
 | [],U,_,_=>⟨fp,hr,fun b hb=>.inr hb,trivial⟩
 | x :: l,U,⟨fx,h1,h2,h3⟩,hd=>⟨fx,h1,fun b hb=>.inl (h2 b hb),(Star.snoc_ hr h3 fun b hb q=>hd b hb q.1).mono fun b hb=>by
  rcases hb with hb|hb
  ·exact ⟨.inl hb.1,hb.2⟩
  ·exact ⟨.inr hb,fun q=>hd b hb (h2 b q)⟩⟩
section
variable {α:Type} {f:α→Rs} {h0 h:AH} {rs:List Rs} {gs:List α} {g:α}
theorem Hs.owNil (S:Hs h0 h rs):Hs h0 h (zY f [] :: rs):=S.anyS fun h'=>trivial
theorem Hs.owApp (S:Hs h0 h (f g :: zY f gs :: rs)):Hs h0 h (zY f (gs ++ [g]) :: rs):=by
 obtain ⟨f1,k1,k2,f2,k3,k4,k5⟩:=S.sep;refine ⟨S.ext,fun b=>f2 b∨f1 b,fun h' q=>?_,fun b hb=>?_,k5.mono fun b hb=>⟨trivial,fun q=>?_⟩⟩
 ·rw [zC9];exact Star.snoc_ (k1.local fun b hb=>q b (.inr hb)) (k3 h' fun b hb=>q b (.inl hb)) fun b hb q=>(k4 b q).2.2.2 hb
 ·rcases hb with hb|hb
  ·exact ⟨(k4 b hb).1,(k4 b hb).2.1,trivial⟩
  ·exact k2 b hb
 ·rcases q with q|q
  ·exact hb.2 q
  ·exact hb.1.2 q
theorem Star.get_ {r:Rs}:∀ {l:List Rs} {U:Fp},Star h l U→r∈l→∃ fp,r.ok h fp
 | x :: l,U,⟨fx,h1,h2,h3⟩,hr=>by
  rcases zE7.1 hr with rfl|hr
  ·exact ⟨fx,h1⟩
  ·exact Star.get_ h3 hr
theorem yT {α:Type} {v:Value} {e:TypeId} {z:Nat} {enc:α→List Value} {l:List α} {h:AH} {fp:Fp} (k:(Rs.sl v e z enc l).ok h fp):qY h v z enc l:=by
 rcases k with ⟨rfl,rfl⟩|⟨b,o,cc,slk,cap,h1,h2,h3,h4,-⟩
 ·exact .inl ⟨rfl,rfl,rfl⟩
 ·exact .inr ⟨b,o,_,cc,e,slk,false,h1,h2,h4⟩
end
def ldP (pl:List Int) (t:Int):Int:=pl.getD t.toNat default
structure B3 where
 s:Int
 t:Int
 e:Int
instance:Inhabited B3:=⟨⟨0,0,0⟩⟩
def e3 (x:B3):List Value:=[.int .i64 x.s,.int .i64 x.t,.int .i64 x.e]
structure Tr_ where
 tv:SlV
 ta:List Int
 pl:Int
 st:Int
instance:Inhabited Tr_:=⟨⟨⟨none,0,0⟩,[],0,0⟩⟩
def jo (x:Tr_):List Value:=[x.tv.val,.int .i64 x.pl,.int .i64 x.st]
abbrev zy (x:Tr_):Rs:=.sl x.tv.val 3 1 eI x.ta
structure FrI (p:Pb) (ld:Int→Int) (k:Int) (way:List Int) (m:Nat) (F:List B3):Prop where
 len:F.length=way.length+1
 best:∀ j,m≤j→j≤way.length→BestC (stp p.tabs) ld k way j (F.getD j default).s
 last:(F.getD way.length default).s=0
 bnd:∀ j,j≤way.length→(0≤(F.getD j default).s∧(F.getD j default).s≤4000*(way.length - j:Int))∧0≤(F.getD j default).t∧(F.getD j default).t≤(way.length - j:Int)
 stp_:∀ j,m≤j→j<way.length→∃ e:Nat,(F.getD j default).e=e∧j<e∧e≤way.length∧qaR ld (seg way j e)≤k∧(F.getD j default).s=tour (stp p.tabs) (seg way j e)+(F.getD e default).s
def qgx (p:Pb) (ld:Int→Int) (k:Int) (x:Tr_):Prop:=x.ta≠[]∧x.pl=qaR ld x.ta∧x.st=tour (stp p.tabs) x.ta∧x.pl≤k
def qgP (p:Pb) (ld:Int→Int) (k:Int) (stops:List Int) (ts:List Tr_):Prop:=((ts.map (·.ta)).flatten).Perm stops∧∀ x∈ts,qgx p ld k x
theorem V9 {h0 h:AH} {rs:List Rs} {ts:List Tr_} (S:Hs h0 h rs) (a:At rs (zY zy ts)) {i:Nat} (hi:i<ts.length):qY h (ts.getD i default).tv.val 1 eI (ts.getD i default).ta:=by
 obtain ⟨fp,k⟩:=S.anyP a;obtain ⟨f2,k2⟩:=Star.get_ (r:=zy (ts.getD i default)) k (zF0.2 ⟨_,qL hi,rfl⟩);exact yT k2
end Go.Proofs.Xx
namespace Go.Proofs.Xx
def qfx:(Nat→Int)→List Int→List Nat→Nat→Int
 | c,x :: q,w :: g=>qfx (fun v=>if v=w then c v+x else c v) q g
 | c,_,_=>c
def qgB (n:Nat):Nat→List Nat→Prop
 | _,[]=>True
 | u,w :: g=>w<min (u+1) n∧qgB n (max u (w+1)) g
def swW (a b v:Nat):Nat:=if v=a then b else if v=b then a else v
def qgv (c:Nat→Int):Nat→Int
 | 0=>0
 | n+1=>qgv c n+c n
end Go.Proofs.Xx
namespace Go.Proofs.Xx
def mxF (f:Nat→Int):Nat→Int
 | 0=>0
 | n+1=>max (mxF f n) (f n)
def lds (qs c:List Int):Nat→Int:=qfx (fun _=>0) qs (c.map Int.toNat)
def Lw (n:Nat) (qs c:List Int):Int:=mxF (lds qs c) n
def qeU (n:Nat):Nat→Nat→List Int→List (List Int)
 | 0,_,done=>[done]
 | k+1,u,done=>(List.range (min (u+1) n)).flatMap fun w=>qeU n k (max u (w+1)) (done ++ [(w:Int)])
def qg3 (n k u:Nat) (done:List Int) (i:Nat):List (List Int):=(List.range i).flatMap fun w=>qeU n k (max u (w+1)) (done ++ [(w:Int)])
def cvF (b13 b16 b11 b14 b15 b5 b12 b17:Nat):Value:=.func (.func 92) #[] #[.pointer (some ⟨b13,0,none⟩),.pointer (some ⟨b16,0,none⟩),.pointer (some ⟨b11,0,none⟩),.pointer (some ⟨b14,0,none⟩),.pointer (some ⟨b15,0,none⟩),.pointer (some ⟨b5,0,none⟩),.pointer (some ⟨b12,0,none⟩),.pointer (some ⟨b17,0,none⟩)]
abbrev wtR (b13 b16 b11 b14 b15 b5 b12 b17:Nat) (vs vp vc:Value) (stops pl:List Int) (n:Nat) (vw vb:Value) (who best:List Int) (least:Int) (ca:List Int):List Rs :=
 [.sl vw 3 1 eI who,.sl vc 3 1 eI ca,.sl vb 3 1 eI best,.blk b16 [.int .i64 least] 3,.blk b14 [vw] 25,.blk b15 [vb] 25,.blk b13 [vc] 25,.sl vs 3 1 eI stops,.blk b11 [vs] 25,.sl vp 3 1 eI pl,.blk b12 [vp] 25,.blk b5 [.int .i64 n] 3,.blk b17 [cvF b13 b16 b11 b14 b15 b5 b12 b17] 135]
structure qaF where
 sv:SlV
 r:List Int
instance:Inhabited qaF:=⟨⟨⟨none,0,0⟩,[]⟩⟩
def qen (x:qaF):List Value:=[x.sv.val]
abbrev qgD (x:qaF):Rs:=.sl x.sv.val 3 1 eI x.r
def qgq (st best:List Int) (i w:Nat):List Int:=(((st.zip best).take i).filter fun x=>decide (x.2=(w:Int))).map (·.1)
noncomputable def qgM (p:Pb) (q:List Int) (n:Nat):Kz:=(qeU n (srv (qbk p q)).length 0 []).foldl (qdO (Lw n ((srv (qbk p q)).map (ldP (qbk p q))))) ([],-1)
def qgt (st B:List Int) (i:Nat):Nat→List Int
 | 0=>[]
 | n+1=>qgt st B i n ++ qgq st B i n
def ldN (pl:List Int) (n:Int):Int:=max (mxF (fun i=>pl.getD i default) pl.length) (pl.sum / n+min 1 (pl.sum % n))
variable [Flag]
end Go.Proofs.Xx
namespace Go.Proofs.Xx
open Go Go.Proofs
end Go.Proofs.Xx
