/-
  The check of a problem.
-/
import Derived.Test.YtgehpahpnidimaaGreatDoorM10
import Derived.Test.YtgehpahpnidimaaGreatDoorM7
import Derived.Test.YtgehpahpnidimaaGreatDoorM8
set_option linter.unusedSectionVars false
set_option linter.unusedSimpArgs false
set_option linter.unusedVariables false
set_option maxRecDepth 100000
set_option maxHeartbeats 4000000
namespace Go.Proofs.Xx
open Go Go.Proofs
theorem qfY (k:Int):QX (.int .u8) (.int .u8 k) kEs 0=some (if 1≤k∧k≤18 then some (k.toNat - 1,WY k) else none):=by
 by_cases h:1≤k∧k≤18
 ·rw [if_pos h];obtain ⟨h1,h2⟩:=h;have:k=1∨k=2∨k=3∨k=4∨k=5∨k=6∨k=7∨k=8∨k=9∨k=10∨k=11∨k=12∨k=13∨k=14∨k=15∨k=16∨k=17∨k=18:=by omega
  rcases this with rfl|rfl|rfl|rfl|rfl|rfl|rfl|rfl|rfl|rfl|rfl|rfl|rfl|rfl|rfl|rfl|rfl|rfl<;>rfl
 ·rw [if_neg h];have e:∀ (es:List (Value×Value×Nat)) (i:Nat),(∀ e∈es,∃ j:Int,e.1 = .int .u8 j∧1≤j∧j≤18)→QX (.int .u8) (.int .u8 k) es i=some none:=by
   intro es;induction es with
   | nil=>intro i _;rfl
   | cons e es ih =>
    intro i he;obtain ⟨j,h1,h2⟩:=he e (by simp);have hs:Instr.sameNow (.int .u8) (.int .u8 k) e.1=some false:=by
     rw [h1];show some (decide (k=j))=_
     rw [decide_eq_false (by omega)]
    unfold QX;rw [hs];exact ih _ fun x hx=>he x (List.mem_cons_of_mem _ hx)
  refine e kEs 0 fun x hx=>?_;unfold kEs at hx;obtain ⟨i,hi,rfl⟩:=zF1.1 hx;have:=zE3.1 hi;exact ⟨_,rfl,by omega,by omega⟩
theorem kdv (k:Int):mvO (if 1≤k∧k≤18 then some (k.toNat - 1,WY k) else none) (kdV [] ⟨0,false,0,false,0,false⟩ .nilFunc)=WY k:=by
 by_cases h:1≤k∧k≤18
 ·rw [if_pos h];rfl
 ·rw [if_neg h];unfold WY mvO;rw [if_neg h]
theorem Pm {h0:AH} (w:WfH h0) (v:PbV) (p:Pb) (H:PbOk h0 v p) (hv:ValidL p.tabs) (r:Ru) :
 Fn Tryz.prog Xh 116 [WY r.k,v.val,ruV r] h0 (fun u h'=>u = .int .i64 (VQ p r)∧Hs h0 h' []):=by
 unfold WY VQ;by_cases h:1≤r.k∧r.k≤18
 ·rw [if_pos h,if_pos h];refine qaU w _ _ _ v p H hv r ?_ ?_
  ·have:∀ i,i<18→kwL.getD i []≠[]:=by decide
   exact this _ (by omega)
  ·have:∀ i,i<18→(kdL.getD i default).seat=true→(kdL.getD i default).t=116:=by decide
   exact this _ (by omega)
 ·rw [if_neg h,if_neg h];have S:=Hs.start w;unfold kdV eKd ruV JI PbV.val;refine qM (by first|rfl) Tryz.func116 rfl rfl ?_;all_goals (repeat' (first|refine qg ?_|refine qi rfl ?_|refine qp ?_|(refine qc 0 ?_;(refine bx S ?_;clear S;intro b h S);(refine bx S ?_;clear S;intro b h S);(refine bx S ?_;clear S;intro b h S);refine mv ?_;refine qf ?_)|(refine qc 1 ?_;refine vl ?_;refine lB S rfl rfl ?_;(refine tS ?_ ?_<;>intro hc)<;>(refine mv ?_;refine qf ?_))|(refine qc 2 ?_;refine mv ?_;refine qf ?_)))
  ·refine qw ⟨_,rfl,?_⟩;exact ⟨rfl,S.drop⟩
  ·exact absurd rfl hc
def qhu (p:Pb):Prop:=(p.cl.length=0∨p.cl.length=p.us.length)∧∀ c∈p.cl,0≤c∧c<64
theorem qcM {h0:AH} (w:WfH h0) (v:PbV) (p:Pb) (H:PbOk h0 v p):Fn Tryz.prog Xh 114 [v.val] h0 (fun u h'=>∃ i e,u = .tuple #[.int .i64 i,.int .i64 e]∧BasP p i e∧Hs h0 h' []):=by
 have S:=Hs.start w;have hr:=H.rol.rg;have hl:=H.rol.len;have hlg:=H.rol.lg;have hcr:=H.cl;have hcl:=H.lc;have hl':v.gs.length=p.us.length:=hl;have hlg':p.us.length≤9223372036854775807:=hlg;unfold PbV.val;refine qM (by first|rfl) Tryz.func114 rfl rfl ?_;all_goals (repeat' (first|refine qg ?_|(refine qc 0 ?_;(refine bx S ?_;clear S;intro b h S);refine mv ?_;refine mv ?_;refine qf ?_)|(refine qc 1 ?_;refine vl ?_;refine lB S rfl rfl ?_)))
 (refine qx rfl rfl rfl rfl rfl ((Xg S.wf v.vt.val p.tabs (H.tab.ext w S.ext)).mono ?_);rintro _ h ⟨i,e,rfl,hk,x⟩)<;>(replace S:=S.join0 x;clear x;refine mv ?_;refine vl ?_;refine vl ?_;refine mv ?_;refine mv ?_;refine qf ?_)
 all_goals (repeat' (first|refine qg ?_|refine qi rfl ?_|refine qj ?_|(refine qc 2 ?_;refine mv ?_;(first|(refine cS ?_ ?_<;>intro hc))<;>(refine qf ?_))|(refine qc 3 ?_;(iterate 4 refine mv ?_);refine qf ?_)))
 ·refine qw ⟨_,rfl,?_⟩;exact ⟨i,e,rfl,.inl ⟨hc,hk⟩,S.drop⟩
 have hv:ValidL p.tabs:=hk.valid.1 (by omega);all_goals (repeat' (first|(refine qc 4 ?_;refine vl ?_;refine lB S rfl rfl ?_;refine vl ?_;refine lB S rfl rfl ?_;refine vl ?_)))
 (refine qx rfl rfl rfl rfl rfl ((qaX S.wf v.rl p.rl (H.rol.ext w S.ext)).mono ?_);rintro _ h ⟨⟨rfl,hq⟩|⟨i2,e2,rfl,hq⟩,x⟩)<;>(replace S:=S.join0 x;clear x;refine mv ?_;refine vl ?_;refine vl ?_;refine mv ?_;refine mv ?_;refine qf ?_)
 rotate_left
 ·all_goals (repeat' (first|refine qg ?_|refine qi rfl ?_|refine qj ?_|(refine qc 5 ?_;refine mv ?_;(first|(refine cS ?_ ?_<;>intro hc))<;>(refine qf ?_))|(refine qc 6 ?_;(iterate 4 refine mv ?_);refine qf ?_)))
  ·refine qw ⟨_,rfl,?_⟩;exact ⟨i2,e2,rfl,.inr (.inl ⟨hv,hq⟩),S.drop⟩
  ·exact absurd (by omega) hq.1
 have ho:RO p.rl:=Wp.1 hq;all_goals (repeat' (first|refine qg ?_|refine qi rfl ?_|refine qj ?_|(refine qc 5 ?_;refine mv ?_;(refine cF ?_)<;>(refine qf ?_))))
 (repeat (refine qg ?_));first|refine Qg (σ:=Unit) (fun _ h'=>Hs h0 h' [.blk b v.cs 28]∧(p.cl.length=0∨p.cl.length=p.us.length)) (fun _=>[(1,.pointer (some ⟨b,0,none⟩)),(2,.int .i64 0),(3,.int .i64 0)]) ?_ ?_
 ·have hl2:v.rl.gs.length=p.us.length:=hl;all_goals (repeat' (first|refine qg ?_|refine qi rfl ?_|refine qj ?_|(refine qc 7 ?_;refine vl ?_;refine lB S rfl rfl ?_;refine jZ S ?_;(first|(refine cS ?_ ?_<;>intro hc))<;>(refine mv ?_;(first|refine off ?_|(refine vl ?_));(first|refine off ?_|(refine lB S rfl rfl ?_));(first|refine off ?_|(refine jZ S ?_));(first|refine off ?_|(refine vl ?_));(first|refine off ?_|(refine lB S rfl rfl ?_));(first|refine off ?_|(refine jZ S ?_));(first|refine off ?_|(first|(refine cS ?_ ?_<;>intro hc)))<;>(refine vl ?_;refine qf ?_)))|(refine qc 8 ?_;refine mv ?_;refine mv ?_;refine qf ?_)))
  ·refine qw ⟨_,rfl,?_⟩;exact ⟨0,44,rfl,.inr (.inr ⟨hv,ho,.inl ⟨fun q=>by have:=q.1;omega,rfl,rfl⟩⟩),S.drop⟩
  ·exact ⟨(),⟨S,by omega⟩,(qy)⟩
  ·exact ⟨(),⟨S,by omega⟩,(qy)⟩
 clear S;rintro _ h ⟨S,h1⟩;all_goals (repeat' (first|refine qg ?_|refine qp ?_|(refine qc 9 ?_;refine vl ?_;refine lB S rfl rfl ?_;refine jZ S ?_;refine mv ?_;refine qf ?_)))
 refine qL (σ:=Nat) (fun i h'=>Hs h0 h' [.blk b v.cs 28]∧i≤p.cl.length∧∀ j,j<i→0≤p.cl.getD j default∧p.cl.getD j default<64) (fun i=>p.cl.length - i) (fun i=>[(1,.pointer (some ⟨b,0,none⟩)),(2,.int .i64 0),(3,.int .i64 0),(47,v.vc.val),(48,.int .i64 p.cl.length),(49,.int .i64 i)]) 0 qy ?_ ?_
 ·exact ⟨S,zB0 _,fun j hj=>absurd hj (zB7 _)⟩
 clear S;rintro i h ⟨S,k1,k2⟩;all_goals (repeat' (first|refine qg ?_|refine qi rfl ?_|refine qj ?_|refine qA ?_|refine qp ?_|(refine qc 10 ?_;(first|(refine cS ?_ ?_<;>intro hc))<;>(refine qf ?_))|(refine qc 11 ?_;refine QE S ?_;refine Qk S ?_;refine mv ?_;refine qf ?_)|(refine qc 12 ?_;refine mv ?_;(first|(refine cS ?_ ?_<;>intro hc))<;>(refine mv ?_;(first|refine off ?_|refine mv ?_);(first|refine off ?_|(first|(refine cS ?_ ?_<;>intro hc)))<;>(refine vl ?_;refine qf ?_)))|(refine qc 13 ?_;refine mv ?_;refine mv ?_;refine qf ?_)|(refine qc 14 ?_;refine ad ?_;refine mv ?_;refine qf ?_)))
 ·refine qw ⟨_,rfl,?_⟩;exact ⟨0,44,rfl,.inr (.inr ⟨hv,ho,.inl ⟨fun q=>by have:=(q.2 _ (qJ (show i<p.cl.length by omega))).1;simp only [zA0] at hc;omega,rfl,rfl⟩⟩),S.drop⟩
 ·refine qw ⟨_,rfl,?_⟩;exact ⟨0,44,rfl,.inr (.inr ⟨hv,ho,.inl ⟨fun q=>by have:=(q.2 _ (qJ (show i<p.cl.length by omega))).2;simp only [zA0] at hc;omega,rfl,rfl⟩⟩),S.drop⟩
 ·(try simp only [zA0] at *)
  refine ⟨i+1,?_,?_,qy⟩
  ·show p.cl.length - (i+1)<p.cl.length - i;omega
  ·exact ⟨S,by omega,Zf k2 ⟨by omega,by omega⟩⟩
 have hco:(p.cl.length=0∨p.cl.length=p.us.length)∧∀ c∈p.cl,0≤c∧c<64:=⟨h1,fun c hc2=>by
  obtain ⟨j,hj,rfl⟩:=qI.1 hc2;exact k2 j (by omega)⟩
 have hs:=jg p.tabs p.tabs.length;have htl:=H.tab.len;have hcv:Xe p.tabs=sumT p.tabs p.tabs.length:=by unfold Xe;rw [if_pos hv]
 have hl2:v.rl.gs.length=p.us.length:=hl;(repeat (refine qg ?_));refine jm (id:=15) [(1,(0,1))] [some (b)] ?_;refine qh ?_;(first|(refine vl ?_<;>refine qf ⟨⟨by (first|exact True.intro),rfl⟩,?_⟩));refine qh ?_;(first|(refine lB S rfl rfl ?_<;>refine qf ⟨⟨by (first|exact Or.inr rfl),rfl⟩,?_⟩));refine qh ?_;(first|(refine jZ S ?_<;>refine qf ⟨⟨by (first|exact True.intro),rfl⟩,?_⟩));refine qh ?_;(first|(refine vl ?_<;>refine qf ⟨⟨by (first|exact True.intro),rfl⟩,?_⟩));refine qh ?_;(first|(refine lB S rfl rfl ?_<;>refine qf ⟨⟨by (first|exact True.intro),rfl⟩,?_⟩));((refine qh ?_;first|refine qx rfl rfl rfl rfl rfl ((xG S.wf v.vt.val p.tabs (H.tab.ext w S.ext)).mono ?_));rintro _ h ⟨rfl,x⟩)<;>((refine qf ⟨⟨True.intro,?_⟩,?_⟩;(focus ((show keepsX _ _ _ _ _;simp only [keepsX];(repeat' (first|exact True.intro|refine And.intro ?_ ?_));all_goals (intro hw;first|exact x.ext.old _ S.bB)))));replace S:=S.join0 x;clear x;refine qh ?_;(first|((refine cS ?_ ?_<;>intro hc)<;>refine qf ⟨⟨by (first|exact True.intro),rfl⟩,?_⟩))<;>(refine jw ?_))
 all_goals (all_goals (repeat' (first|refine qg ?_|refine qi rfl ?_|refine qj ?_|(refine qc 16 ?_;refine mv ?_;refine mv ?_;refine qf ?_))))
 ·refine qw ⟨_,rfl,?_⟩;exact ⟨0,45,rfl,.inr (.inr ⟨hv,ho,.inr ⟨hco,.inl ⟨by rw [hcv] at hc;omega,rfl,rfl⟩⟩⟩),S.drop⟩
 ·all_goals (repeat' (first|(refine qc 17 ?_;refine mv ?_;refine mv ?_;refine qf ?_)))
  refine qw ⟨_,rfl,?_⟩;exact ⟨0,0,rfl,.inr (.inr ⟨hv,ho,.inr ⟨hco,.inr ⟨by rw [hcv] at hc;omega,rfl,rfl⟩⟩⟩),S.drop⟩
theorem XL {h0:AH} (w:WfH h0) (v:PbV) (p:Pb) (H:PbOk h0 v p):Fn Tryz.prog Xh 57 [v.val] h0 (fun u h'=>∃ i e,u = .tuple #[.int .i64 i,.int .i64 e]∧CkP p i e∧Hs h0 h' []):=by
 have S:=Hs.start w;have hr:=H.ru;have hlr:=H.lr;unfold PbV.val;refine qM (by first|rfl) Tryz.func57 rfl rfl ?_;all_goals (repeat' (first|refine qg ?_|(refine qc 0 ?_;(refine bx S ?_;clear S;intro b h S);refine mv ?_;refine mv ?_;refine qf ?_)|(refine qc 1 ?_;refine lB S rfl rfl ?_)))
 obtain ⟨bp,hnm⟩:∃ x,x=b:=⟨_,rfl⟩;subst hnm;(refine qx rfl rfl rfl rfl rfl ((qcM S.wf v p (H.ext w S.ext)).mono ?_);rintro _ h ⟨i,e,rfl,hk,x⟩)<;>(replace S:=S.join0 x;clear x;refine mv ?_;refine vl ?_;refine vl ?_;refine mv ?_;refine mv ?_;refine qf ?_)
 all_goals (repeat' (first|refine qg ?_|refine qi rfl ?_|refine qj ?_|(refine qc 2 ?_;refine mv ?_;(first|(refine cS ?_ ?_<;>intro hc))<;>(refine qf ?_))|(refine qc 3 ?_;(iterate 4 refine mv ?_);refine qf ?_)))
 ·refine qw ⟨_,rfl,?_⟩;exact ⟨i,e,rfl,.inl ⟨hc,hk⟩,S.drop⟩
 have he:e=0:=by omega
 subst he;obtain ⟨hb,rfl⟩:=hk.bo;all_goals (repeat' (first|(refine qc 4 ?_;skip)))
 (refine qx rfl rfl rfl rfl rfl ((qck S.wf).mono ?_);rintro _ h ⟨m,rfl,x⟩)<;>(replace S:=S.join1 x;clear x;refine mv ?_;refine qf ?_)
 all_goals (repeat' (first|refine qg ?_|refine qp ?_|(refine qc 5 ?_;refine vl ?_;refine lB S rfl rfl ?_;refine jZ S ?_;refine mv ?_;refine qf ?_)))
 refine qL (σ:=Nat) (fun i h'=>Hs h0 h' [mkR m kEs 18,.blk bp v.cs 28]∧i≤p.ru.length∧i≤64∧∀ j,j<i→VQ p (p.ru.getD j default)=0) (fun i=>p.ru.length - i) (fun i=>[(1,.pointer (some ⟨bp,0,none⟩)),(2,.int .i64 0),(3,.int .i64 0),(6,.map (some m)),(21,v.vr.val),(22,.int .i64 p.ru.length),(23,.int .i64 i)]) 0 qy ?_ ?_
 ·exact ⟨S,zB0 _,zB0 _,fun j hj=>absurd hj (zB7 _)⟩
 clear S;rintro i h ⟨S,k1,k3,k2⟩;all_goals (repeat' (first|refine qg ?_|refine qi rfl ?_|refine qj ?_|refine qA ?_|refine qp ?_|(refine qc 6 ?_;(first|(refine cS ?_ ?_<;>intro hc))<;>(refine qf ?_))|(refine qc 7 ?_;refine mv ?_;refine QE S ?_;refine Qk S ?_;(refine al S ?_;clear S;intro b h S);refine mv ?_;(first|(refine sB S rfl rfl ?_;clear S;intro h S));refine qf ?_)|(refine qc 8 ?_;refine mv ?_;refine vl ?_;refine lB S rfl rfl ?_)))
 ·(try simp only [zA0] at *)
  have hi:i<p.ru.length:=by omega
  obtain ⟨r,hre⟩:∃ r,p.ru.getD i default=r:=⟨_,rfl⟩
  rw [hre] at S ⊢;replace S:Hs h0 h [.blk b (JI r) 155,mkR m kEs 18,.blk bp v.cs 28]:=S;refine lkK (v:=WY r.k) (z:=kdV [] ⟨0,false,0,false,0,false⟩ .nilFunc) S (.there .here) (qfY r.k) (kdv r.k) ?_;((refine lB S rfl rfl ?_);refine lB S rfl rfl ?_);(refine qx rfl rfl rfl rfl rfl ((Pm S.wf v p (H.ext w S.ext) hb.tabs r).mono ?_);rintro _ h ⟨rfl,x⟩)<;>(replace S:=S.join0 x;clear x;refine mv ?_;refine qf ?_)
  all_goals (repeat' (first|refine qg ?_|refine qi rfl ?_|refine qj ?_|(refine qc 9 ?_;refine mv ?_;(first|(refine cS ?_ ?_<;>intro hc))<;>(refine qf ?_))|(refine qc 10 ?_;(iterate 4 refine mv ?_);refine qf ?_)|(refine qc 11 ?_;refine mv ?_;(first|(refine cS ?_ ?_<;>intro hc))<;>(refine qf ?_))|(refine qc 12 ?_;(iterate 3 refine mv ?_);refine qf ?_)))
  ·refine qw ⟨_,rfl,?_⟩;exact ⟨i,_,rfl,.inr ⟨hb,.inl ⟨i,hi,rfl,k3,k2,.inl ⟨by rw [hre];exact hc,by rw [hre]⟩⟩⟩,S.drop⟩
  ·refine qw ⟨_,rfl,?_⟩;exact ⟨i,7,rfl,.inr ⟨hb,.inl ⟨i,hi,rfl,k3,k2,.inr ⟨by rw [hre];omega,by omega,rfl⟩⟩⟩,S.drop⟩
  ·all_goals (repeat' (first|(refine qc 13 ?_;refine ad ?_;refine mv ?_;refine qf ?_)))
   refine ⟨i+1,?_,?_,qy⟩
   ·show p.ru.length - (i+1)<p.ru.length - i;omega
   ·exact ⟨S.tail,by omega,by omega,Zf k2 (by rw [hre];omega)⟩
 ·all_goals (repeat' (first|(refine qc 14 ?_;refine mv ?_;refine mv ?_;refine qf ?_)))
  refine qw ⟨_,rfl,?_⟩;exact ⟨0,0,rfl,.inr ⟨hb,.inr ⟨by omega,fun j hj=>k2 j (by omega),rfl,rfl⟩⟩,S.drop⟩
def PaI (N:Nat) (q:List Int) (k:Nat):Prop:=(∀ i,i<k→-1≤q.getD i default∧q.getD i default<N)∧∀ i j,i<j→j<k→0≤q.getD i default→q.getD i default≠q.getD j default
def PaE (N:Nat) (q:List Int) (n:Nat) (wh:Bool) (i e:Int):Prop :=
 (q.length≠n∧i=0∧e=53)∨(q.length=n∧((∃ g:Nat,g<n∧i=g∧PaI N q g∧(wh=true→∀ j,j<g→q.getD j default≠-1) ∧
  ((wh=true∧q.getD g default = -1∧e=52)∨((q.getD g default < -1∨(N:Int)≤q.getD g default)∧e=50)∨(0≤q.getD g default∧q.getD g default<N∧(∃ j,j<g∧q.getD j default=q.getD g default)∧e=51))) ∨
  (PaI N q n∧(wh=true→∀ j,j<n→q.getD j default≠-1)∧i=0∧e=0)))
theorem qaH {h0:AH} (w:WfH h0) (v:PbV) (p:Pb) (H:PbOk h0 v p) (hv:ValidL p.tabs) (vq:Value) (q:List Int) (rq:zo h0 vq 1 eI q) (hq:q.length≤9223372036854775807) (wh:Bool) (N:Nat) (hN:sumT p.tabs p.tabs.length=N) :
 Fn Tryz.prog Xh 151 [v.val,vq,.bool wh] h0 (fun u h'=>∃ i e,u = .tuple #[.int .i64 i,.int .i64 e]∧PaE N q p.us.length wh i e∧Hs h0 h' []):=by
 have S:=Hs.start w;have hrg:=H.rol.rg;have hgl:v.gs.length=p.us.length:=H.rol.len;have hgl2:v.rl.gs.length=p.us.length:=hgl;have hs:=jg p.tabs p.tabs.length;have htl:=H.tab.len;unfold PbV.val;refine qM (by first|rfl) Tryz.func151 rfl rfl ?_;all_goals (repeat' (first|refine qg ?_|(refine qc 0 ?_;(refine bx S ?_;clear S;intro b h S);refine mv ?_;refine mv ?_;refine qf ?_)))
 obtain ⟨b3,hnm⟩:∃ x,x=b:=⟨_,rfl⟩;subst hnm;all_goals (repeat' (first|refine qg ?_|refine qi rfl ?_|refine qj ?_|(refine qc 1 ?_;refine mv ?_;refine jZ S ?_;refine vl ?_;refine lB S rfl rfl ?_;refine jZ S ?_;(first|(refine cS ?_ ?_<;>intro hc))<;>(refine qf ?_))|(refine qc 2 ?_;refine mv ?_;refine mv ?_;refine qf ?_)))
 ·refine qw ⟨_,rfl,?_⟩;exact ⟨0,53,rfl,.inl ⟨by omega,rfl,rfl⟩,S.drop⟩
 have hql:q.length=p.us.length:=by omega
 all_goals (repeat' (first|(refine qc 3 ?_;refine vl ?_;refine lB S rfl rfl ?_)))
 (refine qx rfl rfl rfl rfl rfl ((xG S.wf v.vt.val p.tabs (H.tab.ext w S.ext)).mono ?_);rintro _ h ⟨rfl,x⟩)<;>(replace S:=S.join0 x;clear x;refine mv ?_;refine qf ?_)
 rw [show Xe p.tabs=(N:Int) by unfold Xe;rw [if_pos hv];exact hN];all_goals (repeat' (first|refine qg ?_|(refine qc 4 ?_;refine mv ?_)))
 refine Y5 (z:=1) (by_:=1) (enc:=eB) (y0:=false) S rfl rfl rfl rfl rfl rfl rfl rfl rfl (by intro _;rfl) (by first|omega) rfl rfl ?_;clear S;intro v h S;obtain ⟨vk,rfl⟩:=S.sV v;refine mv ?_;refine qf ?_;simp only [zA0] at S;all_goals (repeat' (first|refine qg ?_|refine qp ?_|(refine qc 5 ?_;refine mv ?_;refine jZ S ?_;refine mv ?_;refine qf ?_)))
 rw [hql];refine qL (σ:=Nat×List Bool) (fun (k,tk) h'=>Hs h0 h' [.sl vk.val 4 1 eB tk,.blk b3 v.cs 28]∧k≤p.us.length∧PaI N q k∧(wh=true→∀ j,j<k→q.getD j default≠-1)∧tk.length=N∧∀ s,s<N→(tk.getD s default=true↔∃ j,j<k∧q.getD j default=(s:Int))) (fun (k,tk)=>p.us.length - k) (fun (k,tk)=>[(2,.bool wh),(6,.int .i64 0),(7,.int .i64 0),(8,.int .i64 N),(9,vk.val),(23,vq),(24,.int .i64 p.us.length),(25,.int .i64 k)]) (0,List.replicate N false) qy ?_ ?_
 ·refine ⟨S,zB0 _,⟨fun i hi=>absurd hi (zB7 _),fun i j _ hj=>absurd hj (zB7 _)⟩,fun _ j hj=>absurd hj (zB7 _),by simp,fun s hs=>⟨fun h=>?_,fun ⟨j,hj,_⟩=>absurd hj (zB7 _)⟩⟩;rw [zA2,List.getElem?_replicate,if_pos hs] at h;cases h
 clear S;rintro ⟨k,tk⟩ h ⟨S,g1,g2,g3,g4,g5⟩;all_goals (repeat' (first|refine qg ?_|refine qi rfl ?_|refine qj ?_|refine qA ?_|refine qp ?_|(refine qc 6 ?_;(first|(refine cS ?_ ?_<;>intro hc))<;>(refine qf ?_))|(refine qc 7 ?_;refine mv ?_;refine QE S ?_;refine Qk S ?_;refine mv ?_;refine mv ?_;refine qf ?_)))
 ·obtain ⟨x,hx⟩:∃ x,q.getD (k:Int).toNat default=x:=⟨_,rfl⟩
  rw [hx];replace hx:q.getD k default=x:=hx;have hk:k<p.us.length:=by omega
  have hng:∀ j,j<k→0≤x→q.getD j default=x→∃ j,j<k∧q.getD j default=x:=fun j h1 _ h2=>⟨j,h1,h2⟩
  have step : -1≤x∧x<N→(0≤x→∀ j,j<k→q.getD j default≠x)→PaI N q (k+1):=fun h1 h2=>by
   refine ⟨Zf g2.1 (by rw [hx];exact h1),fun i j hij hj h0=>?_⟩;rcases zA7 j k with r|r
   ·exact g2.2 i j hij r h0
   ·obtain rfl:j=k:=by omega
    rw [hx];intro e;exact h2 (by omega) i hij e
  have stepW:¬ (wh=true∧x = -1)→(wh=true→∀ j,j<k+1→q.getD j default≠-1):=fun h1 h2=>Zf (g3 h2) (by rw [hx];exact fun e=>h1 ⟨h2,e⟩);rcases Decidable.em (x = -1) with e1|e1
  ·subst e1;cases hwh:wh
   ·subst hwh;all_goals (repeat' (first|refine qg ?_|refine qi rfl ?_|(refine qc 8 ?_;refine mv ?_;(refine cT ?_)<;>(refine mv ?_;refine mv ?_;refine vl ?_;refine mv ?_;refine qf ?_))))
    all_goals (repeat' (first|refine qg ?_|refine qi rfl ?_|(refine qc 10 ?_;refine mv ?_;(refine cF ?_)<;>((iterate 3 refine mv ?_);(first|(refine cF ?_))<;>(refine vl ?_;refine mv ?_;refine qf ?_)))))
    all_goals (repeat' (first|refine qg ?_|refine qi rfl ?_|refine qj ?_|(refine qc 12 ?_;refine mv ?_;(refine cF ?_)<;>(refine mv ?_;refine off ?_;refine off ?_;refine off ?_;refine off ?_;refine vl ?_;refine mv ?_;refine qf ?_))))
    all_goals (repeat' (first|refine qi rfl ?_|refine qj ?_|(refine qc 14 ?_;refine mv ?_;(refine cF ?_)<;>(refine qf ?_))))
    all_goals (repeat' (first|(refine qc 16 ?_;refine ad ?_;refine mv ?_;refine qf ?_)))
    refine ⟨(k+1,tk),?_,?_,qy⟩
    ·show p.us.length - (k+1)<p.us.length - k;omega
    ·refine ⟨S,by omega,step ⟨by omega,by omega⟩ (fun h=>by omega),stepW (fun h=>by cases h.1),g4,fun s hs=>?_⟩;rw [g5 s hs];constructor
     ·rintro ⟨j,h1,h2⟩;exact ⟨j,by omega,h2⟩
     ·rintro ⟨j,h1,h2⟩;refine ⟨j,?_,h2⟩;rcases zA7 j k with r|r
      ·exact r
      ·obtain rfl:j=k:=by omega
       rw [hx] at h2;omega
   ·subst hwh;all_goals (repeat' (first|refine qg ?_|refine qi rfl ?_|(refine qc 8 ?_;refine mv ?_;(refine cT ?_)<;>(refine mv ?_;refine mv ?_;refine vl ?_;refine mv ?_;refine qf ?_))|(refine qc 9 ?_;(iterate 3 refine mv ?_);refine qf ?_)))
    refine qw ⟨_,rfl,?_⟩;exact ⟨k,52,rfl,.inr ⟨hql,.inl ⟨k,hk,rfl,g2,g3,.inl ⟨rfl,hx,rfl⟩⟩⟩,S.drop⟩
  rcases (show x < -1∨-1≤x by omega) with e2|e2
  ·skip
   all_goals (repeat' (first|refine qg ?_|refine qi rfl ?_|(refine qc 8 ?_;refine mv ?_;(refine cF ?_)<;>(refine mv ?_;refine off ?_;refine vl ?_;refine mv ?_;refine qf ?_))))
   all_goals (repeat' (first|refine qg ?_|refine qi rfl ?_|(refine qc 10 ?_;refine mv ?_;(refine cT ?_)<;>(refine mv ?_;refine off ?_;refine off ?_;(refine off ?_)<;>(refine vl ?_;refine mv ?_;refine qf ?_)))|(refine qc 11 ?_;(iterate 3 refine mv ?_);refine qf ?_)))
   refine qw ⟨_,rfl,?_⟩;exact ⟨k,50,rfl,.inr ⟨hql,.inl ⟨k,hk,rfl,g2,g3,.inr (.inl ⟨by rw [hx];exact .inl e2,rfl⟩)⟩⟩,S.drop⟩
  rcases (show x<N∨(N:Int)≤x by omega) with e3|e3
  rotate_left
  ·skip
   all_goals (repeat' (first|refine qg ?_|refine qi rfl ?_|(refine qc 8 ?_;refine mv ?_;(refine cF ?_)<;>(refine mv ?_;refine off ?_;refine vl ?_;refine mv ?_;refine qf ?_))))
   all_goals (repeat' (first|refine qg ?_|refine qi rfl ?_|(refine qc 10 ?_;refine mv ?_;(refine cF ?_)<;>((iterate 3 refine mv ?_);(first|(refine cT ?_))<;>(refine vl ?_;refine mv ?_;refine qf ?_)))|(refine qc 11 ?_;(iterate 3 refine mv ?_);refine qf ?_)))
   refine qw ⟨_,rfl,?_⟩;exact ⟨k,50,rfl,.inr ⟨hql,.inl ⟨k,hk,rfl,g2,g3,.inr (.inl ⟨by rw [hx];exact .inr e3,rfl⟩)⟩⟩,S.drop⟩
  obtain ⟨s,rfl⟩:=zH4 (show 0≤x by omega);have hsN:s<N:=by omega
  all_goals (repeat' (first|refine qg ?_|refine qi rfl ?_|(refine qc 8 ?_;refine mv ?_;(refine cF ?_)<;>(refine mv ?_;refine off ?_;refine vl ?_;refine mv ?_;refine qf ?_))))
  all_goals (repeat' (first|refine qg ?_|refine qi rfl ?_|(refine qc 10 ?_;refine mv ?_;(refine cF ?_)<;>((iterate 3 refine mv ?_);(first|(refine cF ?_))<;>(refine vl ?_;refine mv ?_;refine qf ?_)))))
  all_goals (repeat' (first|refine qi rfl ?_|(refine qc 12 ?_;refine mv ?_;(refine cT ?_)<;>((iterate 3 refine mv ?_);(first|(refine jI S rfl rfl ?_));(first|(refine jT S rfl rfl ?_));refine vl ?_;refine mv ?_;refine qf ?_))))
  cases hb:tk.getD (s:Int).toNat default with
  | true =>
   all_goals (repeat' (first|refine qg ?_|(refine qc 13 ?_;(iterate 3 refine mv ?_);refine qf ?_)))
   refine qw ⟨_,rfl,?_⟩;exact ⟨k,51,rfl,.inr ⟨hql,.inl ⟨k,hk,rfl,g2,g3,.inr (.inr ⟨by rw [hx];omega,by rw [hx];exact e3,by rw [hx];exact (g5 s hsN).1 hb,rfl⟩)⟩⟩,S.drop⟩
  | false =>
   all_goals (repeat' (first|refine qg ?_|refine qi rfl ?_|refine qj ?_|(refine qc 14 ?_;refine mv ?_;(refine cT ?_)<;>(refine qf ?_))|(refine qc 15 ?_;refine mv ?_;refine mv ?_;refine jI S rfl rfl ?_;(first|(refine sE2 S rfl rfl ?_;clear S;intro h S));refine qf ?_)|(refine qc 16 ?_;refine ad ?_;refine mv ?_;refine qf ?_)))
   refine ⟨(k+1,tk.set s true),?_,?_,qy⟩
   ·show p.us.length - (k+1)<p.us.length - k;omega
   ·have hn:∀ j,j<k→q.getD j default≠(s:Int):=fun j hj e=>by
     have:=(g5 s hsN).2 ⟨j,hj,e⟩;rw [show (s:Int).toNat=s from rfl,this] at hb;cases hb
    refine ⟨S,by omega,step ⟨by omega,e3⟩ (fun _=>hn),stepW (fun h=>e1 h.2),by simp [g4],fun s' hs'=>?_⟩;rw [zA2,List.getElem?_set];by_cases e:s=s'
    ·subst e;rw [if_pos rfl,if_pos (by omega)];exact ⟨fun _=>⟨k,by omega,hx⟩,fun _=>rfl⟩
    ·rw [if_neg e,← zA2,g5 s' hs'];constructor
     ·rintro ⟨j,h1,h2⟩;exact ⟨j,by omega,h2⟩
     ·rintro ⟨j,h1,h2⟩;refine ⟨j,?_,h2⟩;rcases zA7 j k with r|r
      ·exact r
      ·obtain rfl:j=k:=by omega
       rw [hx] at h2;omega
 ·all_goals (repeat' (first|(refine qc 17 ?_;refine mv ?_;refine mv ?_;refine qf ?_)))
  refine qw ⟨_,rfl,?_⟩;obtain rfl:k=p.us.length:=by omega
  exact ⟨0,0,rfl,.inr ⟨hql,.inr ⟨g2,g3,rfl,rfl⟩⟩,S.drop⟩
def PaC (p:Pb) (q:List Int) (wh:Bool) (i e:Int):Prop:=(¬ PO p∧i=0∧e≠0∧∃ i,CkP p i e)∨(PO p∧PaE (sumT p.tabs p.tabs.length).toNat q p.us.length wh i e)
theorem PartOk.pai {p:Pb} {q:List Int} (h:PartOk p q):PaI (sumT p.tabs p.tabs.length).toNat q q.length:=by
 have:=jg p.tabs p.tabs.length;exact ⟨fun i hi=>by have:=h.rng _ (qJ hi);omega,fun i j h1 h2 h3=>h.nd i j h1 h2 h3⟩
theorem PaE.part {p:Pb} {q:List Int} {i e:Int} (h:PaE (sumT p.tabs p.tabs.length).toNat q p.us.length false i e):e=0↔PartOk p q:=by
 have hs:=jg p.tabs p.tabs.length;constructor
 ·rintro rfl;rcases h with ⟨-,-,h⟩|⟨hl,⟨g,h1,h2,h3,h4,h5⟩|⟨h1,h2,h3,h4⟩⟩
  ·cases h
  ·rcases h5 with ⟨h5,-⟩|⟨-,h5⟩|⟨-,-,-,h5⟩
   ·cases h5
   ·cases h5
   ·cases h5
  ·refine ⟨hl,fun x hx=>?_,fun i j h3 h4 h5=>h1.2 i j h3 (by omega) h5⟩;obtain ⟨j,hj,rfl⟩:=qI.1 hx;have:=h1.1 j (by omega);omega
 ·intro k;have hp:=k.pai;have hl:=k.len;rcases h with ⟨h,-⟩|⟨-,⟨g,h1,h2,h3,h4,h5⟩|⟨-,-,-,h⟩⟩
  ·exact absurd hl h
  ·rcases h5 with ⟨h5,-⟩|⟨h5,-⟩|⟨h5,h6,⟨j,h7,h8⟩,-⟩
   ·cases h5
   ·have:=hp.1 g (by omega);omega
   ·exact absurd h8 (hp.2 j g h7 (by omega) (by omega))
  ·exact h
theorem PaC.part {p:Pb} {q:List Int} {i e:Int} (h:PaC p q false i e):e=0↔PO p∧PartOk p q:=by
 rcases h with ⟨h1,-,h2,-⟩|⟨h1,h2⟩
 ·exact ⟨fun k=>absurd k h2,fun k=>absurd k.1 h1⟩
 ·rw [h2.part];exact ⟨fun k=>⟨h1,k⟩,fun k=>k.2⟩
theorem Ky {h0:AH} (w:WfH h0) (v:PbV) (p:Pb) (H:PbOk h0 v p) (vq:Value) (q:List Int) (rq:zo h0 vq 1 eI q) (hq:q.length≤9223372036854775807) (wh:Bool) :
 Fn Tryz.prog Xh 112 [v.val,vq,.bool wh] h0 (fun u h'=>∃ i e,u = .tuple #[.int .i64 i,.int .i64 e]∧PaC p q wh i e∧Hs h0 h' []):=by
 have S:=Hs.start w;have hs:=jg p.tabs p.tabs.length;unfold PbV.val;refine qM (by first|rfl) Tryz.func112 rfl rfl ?_;all_goals (repeat' (first|refine qg ?_|(refine qc 0 ?_;(refine bx S ?_;clear S;intro b h S);refine mv ?_;refine mv ?_;refine qf ?_)|(refine qc 1 ?_;refine lB S rfl rfl ?_)))
 (refine qx rfl rfl rfl rfl rfl ((XL S.wf v p (H.ext w S.ext)).mono ?_);rintro _ h ⟨i,e,rfl,hk,x⟩)<;>(replace S:=S.join0 x;clear x;refine mv ?_;refine vl ?_;refine vl ?_;refine mv ?_;refine mv ?_;refine qf ?_)
 have hpo:=hk.po;all_goals (repeat' (first|refine qg ?_|refine qi rfl ?_|refine qj ?_|(refine qc 2 ?_;refine mv ?_;(first|(refine cS ?_ ?_<;>intro hc))<;>(refine qf ?_))|(refine qc 3 ?_;(iterate 3 refine mv ?_);refine qf ?_)))
 ·refine qw ⟨_,rfl,?_⟩;exact ⟨0,e,rfl,.inl ⟨fun q=>hc (hpo.2 q),rfl,hc,i,hk⟩,S.drop⟩
 have hp:PO p:=hpo.1 (by omega);all_goals (repeat' (first|(refine qc 4 ?_;refine lB S rfl rfl ?_;refine mv ?_;refine mv ?_)))
 (refine qx rfl rfl rfl rfl rfl ((qaH S.wf v p (H.ext w S.ext) hp.tabs vq q (rq.ext w S.ext) hq wh (sumT p.tabs p.tabs.length).toNat (by omega)).mono ?_);rintro _ h ⟨i,e,rfl,hk2,x⟩)<;>(replace S:=S.join0 x;clear x;refine vl ?_;refine vl ?_;refine mv ?_;refine mv ?_;refine qf ?_)
 all_goals (repeat' (fail))
 refine qw ⟨_,rfl,?_⟩;exact ⟨i,e,rfl,.inr ⟨hp,hk2⟩,S.drop⟩
theorem YB {h0:AH} (w:WfH h0) (v:PbV) (p:Pb) (H:PbOk h0 v p) (vq:Value) (q:List Int) (rq:zo h0 vq 1 eI q) (hq:q.length≤9223372036854775807) :
 Fn Tryz.prog Xh 50 [v.val,vq] h0 (fun u h'=>∃ i e,u = .tuple #[.int .i64 i,.int .i64 e]∧PaC p q false i e∧Hs h0 h' []):=by
 have S:=Hs.start w;unfold PbV.val;refine qM (by first|rfl) Tryz.func50 rfl rfl ?_;all_goals (repeat' (first|refine qg ?_|(refine qc 0 ?_;(refine bx S ?_;clear S;intro b h S);refine mv ?_;refine mv ?_;refine qf ?_)|(refine qc 1 ?_;refine lB S rfl rfl ?_;refine mv ?_)))
 (refine qx rfl rfl rfl rfl rfl ((Ky S.wf v p (H.ext w S.ext) vq q (rq.ext w S.ext) hq false).mono ?_);rintro _ h ⟨i,e,rfl,hk,x⟩)<;>(replace S:=S.join0 x;clear x;refine vl ?_;refine vl ?_;refine mv ?_;refine mv ?_;refine qf ?_)
 all_goals (repeat' (fail))
 refine qw ⟨_,rfl,?_⟩;exact ⟨i,e,rfl,hk,S.drop⟩
theorem qbW {h0:AH} (w:WfH h0) (v:PbV) (p:Pb) (H:PbOk h0 v p) (hp:PO p) (vq:Value) (q:List Int) (rq:zo h0 vq 1 eI q) (hq:PartOk p q) :
 Fn Tryz.prog Xh 50 [v.val,vq] h0 (fun u h'=>∃ i,u = .tuple #[.int .i64 i,.int .i64 0]∧Hs h0 h' []):=by
 have:=hq.len;have:=hp.rl.l64;refine (YB w v p H vq q rq (by show q.length≤_;have:p.us.length≤64:=this;omega)).mono ?_;rintro u h ⟨i,e,rfl,hk,x⟩;obtain rfl:=hk.part.2 ⟨hp,hq⟩;exact ⟨i,rfl,x⟩
theorem qav {h0:AH} (w:WfH h0) (v:PbV) (p:Pb) (H:PbOk h0 v p) (vq:Value) (q:List Int) (rq:zo h0 vq 1 eI q) (hq:q.length≤9223372036854775807) :
 Fn Tryz.prog Xh 56 [v.val,vq] h0 (fun u h'=>zy u (PO p∧PartOk p q)∧Hs h0 h' []):=by
 have S:=Hs.start w;unfold PbV.val;refine qM (by first|rfl) Tryz.func56 rfl rfl ?_;all_goals (repeat' (first|refine qg ?_|(refine qc 0 ?_;(refine bx S ?_;clear S;intro b h S);refine mv ?_;refine qf ?_)|(refine qc 1 ?_;refine lB S rfl rfl ?_;refine mv ?_)))
 (refine qx rfl rfl rfl rfl rfl ((YB S.wf v p (H.ext w S.ext) vq q (rq.ext w S.ext) hq).mono ?_);rintro _ h ⟨i,e,rfl,hk,x⟩)<;>(replace S:=S.join0 x;clear x;refine mv ?_;refine vl ?_;refine vl ?_;refine mv ?_;refine mv ?_;refine qf ?_)
 have hpo:=hk.part;all_goals (repeat' (first|refine qg ?_|(refine qc 2 ?_;refine mv ?_;(first|(refine cS ?_ ?_<;>intro hc))<;>(refine mv ?_;refine qf ?_))))
 all_goals (refine qw ⟨_,rfl,?_⟩)
 ·exact ⟨.inl ⟨rfl,hpo.1 (by omega)⟩,S.drop⟩
 ·exact ⟨.inr ⟨rfl,fun k=>hc (hpo.2 k)⟩,S.drop⟩
def WhereI (l:List Tab) (s:Int) (i k:Nat):Prop:=ValidL l∧i<l.length∧(k:Int)<zn (tb l i)∧s=sumT l i+k
theorem YT (l:List Tab) {i j:Nat} (h:i≤j):sumT l i≤sumT l j:=by
 induction h with
 | refl=>exact Int.le_refl _
 | @step m _ ih=>have:=Qo (tb l m);simp only [sumT];omega
theorem WhereI.unique {l:List Tab} {s:Int} {i k j m:Nat} (h:WhereI l s i k) (g:WhereI l s j m):i=j∧k=m:=by
 obtain ⟨-,h2,h3,h4⟩:=h;obtain ⟨-,g2,g3,g4⟩:=g;rcases zE7 i j with q|q|q
 ·have:=YT l (show i+1≤j by omega);simp only [sumT] at this;omega
 ·subst q;exact ⟨rfl,by omega⟩
 ·have:=YT l (show j+1≤i by omega);simp only [sumT] at this;omega
def WhereR (l:List Tab) (s a b:Int) (f:Bool):Prop:=(f=true∧∃ i k:Nat,a=i∧b=k∧WhereI l s i k)∨(f=false∧a=0∧b=0∧∀ i k,¬ WhereI l s i k)
theorem WhereR.unique {l:List Tab} {s a b a' b':Int} {f f':Bool} (h:WhereR l s a b f) (g:WhereR l s a' b' f'):a=a'∧b=b'∧f=f':=by
 rcases h with ⟨rfl,i,k,rfl,rfl,h⟩|⟨rfl,rfl,rfl,h⟩<;>rcases g with ⟨rfl,j,m,rfl,rfl,g⟩|⟨rfl,rfl,rfl,g⟩
 ·obtain ⟨rfl,rfl⟩:=h.unique g;exact ⟨rfl,rfl,rfl⟩
 ·exact absurd h (g _ _)
 ·exact absurd g (h _ _)
 ·exact ⟨rfl,rfl,rfl⟩
theorem qbk {h0:AH} (w:WfH h0) (v:Value) (l:List Tab) (H:HallR h0 v l) (s:Int) (hm:s≤9223372036854775807):Fn Tryz.prog Xh 137 [v,.int .i64 s] h0 (fun r h'=>∃ a b f,r = .tuple #[.int .i64 a,.int .i64 b,.bool f]∧WhereR l s a b f∧Hs h0 h' []):=by
 have S:=Hs.start w;have hl:=H.len;have hr:=H.rd;refine qM (by first|rfl) Tryz.func137 rfl rfl ?_;all_goals (repeat' (first|refine qg ?_|refine qi rfl ?_|(refine qc 0 ?_;(iterate 3 refine mv ?_);refine qf ?_)|(refine qc 1 ?_;refine mv ?_;(first|(refine cS ?_ ?_<;>intro hc))<;>(refine mv ?_;(first|refine off ?_|refine mv ?_);(first|(refine off ?_;refine off ?_;refine vl ?_;refine qf ?_)|skip)))|(refine qc 2 ?_;(iterate 3 refine mv ?_);refine qf ?_)))
 ·refine qw ⟨_,rfl,?_⟩;exact ⟨0,0,false,rfl,.inr ⟨rfl,rfl,rfl,fun i k q=>by have:=jg l i;have:=q.2.2.2;omega⟩,S⟩
 ·(refine qx rfl rfl rfl rfl rfl ((X5 S.wf v l H).mono ?_);rintro _ h ⟨⟨rfl,hq⟩|⟨rfl,hq⟩,x⟩)<;>(replace S:=S.join0 x;clear x;refine vl ?_;refine vl ?_;refine qf ?_)
  all_goals (repeat' (first|refine qg ?_|refine qi rfl ?_|refine qj ?_|refine qp ?_|(refine qc 2 ?_;(iterate 3 refine mv ?_);refine qf ?_)|(refine qc 3 ?_;refine mv ?_;refine jZ S ?_;refine mv ?_;refine qf ?_)))
  ·have z0:sumT l 0=0:=rfl;refine qL (σ:=Nat) (fun i h'=>Hs h0 h' []∧i≤l.length∧0≤s - sumT l i) (fun i=>l.length - i) (fun i=>[(1,.int .i64 (s - sumT l i)),(17,v),(18,.int .i64 l.length),(19,.int .i64 i)]) 0 qy ?_ ?_
   ·exact ⟨S,zB0 _,by simp only [sumT];omega⟩
   ·clear S;rintro i h ⟨S,h1,h2⟩;all_goals (repeat' (first|refine qg ?_|refine qi rfl ?_|refine qj ?_|refine qA ?_|refine qp ?_|(refine qc 4 ?_;(first|(refine cS ?_ ?_<;>intro hc))<;>(refine qf ?_))|(refine qc 5 ?_;refine mv ?_;refine QE S ?_;refine Qk S ?_;(refine al S ?_;clear S;intro b h S);refine mv ?_;(first|(refine sB S rfl rfl ?_;clear S;intro h S));refine qf ?_)|(refine qc 6 ?_;refine lB S rfl rfl ?_)|(refine qc 11 ?_;(iterate 3 refine mv ?_);refine qf ?_)))
    ·(try simp only [zA0] at *)
     have hi:i<l.length:=by omega
     have b2:=Qo (tb l i);have b1:=jg l i;have z1:sumT l (i+1)=sumT l i+zn (tb l i):=rfl;(refine qx rfl rfl rfl rfl rfl ((Yf S.wf (tb l i)).mono ?_);rintro _ h ⟨rfl,x⟩)<;>(replace S:=S.join0 x;clear x;refine mv ?_;refine qf ?_)
     all_goals (repeat' (first|refine qg ?_|refine qi rfl ?_|refine qj ?_|(refine qc 7 ?_;refine mv ?_;refine mv ?_;(first|(refine cS ?_ ?_<;>intro hc))<;>(refine qf ?_))|(refine qc 8 ?_;(iterate 5 refine mv ?_);refine qf ?_)|(refine qc 9 ?_;refine mv ?_;refine mv ?_;refine sb ?_;refine mv ?_;refine qf ?_)|(refine qc 10 ?_;refine ad ?_;refine mv ?_;refine qf ?_)))
     ·refine qw ⟨_,rfl,?_⟩;obtain ⟨k,hk⟩:=zH4 h2;exact ⟨i,s - sumT l i,true,rfl,.inl ⟨rfl,i,k,rfl,hk,hq,hi,by omega,by omega⟩,S.drop⟩
     ·refine ⟨i+1,?_,?_,qy⟩
      ·show l.length - (i+1)<l.length - i;omega
      ·exact ⟨S.drop,by omega,by simp only [sumT];omega⟩
    ·refine qw ⟨_,rfl,?_⟩;refine ⟨0,0,false,rfl,.inr ⟨rfl,rfl,rfl,fun j k q=>?_⟩,S⟩;obtain ⟨-,q2,q3,q4⟩:=q;have hil:i=l.length:=by omega
     subst hil;have:=YT l (show j+1≤l.length by omega);simp only [sumT] at this;omega
  ·refine qw ⟨_,rfl,?_⟩;exact ⟨0,0,false,rfl,.inr ⟨rfl,rfl,rfl,fun i k q=>hq q.1⟩,S⟩
open Classical in
noncomputable def tOf (l:List Tab) (s:Int):Int:=if h:∃ i:Nat,∃ k,WhereI l s i k then ((Classical.choose h:Nat):Int) else -1
theorem qbu {l:List Tab} {s:Int} {i k:Nat} (h:WhereI l s i k):tOf l s=i:=by
 unfold tOf;have e:∃ i:Nat,∃ k,WhereI l s i k:=⟨i,k,h⟩
 rw [dif_pos e];obtain ⟨k',hk⟩:=Classical.choose_spec e;rw [(hk.unique h).1]
theorem qbt {l:List Tab} {s:Int} (h:∀ i k,¬ WhereI l s i k):tOf l s = -1:=by
 unfold tOf;rw [dif_neg];rintro ⟨i,k,q⟩;exact h i k q
theorem WhereR.tOf {l:List Tab} {s a b:Int} {f:Bool} (h:WhereR l s a b f):tOf l s=if f=true then a else -1:=by
 rcases h with ⟨rfl,i,k,rfl,rfl,h⟩|⟨rfl,rfl,rfl,h⟩
 ·rw [qbu h,if_pos rfl]
 ·rw [qbt h,if_neg (by simp)]
theorem qfy (l:List Tab) (s:Int) : -1≤tOf l s∧tOf l s<l.length:=by
 by_cases e:∃ i:Nat,∃ k,WhereI l s i k
 ·obtain ⟨i,k,h⟩:=e;rw [qbu h];have:=h.2.1;omega
 ·rw [qbt fun i k q=>e ⟨i,k,q⟩];omega
def Zq (ts:List Int) (n:Nat):List Int:=(List.range n).map fun t:Nat=>((ts.count (t:Int):Nat):Int)
theorem Gj {ts:List Int} {n:Nat}:(Zq ts n).length=n:=by simp [Zq]
theorem xI {ts:List Int} {n t:Nat} (h:t<n):(Zq ts n).getD t default=((ts.count (t:Int):Nat):Int):=by
 rw [zA2];simp [Zq,h]
theorem qcC {n:Nat}:Zq [] n=List.replicate n 0:=by
 apply List.ext_getElem (by simp [Zq])
 intro j h1 h2;simp [Zq]
theorem qcD {ts:List Int} {n:Nat} {x:Int} (h:x<0):Zq (ts ++ [x]) n=Zq ts n:=by
 unfold Zq;apply List.map_congr_left
 intro t _;rw [List.count_append];have:List.count (t:Int) [x]=0:=List.count_eq_zero_of_not_mem (by simp;omega);rw [this,Nat.add_zero]
theorem qcE {ts:List Int} {n k:Nat} (h:k<n):Zq (ts ++ [(k:Int)]) n=(Zq ts n).set k ((Zq ts n).getD k default+1):=by
 apply List.ext_getElem (by simp [Zq])
 intro j h1 h2;rw [List.getElem_set];simp only [xI h];simp only [Zq,List.getElem_map,List.getElem_range,List.count_append];by_cases e:k=j
 ·subst e;simp
 ·rw [if_neg e];have:List.count (j:Int) [(k:Int)]=0:=List.count_eq_zero_of_not_mem (by simp;omega);rw [this];simp
noncomputable def jM (p:Pb) (q:List Int):List Int:=Zq (q.map (tOf p.tabs)) p.tabs.length
theorem ZR {p:Pb} {q:List Int}:(jM p q).length=p.tabs.length:=Gj
theorem qds {p:Pb} {q:List Int} {i:Nat}:0≤(jM p q).getD i default∧(jM p q).getD i default≤q.length:=by
 rcases zA7 i p.tabs.length with h|h
 ·unfold jM;rw [xI h];have:=List.count_le_length (a:=(i:Int)) (l:=q.map (tOf p.tabs));rw [zC5] at this;omega
 ·rw [zA2,zG5 (by rw [ZR];exact h)];exact ⟨Int.le_refl _,by show (0:Int)≤_;omega⟩
def Zb (pl:List Int):Nat→List Int
 | 0=>[]
 | n+1=>if 0<pl.getD n default then Zb pl n ++ [(n:Int)] else Zb pl n
def srv (pl:List Int):List Int:=Zb pl pl.length
theorem Ye {pl:List Int} {t:Int}:∀ {n:Nat},t∈Zb pl n↔∃ k:Nat,k<n∧t=k∧0<pl.getD k default
 | 0=>by simp [Zb]
 | n+1=>by
  rw [Zb];split
  ·rename_i h
   rw [zB8,Ye,zB5];constructor
   ·rintro (⟨k,h1,h2,h3⟩|rfl)
    ·exact ⟨k,by omega,h2,h3⟩
    ·exact ⟨n,by omega,rfl,h⟩
   ·rintro ⟨k,h1,h2,h3⟩;rcases zA7 k n with r|r
    ·exact .inl ⟨k,r,h2,h3⟩
    ·obtain rfl:k=n:=by omega
     exact .inr h2
  ·rename_i h
   rw [Ye];constructor
   ·rintro ⟨k,h1,h2,h3⟩;exact ⟨k,by omega,h2,h3⟩
   ·rintro ⟨k,h1,h2,h3⟩;rcases zA7 k n with r|r
    ·exact ⟨k,r,h2,h3⟩
    ·obtain rfl:k=n:=by omega
     exact absurd h3 h
theorem JR {pl:List Int}:∀ {n:Nat},(Zb pl n).Pairwise (· < ·)∧(Zb pl n).length≤n
 | 0=>⟨.nil,zA3 _⟩
 | n+1=>by
  have h:=JR (pl:=pl) (n:=n);rw [Zb];split
  ·refine ⟨?_,by simp;omega⟩;rw [List.pairwise_append];refine ⟨h.1,by simp,fun a ha b hb=>?_⟩;obtain ⟨k,h1,h2,-⟩:=Ye.1 ha;rw [zB5] at hb;omega
  ·exact ⟨h.1,by omega⟩
theorem qdl {pl:List Int} {t:Int}:t∈srv pl↔∃ k:Nat,k<pl.length∧t=k∧0<pl.getD k default:=Ye
theorem srv_inc {pl:List Int}:(srv pl).Pairwise (· < ·):=JR.1
theorem P5 {pl:List Int}:(srv pl).length≤pl.length:=JR.2
theorem pq {h0:AH} (w:WfH h0) (v:PbV) (p:Pb) (H:PbOk h0 v p) (vq:Value) (q:List Int) (rq:zo h0 vq 1 eI q) (hq:q.length≤1000000) (hqm:∀ x∈q,x≤9223372036854775807) :
 Fn Tryz.prog Xh 96 [v.val,vq] h0 (fun u h'=>Hs h0 h' [.sl u 3 1 eI (q.map (tOf p.tabs))]):=by
 have S:=Hs.start w;unfold PbV.val;refine qM (by first|rfl) Tryz.func96 rfl rfl ?_;all_goals (repeat' (first|refine qg ?_|(refine qc 0 ?_;(refine bx S ?_;clear S;intro b h S);refine mv ?_;refine qf ?_)))
 obtain ⟨b2,hnm⟩:∃ x,x=b:=⟨_,rfl⟩;subst hnm;have S:=S.nilS (e:=3) (z:=1) (enc:=eI);all_goals (repeat' (first|refine qg ?_|refine qp ?_|(refine qc 1 ?_;refine mv ?_;refine qf ?_)|(refine qc 2 ?_;refine mv ?_;refine jZ S ?_;refine mv ?_;refine qf ?_)))
 refine qL (σ:=Nat×Value) (fun (i,vo) h'=>Hs h0 h' [.sl vo 3 1 eI ((q.map (tOf p.tabs)).take i),.blk b2 v.cs 28]∧i≤q.length) (fun (i,vo)=>q.length - i) (fun (i,vo)=>[(2,.pointer (some ⟨b2,0,none⟩)),(5,vo),(11,vq),(12,.int .i64 q.length),(13,.int .i64 i)]) (0,.slice none 0 0) qy ?_ ?_
 ·exact ⟨S,zB0 _⟩
 clear S;rintro ⟨i,vo⟩ h ⟨S,g1⟩;all_goals (repeat' (first|refine qg ?_|refine qi rfl ?_|refine qj ?_|refine qA ?_|refine qp ?_|(refine qc 3 ?_;(first|(refine cS ?_ ?_<;>intro hc))<;>(refine qf ?_))|(refine qc 4 ?_;refine QE S ?_;refine Qk S ?_;refine mv ?_;refine qf ?_)))
 ·obtain ⟨x,hx⟩:∃ x,q.getD (i:Int).toNat default=x:=⟨_,rfl⟩
  rw [hx];replace hx:q.getD i default=x:=hx;have hi:i<q.length:=by omega
  have hxm:=hqm x (by rw [← hx];exact qJ hi);have key:(q.map (tOf p.tabs)).take (i+1)=(q.map (tOf p.tabs)).take i ++ [tOf p.tabs x]:=by
   rw [List.take_add_one,zH8,zA4 hi,← hx,zA2,zA4 hi];rfl
  all_goals (repeat' (first|(refine qc 5 ?_;refine vl ?_;refine lB S rfl rfl ?_;refine mv ?_)))
  (refine qx rfl rfl rfl rfl rfl ((qbk S.wf v.vt.val p.tabs (H.tab.ext w S.ext) x hxm).mono ?_);rintro _ h ⟨a,b,f,rfl,hw,s⟩)<;>(replace S:=S.join0 s;clear s;refine mv ?_;refine vl ?_;refine vl ?_;refine vl ?_;(iterate 3 refine mv ?_);refine qf ?_)
  have ht:=hw.tOf;cases f with
  | true =>
   rw [if_pos rfl] at ht;all_goals (repeat' (first|refine qg ?_|refine qi rfl ?_|refine qj ?_|(refine qc 6 ?_;refine mv ?_;refine vl ?_;refine qf ?_)))
   all_goals (repeat' (first|(refine qc 8 ?_;refine mv ?_;refine mv ?_;(refine one 1 S ?_;clear S;intro u h S))))
   refine app (y0:=a) S rfl rfl ?_;clear S;intro v h S;refine mv ?_;refine qf ?_;rw [← ht,← key] at S;all_goals (repeat' (first|(refine qc 9 ?_;refine ad ?_;refine mv ?_;refine qf ?_)))
   refine ⟨(i+1,v),?_,?_,qy⟩
   ·show q.length - (i+1)<q.length - i;omega
   ·exact ⟨S,by omega⟩
  | false =>
   rw [if_neg (by simp)] at ht;all_goals (repeat' (first|refine qg ?_|refine qi rfl ?_|(refine qc 6 ?_;refine mv ?_;refine vl ?_;refine qf ?_)|(refine qc 7 ?_;refine mv ?_;refine qf ?_)))
   all_goals (repeat' (first|(refine qc 8 ?_;refine mv ?_;refine mv ?_;(refine one 1 S ?_;clear S;intro u h S))))
   refine app (y0:=(-1)) S rfl rfl ?_;clear S;intro v h S;refine mv ?_;refine qf ?_;rw [← ht,← key] at S;all_goals (repeat' (first|(refine qc 9 ?_;refine ad ?_;refine mv ?_;refine qf ?_)))
   refine ⟨(i+1,v),?_,?_,qy⟩
   ·show q.length - (i+1)<q.length - i;omega
   ·exact ⟨S,by omega⟩
 ·all_goals (repeat' (first|(refine qc 10 ?_;refine mv ?_;refine mv ?_;refine qf ?_)))
  refine qw ⟨_,rfl,?_⟩;obtain rfl:i=q.length:=by omega
  rw [zF8 (by simp)] at S;exact S.only .here
theorem XJ {h0:AH} (w:WfH h0) (v:PbV) (p:Pb) (H:PbOk h0 v p) (vq:Value) (q:List Int) (rq:zo h0 vq 1 eI q) (hq:q.length≤1000000) (hqm:∀ x∈q,x≤9223372036854775807) :
 Fn Tryz.prog Xh 52 [v.val,vq] h0 (fun u h'=>Hs h0 h' [.sl u 3 1 eI (jM p q)]):=by
 have S:=Hs.start w;have hr:=H.tab.rd;have hl:=H.tab.len;unfold PbV.val;refine qM (by first|rfl) Tryz.func52 rfl rfl ?_;all_goals (repeat' (first|refine qg ?_|(refine qc 0 ?_;(refine bx S ?_;clear S;intro b h S);refine mv ?_;refine qf ?_)))
 obtain ⟨b2,hnm⟩:∃ x,x=b:=⟨_,rfl⟩;subst hnm;all_goals (repeat' (first|(refine qc 1 ?_;refine vl ?_;refine lB S rfl rfl ?_;refine jZ S ?_)))
 refine Y5 (z:=1) (by_:=8) (enc:=eI) (y0:=0) S rfl rfl rfl rfl rfl rfl rfl rfl rfl (by intro _;rfl) (by first|omega) rfl rfl ?_;clear S;intro v h S;obtain ⟨vk,rfl⟩:=S.sV v;refine mv ?_;refine qf ?_;simp only [zA0] at S;all_goals (repeat' (first|refine qg ?_|(refine qc 2 ?_;refine lB S rfl rfl ?_;refine mv ?_)))
 (refine qx rfl rfl rfl rfl rfl ((pq S.wf v p (H.ext w S.ext) vq q (rq.ext w S.ext) hq hqm).mono ?_);rintro vt h x)<;>(replace S:=S.join1 x;clear x;refine yc S rfl rfl ?_;refine mv ?_;refine qf ?_)
 all_goals (repeat' (refine qp ?_))
 obtain ⟨ts,hts⟩:∃ ts,q.map (tOf p.tabs)=ts:=⟨_,rfl⟩
 have htl:ts.length=q.length:=by rw [← hts];simp
 have htb:∀ i,i<ts.length→-1≤ts.getD i default∧ts.getD i default<p.tabs.length:=fun i hi=>by
  obtain ⟨x,-,hx⟩:=zF1.1 (show ts.getD i default∈q.map (tOf p.tabs) by rw [hts];exact qJ hi);rw [← hx];exact qfy _ _
 have hp:jM p q=Zq ts p.tabs.length:=by unfold jM;rw [hts]
 rw [hp];rw [hts] at S ⊢;refine qL (σ:=Nat) (fun i h'=>Hs h0 h' [.sl vt 3 1 eI ts,.sl vk.val 3 1 eI (Zq (ts.take i) p.tabs.length),.blk b2 v.cs 28]∧i≤ts.length) (fun i=>ts.length - i) (fun i=>[(5,vk.val),(14,vt),(15,.int .i64 ts.length),(16,.int .i64 i)]) 0 qy ?_ ?_
 ·refine ⟨?_,zB0 _⟩;rw [List.take_zero,qcC];exact S
 clear S;rintro i h ⟨S,g1⟩;have hcl:=Gj (ts:=ts.take i) (n:=p.tabs.length);all_goals (repeat' (first|refine qg ?_|refine qi rfl ?_|refine qj ?_|refine qA ?_|refine qp ?_|(refine qc 3 ?_;(first|(refine cS ?_ ?_<;>intro hc))<;>(refine qf ?_))|(refine qc 4 ?_;refine jI S rfl rfl ?_;refine jT S rfl rfl ?_;refine mv ?_;refine qf ?_)))
 ·obtain ⟨x,hx⟩:∃ x,ts.getD (i:Int).toNat default=x:=⟨_,rfl⟩
  rw [hx];replace hx:ts.getD i default=x:=hx;have hi:i<ts.length:=by omega
  have hb:=htb i hi;rw [hx] at hb;have key:ts.take (i+1)=ts.take i ++ [x]:=by
   rw [List.take_add_one,zA4 hi,← hx,zA2,zA4 hi];rfl
  all_goals (repeat' (first|refine qi rfl ?_|refine qj ?_|(refine qc 5 ?_;refine mv ?_;(first|(refine cS ?_ ?_<;>intro hc))<;>(refine qf ?_))))
  ·obtain ⟨k,rfl⟩:=zH4 (show 0≤x by omega);have hk:k<p.tabs.length:=by omega
   have hb2:0≤(Zq (ts.take i) p.tabs.length).getD (k:Int).toNat default∧(Zq (ts.take i) p.tabs.length).getD (k:Int).toNat default≤1000000:=by
    show 0≤(Zq (ts.take i) p.tabs.length).getD k default∧(Zq (ts.take i) p.tabs.length).getD k default≤1000000
    rw [xI hk];have:=List.count_le_length (a:=(k:Int)) (l:=ts.take i);rw [zA9] at this;omega
   all_goals (repeat' (first|(refine qc 6 ?_;refine mv ?_;refine mv ?_;refine jI S rfl rfl ?_;refine jT S rfl rfl ?_;refine ad ?_;refine jI S rfl rfl ?_;(first|(refine sE2 S rfl rfl ?_;clear S;intro h S));refine qf ?_)|(refine qc 7 ?_;refine ad ?_;refine mv ?_;refine qf ?_)))
   refine ⟨i+1,?_,?_,qy⟩
   ·show ts.length - (i+1)<ts.length - i;omega
   ·refine ⟨?_,by omega⟩;rw [key,qcE hk];exact S
  ·all_goals (repeat' (first|(refine qc 7 ?_;refine ad ?_;refine mv ?_;refine qf ?_)))
   refine ⟨i+1,?_,?_,qy⟩
   ·show ts.length - (i+1)<ts.length - i;omega
   ·refine ⟨?_,by omega⟩;rw [key,qcD (by omega)];exact S
 ·all_goals (repeat' (first|(refine qc 8 ?_;refine mv ?_;refine mv ?_;refine qf ?_)))
  refine qw ⟨_,rfl,?_⟩;obtain rfl:i=ts.length:=by omega
  rw [zF8 (zA3 _)] at S;exact S.only (.there .here)
theorem pJ {h0:AH} (w:WfH h0) (v:PbV) (p:Pb) (H:PbOk h0 v p) (vq:Value) (q:List Int) (rq:zo h0 vq 1 eI q) (hq:q.length≤1000000) (hqm:∀ x∈q,x≤9223372036854775807) :
 Fn Tryz.prog Xh 51 [v.val,vq] h0 (fun u h'=>Hs h0 h' [.sl u 3 1 eI (srv (jM p q))]):=by
 have S:=Hs.start w;unfold PbV.val;refine qM (by first|rfl) Tryz.func51 rfl rfl ?_;all_goals (repeat' (first|refine qg ?_|(refine qc 0 ?_;(refine bx S ?_;clear S;intro b h S);refine mv ?_;refine qf ?_)))
 obtain ⟨b2,hnm⟩:∃ x,x=b:=⟨_,rfl⟩;subst hnm;have S:=S.nilS (e:=3) (z:=1) (enc:=eI);all_goals (repeat' (first|refine qg ?_|(refine qc 1 ?_;refine mv ?_;refine qf ?_)|(refine qc 2 ?_;refine lB S rfl rfl ?_;refine mv ?_)))
 (refine qx rfl rfl rfl rfl rfl ((XJ S.wf v p (H.ext w S.ext) vq q (rq.ext w S.ext) hq hqm).mono ?_);rintro vt h x)<;>(replace S:=S.join1 x;clear x;refine yc S rfl rfl ?_;refine mv ?_;refine qf ?_)
 all_goals (repeat' (refine qp ?_))
 obtain ⟨pl,hpl⟩:∃ pl,jM p q=pl:=⟨_,rfl⟩
 have hll:pl.length≤1000:=by rw [← hpl,ZR];exact H.tab.len
 rw [hpl] at S ⊢;replace S:Hs h0 h [.sl vt 3 1 eI pl,.sl (.slice none 0 0) 3 1 eI [],.blk b2 v.cs 28]:=S;have S:=(show Hs h0 h [.sl (.slice none 0 0) 3 1 eI [],.sl vt 3 1 eI pl,.blk b2 v.cs 28] from S.pick)
 refine qL (σ:=Nat×Value) (fun (i,vo) h'=>Hs h0 h' [.sl vo 3 1 eI (Zb pl i),.sl vt 3 1 eI pl,.blk b2 v.cs 28]∧i≤pl.length) (fun (i,vo)=>pl.length - i) (fun (i,vo)=>[(5,vo),(10,vt),(11,.int .i64 pl.length),(12,.int .i64 i)]) (0,.slice none 0 0) qy ?_ ?_
 ·exact ⟨S,zB0 _⟩
 clear S;rintro ⟨i,vo⟩ h ⟨S,g1⟩;have hsl:=(JR (pl:=pl) (n:=i)).2;all_goals (repeat' (first|refine qg ?_|refine qi rfl ?_|refine qj ?_|refine qA ?_|refine qp ?_|(refine qc 3 ?_;(first|(refine cS ?_ ?_<;>intro hc))<;>(refine qf ?_))|(refine qc 4 ?_;refine mv ?_;refine jI S rfl rfl ?_;refine jT S rfl rfl ?_;refine mv ?_;refine mv ?_;refine qf ?_)))
 ·obtain ⟨x,hx⟩:∃ x,pl.getD (i:Int).toNat default=x:=⟨_,rfl⟩
  rw [hx];replace hx:pl.getD i default=x:=hx;all_goals (repeat' (first|refine qi rfl ?_|refine qj ?_|(refine qc 5 ?_;refine mv ?_;(first|(refine cS ?_ ?_<;>intro hc))<;>(refine qf ?_))))
  ·have key:Zb pl (i+1)=Zb pl i ++ [(i:Int)]:=by rw [Zb,if_pos (by omega)]
   all_goals (repeat' (first|(refine qc 6 ?_;refine mv ?_;refine mv ?_;(refine one 1 S ?_;clear S;intro u h S))))
   refine app (y0:=(i:Int)) S rfl rfl ?_;clear S;intro v h S;refine mv ?_;refine qf ?_;rw [← key] at S;all_goals (repeat' (first|(refine qc 7 ?_;refine ad ?_;refine mv ?_;refine qf ?_)))
   refine ⟨(i+1,v),?_,?_,qy⟩
   ·show pl.length - (i+1)<pl.length - i;omega
   ·exact ⟨S,by omega⟩
  ·have key:Zb pl (i+1)=Zb pl i:=by rw [Zb,if_neg (by omega)]
   all_goals (repeat' (first|(refine qc 7 ?_;refine ad ?_;refine mv ?_;refine qf ?_)))
   rw [← key] at S;refine ⟨(i+1,vo),?_,?_,qy⟩
   ·show pl.length - (i+1)<pl.length - i;omega
   ·exact ⟨S,by omega⟩
 ·all_goals (repeat' (first|(refine qc 8 ?_;refine mv ?_;refine mv ?_;refine qf ?_)))
  refine qw ⟨_,rfl,?_⟩;obtain rfl:i=pl.length:=by omega
  exact S.only .here
end Go.Proofs.Xx
namespace Go.Proofs.Xx
section
variable {α:Type} [Inhabited α]
theorem KT (l:List α) {i:Nat} (x:α) (h:i<l.length) (j:Nat):(l.set i x).getD j default=if j=i then x else l.getD j default:=by
 rw [zA2,zA2,List.getElem?_set];by_cases e:i=j
 ·subst e;rw [if_pos rfl,if_pos rfl,if_pos h];rfl
 ·rw [if_neg e,if_neg (fun q=>e q.symm)]
def swp (l:List α) (i j:Nat):List α:=(l.set i (l.getD j default)).set j (l.getD i default)
theorem qdf (l:List α) (i j:Nat):(swp l i j).length=l.length:=by simp [swp]
theorem swp_get {l:List α} {i j:Nat} (hi:i<l.length) (hj:j<l.length) (k:Nat):(swp l i j).getD k default=if k=j then l.getD i default else if k=i then l.getD j default else l.getD k default:=by
 unfold swp;rw [KT _ _ (by simpa using hj),KT _ _ hi]
theorem qbv {l:List α} {i j:Nat} (hi:i<l.length) (hj:j<l.length):(swp l i j).Perm l:=by
 unfold swp;have e1:l.getD i default=l[i]:=by simp [zA2,zA4 hi]
 have e2:l.getD j default=l[j]:=by simp [zA2,zA4 hj]
 rw [e1,e2];exact List.set_set_perm hi hj
inductive Sw (a b:Nat):List α→List α→Prop
 | refl (l:List α):Sw a b l l
 | step {l l':List α} (i j:Nat) (h:Sw a b l l') (hi:a≤i∧i<b) (hj:a≤j∧j<b) (hb:b≤l'.length):Sw a b l (swp l' i j)
theorem Sw.len {a b:Nat} {l l':List α} (h:Sw a b l l'):l'.length=l.length:=by
 induction h with
 | refl=>rfl
 | step i j h hi hj hb ih=>rw [qdf,ih]
theorem Sw.perm {a b:Nat} {l l':List α} (h:Sw a b l l'):l'.Perm l:=by
 induction h with
 | refl=>exact .refl _
 | step i j h hi hj hb ih=>exact (qbv (by omega) (by omega)).trans ih
theorem Sw.out {a b:Nat} {l l':List α} (h:Sw a b l l') {k:Nat} (hk:k<a∨b≤k):l'.getD k default=l.getD k default:=by
 induction h with
 | refl=>rfl
 | step i j h hi hj hb ih=>rw [swp_get (by omega) (by omega),if_neg (by omega),if_neg (by omega),ih]
theorem Sw.in_ {a b:Nat} {l l':List α} (h:Sw a b l l'):∀ {k:Nat},a≤k→k<b→∃ m,a≤m∧m<b∧l'.getD k default=l.getD m default:=by
 induction h with
 | refl=>intro k h1 h2;exact ⟨k,h1,h2,rfl⟩
 | step i j h hi hj hb ih =>
  intro k h1 h2;rw [swp_get (by omega) (by omega)];split
  ·exact ih hi.1 hi.2
  ·split
   ·exact ih hj.1 hj.2
   ·exact ih h1 h2
theorem Sw.trans {a b:Nat} {l m n:List α} (h:Sw a b l m) (g:Sw a b m n):Sw a b l n:=by
 induction g with
 | refl=>exact h
 | step i j g hi hj hb ih=>exact .step i j ih hi hj hb
theorem Sw.mono {a b a' b':Nat} {l m:List α} (h:Sw a b l m) (ha:a'≤a) (hb:b≤b') (hl:b'≤l.length):Sw a' b' l m:=by
 induction h with
 | refl=>exact .refl _
 | step i j g hi hj hbl ih =>
  exact .step i j ih ⟨by omega,by omega⟩ ⟨by omega,by omega⟩ (by rw [g.len];exact hl)
theorem Sw.one {a b:Nat} {l:List α} (i j:Nat) (hi:a≤i∧i<b) (hj:a≤j∧j<b) (hb:b≤l.length):Sw a b l (swp l i j):=.step i j (.refl l) hi hj hb
structure WOrd (lt:α→α→Prop):Prop where
 irr:∀ x,¬ lt x x
 tr:∀ {x y z},lt x y→lt y z→lt x z
 ntr:∀ {x y z},¬ lt y x→¬ lt z y→¬ lt z x
theorem WOrd.asym {lt:α→α→Prop} (W:WOrd lt) {x y:α} (h:lt x y):¬ lt y x:=fun g=>W.irr x (W.tr h g)
def Srt (lt:α→α→Prop) (a b:Nat) (l:List α):Prop:=∀ i j,a≤i→i<j→j<b→¬ lt (l.getD j default) (l.getD i default)
theorem Srt.adj {lt:α→α→Prop} (W:WOrd lt) {a b:Nat} {l:List α} (h:∀ i,a≤i→i+1<b→¬ lt (l.getD (i+1) default) (l.getD i default)):Srt lt a b l:=by
 intro i j h1 h2 h3;induction j with
 | zero=>omega
 | succ j ih =>
  rcases zA7 i j with q|q
  ·exact W.ntr (ih q (by omega)) (h j (by omega) h3)
  ·have:i=j:=by omega
   subst this;exact h i h1 h3
def InsI (lt:α→α→Prop) (a i j:Nat) (l:List α):Prop:=∀ p q,a≤p→p<q→q≤i→q≠j→¬ lt (l.getD q default) (l.getD p default)
theorem InsI.start {lt:α→α→Prop} {a i:Nat} {l:List α} (h:Srt lt a i l):InsI lt a i i l:=fun p q h1 h2 h3 h4=>h p q h1 h2 (by omega)
theorem InsI.next {lt:α→α→Prop} (W:WOrd lt) {a i j:Nat} {l:List α} (h:InsI lt a i j l) (hj:a<j) (hji:j≤i) (hl:i<l.length) (hc:lt (l.getD j default) (l.getD (j - 1) default)):InsI lt a i (j - 1) (swp l j (j - 1)):=by
 intro p q h1 h2 h3 h4;have g:=swp_get (l:=l) (i:=j) (j:=j - 1) (by omega) (by omega);rw [g q,g p,if_neg h4];by_cases e1:q=j
 ·subst e1;rw [if_pos rfl];by_cases e2:p=q - 1
  ·rw [if_pos e2];exact W.asym hc
  ·rw [if_neg e2,if_neg (by omega)];exact h p (q - 1) h1 (by omega) (by omega) (by omega)
 ·rw [if_neg e1];by_cases e2:p=j - 1
  ·rw [if_pos e2];exact h j q (by omega) (by omega) h3 e1
  ·rw [if_neg e2];by_cases e3:p=j
   ·rw [if_pos e3];exact h (j - 1) q (by omega) (by omega) h3 e1
   ·rw [if_neg e3];exact h p q h1 h2 h3 e1
theorem InsI.done {lt:α→α→Prop} (W:WOrd lt) {a i j:Nat} {l:List α} (h:InsI lt a i j l) (hc:j≤a∨¬ lt (l.getD j default) (l.getD (j - 1) default)):Srt lt a (i+1) l:=by
 intro p q h1 h2 h3;by_cases e:q=j
 ·subst e;rcases hc with hc|hc
  ·omega
  ·by_cases e2:p=q - 1
   ·rw [e2];exact hc
   ·exact W.ntr (h p (q - 1) h1 (by omega) (by omega) (by omega)) hc
 ·exact h p q h1 h2 (by omega) e
def kU (lt:α→α→Prop) (f hi k:Nat) (l:List α):Prop :=
 (2*k+1<hi→¬ lt (l.getD (f+k) default) (l.getD (f+(2*k+1)) default))∧(2*k+2<hi→¬ lt (l.getD (f+k) default) (l.getD (f+(2*k+2)) default))
def Heap (lt:α→α→Prop) (f lo hi:Nat) (l:List α):Prop:=∀ k,lo≤k→kU lt f hi k l
def SiftI (lt:α→α→Prop) (f lo hi root:Nat) (l:List α):Prop :=
 (∀ k,lo≤k→k≠root→kU lt f hi k l)∧∀ k,lo≤k→(root=2*k+1∨root=2*k+2)→∀ c,(c=2*root+1∨c=2*root+2)→c<hi→¬ lt (l.getD (f+k) default) (l.getD (f+c) default)
theorem SiftI.start {lt:α→α→Prop} {f lo hi:Nat} {l:List α} (h:Heap lt f (lo+1) hi l):SiftI lt f lo hi lo l:=⟨fun k h1 h2=>h k (by omega),fun k h1 h2=>by omega⟩
theorem SiftI.done {lt:α→α→Prop} {f lo hi root:Nat} {l:List α} (h:SiftI lt f lo hi root l) (hc:kU lt f hi root l):Heap lt f lo hi l:=fun k h1=>by
 by_cases e:k=root
 ·subst e;exact hc
 ·exact h.1 k h1 e
theorem SiftI.next {lt:α→α→Prop} (W:WOrd lt) {f lo hi root c:Nat} {l:List α} (h:SiftI lt f lo hi root l) (hr:lo≤root) (hcc:c=2*root+1∨c=2*root+2) (hch:c<hi) (hl:f+hi≤l.length)
 (hm:∀ d,(d=2*root+1∨d=2*root+2)→d<hi→¬ lt (l.getD (f+c) default) (l.getD (f+d) default)) (hc:lt (l.getD (f+root) default) (l.getD (f+c) default)) :
 SiftI lt f lo hi c (swp l (f+root) (f+c)):=by
 have g:=swp_get (l:=l) (i:=f+root) (j:=f+c) (by omega) (by omega);have at_c:(swp l (f+root) (f+c)).getD (f+c) default=l.getD (f+root) default:=by rw [g,if_pos rfl]
 have at_r:(swp l (f+root) (f+c)).getD (f+root) default=l.getD (f+c) default:=by rw [g,if_neg (by omega),if_pos rfl]
 have at_o:∀ k,k≠c→k≠root→(swp l (f+root) (f+c)).getD (f+k) default=l.getD (f+k) default:=fun k h1 h2=>by rw [g,if_neg (by omega),if_neg (by omega)]
 refine ⟨fun k h1 h2=>?_,fun k h1 h2 d hd hdh=>?_⟩
 ·by_cases e:k=root
  ·subst e;refine ⟨fun q=>?_,fun q=>?_⟩
   ·rw [at_r];by_cases e1:2*k+1=c
    ·rw [e1,at_c];exact W.asym hc
    ·rw [at_o _ e1 (by omega)];exact hm _ (.inl rfl) q
   ·rw [at_r];by_cases e1:2*k+2=c
    ·rw [e1,at_c];exact W.asym hc
    ·rw [at_o _ e1 (by omega)];exact hm _ (.inr rfl) q
  ·have hk:=h.1 k h1 e;rw [kU,at_o k h2 e];refine ⟨fun q=>?_,fun q=>?_⟩
   ·by_cases e1:2*k+1=root
    ·rw [e1,at_r];exact h.2 k h1 (.inl e1.symm) c hcc hch
    ·by_cases e2:2*k+1=c
     ·omega
     ·rw [at_o _ e2 e1];exact hk.1 q
   ·by_cases e1:2*k+2=root
    ·rw [e1,at_r];exact h.2 k h1 (.inr e1.symm) c hcc hch
    ·by_cases e2:2*k+2=c
     ·omega
     ·rw [at_o _ e2 e1];exact hk.2 q
 ·have e:k=root:=by omega
  subst e;rw [at_r,at_o d (by omega) (by omega)];have hk:=h.1 c (by omega) (by omega);rcases hd with hd|hd
  ·subst hd;exact hk.1 hdh
  ·subst hd;exact hk.2 hdh
theorem Heap.max {lt:α→α→Prop} (W:WOrd lt) {f hi:Nat} {l:List α} (h:Heap lt f 0 hi l) (k:Nat) (hk:k<hi):¬ lt (l.getD (f+0) default) (l.getD (f+k) default):=by
 induction k using Nat.strongRecOn with
 | _ k ih =>
  rcases zF4 k with e|e
  ·subst e;exact W.irr _
  ·have hp:=h ((k - 1) / 2) (zB0 _);have hi':=ih ((k - 1) / 2) (by omega) (by omega);rcases (by omega:k=2*((k - 1) / 2)+1∨k=2*((k - 1) / 2)+2) with q|q
   ·have:=hp.1 (by omega);rw [← q] at this;exact W.ntr this hi'
   ·have:=hp.2 (by omega);rw [← q] at this;exact W.ntr this hi'
def HeapI (lt:α→α→Prop) (f i n:Nat) (l:List α):Prop:=Heap lt f 0 i l∧∀ p q,p<q→i≤q→q<n→¬ lt (l.getD (f+q) default) (l.getD (f+p) default)
def DoneI (lt:α→α→Prop) (a b a' b':Nat) (l:List α):Prop:=∀ i j,a≤i→i<j→j<b→(i<a'∨b'≤j)→¬ lt (l.getD j default) (l.getD i default)
theorem DoneI.start {lt:α→α→Prop} {a b:Nat} {l:List α}:DoneI lt a b a b l:=fun i j h1 h2 h3 h4=>by omega
theorem DoneI.sw {lt:α→α→Prop} {a b a' b':Nat} {l l':List α} (h:DoneI lt a b a' b' l) (s:Sw a' b' l l') (h1:a≤a') (h2:b'≤b):DoneI lt a b a' b' l':=by
 intro i j q1 q2 q3 q4;rcases q4 with q4|q4
 ·rw [s.out (k:=i) (.inl q4)];rcases zA7 j a' with q5|q5
  ·rw [s.out (.inl q5)];exact h i j q1 q2 q3 (.inl q4)
  ·rcases zA7 j b' with q6|q6
   ·obtain ⟨m,m1,m2,m3⟩:=s.in_ q5 q6;rw [m3];exact h i m q1 (by omega) (by omega) (.inl q4)
   ·rw [s.out (.inr q6)];exact h i j q1 q2 q3 (.inl q4)
 ·rw [s.out (k:=j) (.inr q4)];rcases zA7 i a' with q5|q5
  ·rw [s.out (.inl q5)];exact h i j q1 q2 q3 (.inl q5)
  ·rcases zA7 i b' with q6|q6
   ·obtain ⟨m,m1,m2,m3⟩:=s.in_ q5 q6;rw [m3];exact h m j (by omega) (by omega) q3 (.inr q4)
   ·rw [s.out (.inr q6)];exact h i j q1 q2 q3 (.inr q4)
theorem DoneI.finish {lt:α→α→Prop} {a b a' b':Nat} {l:List α} (h:DoneI lt a b a' b' l) (s:Srt lt a' b' l):Srt lt a b l:=by
 intro i j q1 q2 q3;by_cases e:i<a'∨b'≤j
 ·exact h i j q1 q2 q3 e
 ·exact s i j (by omega) q2 (by omega)
def Parted (lt:α→α→Prop) (a b m:Nat) (l:List α):Prop:=(∀ k,a≤k→k<m→lt (l.getD k default) (l.getD m default))∧∀ k,m<k→k<b→¬ lt (l.getD k default) (l.getD m default)
theorem Parted.across {lt:α→α→Prop} (W:WOrd lt) {a b m:Nat} {l:List α} (h:Parted lt a b m l) {i j:Nat} (h1:a≤i) (h2:i≤m) (h3:m≤j) (h4:j<b) (h5:i<j):¬ lt (l.getD j default) (l.getD i default):=by
 have e1:¬ lt (l.getD m default) (l.getD i default):=by
  rcases zA7 i m with q|q
  ·exact W.asym (h.1 i h1 q)
  ·have:i=m:=by omega
   subst this;exact W.irr _
 have e2:¬ lt (l.getD j default) (l.getD m default):=by
  rcases zA7 m j with q|q
  ·exact h.2 j q h4
  ·have:j=m:=by omega
   subst this;exact W.irr _
 exact W.ntr e1 e2
theorem DoneI.left {lt:α→α→Prop} (W:WOrd lt) {a b a' b' m:Nat} {l l':List α} (h:DoneI lt a b a' b' l) (p:Parted lt a' b' m l) (hm:a'≤m∧m<b') (hab:a≤a'∧b'≤b) (s:Sw a' m l l') (hs:Srt lt a' m l') (hl:b'≤l.length):DoneI lt a b (m+1) b' l':=by
 have h':=h.sw (s.mono (zA3 _) (by omega) hl) hab.1 hab.2;intro i j q1 q2 q3 q4;by_cases e:i<a'∨b'≤j
 ·exact h' i j q1 q2 q3 e
 ·rcases q4 with q4|q4
  ·rcases zA7 j m with q5|q5
   ·exact hs i j (by omega) q2 q5
   ·rw [s.out (k:=j) (.inr q5)];rcases zA7 i m with q6|q6
    ·obtain ⟨k,k1,k2,k3⟩:=s.in_ (k:=i) (by omega) q6;rw [k3];exact p.across W k1 (by omega) q5 (by omega) (by omega)
    ·rw [s.out (.inr q6)];exact p.across W (by omega) (by omega) q5 (by omega) q2
  ·omega
theorem DoneI.right {lt:α→α→Prop} (W:WOrd lt) {a b a' b' m:Nat} {l l':List α} (h:DoneI lt a b a' b' l) (p:Parted lt a' b' m l) (hm:a'≤m∧m<b') (hab:a≤a'∧b'≤b) (s:Sw (m+1) b' l l') (hs:Srt lt (m+1) b' l') (hl:b'≤l.length):DoneI lt a b a' m l':=by
 have h':=h.sw (s.mono (by omega) (zA3 _) hl) hab.1 hab.2;intro i j q1 q2 q3 q4;by_cases e:i<a'∨b'≤j
 ·exact h' i j q1 q2 q3 e
 ·rcases q4 with q4|q4
  ·omega
  ·rcases zA7 m i with q5|q5
   ·exact hs i j (by omega) q2 (by omega)
   ·rw [s.out (k:=i) (.inl (by omega))];rcases zA7 m j with q6|q6
    ·obtain ⟨k,k1,k2,k3⟩:=s.in_ (k:=j) (by omega) (by omega);rw [k3];exact p.across W (by omega) q5 (by omega) k2 (by omega)
    ·rw [s.out (.inl (by omega))];exact p.across W (by omega) q5 (by omega) (by omega) q2
theorem Sw.all {a b:Nat} {l l':List α} (s:Sw a b l l') {p:α→Prop} (h:∀ k,a≤k→k<b→p (l.getD k default)):∀ k,a≤k→k<b→p (l'.getD k default):=fun k h1 h2=>by
 obtain ⟨m,m1,m2,m3⟩:=s.in_ h1 h2;rw [m3];exact h m m1 m2
end
end Go.Proofs.Xx
namespace Go.Proofs.Xx
section
variable {α:Type} [Inhabited α]
def xch (a b n k:Nat):Nat:=if a≤k∧k<a+n then k+(b - a) else if b≤k∧k<b+n then k - (b - a) else k
def IsXch (a b n:Nat) (l l':List α):Prop:=∀ k,l'.getD k default=l.getD (xch a b n k) default
theorem IsXch.zero {a b:Nat} {l:List α}:IsXch a b 0 l l:=fun k=>by
 unfold xch;rw [if_neg (by omega),if_neg (by omega)]
theorem IsXch.next {a b i:Nat} {l l':List α} (h:IsXch a b i l l') (hab:a+i<b) (hl:b+i<l'.length):IsXch a b (i+1) l (swp l' (a+i) (b+i)):=fun k=>by
 rw [swp_get (by omega) hl];rw [h,h,h];unfold xch;repeat' split
 all_goals first|omega|rfl|(congr 1<;>omega)
def rot (a m b k:Nat):Nat:=if k<a then k else if k<a+(b - m) then k+(m - a) else if k<b then k - (b - m) else k
def qer (a m b:Nat) (l l':List α):Prop:=∀ k,l'.getD k default=l.getD (rot a m b k) default
def RotI (a m b i j:Nat) (l c:List α):Prop:=∀ k,l.getD (rot a m b k) default=c.getD (rot (m - i) m (m+j) k) default
theorem RotI.start {a m b:Nat} {l:List α} (h1:a≤m) (h2:m≤b):RotI a m b (m - a) (b - m) l l:=fun k=>by
 rw [show m - (m - a)=a by omega,show m+(b - m)=b by omega]
theorem RotI.left {a m b i j:Nat} {l c c':List α} (h:RotI a m b i j l c) (hi:i≤m) (hij:j<i) (x:IsXch (m - i) m j c c'):RotI a m b (i - j) j l c':=fun k=>by
 rw [h k,x];congr 1
 unfold xch rot;repeat' split
 all_goals omega
theorem RotI.right {a m b i j:Nat} {l c c':List α} (h:RotI a m b i j l c) (hi:i≤m) (hij:i<j) (x:IsXch (m - i) (m+j - i) i c c'):RotI a m b i (j - i) l c':=fun k=>by
 rw [h k,x];congr 1
 unfold xch rot;repeat' split
 all_goals omega
theorem RotI.done {a m b i:Nat} {l c c':List α} (h:RotI a m b i i l c) (hi:i≤m) (x:IsXch (m - i) m i c c'):qer a m b l c':=fun k=>by
 rw [h k,x];congr 1
 unfold xch rot;repeat' split
 all_goals omega
def IsUp (a k:Nat) (l l':List α):Prop:=∀ x,l'.getD x default=l.getD (if x<a then x else if x<k then x+1 else if x=k then a else x) default
theorem IsUp.start {a:Nat} {l:List α}:IsUp a a l l:=fun x=>by
 congr 1
 repeat' split
 all_goals omega
theorem IsUp.next {a k:Nat} {l l':List α} (h:IsUp a k l l') (hak:a≤k) (hl:k+1<l'.length):IsUp a (k+1) l (swp l' k (k+1)):=fun x=>by
 rw [swp_get (by omega) hl];rw [h,h,h];repeat' split
 all_goals first|omega|rfl|(congr 1<;>omega)
def IsDown (m k:Nat) (l l':List α):Prop:=∀ x,l'.getD x default=l.getD (if x<k then x else if x=k then m else if x≤m then x - 1 else x) default
theorem IsDown.start {m:Nat} {l:List α}:IsDown m m l l:=fun x=>by
 congr 1
 repeat' split
 all_goals omega
theorem IsDown.next {m k:Nat} {l l':List α} (h:IsDown m k l l') (hk:0<k∧k≤m) (hl:m<l'.length):IsDown m (k - 1) l (swp l' k (k - 1)):=fun x=>by
 rw [swp_get (by omega) (by omega)];rw [h,h,h];repeat' split
 all_goals first|omega|rfl|(congr 1<;>omega)
end
def Zj (key:Int→Int) (x y:Int):Prop:=key x<key y∨(key x=key y∧x<y)
theorem WV (key:Int→Int):WOrd (Zj key) where
 irr x h:=by unfold Zj at h;omega
 tr h1 h2:=by unfold Zj at *;omega
 ntr h1 h2:=by unfold Zj at *;omega
structure Mrg (key:Int→Int) (a m b:Nat) (l:List Int):Prop where
 sl:Srt (Zj key) a m l
 sr:Srt (Zj key) m b l
 cr:∀ p q,a≤p→p<m→m≤q→q<b→l.getD p default<l.getD q default
theorem Mrg.up {key:Int→Int} {a b i:Nat} {l l':List Int} (h:Mrg key a (a+1) b l) (hi:a+1≤i∧i≤b) (h1:∀ k,a+1≤k→k<i→Zj key (l.getD k default) (l.getD a default)) (h2:∀ k,i≤k→k<b→¬ Zj key (l.getD k default) (l.getD a default)) (u:IsUp a (i - 1) l l'):Srt (Zj key) a b l':=by
 have W:=WV key;have u1:∀ x,a≤x→x<i - 1→l'.getD x default=l.getD (x+1) default:=fun x q1 q2=>by rw [u x,if_neg (by omega),if_pos q2]
 have u2:l'.getD (i - 1) default=l.getD a default:=by
  rw [u,if_neg (by omega),if_neg (by omega),if_pos rfl]
 have u3:∀ x,i - 1<x→l'.getD x default=l.getD x default:=fun x q1=>by rw [u x,if_neg (by omega),if_neg (by omega),if_neg (by omega)]
 intro p q q1 q2 q3;rcases zE7 p (i - 1) with e1|e1|e1
 ·rw [u1 p q1 e1];rcases zE7 q (i - 1) with e2|e2|e2
  ·rw [u1 q (by omega) e2];exact h.sr _ _ (by omega) (by omega) (by omega)
  ·rw [e2,u2];exact W.asym (h1 _ (by omega) (by omega))
  ·rw [u3 q e2];exact h.sr _ _ (by omega) (by omega) (by omega)
 ·rw [e1,u2,u3 q (by omega)];exact h2 _ (by omega) q3
 ·rw [u3 p e1,u3 q (by omega)];exact h.sr _ _ (by omega) (by omega) (by omega)
theorem Mrg.down {key:Int→Int} {a m i:Nat} {l l':List Int} (h:Mrg key a m (m+1) l) (hi:a≤i∧i≤m) (h1:∀ k,a≤k→k<i→¬ Zj key (l.getD m default) (l.getD k default)) (h2:∀ k,i≤k→k<m→Zj key (l.getD m default) (l.getD k default)) (u:IsDown m i l l'):Srt (Zj key) a (m+1) l':=by
 have W:=WV key;have u1:∀ x,x<i→l'.getD x default=l.getD x default:=fun x q1=>by rw [u x,if_pos q1]
 have u2:l'.getD i default=l.getD m default:=by
  rw [u,if_neg (by omega),if_pos rfl]
 have u3:∀ x,i<x→x≤m→l'.getD x default=l.getD (x - 1) default:=fun x q1 q2=>by rw [u x,if_neg (by omega),if_neg (by omega),if_pos q2]
 intro p q q1 q2 q3;rcases zE7 p i with e1|e1|e1
 ·rw [u1 p e1];rcases zE7 q i with e2|e2|e2
  ·rw [u1 q e2];exact h.sl _ _ (by omega) (by omega) (by omega)
  ·rw [e2,u2];exact h1 _ (by omega) (by omega)
  ·rw [u3 q e2 (by omega)];exact h.sl _ _ (by omega) (by omega) (by omega)
 ·rw [e1,u2,u3 q (by omega) (by omega)];exact W.asym (h2 _ (by omega) (by omega))
 ·rw [u3 p e1 (by omega),u3 q (by omega) (by omega)];exact h.sl _ _ (by omega) (by omega) (by omega)
structure SrI (key:Int→Int) (a m b mid s r:Nat) (l:List Int):Prop where
 lo:(if m > mid then mid+m - b else a)≤s
 sr:s≤r
 hi:r≤(if m > mid then mid else m)
 low:(if m > mid then mid+m - b else a)<s→¬ Zj key (l.getD (mid+m - s) default) (l.getD (s - 1) default)
 high:r<(if m > mid then mid else m)→Zj key (l.getD (mid+m - 1 - r) default) (l.getD r default)
theorem Mrg.search {key:Int→Int} {a m b mid s:Nat} {l l2:List Int} (h:Mrg key a m b l) (hm:mid=(a+b) / 2) (hab:a<m∧m<b) (I:SrI key a m b mid s s l)
 (hr:qer s m (mid+m - s) l l2):(a≤s∧s≤mid∧s≤m∧m≤mid+m - s∧mid+m - s≤b)∧Mrg key a s mid l2∧Mrg key mid (mid+m - s) b l2∧∀ x y,a≤x→x<mid→mid≤y→y<b→¬ Zj key (l2.getD y default) (l2.getD x default):=by
 have W:=WV key;have lo:=I.lo;have hi:=I.hi;have low:=I.low;have high:=I.high;have hs:a≤s∧s≤mid∧s≤m∧m≤mid+m - s∧mid+m - s≤b:=by
  split at lo<;>split at hi<;>omega
 have r1:∀ k,k<s→l2.getD k default=l.getD k default:=fun k hk=>by rw [hr k];unfold rot;rw [if_pos hk]
 have r2:∀ k,s≤k→k<mid→l2.getD k default=l.getD (k+(m - s)) default:=fun k h1 h2=>by rw [hr k];unfold rot;rw [if_neg (by omega),if_pos (by omega)]
 have r3:∀ k,mid≤k→k<mid+m - s→l2.getD k default=l.getD (k - (mid - s)) default:=fun k h1 h2=>by
  rw [hr k];unfold rot;rw [if_neg (by omega),if_neg (by omega),if_pos (by omega)];congr 1;omega
 have r4:∀ k,mid+m - s≤k→l2.getD k default=l.getD k default:=fun k h1=>by rw [hr k];unfold rot;rw [if_neg (by omega),if_neg (by omega),if_neg (by omega)]
 refine ⟨hs,⟨fun i j q1 q2 q3=>?_,fun i j q1 q2 q3=>?_,fun p q q1 q2 q3 q4=>?_⟩,⟨fun i j q1 q2 q3=>?_,fun i j q1 q2 q3=>?_,fun p q q1 q2 q3 q4=>?_⟩,fun x y q1 q2 q3 q4=>?_⟩
 ·rw [r1 i (by omega),r1 j q3];exact h.sl i j q1 q2 (by omega)
 ·rw [r2 i q1 (by omega),r2 j (by omega) q3];exact h.sr _ _ (by omega) (by omega) (by omega)
 ·rw [r1 p q2,r2 q q3 q4];exact h.cr _ _ q1 (by omega) (by omega) (by omega)
 ·rw [r3 i q1 (by omega),r3 j (by omega) q3];exact h.sl _ _ (by omega) (by omega) (by omega)
 ·rw [r4 i q1,r4 j (by omega)];exact h.sr _ _ (by omega) q2 q3
 ·rw [r3 p q1 q2,r4 q q3];exact h.cr _ _ (by omega) (by omega) (by omega) q4
 ·
  have le_of:∀ {i j:Nat},a≤i→i≤j→j<m→¬ Zj key (l.getD j default) (l.getD i default):=fun {i j} g1 g2 g3=>by
   rcases zA7 i j with q|q
   ·exact h.sl i j g1 q g3
   ·have:i=j:=by omega
    subst this;exact W.irr _
  have le_of2:∀ {i j:Nat},m≤i→i≤j→j<b→¬ Zj key (l.getD j default) (l.getD i default):=fun {i j} g1 g2 g3=>by
   rcases zA7 i j with q|q
   ·exact h.sr i j g1 q g3
   ·have:i=j:=by omega
    subst this;exact W.irr _
  rcases zA7 x s with e1|e1
  ·rw [r1 x e1];rcases zA7 y (mid+m - s) with e2|e2
   ·rw [r3 y q3 e2];exact le_of q1 (by omega) (by omega)
   ·rw [r4 y e2];have g:¬ Zj key (l.getD (mid+m - s) default) (l.getD (s - 1) default):=low (by split<;>omega);have g1:¬ Zj key (l.getD (s - 1) default) (l.getD x default):=le_of q1 (by omega) (by omega);have g2:¬ Zj key (l.getD y default) (l.getD (mid+m - s) default):=le_of2 (by omega) e2 q4;exact W.ntr (W.ntr g1 g) g2
  ·rw [r2 x e1 q2];rcases zA7 y (mid+m - s) with e2|e2
   ·rw [r3 y q3 e2];have g:Zj key (l.getD (mid+m - 1 - s) default) (l.getD s default):=high (by split<;>omega);have g1:¬ Zj key (l.getD (y - (mid - s)) default) (l.getD s default):=le_of (by omega) (by omega) (by omega);have g2:¬ Zj key (l.getD (mid+m - 1 - s) default) (l.getD (x+(m - s)) default):=le_of2 (by omega) (by omega) (by omega);exact W.ntr (W.ntr g2 (W.asym g)) g1
   ·rw [r4 y e2];exact le_of2 (by omega) (by omega) q4
end Go.Proofs.Xx
namespace Go.Proofs.Xx
section
variable {α:Type} [Inhabited α] {lt:α→α→Prop}
theorem HeapI.done {f n b:Nat} {l:List α} (h:HeapI lt f 0 n l) (hb:b=f+n):Srt lt f b l:=fun i j h1 h2 h3=>by
 have:=h.2 (i - f) (j - f) (by omega) (zB0 _) (by omega);rwa [show f+(j - f)=j by omega,show f+(i - f)=i by omega] at this
structure PartI (lt:α→α→Prop) (a b:Nat) (x:α) (i j:Nat) (m:List α):Prop where
 bi:a<i∧i≤j+1∧j<b
 lo:∀ k,a<k→k<i→lt (m.getD k default) x
 hi:∀ k,j<k→k<b→¬ lt (m.getD k default) x
 x:m.getD a default=x
theorem PartI.swap {a b:Nat} {x:α} {i j:Nat} {m:List α} (h:PartI lt a b x i j m) (hb:b≤m.length) (hij:i≤j) (h1:¬ lt (m.getD i default) x) (h2:lt (m.getD j default) x):i<j∧PartI lt a b x (i+1) (j - 1) (swp m i j):=by
 have hbi:=h.bi;have hne:i≠j:=fun q=>by subst q;exact h1 h2
 have g:=swp_get (l:=m) (i:=i) (j:=j) (by omega) (by omega);refine ⟨by omega,⟨by omega,fun k q1 q2=>?_,fun k q1 q2=>?_,?_⟩⟩
 ·rw [g,if_neg (by omega)];split
  ·exact h2
  ·exact h.lo k q1 (by omega)
 ·rw [g];split
  ·exact h1
  ·rw [if_neg (by omega)];exact h.hi k (by omega) q2
 ·rw [g,if_neg (by omega),if_neg (by omega)];exact h.x
theorem PartI.done (W:WOrd lt) {a b:Nat} {x:α} {i j:Nat} {m:List α} (h:PartI lt a b x i j m) (hb:b≤m.length) (hij:j<i):Parted lt a b j (swp m j a):=by
 have hbi:=h.bi;have g:=swp_get (l:=m) (i:=j) (j:=a) (by omega) (by omega);have gj:(swp m j a).getD j default=x:=by
  rw [g];split
  ·rename_i e;rw [e];exact h.x
  ·rw [if_pos rfl];exact h.x
 refine ⟨fun k q1 q2=>?_,fun k q1 q2=>?_⟩
 ·rw [gj,g];split
  ·exact h.lo j (by omega) (by omega)
  ·rw [if_neg (by omega)];exact h.lo k (by omega) (by omega)
 ·rw [gj,g,if_neg (by omega),if_neg (by omega)];exact h.hi k q1 q2
structure EqI (lt:α→α→Prop) (a b:Nat) (x:α) (i j:Nat) (m:List α):Prop where
 bi:a<i∧i≤j+1∧j<b
 lo:∀ k,a<k→k<i→¬ lt x (m.getD k default)
 hi:∀ k,j<k→k<b→lt x (m.getD k default)
 x:m.getD a default=x
theorem EqI.swap {a b:Nat} {x:α} {i j:Nat} {m:List α} (h:EqI lt a b x i j m) (hb:b≤m.length) (hij:i≤j) (h1:lt x (m.getD i default)) (h2:¬ lt x (m.getD j default)):i<j∧EqI lt a b x (i+1) (j - 1) (swp m i j):=by
 have hbi:=h.bi;have hne:i≠j:=fun q=>by subst q;exact h2 h1
 have g:=swp_get (l:=m) (i:=i) (j:=j) (by omega) (by omega);refine ⟨by omega,⟨by omega,fun k q1 q2=>?_,fun k q1 q2=>?_,?_⟩⟩
 ·rw [g,if_neg (by omega)];split
  ·exact h2
  ·exact h.lo k q1 (by omega)
 ·rw [g];split
  ·exact h1
  ·rw [if_neg (by omega)];exact h.hi k (by omega) q2
 ·rw [g,if_neg (by omega),if_neg (by omega)];exact h.x
theorem DoneI.low {a b a' b':Nat} {l:List α} (h:DoneI lt a b a' b' l) (h1:a<a') (h2:b'≤b):∀ k,a'≤k→k<b'→¬ lt (l.getD k default) (l.getD (a' - 1) default):=fun k q1 q2=>h (a' - 1) k (by omega) (by omega) (by omega) (.inl (by omega))
end
def qgQ:List UInt8:=[0,1] ++ List.replicate 2 2 ++ List.replicate 4 3 ++ List.replicate 8 4 ++ List.replicate 16 5 ++ List.replicate 32 6 ++ List.replicate 64 7 ++ List.replicate 128 8
variable [Flag]
end Go.Proofs.Xx
namespace Go.Proofs.Xx
open Go Go.Proofs
abbrev FV:=Nat×Array Value
theorem qa8 {h0:AH} (w:WfH h0) (v:Value) (a:List Int) (r:zo h0 v 1 eI a) (hl:a.length≤1000000):Fn Tryz.prog Xh 24 [v] h0 (fun u h'=>Hs h0 h' [.sl u 3 1 eI a]):=by
 have S:=Hs.start w;have r0:=r;rcases r with ⟨rfl,h1,-⟩|⟨b,o,cap,cc,e,s,q,rfl,h1,h2⟩
 ·obtain rfl:a=[]:=zE9.1 h1;refine qM (by first|rfl|exact KX.no _ _ _ (by decide) rfl) Tryz.func24 rfl rfl ?_;all_goals (repeat' (first|refine qg ?_|refine qi rfl ?_|refine qj ?_|refine qA ?_|refine qp ?_|refine qP ?_|refine qQ ?_|(refine qc 0 ?_;refine mv ?_;refine qf ?_)|(refine qc 1 ?_;refine mv ?_;refine vl ?_;refine qf ?_)|(refine qc 2 ?_;refine mv ?_;refine qf ?_)|(refine qc 3 ?_;skip)))
  refine qw ⟨_,rfl,?_⟩;exact S.nilS
 ·refine qM (by first|rfl|exact KX.no _ _ _ (by decide) rfl) Tryz.func24 rfl rfl ?_;all_goals (repeat' (first|refine qg ?_|refine qi rfl ?_|refine qj ?_|refine qA ?_|refine qp ?_|refine qP ?_|refine qQ ?_|(refine qc 0 ?_;refine mv ?_;refine qf ?_)|(refine qc 1 ?_;refine mv ?_;refine vl ?_;refine qf ?_)|(refine qc 2 ?_;refine mv ?_;refine qf ?_)|(refine qc 3 ?_;skip)))
  refine nw 1 eI S ?_;clear S;intro u h S;(refine mv ?_);refine apd S rfl rfl (r0.ext w S.ext) ?_;clear S;intro v' h S;(refine mv ?_;refine qf ?_);all_goals (repeat' (first|refine qg ?_|refine qi rfl ?_|refine qj ?_|refine qA ?_|refine qp ?_|refine qP ?_|refine qQ ?_))
  refine qw ⟨_,rfl,?_⟩;exact S
theorem qaV {h0:AH} (w:WfH h0) (v:Value) (l:List Int) (hr:zo h0 v 1 eI l) (hl:l.length≤1000000) (k:Int):Fn Tryz.prog Xh 113 [v,.int .i64 k] h0 (fun r h'=>qap r (fun i=>l.getD i default=k) l.length∧Hs h0 h' []):=by
 have S:=Hs.start w;refine qM (by first|rfl|exact KX.no _ _ _ (by decide) rfl) Tryz.func113 rfl rfl ?_;all_goals (repeat' (first|refine qg ?_|refine qi rfl ?_|refine qj ?_|refine qA ?_|refine qp ?_|refine qP ?_|refine qQ ?_|(refine qc 0 ?_;refine mv ?_;refine qf ?_)|(refine qc 1 ?_;refine mv ?_;(first|refine jZ S ?_|refine yc S rfl rfl ?_);refine mv ?_;refine qf ?_)))
 refine qL (σ:=Nat) (fun i h'=>Hs h0 h' []∧i≤l.length∧∀ j,j<i→¬ l.getD j default=k) (fun i=>l.length - i) (fun i=>[(0,v),(1,.int .i64 k),(7,.int .i64 l.length),(8,.int .i64 i)]) 0 qy ?_ ?_
 ·exact ⟨S,zB0 _,fun j hj=>absurd hj (zB7 _)⟩
 clear S;rintro i h ⟨S,h1,h2⟩;all_goals (repeat' (first|refine qg ?_|refine qi rfl ?_|refine qj ?_|refine qA ?_|refine qp ?_|refine qP ?_|refine qQ ?_|(refine qc 2 ?_;(first|refine cT ?_|refine cF ?_|(refine cS ?_ ?_<;>intro hc))<;>(refine qf ?_))|(refine qc 3 ?_;refine mv ?_;refine mv ?_;refine qf ?_)|(refine qc 4 ?_;(iterate 3 refine mv ?_);(first|refine QE S ?_|refine jI S rfl rfl ?_);(first|refine lB S rfl rfl ?_|refine jT S rfl rfl ?_|refine Qk S ?_|refine lH S ?_);(first|refine cT ?_|refine cF ?_|(refine cS ?_ ?_<;>intro hc))<;>(refine qf ?_))|(refine qc 5 ?_;refine mv ?_;refine mv ?_;refine qf ?_)|(refine qc 6 ?_;(first|refine ad ?_|refine vl ?_);refine mv ?_;refine qf ?_)|(refine qc 7 ?_;refine mv ?_;refine qf ?_)))
 all_goals (try simp only [zA0] at *)
 ·refine qw ⟨_,rfl,?_⟩;exact ⟨.inl ⟨i,by omega,rfl,hc.symm,h2⟩,S⟩
 ·refine ⟨i+1,?_,?_,qy⟩
  ·show l.length - (i+1)<l.length - i;omega
  ·refine ⟨S,by omega,fun j hj=>?_⟩;rcases zA7 j i with q|q
   ·exact h2 j q
   ·obtain rfl:j=i:=by omega
    exact fun q=>hc q.symm
 ·refine qw ⟨_,rfl,?_⟩;exact ⟨.inr ⟨rfl,fun j hj=>h2 j (by omega)⟩,S⟩
theorem YA {h0:AH} (w:WfH h0) (v:Value) (l:List Int) (hr:zo h0 v 1 eI l) (hl:l.length≤1000000) (k:Int):Fn Tryz.prog Xh 53 [v,.int .i64 k] h0 (fun r h'=>zy r (∃ i,i<l.length∧l.getD i default=k)∧Hs h0 h' []):=by
 have S:=Hs.start w;refine qM (by first|rfl|exact KX.no _ _ _ (by decide) rfl) Tryz.func53 rfl rfl ?_;all_goals (repeat' (first|refine qg ?_|refine qi rfl ?_|refine qj ?_|refine qA ?_|refine qp ?_|refine qP ?_|refine qQ ?_|(refine qc 0 ?_;refine mv ?_;refine qf ?_)|(refine qc 1 ?_;refine mv ?_;refine mv ?_)))
 (refine qx rfl rfl rfl rfl rfl ((qaV S.wf v l hr hl k).mono ?_);rintro _ h ⟨⟨i,hi,rfl,hq,hn⟩|⟨rfl,hn⟩,x⟩)<;>(replace S:=S.join0 x;clear x;(first|refine cT ?_|refine cF ?_|(refine cS ?_ ?_<;>intro hc))<;>(refine mv ?_;refine qf ?_))
 all_goals (repeat' (first|refine qg ?_|refine qi rfl ?_|refine qj ?_|refine qA ?_|refine qp ?_|refine qP ?_|refine qQ ?_))
 all_goals (try omega)
 all_goals (refine qw ⟨_,rfl,?_⟩)
 ·exact ⟨.inl ⟨rfl,i,hi,hq⟩,S⟩
 ·exact ⟨.inr ⟨rfl,fun ⟨j,hj,hp⟩=>hn j hj hp⟩,S⟩
def qhr (x y:Int):Int:=if x<y then -1 else if y<x then 1 else 0
abbrev ltI (x y:Int):Prop:=x<y
def ltL:List Int→List Int→Prop
 | [],[]=>False
 | [],_ :: _=>True
 | _ :: _,[]=>False
 | a :: l,b :: m=>a<b∨(a=b∧ltL l m)
def CmpR (d:Int) (a b:List Int):Prop:=(d<0∧ltL a b)∨(d=0∧a=b)∨(0<d∧ltL b a)
theorem drop_cons {l:List Int} {i:Nat} (h:i<l.length):l.drop i=l.getD i default :: l.drop (i+1):=by
 rw [zG7 h];simp [List.getD,h]
theorem CmpR.step {a b:List Int} {i:Nat} (hi:∀ d,CmpR d (a.drop i) (b.drop i)→CmpR d a b) (ha:i<a.length) (hb:i<b.length) (e:a.getD i default=b.getD i default):∀ d,CmpR d (a.drop (i+1)) (b.drop (i+1))→CmpR d a b:=fun d k=>hi d (by
 rw [drop_cons ha,drop_cons hb,e];rcases k with ⟨k1,k2⟩|⟨k1,k2⟩|⟨k1,k2⟩
 ·exact .inl ⟨k1,.inr ⟨rfl,k2⟩⟩
 ·exact .inr (.inl ⟨k1,by rw [k2]⟩)
 ·exact .inr (.inr ⟨k1,.inr ⟨rfl,k2⟩⟩))
theorem qa3 {h0:AH} (w:WfH h0) (v u:Value) (a b:List Int) (ra:zo h0 v 1 eI a) (rb:zo h0 u 1 eI b) (ha:a.length≤1000000):Fn Tryz.prog Xh 38 [v,u] h0 (fun r h'=>zy r (a=b)∧Hs h0 h' []):=by
 have S:=Hs.start w;refine qM (by first|rfl|exact KX.no _ _ _ (by decide) rfl) Tryz.func38 rfl rfl ?_;all_goals (repeat' (first|refine qg ?_|refine qi rfl ?_|refine qj ?_|refine qA ?_|refine qp ?_|refine qP ?_|refine qQ ?_|(refine qc 0 ?_;refine mv ?_;refine qf ?_)|(refine qc 1 ?_;refine mv ?_;(first|refine jZ S ?_|refine yc S rfl rfl ?_);refine mv ?_;(first|refine jZ S ?_|refine yc S rfl rfl ?_);(first|refine cT ?_|refine cF ?_|(refine cS ?_ ?_<;>intro hc))<;>(refine qf ?_))|(refine qc 2 ?_;refine mv ?_;refine qf ?_)))
 ·refine qw ⟨_,rfl,?_⟩;exact ⟨.inr ⟨rfl,fun q=>by subst q;exact hc rfl⟩,S⟩
 have hl:a.length=b.length:=by omega
 all_goals (repeat' (first|refine qg ?_|refine qi rfl ?_|refine qj ?_|refine qA ?_|refine qp ?_|refine qP ?_|refine qQ ?_|(refine qc 3 ?_;refine mv ?_;(first|refine jZ S ?_|refine yc S rfl rfl ?_);refine mv ?_;refine qf ?_)))
 refine qL (σ:=Nat) (fun i h'=>Hs h0 h' []∧i≤a.length∧∀ j,j<i→a.getD j default=b.getD j default) (fun i=>a.length - i) (fun i=>[(0,v),(1,u),(12,.int .i64 a.length),(13,.int .i64 i)]) 0 qy ?_ ?_
 ·exact ⟨S,zB0 _,fun j hj=>absurd hj (zB7 _)⟩
 clear S;rintro i h ⟨S,h1,h2⟩;all_goals (repeat' (first|refine qg ?_|refine qi rfl ?_|refine qj ?_|refine qA ?_|refine qp ?_|refine qP ?_|refine qQ ?_|(refine qc 4 ?_;(first|refine cT ?_|refine cF ?_|(refine cS ?_ ?_<;>intro hc))<;>(refine qf ?_))|(refine qc 5 ?_;refine mv ?_;refine mv ?_;refine qf ?_)|(refine zi 6 ?_;refine mv ?_;refine mv ?_;(first|refine QE S ?_|refine jI S rfl rfl ?_);(first|refine lB S rfl rfl ?_|refine jT S rfl rfl ?_|refine Qk S ?_|refine lH S ?_);refine mv ?_;refine mv ?_;(first|refine QE S ?_|refine jI S rfl rfl ?_);(first|refine lB S rfl rfl ?_|refine jT S rfl rfl ?_|refine Qk S ?_|refine lH S ?_);(first|refine cT ?_|refine cF ?_|(refine cS ?_ ?_<;>intro hc))<;>(refine qf ?_))|(refine qc 7 ?_;refine mv ?_;refine qf ?_)))
 all_goals (try simp only [zA0] at *)
 ·refine qw ⟨_,rfl,?_⟩;exact ⟨.inr ⟨rfl,fun q=>by subst q;exact hc rfl⟩,S⟩
 ·all_goals (repeat' (first|refine qg ?_|refine qi rfl ?_|refine qj ?_|refine qA ?_|refine qp ?_|refine qP ?_|refine qQ ?_|(refine qc 8 ?_;(first|refine ad ?_|refine vl ?_);refine mv ?_;refine qf ?_)))
  refine ⟨i+1,?_,?_,qy⟩
  ·show a.length - (i+1)<a.length - i;omega
  ·exact ⟨S,by omega,Zf h2 (by omega)⟩
 ·all_goals (repeat' (first|refine qg ?_|refine qi rfl ?_|refine qj ?_|refine qA ?_|refine qp ?_|refine qP ?_|refine qQ ?_|(refine qc 9 ?_;refine mv ?_;refine qf ?_)))
  refine qw ⟨_,rfl,?_⟩;refine ⟨.inl ⟨rfl,List.ext_getElem hl fun j k1 k2=>?_⟩,S⟩;have:=h2 j (by omega);rw [zA2,zA2,zA4 k1,zA4 k2] at this;exact this
end Go.Proofs.Xx
