/-
  The reference's qbU.
-/
import Derived.Test.YtidmdnenlgjpeaaGreatDoorM15
import Derived.Test.YtidmdnenlgjpeaaGreatDoorM12
namespace Go.Proofs.Xx
open Go Go.Proofs
set_option linter.unusedSimpArgs false
set_option linter.unusedVariables false
set_option linter.unusedSectionVars false
set_option maxRecDepth 100000
set_option maxHeartbeats 4000000
variable [Flag]
theorem xJ {h0:AH} (w:WfH h0) (v:RlV) (r:Rl) (HR:RlOk h0 v r) (H:RO r):Fn Tryz.prog Xh 102 [v.val] h0 (fun u h'=>(∃ vi cs,u = .tuple #[vi,.bool true]∧Hs h0 h' [.sl vi 3 1 eI cs]∧ZX r cs∧∀ cs',ZX r cs'→cs'=cs)∨(u = .tuple #[.slice none 0 0,.bool false]∧(∀ cs,¬ ZX r cs)∧Hs h0 h' [])):=by
 have S:=Hs.start w
 have h64:=H.l64
 have h256:=H.l256
 have hrg:=HR.rg
 have hrt:=HR.rt
 have hgl:=HR.len
 unfold RlV.val
 refine zg rfl Tryz.func102 rfl rfl ?_
 all_goals (repeat' (first|refine qw ?_|refine qh rfl ?_|refine qi ?_|refine qp ?_|refine qg ?_|refine qj ?_|refine qo ?_|(refine qc 0 ?_;(refine bx S ?_;clear S;intro b h S);refine mv ?_;refine mv ?_;refine qf ?_)))
 obtain ⟨b1,hnm⟩:∃ x,x=b:=⟨_,rfl⟩;subst hnm
 replace S:Hs h0 h (.blk b1 [v.vg.val,v.vt.val] 32 :: []):=S
 have S:=S.Zv (e:=3) (z:=1) (enc:=eI)
 all_goals (repeat' (first|refine qw ?_|refine qh rfl ?_|refine qi ?_|refine qp ?_|refine qg ?_|refine qj ?_|refine qo ?_|(refine qc 1 ?_;refine mv ?_;refine qf ?_)|(refine qc 2 ?_;refine mv ?_;refine qf ?_)))
 refine qM (σ:=Nat×Value) (fun (i,v4) h'=>Hs h0 h' [.sl v4 3 1 eI (List.replicate i (-1:Int)),.blk b1 [v.vg.val,v.vt.val] 32]∧i≤r.us.length) (fun (i,v4)=>r.us.length - i) (fun (i,v4)=>[(1,.pointer (some ⟨b1,0,none⟩)),(4,v4),(5,.int .i64 i)]) (0,.slice none 0 0) (by repeat (first|exact Ks.le_nil _|refine Ks.qx rfl ?_|refine Ks.qA ?_)) ?_ ?_
 ·exact ⟨S,Nat.zero_le _⟩
 clear S
 rintro ⟨i,v4⟩ h ⟨S,g1⟩
 have hrl:(List.replicate i (-1:Int)).length=i:=by simp
 all_goals (repeat' (first|refine qw ?_|refine qh rfl ?_|refine qi ?_|refine qp ?_|refine qg ?_|refine qj ?_|refine qo ?_|(refine qc 3 ?_;refine mv ?_;(first|refine vl ?_|refine fB S ?_|refine fS S rfl rfl ?_|refine fA ?_);(first|refine lB S rfl rfl ?_|refine qy S rfl rfl ?_|refine qU S ?_|refine lH S ?_);(first|refine jA S ?_|refine jZ S rfl rfl ?_);(first|refine cT ?_|refine cF ?_|(refine cS ?_ ?_<;>intro hc))<;>(refine qf ?_))))
 ·have hil:i<r.us.length:=by omega
  all_goals (repeat' (first|refine qw ?_|refine qh rfl ?_|refine qi ?_|refine qp ?_|refine qg ?_|refine qj ?_|refine qo ?_|(refine qc 5 ?_;refine mv ?_;(refine one 1 S ?_;clear S;intro u h S))))
  refine app (y0:=(-1:Int)) S rfl rfl ?_;clear S;intro v4 h S;(refine mv ?_;refine qf ?_)
  skip
  all_goals (repeat' (first|refine qw ?_|refine qh rfl ?_|refine qi ?_|refine qp ?_|refine qg ?_|refine qj ?_|refine qo ?_|(refine qc 4 ?_;refine mv ?_;(first|refine ad ?_|refine vl ?_);refine mv ?_;refine qf ?_)))
  refine ⟨(i+1,v4),?_,?_,(by repeat (first|exact Ks.le_nil _|refine Ks.qx rfl ?_|refine Ks.qA ?_))⟩
  ·show r.us.length - (i+1)<r.us.length - i;omega
  ·refine ⟨?_,by (try dsimp only);omega⟩
   (try dsimp only)
   rw [List.replicate_succ'];exact S.pick
 ·have hi:i=r.us.length:=by omega
  subst hi
  have A0:KA r (List.replicate r.us.length (-1:Int)):=by
   have hg:∀ j,j<r.us.length→(List.replicate r.us.length (-1:Int)).getD j default = -1:=fun j hj=>by
    rw [List.getD_eq_getElem?_getD,List.getElem?_replicate,if_pos hj];rfl
   refine ⟨by simp,fun j hj=>?_,fun j hj h=>?_,fun cs hc j hj h=>?_⟩
   all_goals simp only [List.length_replicate] at hj
   ·exact .inl (hg j hj)
   ·rw [hg j hj] at h;omega
   ·rw [hg j hj] at h;omega
  have C0:KC r (List.replicate r.us.length (-1:Int)):=fun a b ha hb _ h=>by
   simp only [List.length_replicate] at ha
   rw [List.getD_eq_getElem?_getD,List.getElem?_replicate,if_pos ha] at h
   exact absurd h (by decide)
  clear hrl
  skip
  all_goals (repeat' (first|refine qw ?_|refine qh rfl ?_|refine qi ?_|refine qp ?_|refine qg ?_|refine qj ?_|refine qo ?_|(refine qc 6 ?_;refine mv ?_;refine qf ?_)))
  refine qM (σ:=Nat×List Int) (fun (i,out) h'=>Hs h0 h' [.sl v4 3 1 eI out,.blk b1 [v.vg.val,v.vt.val] 32]∧i≤r.us.length∧KA r out∧KC r out∧(∀ j,j<i→0≤out.getD j default)) (fun (i,out)=>r.us.length - i) (fun (i,out)=>[(1,.pointer (some ⟨b1,0,none⟩)),(4,v4),(6,.int .i64 i)]) (0,List.replicate r.us.length (-1:Int)) (by repeat (first|exact Ks.le_nil _|refine Ks.qx rfl ?_|refine Ks.qA ?_)) ?_ ?_
  ·exact ⟨S,Nat.zero_le _,A0,C0,fun j hj=>absurd hj (Nat.not_lt_zero _)⟩
  clear S A0 C0
  rintro ⟨i,out⟩ h ⟨S,k1,A,C,M⟩
  have hol:=A.len
  all_goals (repeat' (first|refine qw ?_|refine qh rfl ?_|refine qi ?_|refine qp ?_|refine qj ?_|refine qo ?_|(refine qc 7 ?_;refine mv ?_;refine mv ?_;(first|refine jA S ?_|refine jZ S rfl rfl ?_);(first|refine cT ?_|refine cF ?_|(refine cS ?_ ?_<;>intro hc))<;>(refine qf ?_))))
  ·have hil:i<r.us.length:=by omega
   (repeat (refine qw ?_));first|refine Xq (σ:=List Int) (fun out h'=>Hs h0 h' [.sl v4 3 1 eI out,.blk b1 [v.vg.val,v.vt.val] 32]∧KA r out∧KC r out∧(∀ j,j<i+1→0≤out.getD j default)) (fun out=>[(1,.pointer (some ⟨b1,0,none⟩)),(4,v4),(6,.int .i64 i)]) ?_ ?_|refine je (σ:=List Int) (fun out h'=>Hs h0 h' [.sl v4 3 1 eI out,.blk b1 [v.vg.val,v.vt.val] 32]∧KA r out∧KC r out∧(∀ j,j<i+1→0≤out.getD j default)) (fun out=>[(1,.pointer (some ⟨b1,0,none⟩)),(4,v4),(6,.int .i64 i)]) ?_ ?_
   ·all_goals (repeat' (first|refine qw ?_|refine qh rfl ?_|refine qi ?_|refine qp ?_|refine qg ?_|refine qj ?_|refine qo ?_|(refine qc 9 ?_;refine mv ?_;refine mv ?_;(first|refine zK S ?_|refine qC S rfl rfl ?_);(first|refine lB S rfl rfl ?_|refine qy S rfl rfl ?_|refine qU S ?_|refine lH S ?_);(first|refine cT ?_|refine cF ?_|(refine cS ?_ ?_<;>intro hc))<;>(refine qf ?_))))
    all_goals (try simp only [Int.toNat_natCast] at *)
    ·exact ⟨out,⟨S,A,C,QZ M (by omega)⟩,((by repeat (first|exact Ks.le_nil _|refine Ks.qx rfl ?_|refine Ks.qA ?_)))⟩
    ·have K0:=KP.root H A C M (by omega) (by omega)
     generalize hO:out=out0 at K0 C M
     rw [hO] at S hol
     skip
     all_goals (repeat' (first|refine qw ?_|refine qh rfl ?_|refine qi ?_|refine qp ?_|refine qg ?_|refine qj ?_|refine qo ?_|(refine qc 10 ?_;refine mv ?_;refine mv ?_;(first|refine zK S ?_|refine qC S rfl rfl ?_);(first|(refine sB S rfl rfl ?_;clear S;intro h S)|(refine zS S rfl rfl ?_;clear S;intro h S));refine qf ?_)|(refine qc 11 ?_;refine mv ?_;refine qf ?_)))
     simp only [Int.toNat_natCast] at S
     refine qM (σ:=List Int×Bool) (fun (out,ch) h'=>Hs h0 h' [.sl v4 3 1 eI out,.blk b1 [v.vg.val,v.vt.val] 32]∧KP r i out0 out∧(ch=false→∀ t∈r.ts,PD r out t)) (fun (out,ch)=>2*ZV out+(if ch then 1 else 0)) (fun (out,ch)=>[(1,.pointer (some ⟨b1,0,none⟩)),(4,v4),(6,.int .i64 i),(7,.bool ch)]) (out0.set i 0,true) (by repeat (first|exact Ks.le_nil _|refine Ks.qx rfl ?_|refine Ks.qA ?_)) ?_ ?_
     ·exact ⟨S,K0,fun q=>by cases q⟩
     clear S K0 A hol
     rintro ⟨out,ch⟩ h ⟨S,K,Q⟩
     have hol:=K.a.len
     cases ch
     ·replace Q:=KC.of (Q rfl)
      all_goals (repeat' (first|refine qw ?_|refine qh rfl ?_|refine qi ?_|refine qp ?_|refine qg ?_|refine qj ?_|refine qo ?_|(refine qc 12 ?_;refine mv ?_;refine qf ?_)))
      refine ⟨out,⟨S,K.a,Q,fun j hj=>?_⟩,((by repeat (first|exact Ks.le_nil _|refine Ks.qx rfl ?_|refine Ks.qA ?_)))⟩
      rcases Nat.lt_or_ge j i with z|z
      ·exact K.old j (by omega) (K.m0 j z)
      ·obtain rfl:j=i:=by omega
       exact K.i0
     ·all_goals (repeat' (first|refine qw ?_|refine qh rfl ?_|refine qi ?_|refine qp ?_|refine qg ?_|refine qj ?_|refine qo ?_|(refine qc 12 ?_;refine mv ?_;refine qf ?_)|(refine qc 13 ?_;refine mv ?_;refine qf ?_)|(refine qc 14 ?_;refine mv ?_;refine qf ?_)))
      obtain ⟨s0,hs0⟩:∃ s0,ZV out=s0:=⟨_,rfl⟩
      refine qM (σ:=Nat×List Int×Bool) (fun (k,out,ch) h'=>Hs h0 h' [.sl v4 3 1 eI out,.blk b1 [v.vg.val,v.vt.val] 32]∧k≤r.ts.length∧KP r i out0 out∧(ch=false→∀ k',k'<k→PD r out (r.ts.getD k' default))∧(ch=true→ZV out<s0)∧ZV out≤s0) (fun (k,out,ch)=>r.ts.length - k) (fun (k,out,ch)=>[(1,.pointer (some ⟨b1,0,none⟩)),(4,v4),(6,.int .i64 i),(7,.bool ch),(8,.int .i64 k)]) (0,out,false) (by repeat (first|exact Ks.le_nil _|refine Ks.qx rfl ?_|refine Ks.qA ?_)) ?_ ?_
      ·exact ⟨S,Nat.zero_le _,K,fun _ k' h=>absurd h (Nat.not_lt_zero _),(fun q=>by cases q),Nat.le_of_eq hs0⟩
      clear S K Q hol
      rintro ⟨k,out,ch⟩ h ⟨S,k1,K,p1,p2,p3⟩
      have hol:=K.a.len
      all_goals (repeat' (first|refine qw ?_|refine qh rfl ?_|refine qi ?_|refine qp ?_|refine qj ?_|refine qo ?_|(refine qc 15 ?_;refine mv ?_;(first|refine vl ?_|refine fB S ?_|refine fS S rfl rfl ?_|refine fA ?_);(first|refine lB S rfl rfl ?_|refine qy S rfl rfl ?_|refine qU S ?_|refine lH S ?_);(first|refine jA S ?_|refine jZ S rfl rfl ?_);(first|refine cT ?_|refine cF ?_|(refine cS ?_ ?_<;>intro hc))<;>(refine qf ?_))))
      ·have hkl:k<r.ts.length:=by omega
       (repeat (refine qw ?_));first|refine Xq (σ:=List Int×Bool) (fun (out,ch) h'=>Hs h0 h' [.sl v4 3 1 eI out,.blk b1 [v.vg.val,v.vt.val] 32]∧KP r i out0 out∧(ch=false→∀ k',k'<k+1→PD r out (r.ts.getD k' default))∧(ch=true→ZV out<s0)∧ZV out≤s0) (fun (out,ch)=>[(1,.pointer (some ⟨b1,0,none⟩)),(4,v4),(6,.int .i64 i),(7,.bool ch),(8,.int .i64 k)]) ?_ ?_|refine je (σ:=List Int×Bool) (fun (out,ch) h'=>Hs h0 h' [.sl v4 3 1 eI out,.blk b1 [v.vg.val,v.vt.val] 32]∧KP r i out0 out∧(ch=false→∀ k',k'<k+1→PD r out (r.ts.getD k' default))∧(ch=true→ZV out<s0)∧ZV out≤s0) (fun (out,ch)=>[(1,.pointer (some ⟨b1,0,none⟩)),(4,v4),(6,.int .i64 i),(7,.bool ch),(8,.int .i64 k)]) ?_ ?_
       ·all_goals (repeat' (first|refine qw ?_|refine qh rfl ?_|refine qi ?_|refine qp ?_|refine qg ?_|refine qj ?_|refine qo ?_|(refine qc 17 ?_;(first|refine vl ?_|refine fB S ?_|refine fS S rfl rfl ?_|refine fA ?_);(first|refine lB S rfl rfl ?_|refine qy S rfl rfl ?_|refine qU S ?_|refine lH S ?_);refine mv ?_;(first|refine zK S ?_|refine qC S rfl rfl ?_);(first|refine vl ?_|refine fB S ?_|refine fS S rfl rfl ?_|refine fA ?_);(first|refine lB S rfl rfl ?_|refine qy S rfl rfl ?_|refine qU S ?_|refine lH S ?_);(first|refine cT ?_|refine cF ?_|(refine cS ?_ ?_<;>intro hc))<;>(refine qf ?_))))
        all_goals (try simp only [Int.toNat_natCast] at *)
        ·exact ⟨(out,ch),⟨S,K,fun q=>QZ (p1 q) (fun e=>absurd e hc),p2,p3⟩,((by repeat (first|exact Ks.le_nil _|refine Ks.qx rfl ?_|refine Ks.qA ?_)))⟩
        ·have hk2:(r.ts.getD k default).k=2:=by omega
         obtain ⟨-,-,ga,gb⟩:=H.tt _ (qQ hkl)
         skip
         all_goals (repeat' (first|refine qw ?_|refine qh rfl ?_|refine qi ?_|refine qp ?_|refine qg ?_|refine qj ?_|refine qo ?_|(refine qL 18 ?_;(first|refine vl ?_|refine fB S ?_|refine fS S rfl rfl ?_|refine fA ?_);(first|refine lB S rfl rfl ?_|refine qy S rfl rfl ?_|refine qU S ?_|refine lH S ?_);(first|refine vl ?_|refine fB S ?_|refine fS S rfl rfl ?_|refine fA ?_);(first|refine lB S rfl rfl ?_|refine qy S rfl rfl ?_|refine qU S ?_|refine lH S ?_);refine mv ?_;(first|refine zK S ?_|refine qC S rfl rfl ?_);(first|refine vl ?_|refine fB S ?_|refine fS S rfl rfl ?_|refine fA ?_);(first|refine lB S rfl rfl ?_|refine qy S rfl rfl ?_|refine qU S ?_|refine lH S ?_))))
         simp only [Int.toNat_natCast]
         (refine qE rfl rfl rfl rfl rfl ((JS S.wf v.vg.val v.gs (hrg.ext w S.ext) (by omega) (r.ts.getD k default).a).mono ?_);rintro _ h ⟨⟨a,a1,a2,rfl⟩|⟨a1,rfl⟩,x⟩)<;>(replace S:=S.qW x;clear x;refine mv ?_;refine qf ?_)
         all_goals rw [HR.us] at a1
         rotate_left
         ·exact absurd a1 ga
         all_goals (repeat' (first|refine qw ?_|refine qh rfl ?_|refine qi ?_|refine qp ?_|refine qg ?_|refine qj ?_|refine qo ?_|(refine qL 18 ?_;(first|refine vl ?_|refine fB S ?_|refine fS S rfl rfl ?_|refine fA ?_);(first|refine lB S rfl rfl ?_|refine qy S rfl rfl ?_|refine qU S ?_|refine lH S ?_);(first|refine vl ?_|refine fB S ?_|refine fS S rfl rfl ?_|refine fA ?_);(first|refine lB S rfl rfl ?_|refine qy S rfl rfl ?_|refine qU S ?_|refine lH S ?_);refine mv ?_;(first|refine zK S ?_|refine qC S rfl rfl ?_);(first|refine vl ?_|refine fB S ?_|refine fS S rfl rfl ?_|refine fA ?_);(first|refine lB S rfl rfl ?_|refine qy S rfl rfl ?_|refine qU S ?_|refine lH S ?_))|(refine qL 19 ?_;(first|refine vl ?_|refine fB S ?_|refine fS S rfl rfl ?_|refine fA ?_);(first|refine lB S rfl rfl ?_|refine qy S rfl rfl ?_|refine qU S ?_|refine lH S ?_);(first|refine vl ?_|refine fB S ?_|refine fS S rfl rfl ?_|refine fA ?_);(first|refine lB S rfl rfl ?_|refine qy S rfl rfl ?_|refine qU S ?_|refine lH S ?_);refine mv ?_;(first|refine zK S ?_|refine qC S rfl rfl ?_);(first|refine vl ?_|refine fB S ?_|refine fS S rfl rfl ?_|refine fA ?_);(first|refine lB S rfl rfl ?_|refine qy S rfl rfl ?_|refine qU S ?_|refine lH S ?_))))
         simp only [Int.toNat_natCast]
         (refine qE rfl rfl rfl rfl rfl ((JS S.wf v.vg.val v.gs (hrg.ext w S.ext) (by omega) (r.ts.getD k default).b).mono ?_);rintro _ h ⟨⟨b,b1',b2,rfl⟩|⟨b1',rfl⟩,x⟩)<;>(replace S:=S.qW x;clear x;refine mv ?_;refine qf ?_)
         all_goals rw [HR.us] at b1'
         rotate_left
         ·exact absurd b1' gb
         have na:jJ r a=(r.ts.getD k default).a:=(Yk a1).2.1
         have nb:jJ r b=(r.ts.getD k default).b:=(Yk b1').2.1
         have hadj:adj r 2 (jJ r a) (jJ r b):=⟨_,qQ hkl,hk2,.inl ⟨na.symm,nb.symm⟩⟩
         skip
         all_goals (repeat' (first|refine qw ?_|refine qh rfl ?_|refine qi ?_|refine qp ?_|refine qg ?_|refine qj ?_|refine qo ?_|(refine qL 19 ?_;(first|refine vl ?_|refine fB S ?_|refine fS S rfl rfl ?_|refine fA ?_);(first|refine lB S rfl rfl ?_|refine qy S rfl rfl ?_|refine qU S ?_|refine lH S ?_);(first|refine vl ?_|refine fB S ?_|refine fS S rfl rfl ?_|refine fA ?_);(first|refine lB S rfl rfl ?_|refine qy S rfl rfl ?_|refine qU S ?_|refine lH S ?_);refine mv ?_;(first|refine zK S ?_|refine qC S rfl rfl ?_);(first|refine vl ?_|refine fB S ?_|refine fS S rfl rfl ?_|refine fA ?_);(first|refine lB S rfl rfl ?_|refine qy S rfl rfl ?_|refine qU S ?_|refine lH S ?_))))
         (repeat (refine qw ?_));first|refine VF (σ:=List Int×Bool) (fun (out',ch') h'=>Hs h0 h' [.sl v4 3 1 eI out',.blk b1 [v.vg.val,v.vt.val] 32]∧KP r i out0 out'∧(ch'=false→ch=false∧out'=out∧¬ (0≤out.getD a default∧out.getD b default<0))∧(ch'=true→ZV out'<s0)∧ZV out'≤s0) (fun (out',ch')=>[(1,.pointer (some ⟨b1,0,none⟩)),(4,v4),(6,.int .i64 i),(7,.bool ch'),(8,.int .i64 k),(9,.int .i64 a),(10,.int .i64 b)]) ?_ ?_|refine Zc (σ:=List Int×Bool) (fun (out',ch') h'=>Hs h0 h' [.sl v4 3 1 eI out',.blk b1 [v.vg.val,v.vt.val] 32]∧KP r i out0 out'∧(ch'=false→ch=false∧out'=out∧¬ (0≤out.getD a default∧out.getD b default<0))∧(ch'=true→ZV out'<s0)∧ZV out'≤s0) (fun (out',ch')=>[(1,.pointer (some ⟨b1,0,none⟩)),(4,v4),(6,.int .i64 i),(7,.bool ch'),(8,.int .i64 k),(9,.int .i64 a),(10,.int .i64 b)]) ?_ ?_
         ·all_goals (repeat' (first|refine qw ?_|refine qh rfl ?_|refine qi ?_|refine qp ?_|refine qg ?_|refine qj ?_|refine qo ?_|(refine qc 20 ?_;refine mv ?_;refine mv ?_;(first|refine zK S ?_|refine qC S rfl rfl ?_);(first|refine lB S rfl rfl ?_|refine qy S rfl rfl ?_|refine qU S ?_|refine lH S ?_);(first|refine cT ?_|refine cF ?_|(refine cS ?_ ?_<;>intro hc))<;>(refine mv ?_;(first|refine off ?_|refine mv ?_);(first|refine off ?_|refine mv ?_);(first|refine off ?_|(first|refine zK S ?_|refine qC S rfl rfl ?_));(first|refine off ?_|(first|refine lB S rfl rfl ?_|refine qy S rfl rfl ?_|refine qU S ?_|refine lH S ?_));(first|refine off ?_|(first|refine cT ?_|refine cF ?_|(refine cS ?_ ?_<;>intro hc)))<;>(refine vl ?_;refine qf ?_)))))
          all_goals (try simp only [Int.toNat_natCast] at *)
          ·have hra : -1≤out.getD (a:Int).toNat default∧out.getD (a:Int).toNat default≤1:=by
            have:=K.a.rng a (by omega)
            show -1≤out.getD a default∧out.getD a default≤1
            omega
           have hra2:out.getD a default≤1:=hra.2
           have hs:=K.step (by omega) (by omega) hadj (by omega) (by omega)
           have hng:=wR (out:=out) (i:=b) (x:=1 - out.getD a default) (by omega) (by omega) (by omega)
           all_goals (repeat' (first|refine qw ?_|refine qh rfl ?_|refine qi ?_|refine qp ?_|refine qg ?_|refine qj ?_|refine qo ?_|(refine qc 21 ?_;(iterate 4 refine mv ?_);(first|refine zK S ?_|refine qC S rfl rfl ?_);(first|refine lB S rfl rfl ?_|refine qy S rfl rfl ?_|refine qU S ?_|refine lH S ?_);(first|refine sb ?_|refine vl ?_);(first|refine zK S ?_|refine qC S rfl rfl ?_);(first|(refine sB S rfl rfl ?_;clear S;intro h S)|(refine zS S rfl rfl ?_;clear S;intro h S));refine qf ?_)|(refine qc 22 ?_;refine mv ?_;refine qf ?_)))
           simp only [Int.toNat_natCast] at S
           exact ⟨(out.set b (1 - out.getD a default),true),⟨S,hs,(fun q=>by cases q),(fun _=>by (try dsimp only);omega),by (try dsimp only);omega⟩,((by repeat (first|exact Ks.le_nil _|refine Ks.qx rfl ?_|refine Ks.qA ?_)))⟩
          ·exact ⟨(out,ch),⟨S,K,fun q=>⟨q,rfl,by omega⟩,p2,p3⟩,((by repeat (first|exact Ks.le_nil _|refine Ks.qx rfl ?_|refine Ks.qA ?_)))⟩
          ·exact ⟨(out,ch),⟨S,K,fun q=>⟨q,rfl,by omega⟩,p2,p3⟩,((by repeat (first|exact Ks.le_nil _|refine Ks.qx rfl ?_|refine Ks.qA ?_)))⟩
         clear S
         rintro ⟨out1,ch1⟩ h ⟨S,K1,q1,q2,q3⟩
         have hol1:=K1.a.len
         skip
         (repeat (refine qw ?_));first|refine VF (σ:=List Int×Bool) (fun (out',ch') h'=>Hs h0 h' [.sl v4 3 1 eI out',.blk b1 [v.vg.val,v.vt.val] 32]∧KP r i out0 out'∧(ch'=false→ch=false∧out'=out∧¬ (0≤out.getD a default∧out.getD b default<0)∧¬ (0≤out.getD b default∧out.getD a default<0))∧(ch'=true→ZV out'<s0)∧ZV out'≤s0) (fun (out',ch')=>[(1,.pointer (some ⟨b1,0,none⟩)),(4,v4),(6,.int .i64 i),(7,.bool ch'),(8,.int .i64 k),(9,.int .i64 a),(10,.int .i64 b)]) ?_ ?_|refine Zc (σ:=List Int×Bool) (fun (out',ch') h'=>Hs h0 h' [.sl v4 3 1 eI out',.blk b1 [v.vg.val,v.vt.val] 32]∧KP r i out0 out'∧(ch'=false→ch=false∧out'=out∧¬ (0≤out.getD a default∧out.getD b default<0)∧¬ (0≤out.getD b default∧out.getD a default<0))∧(ch'=true→ZV out'<s0)∧ZV out'≤s0) (fun (out',ch')=>[(1,.pointer (some ⟨b1,0,none⟩)),(4,v4),(6,.int .i64 i),(7,.bool ch'),(8,.int .i64 k),(9,.int .i64 a),(10,.int .i64 b)]) ?_ ?_
         ·all_goals (repeat' (first|refine qw ?_|refine qh rfl ?_|refine qi ?_|refine qp ?_|refine qg ?_|refine qj ?_|refine qo ?_|(refine qc 23 ?_;refine mv ?_;refine mv ?_;(first|refine zK S ?_|refine qC S rfl rfl ?_);(first|refine lB S rfl rfl ?_|refine qy S rfl rfl ?_|refine qU S ?_|refine lH S ?_);(first|refine cT ?_|refine cF ?_|(refine cS ?_ ?_<;>intro hc))<;>(refine mv ?_;(first|refine off ?_|refine mv ?_);(first|refine off ?_|refine mv ?_);(first|refine off ?_|(first|refine zK S ?_|refine qC S rfl rfl ?_));(first|refine off ?_|(first|refine lB S rfl rfl ?_|refine qy S rfl rfl ?_|refine qU S ?_|refine lH S ?_));(first|refine off ?_|(first|refine cT ?_|refine cF ?_|(refine cS ?_ ?_<;>intro hc)))<;>(refine vl ?_;refine qf ?_)))))
          all_goals (try simp only [Int.toNat_natCast] at *)
          ·have hra : -1≤out1.getD (b:Int).toNat default∧out1.getD (b:Int).toNat default≤1:=by
            have:=K1.a.rng b (by omega)
            show -1≤out1.getD b default∧out1.getD b default≤1
            omega
           have hra2:out1.getD b default≤1:=hra.2
           have hs:=K1.step (by omega) (by omega) hadj.symm (by omega) (by omega)
           have hng:=wR (out:=out1) (i:=a) (x:=1 - out1.getD b default) (by omega) (by omega) (by omega)
           all_goals (repeat' (first|refine qw ?_|refine qh rfl ?_|refine qi ?_|refine qp ?_|refine qg ?_|refine qj ?_|refine qo ?_|(refine qc 24 ?_;(iterate 4 refine mv ?_);(first|refine zK S ?_|refine qC S rfl rfl ?_);(first|refine lB S rfl rfl ?_|refine qy S rfl rfl ?_|refine qU S ?_|refine lH S ?_);(first|refine sb ?_|refine vl ?_);(first|refine zK S ?_|refine qC S rfl rfl ?_);(first|(refine sB S rfl rfl ?_;clear S;intro h S)|(refine zS S rfl rfl ?_;clear S;intro h S));refine qf ?_)|(refine qc 25 ?_;refine mv ?_;refine qf ?_)))
           simp only [Int.toNat_natCast] at S
           exact ⟨(out1.set a (1 - out1.getD b default),true),⟨S,hs,(fun q=>by cases q),(fun _=>by (try dsimp only);omega),by (try dsimp only);omega⟩,((by repeat (first|exact Ks.le_nil _|refine Ks.qx rfl ?_|refine Ks.qA ?_)))⟩
          ·exact ⟨(out1,ch1),⟨S,K1,fun q=>by
            obtain ⟨e1,e2,e3⟩:=q1 q
            refine ⟨e1,e2,e3,?_⟩
            rw [← e2];omega,q2,q3⟩,((by repeat (first|exact Ks.le_nil _|refine Ks.qx rfl ?_|refine Ks.qA ?_)))⟩
          ·exact ⟨(out1,ch1),⟨S,K1,fun q=>by
            obtain ⟨e1,e2,e3⟩:=q1 q
            refine ⟨e1,e2,e3,?_⟩
            rw [← e2];omega,q2,q3⟩,((by repeat (first|exact Ks.le_nil _|refine Ks.qx rfl ?_|refine Ks.qA ?_)))⟩
         clear S K1 q1 q2 q3 hol1
         rintro ⟨out1,ch1⟩ h ⟨S,K1,q1,q2,q3⟩
         have hol1:=K1.a.len
         have fin:(0≤out1.getD a default→out1.getD a default≠out1.getD b default)→ch1=false→∀ k',k'<k+1→PD r out1 (r.ts.getD k' default):=fun hd q=>by
          obtain ⟨e1,e2,e3,e4⟩:=q1 q
          refine QZ (fun k' hk'=>by rw [e2];exact p1 e1 k' hk') ?_
          rw [← e2] at e3 e4
          intro _ a' b' ha' hb' ea eb
          have ha2:a'=a:=VC H (by omega) (by omega) (ea.trans na.symm)
          have hb2:b'=b:=VC H (by omega) (by omega) (eb.trans nb.symm)
          rw [ha2,hb2]
          exact ⟨by omega,hd⟩
         skip
         all_goals (repeat' (first|refine qw ?_|refine qh rfl ?_|refine qi ?_|refine qp ?_|refine qg ?_|refine qj ?_|refine qo ?_|(refine qL 26 ?_;refine mv ?_;refine mv ?_;(first|refine zK S ?_|refine qC S rfl rfl ?_);(first|refine lB S rfl rfl ?_|refine qy S rfl rfl ?_|refine qU S ?_|refine lH S ?_);(first|refine cT ?_|refine cF ?_|(refine cS ?_ ?_<;>intro hc))<;>(refine mv ?_;(first|refine off ?_|refine mv ?_);(first|refine off ?_|refine mv ?_);(first|refine off ?_|(first|refine zK S ?_|refine qC S rfl rfl ?_));(first|refine off ?_|(first|refine lB S rfl rfl ?_|refine qy S rfl rfl ?_|refine qU S ?_|refine lH S ?_));(first|refine off ?_|refine mv ?_);(first|refine off ?_|refine mv ?_);(first|refine off ?_|(first|refine zK S ?_|refine qC S rfl rfl ?_));(first|refine off ?_|(first|refine lB S rfl rfl ?_|refine qy S rfl rfl ?_|refine qU S ?_|refine lH S ?_));(first|refine off ?_|(first|refine cT ?_|refine cF ?_|(refine cS ?_ ?_<;>intro hc)))<;>(refine vl ?_;refine qf ?_)))))
         all_goals (try simp only [Int.toNat_natCast] at *)
         ·all_goals (repeat' (first|refine qw ?_|refine qh rfl ?_|refine qi ?_|refine qp ?_|refine qg ?_|refine qj ?_|refine qo ?_|(refine qc 27 ?_;refine mv ?_;refine mv ?_;refine qf ?_)))
          refine qI ⟨_,rfl,?_⟩
          exact .inr ⟨rfl,K1.a.no (by omega) (by omega) hadj (by omega) (by omega),S.drop⟩
         ·exact ⟨(out1,ch1),⟨S,K1,fin (fun _=>by omega),q2,q3⟩,((by repeat (first|exact Ks.le_nil _|refine Ks.qx rfl ?_|refine Ks.qA ?_)))⟩
         ·exact ⟨(out1,ch1),⟨S,K1,fin (fun z=>by omega),q2,q3⟩,((by repeat (first|exact Ks.le_nil _|refine Ks.qx rfl ?_|refine Ks.qA ?_)))⟩
       ·clear S K p1 p2 p3 hol
        rintro ⟨out,ch⟩ h ⟨S,K,p1,p2,p3⟩
        skip
        all_goals (repeat' (first|refine qw ?_|refine qh rfl ?_|refine qi ?_|refine qp ?_|refine qg ?_|refine qj ?_|refine qo ?_|(refine qc 16 ?_;refine mv ?_;(first|refine ad ?_|refine vl ?_);refine mv ?_;refine qf ?_)))
        refine ⟨(k+1,out,ch),?_,?_,(by repeat (first|exact Ks.le_nil _|refine Ks.qx rfl ?_|refine Ks.qA ?_))⟩
        ·show r.ts.length - (k+1)<r.ts.length - k;omega
        ·exact ⟨S,by (try dsimp only);omega,K,p1,p2,p3⟩
      ·have hk:k=r.ts.length:=by omega
       subst hk
       refine ⟨(out,ch),?_,?_,(by repeat (first|exact Ks.le_nil _|refine Ks.qx rfl ?_|refine Ks.qA ?_))⟩
       ·show 2*ZV out+(if ch then 1 else 0)<2*ZV _+(if true then 1 else 0)
        rw [hs0]
        cases ch
        ·simp;omega
        ·have:=p2 rfl
         simp;omega
       ·refine ⟨S,K,fun q t ht=>?_⟩
        obtain ⟨j,j1,j2⟩:=qR.1 ht
        rw [← j2];exact p1 q j j1
   ·clear S A C M hol
    rintro out h ⟨S,A,C,M⟩
    skip
    all_goals (repeat' (first|refine qw ?_|refine qh rfl ?_|refine qi ?_|refine qp ?_|refine qg ?_|refine qj ?_|refine qo ?_|(refine qc 8 ?_;refine mv ?_;(first|refine ad ?_|refine vl ?_);refine mv ?_;refine qf ?_)))
    refine ⟨(i+1,out),?_,?_,(by repeat (first|exact Ks.le_nil _|refine Ks.qx rfl ?_|refine Ks.qA ?_))⟩
    ·show r.us.length - (i+1)<r.us.length - i;omega
    ·exact ⟨S,by (try dsimp only);omega,A,C,M⟩
  ·have hi:i=r.us.length:=by omega
   subst hi
   obtain ⟨F1,F2⟩:=A.fin C (fun j hj=>M j (by omega))
   skip
   all_goals (repeat' (first|refine qw ?_|refine qh rfl ?_|refine qi ?_|refine qp ?_|refine qg ?_|refine qj ?_|refine qo ?_|(refine qc 28 ?_;(iterate 3 refine mv ?_);refine qf ?_)))
   refine qI ⟨_,rfl,?_⟩
   exact .inl ⟨v4,out,rfl,S.only .here,F1,F2⟩
end Go.Proofs.Xx
namespace Go.Proofs.Xx
open Go Go.Proofs
set_option linter.unusedSimpArgs false
set_option linter.unusedVariables false
set_option linter.unusedSectionVars false
set_option maxRecDepth 100000
set_option maxHeartbeats 4000000
variable [Flag]
theorem wI {h0:AH} (w:WfH h0) (v:RlV) (r:Rl) (HR:RlOk h0 v r) (H:RO r):Fn Tryz.prog Xh 100 [v.val] h0 (fun u h'=>∃ cs,Hs h0 h' [.sl u 22 1 xZ cs,W9 cs]∧CirOk r cs∧(∀ x,gat r.us x≠none→∃ w∈cs,x∈w.ws)∧cs.length≤64):=by
 have S:=Hs.start w
 have h64:=H.l64
 unfold RlV.val
 refine zg rfl Tryz.func100 rfl rfl ?_
 all_goals (repeat' (first|refine qw ?_|refine qh rfl ?_|refine qi ?_|refine qp ?_|refine qg ?_|refine qj ?_|refine qo ?_|(refine qc 0 ?_;(refine bx S ?_;clear S;intro b h S);refine mv ?_;refine qf ?_)))
 obtain ⟨b1,hnm⟩:∃ x,x=b:=⟨_,rfl⟩;subst hnm
 replace S:Hs h0 h (.blk b1 [v.vg.val,v.vt.val] 32 :: []):=S
 all_goals (repeat' (first|refine qw ?_|refine qh rfl ?_|refine qi ?_|refine qp ?_|refine qg ?_|refine qj ?_|refine qo ?_|(refine qc 1 ?_;(first|refine lB S rfl rfl ?_|refine qy S rfl rfl ?_|refine qU S ?_|refine lH S ?_))))
 (refine qE rfl rfl rfl rfl rfl ((pJ S.wf v r (HR.ext w S.ext) H).mono ?_);rintro un h ⟨ns,x,n1,n2,n3⟩)<;>(replace S:=S.jT x;clear x;refine mv ?_;refine qf ?_)
 have hns:∀ x,gat r.us x≠none→x∈ns:=fun x hx=>(n2 x).2 hx
 have hnl:ns.length≤64:=by omega
 have S:=S.Zv (e:=9) (z:=1) (enc:=eS)
 all_goals (repeat' (first|refine qw ?_|refine qh rfl ?_|refine qi ?_|refine qp ?_|refine qg ?_|refine qj ?_|refine qo ?_|(refine qc 2 ?_;refine mv ?_;refine qf ?_)|(refine qc 3 ?_;refine mv ?_;refine qf ?_)))
 refine qM (σ:=Nat×Value) (fun (i,v4) h'=>Hs h0 h' [.sl v4 9 1 eS (lst ns (List.range i)),.sl un 9 1 eS ns,.blk b1 [v.vg.val,v.vt.val] 32]∧i≤ns.length) (fun (i,v4)=>ns.length - i) (fun (i,v4)=>[(1,.pointer (some ⟨b1,0,none⟩)),(3,un),(4,v4),(5,.int .i64 i)]) (0,.slice none 0 0) (by repeat (first|exact Ks.le_nil _|refine Ks.qx rfl ?_|refine Ks.qA ?_)) ?_ ?_
 ·exact ⟨S,Nat.zero_le _⟩
 clear S
 rintro ⟨i,v4⟩ h ⟨S,g1⟩
 have hll:(lst ns (List.range i)).length=i:=by simp [lst]
 all_goals (repeat' (first|refine qw ?_|refine qh rfl ?_|refine qi ?_|refine qp ?_|refine qg ?_|refine qj ?_|refine qo ?_|(refine qc 4 ?_;refine mv ?_;refine mv ?_;(first|refine jA S ?_|refine jZ S rfl rfl ?_);(first|refine cT ?_|refine cF ?_|(refine cS ?_ ?_<;>intro hc))<;>(refine qf ?_))))
 ·have hil:i<ns.length:=by omega
  have e1:lst ns (List.range (i+1))=lst ns (List.range i) ++ [ns.getD i default]:=by unfold lst;rw [List.range_succ,List.map_append];rfl
  all_goals (repeat' (first|refine qw ?_|refine qh rfl ?_|refine qi ?_|refine qp ?_|refine qg ?_|refine qj ?_|refine qo ?_|(refine qc 6 ?_;(iterate 3 refine mv ?_);(first|refine zK S ?_|refine qC S rfl rfl ?_);(first|refine lB S rfl rfl ?_|refine qy S rfl rfl ?_|refine qU S ?_|refine lH S ?_);(refine one 1 S ?_;clear S;intro u h S))))
  simp only [Int.toNat_natCast] at *
  refine app (y0:=ns.getD i default) S rfl rfl ?_;clear S;intro v4 h S;(refine mv ?_;refine qf ?_)
  all_goals (repeat' (first|refine qw ?_|refine qh rfl ?_|refine qi ?_|refine qp ?_|refine qg ?_|refine qj ?_|refine qo ?_|(refine qc 5 ?_;refine mv ?_;(first|refine ad ?_|refine vl ?_);refine mv ?_;refine qf ?_)))
  refine ⟨(i+1,v4),?_,?_,(by repeat (first|exact Ks.le_nil _|refine Ks.qx rfl ?_|refine Ks.qA ?_))⟩
  ·show ns.length - (i+1)<ns.length - i;omega
  ·refine ⟨?_,by (try dsimp only);omega⟩
   (try dsimp only)
   rw [e1];exact S.pick
 ·obtain rfl:i=ns.length:=by omega
  have I0:LI r ns (List.range ns.length):=by
   have hg:∀ i,i<ns.length→(List.range ns.length).getD i default=i:=fun i hi=>by
    rw [List.getD_eq_getElem?_getD,List.getElem?_range hi];rfl
   refine ⟨by simp,fun i hi=>?_,fun i hi=>?_⟩
   ·simp only [List.length_range] at hi
    rw [hg i hi];exact Nat.le_refl _
   ·simp only [List.length_range] at hi
    rw [hg i hi];exact .refl
  clear hll
  skip
  all_goals (repeat' (first|refine qw ?_|refine qh rfl ?_|refine qi ?_|refine qp ?_|refine qg ?_|refine qj ?_|refine qo ?_|(refine qc 7 ?_;refine mv ?_;refine qf ?_)))
  refine qM (σ:=List Nat×Bool) (fun (P,ch) h'=>Hs h0 h' [.sl v4 9 1 eS (lst ns P),.sl un 9 1 eS ns,.blk b1 [v.vg.val,v.vt.val] 32]∧LI r ns P∧(ch=false→LC r ns P)) (fun (P,ch)=>2*P.sum+(if ch then 1 else 0)) (fun (P,ch)=>[(1,.pointer (some ⟨b1,0,none⟩)),(3,un),(4,v4),(6,.bool ch)]) (List.range ns.length,true) (by repeat (first|exact Ks.le_nil _|refine Ks.qx rfl ?_|refine Ks.qA ?_)) ?_ ?_
  ·exact ⟨S,I0,fun q=>by cases q⟩
  clear S I0
  rintro ⟨P,ch⟩ h ⟨S,I,C⟩
  have hfl:=I.len
  have hll:(lst ns P).length=ns.length:=by simp [lst];exact hfl
  cases ch
  ·replace C:=C rfl
   all_goals (repeat' (first|refine qw ?_|refine qh rfl ?_|refine qi ?_|refine qp ?_|refine qg ?_|refine qj ?_|refine qo ?_|(refine qc 8 ?_;refine mv ?_;refine qf ?_)|(refine qc 20 ?_;refine mv ?_;refine qf ?_)|(refine qc 21 ?_;refine mv ?_;refine qf ?_)))
   have S:=(S.Zv (e:=22) (z:=1) (enc:=xZ)).anyS (p:=WdsOk []) fun h' g hg=>by cases hg
   replace S:Hs h0 h (W9 [] :: .sl (.slice none 0 0) 22 1 xZ [] :: .sl v4 9 1 eS (lst ns P) :: .sl un 9 1 eS ns :: .blk b1 [v.vg.val,v.vt.val] 32 :: []):=S
   refine qM (σ:=Nat×Value×List Wd) (fun (i,v11,cs) h'=>Hs h0 h' [.sl v11 22 1 xZ cs,W9 cs,.sl v4 9 1 eS (lst ns P),.sl un 9 1 eS ns,.blk b1 [v.vg.val,v.vt.val] 32]∧i≤ns.length∧cs.map (·.ws)=ZQ ns P i) (fun (i,v11,cs)=>ns.length - i) (fun (i,v11,cs)=>[(3,un),(4,v4),(11,v11),(12,.int .i64 i)]) (0,.slice none 0 0,[]) (by repeat (first|exact Ks.le_nil _|refine Ks.qx rfl ?_|refine Ks.qA ?_)) ?_ ?_
   ·exact ⟨S.pick,Nat.zero_le _,rfl⟩
   clear S
   rintro ⟨i,v11,cs⟩ h ⟨S,g1,g2⟩
   have hcl:cs.length≤i:=by
    have:=congrArg List.length g2
    rw [List.length_map] at this
    rw [this];exact Po ns P i
   all_goals (repeat' (first|refine qw ?_|refine qh rfl ?_|refine qi ?_|refine qp ?_|refine qj ?_|refine qo ?_|(refine qc 22 ?_;refine mv ?_;refine mv ?_;(first|refine jA S ?_|refine jZ S rfl rfl ?_);(first|refine cT ?_|refine cF ?_|(refine cS ?_ ?_<;>intro hc))<;>(refine qf ?_))))
   ·have hil:i<ns.length:=by omega
    have hsu:=KG ns P i
    (repeat (refine qw ?_));first|refine Xq (σ:=Value×List Wd) (fun (v11,cs) h'=>Hs h0 h' [.sl v11 22 1 xZ cs,W9 cs,.sl v4 9 1 eS (lst ns P),.sl un 9 1 eS ns,.blk b1 [v.vg.val,v.vt.val] 32]∧cs.map (·.ws)=ZQ ns P (i+1)) (fun (v11,cs)=>[(3,un),(4,v4),(11,v11),(12,.int .i64 i)]) ?_ ?_|refine je (σ:=Value×List Wd) (fun (v11,cs) h'=>Hs h0 h' [.sl v11 22 1 xZ cs,W9 cs,.sl v4 9 1 eS (lst ns P),.sl un 9 1 eS ns,.blk b1 [v.vg.val,v.vt.val] 32]∧cs.map (·.ws)=ZQ ns P (i+1)) (fun (v11,cs)=>[(3,un),(4,v4),(11,v11),(12,.int .i64 i)]) ?_ ?_
    ·all_goals (repeat' (first|refine qw ?_|refine qh rfl ?_|refine qi ?_|refine qp ?_|refine qg ?_|refine qj ?_|refine qo ?_|(refine qL 24 ?_;refine mv ?_;refine mv ?_;(first|refine zK S ?_|refine qC S rfl rfl ?_);(first|refine lB S rfl rfl ?_|refine qy S rfl rfl ?_|refine qU S ?_|refine lH S ?_);refine mv ?_;refine mv ?_;(first|refine zK S ?_|refine qC S rfl rfl ?_);(first|refine lB S rfl rfl ?_|refine qy S rfl rfl ?_|refine qU S ?_|refine lH S ?_);(refine tS ?_ ?_<;>intro hc)<;>(refine qf ?_))))
     all_goals (try simp only [Int.toNat_natCast] at *)
     all_goals (try rw [Yh (by omega)] at hc)
     ·have hpi:=I.le i (by omega)
      have hp:P.getD i default=i:=n1.inj (by omega) hil hc
      skip
      all_goals (repeat' (first|refine qw ?_|refine qh rfl ?_|refine qi ?_|refine qp ?_|refine qg ?_|refine qj ?_|refine qo ?_|(refine qc 25 ?_;refine mv ?_;refine qf ?_)|(refine qc 26 ?_;refine mv ?_;refine qf ?_)))
      have S:=S.Zv (e:=9) (z:=1) (enc:=eS)
      refine qM (σ:=Nat×Value) (fun (k,v13) h'=>Hs h0 h' [.sl v13 9 1 eS (ZA ns P i k),.sl v11 22 1 xZ cs,W9 cs,.sl v4 9 1 eS (lst ns P),.sl un 9 1 eS ns,.blk b1 [v.vg.val,v.vt.val] 32]∧k≤ns.length) (fun (k,v13)=>ns.length - k) (fun (k,v13)=>[(3,un),(4,v4),(11,v11),(12,.int .i64 i),(13,v13),(14,.int .i64 k)]) (0,.slice none 0 0) (by repeat (first|exact Ks.le_nil _|refine Ks.qx rfl ?_|refine Ks.qA ?_)) ?_ ?_
      ·exact ⟨S,Nat.zero_le _⟩
      clear S
      rintro ⟨k,v13⟩ h ⟨S,k1⟩
      have hcl2:=qaC ns P i k
      all_goals (repeat' (first|refine qw ?_|refine qh rfl ?_|refine qi ?_|refine qp ?_|refine qg ?_|refine qj ?_|refine qo ?_|(refine qc 27 ?_;refine mv ?_;refine mv ?_;(first|refine jA S ?_|refine jZ S rfl rfl ?_);(first|refine cT ?_|refine cF ?_|(refine cS ?_ ?_<;>intro hc))<;>(refine qf ?_))))
      ·have hkl:k<ns.length:=by omega
       have hpk:=I.le k (by omega)
       have hsu2:=Pq ns P i k
       all_goals (repeat' (first|refine qw ?_|refine qh rfl ?_|refine qi ?_|refine qp ?_|refine qg ?_|refine qj ?_|refine qo ?_|(refine qL 29 ?_;refine mv ?_;refine mv ?_;(first|refine zK S ?_|refine qC S rfl rfl ?_);(first|refine lB S rfl rfl ?_|refine qy S rfl rfl ?_|refine qU S ?_|refine lH S ?_);refine mv ?_;refine mv ?_;(first|refine zK S ?_|refine qC S rfl rfl ?_);(first|refine lB S rfl rfl ?_|refine qy S rfl rfl ?_|refine qU S ?_|refine lH S ?_);(refine tS ?_ ?_<;>intro hc)<;>(refine qf ?_))))
       all_goals (try simp only [Int.toNat_natCast] at *)
       all_goals (try rw [Yh (by omega)] at hc)
       ·have hpk2:P.getD k default=i:=n1.inj (by omega) hil hc
        rw [if_pos hpk2] at hsu2
        all_goals (repeat' (first|refine qw ?_|refine qh rfl ?_|refine qi ?_|refine qp ?_|refine qg ?_|refine qj ?_|refine qo ?_|(refine qc 30 ?_;(iterate 3 refine mv ?_);(first|refine zK S ?_|refine qC S rfl rfl ?_);(first|refine lB S rfl rfl ?_|refine qy S rfl rfl ?_|refine qU S ?_|refine lH S ?_);(refine one 1 S ?_;clear S;intro u h S))))
        simp only [Int.toNat_natCast] at *
        refine app (y0:=ns.getD k default) S rfl rfl ?_;clear S;intro v13 h S;(refine mv ?_;refine qf ?_)
        skip
        all_goals (repeat' (first|refine qw ?_|refine qh rfl ?_|refine qi ?_|refine qp ?_|refine qg ?_|refine qj ?_|refine qo ?_|(refine qc 28 ?_;refine mv ?_;(first|refine ad ?_|refine vl ?_);refine mv ?_;refine qf ?_)))
        refine ⟨(k+1,v13),?_,?_,(by repeat (first|exact Ks.le_nil _|refine Ks.qx rfl ?_|refine Ks.qA ?_))⟩
        ·show ns.length - (k+1)<ns.length - k;omega
        ·refine ⟨?_,by (try dsimp only);omega⟩
         (try dsimp only)
         rw [hsu2];exact S.pick
       ·rw [if_neg (fun e=>hc (by rw [e])),List.append_nil] at hsu2
        skip
        all_goals (repeat' (first|refine qw ?_|refine qh rfl ?_|refine qi ?_|refine qp ?_|refine qg ?_|refine qj ?_|refine qo ?_|(refine qc 28 ?_;refine mv ?_;(first|refine ad ?_|refine vl ?_);refine mv ?_;refine qf ?_)))
        refine ⟨(k+1,v13),?_,?_,(by repeat (first|exact Ks.le_nil _|refine Ks.qx rfl ?_|refine Ks.qA ?_))⟩
        ·show ns.length - (k+1)<ns.length - k;omega
        ·refine ⟨?_,by (try dsimp only);omega⟩
         (try dsimp only)
         rw [hsu2];exact S
      ·obtain rfl:k=ns.length:=by omega
       obtain ⟨v13',rfl⟩:=S.sV v13
       rw [if_pos hp] at hsu
       skip
       all_goals (repeat' (first|refine qw ?_|refine qh rfl ?_|refine qi ?_|refine qp ?_|refine qg ?_|refine qj ?_|refine qo ?_|(refine qc 31 ?_;refine mv ?_;refine mv ?_;(refine one 1 S ?_;clear S;intro u h S))))
       refine app (y0:=⟨v13',ZA ns P i ns.length⟩) S rfl rfl ?_;clear S;intro v11 h S;(refine mv ?_;refine qf ?_)
       have S:=(show Hs h0 h (.sl v13'.val 9 1 eS (ZA ns P i ns.length) :: W9 cs :: .sl v11 22 1 xZ (cs ++ [⟨v13',ZA ns P i ns.length⟩]) :: .sl v4 9 1 eS (lst ns P) :: .sl un 9 1 eS ns :: .blk b1 [v.vg.val,v.vt.val] 32 :: []) from S.pick)
       have S:=Hs.qbJ (g:=⟨v13',ZA ns P i ns.length⟩) S
       exact ⟨(v11,cs ++ [⟨v13',ZA ns P i ns.length⟩]),⟨S.pick,by rw [List.map_append,g2,hsu];rfl⟩,((by repeat (first|exact Ks.le_nil _|refine Ks.qx rfl ?_|refine Ks.qA ?_)))⟩
     ·rw [if_neg (fun e=>hc (by rw [e])),List.append_nil] at hsu
      exact ⟨(v11,cs),⟨S,by rw [hsu];exact g2⟩,((by repeat (first|exact Ks.le_nil _|refine Ks.qx rfl ?_|refine Ks.qA ?_)))⟩
    ·clear S g2 hcl
     rintro ⟨v11,cs⟩ h ⟨S,g2⟩
     skip
     all_goals (repeat' (first|refine qw ?_|refine qh rfl ?_|refine qi ?_|refine qp ?_|refine qg ?_|refine qj ?_|refine qo ?_|(refine qc 23 ?_;refine mv ?_;(first|refine ad ?_|refine vl ?_);refine mv ?_;refine qf ?_)))
     refine ⟨(i+1,v11,cs),?_,?_,(by repeat (first|exact Ks.le_nil _|refine Ks.qx rfl ?_|refine Ks.qA ?_))⟩
     ·show ns.length - (i+1)<ns.length - i;omega
     ·exact ⟨S,by (try dsimp only);omega,g2⟩
   ·obtain rfl:i=ns.length:=by omega
    obtain ⟨c1,c2⟩:=I.cir H C n1 n2 g2
    skip
    all_goals (repeat' (first|refine qw ?_|refine qh rfl ?_|refine qi ?_|refine qp ?_|refine qg ?_|refine qj ?_|refine qo ?_|(refine qc 32 ?_;refine mv ?_;refine mv ?_;refine qf ?_)))
    refine qI ⟨_,rfl,?_⟩
    exact ⟨cs,(show Hs h0 h [.sl v11 22 1 xZ cs,W9 cs] from S.pick),c1,c2,by omega⟩
  ·all_goals (repeat' (first|refine qw ?_|refine qh rfl ?_|refine qi ?_|refine qp ?_|refine qg ?_|refine qj ?_|refine qo ?_|(refine qc 8 ?_;refine mv ?_;refine qf ?_)|(refine qc 9 ?_;refine mv ?_;refine qf ?_)|(refine qc 10 ?_;refine mv ?_;refine qf ?_)))
   obtain ⟨s0,hs0⟩:∃ s0,P.sum=s0:=⟨_,rfl⟩
   refine qM (σ:=Nat×List Nat×Bool) (fun (i,P,ch) h'=>Hs h0 h' [.sl v4 9 1 eS (lst ns P),.sl un 9 1 eS ns,.blk b1 [v.vg.val,v.vt.val] 32]∧i≤ns.length∧LI r ns P∧(ch=false→∀ i' k',i'<i→k'<ns.length→adj r 1 (ns.getD i' default) (ns.getD k' default)→P.getD i' default≤P.getD k' default)∧(ch=true→P.sum<s0)∧P.sum≤s0) (fun (i,P,ch)=>ns.length - i) (fun (i,P,ch)=>[(1,.pointer (some ⟨b1,0,none⟩)),(3,un),(4,v4),(6,.bool ch),(7,.int .i64 i)]) (0,P,false) (by repeat (first|exact Ks.le_nil _|refine Ks.qx rfl ?_|refine Ks.qA ?_)) ?_ ?_
   ·exact ⟨S,Nat.zero_le _,I,fun _ i' k' h=>absurd h (Nat.not_lt_zero _),(fun q=>by cases q),Nat.le_of_eq hs0⟩
   clear S I C hfl hll
   rintro ⟨i,P,ch⟩ h ⟨S,g1,I,p1,p2,p3⟩
   have hfl:=I.len
   all_goals (repeat' (first|refine qw ?_|refine qh rfl ?_|refine qi ?_|refine qp ?_|refine qg ?_|refine qj ?_|refine qo ?_|(refine qc 11 ?_;refine mv ?_;refine mv ?_;(first|refine jA S ?_|refine jZ S rfl rfl ?_);(first|refine cT ?_|refine cF ?_|(refine cS ?_ ?_<;>intro hc))<;>(refine qf ?_))))
   ·have hil:i<ns.length:=by omega
    all_goals (repeat' (first|refine qw ?_|refine qh rfl ?_|refine qi ?_|refine qp ?_|refine qg ?_|refine qj ?_|refine qo ?_|(refine qc 13 ?_;refine mv ?_;refine qf ?_)))
    refine qM (σ:=Nat×List Nat×Bool) (fun (k,P,ch) h'=>Hs h0 h' [.sl v4 9 1 eS (lst ns P),.sl un 9 1 eS ns,.blk b1 [v.vg.val,v.vt.val] 32]∧k≤ns.length∧LI r ns P∧(ch=false→∀ i' k',(i'<i∨(i'=i∧k'<k))→k'<ns.length→adj r 1 (ns.getD i' default) (ns.getD k' default)→P.getD i' default≤P.getD k' default)∧(ch=true→P.sum<s0)∧P.sum≤s0) (fun (k,P,ch)=>ns.length - k) (fun (k,P,ch)=>[(1,.pointer (some ⟨b1,0,none⟩)),(3,un),(4,v4),(6,.bool ch),(7,.int .i64 i),(8,.int .i64 k)]) (0,P,ch) (by repeat (first|exact Ks.le_nil _|refine Ks.qx rfl ?_|refine Ks.qA ?_)) ?_ ?_
    ·refine ⟨S,Nat.zero_le _,I,fun q i' k' h=>p1 q i' k' ?_,p2,p3⟩
     rcases h with h|h
     ·exact h
     ·exact absurd h.2 (Nat.not_lt_zero _)
    clear S I hfl p1 p2 p3
    rintro ⟨k,P,ch⟩ h ⟨S,k1,I,p1,p2,p3⟩
    have hfl:=I.len
    have hll:(lst ns P).length=ns.length:=by simp [lst];exact hfl
    all_goals (repeat' (first|refine qw ?_|refine qh rfl ?_|refine qi ?_|refine qp ?_|refine qg ?_|refine qj ?_|refine qo ?_|(refine qc 14 ?_;refine mv ?_;refine mv ?_;(first|refine jA S ?_|refine jZ S rfl rfl ?_);(first|refine cT ?_|refine cF ?_|(refine cS ?_ ?_<;>intro hc))<;>(refine qf ?_))))
    ·have hkl:k<ns.length:=by omega
     have hstay:(adj r 1 (ns.getD i default) (ns.getD k default)→P.getD i default≤P.getD k default)→(ch=false)→∀ i' k',(i'<i∨(i'=i∧k'<k+1))→k'<ns.length→adj r 1 (ns.getD i' default) (ns.getD k' default)→P.getD i' default≤P.getD k' default:=fun hq q i' k' h hk a=>by
      by_cases e:i'=i∧k'=k
      ·obtain ⟨rfl,rfl⟩:=e
       exact hq a
      ·exact p1 q i' k' (by omega) hk a
     all_goals (repeat' (first|refine qw ?_|refine qh rfl ?_|refine qi ?_|refine qp ?_|refine qg ?_|refine qj ?_|refine qo ?_|(refine qL 16 ?_;(first|refine lB S rfl rfl ?_|refine qy S rfl rfl ?_|refine qU S ?_|refine lH S ?_);refine mv ?_;refine mv ?_;(first|refine zK S ?_|refine qC S rfl rfl ?_);(first|refine lB S rfl rfl ?_|refine qy S rfl rfl ?_|refine qU S ?_|refine lH S ?_);refine mv ?_;refine mv ?_;(first|refine zK S ?_|refine qC S rfl rfl ?_);(first|refine lB S rfl rfl ?_|refine qy S rfl rfl ?_|refine qU S ?_|refine lH S ?_))))
     simp only [Int.toNat_natCast]
     (refine qE rfl rfl rfl rfl rfl ((qac S.wf v r (HR.ext w S.ext) H (ns.getD i default) (ns.getD k default)).mono ?_);rintro _ h ⟨⟨t,ht,rfl⟩|⟨ht,rfl⟩,x⟩)<;>(replace S:=S.qW x;clear x;refine mv ?_;refine vl ?_;refine vl ?_;refine mv ?_;refine mv ?_;refine qf ?_)
     ·skip
      all_goals (repeat' (first|refine qw ?_|refine qh rfl ?_|refine qi ?_|refine qp ?_|refine qg ?_|refine qj ?_|refine qo ?_|(refine qL 17 ?_;refine mv ?_;refine mv ?_;(first|refine off ?_|refine mv ?_);(first|refine off ?_|(first|refine cT ?_|refine cF ?_|(refine cS ?_ ?_<;>intro hc)))<;>(refine vl ?_;refine mv ?_;(first|refine off ?_|refine mv ?_);(first|refine off ?_|refine mv ?_);(first|refine off ?_|(first|refine zK S ?_|refine qC S rfl rfl ?_));(first|refine off ?_|(first|refine lB S rfl rfl ?_|refine qy S rfl rfl ?_|refine qU S ?_|refine lH S ?_));(first|refine off ?_|refine mv ?_);(first|refine off ?_|refine mv ?_);(first|refine off ?_|(first|refine zK S ?_|refine qC S rfl rfl ?_));(first|refine off ?_|(first|refine lB S rfl rfl ?_|refine qy S rfl rfl ?_|refine qU S ?_|refine lH S ?_));(first|refine off ?_|(refine tO ?_ ?_<;>intro hc))<;>(refine vl ?_;refine qf ?_)))))
      all_goals (try simp only [Int.toNat_natCast] at *)
      all_goals (try rw [Yh (by omega),Yh (by omega)] at hc)
      ·have hadj:adj r 1 (ns.getD i default) (ns.getD k default):=by
        have:=yg ht
        rwa [show t.k=1 by omega] at this
       have hpi:=I.le i (by omega)
       have hpk:=I.le k (by omega)
       have hlt:=(n1.lt_iff (by omega) (by omega)).1 hc
       have I2:=I.set (by omega) (by omega) hlt hadj
       have hsum:=VI (l:=P) (i:=i) (x:=P.getD k default) (by omega) hlt
       all_goals (repeat' (first|refine qw ?_|refine qh rfl ?_|refine qi ?_|refine qp ?_|refine qg ?_|refine qj ?_|refine qo ?_|(refine qc 15 ?_;refine mv ?_;(first|refine ad ?_|refine vl ?_);refine mv ?_;refine qf ?_)|(refine qc 18 ?_;(iterate 4 refine mv ?_);(first|refine zK S ?_|refine qC S rfl rfl ?_);(first|refine lB S rfl rfl ?_|refine qy S rfl rfl ?_|refine qU S ?_|refine lH S ?_);(first|refine zK S ?_|refine qC S rfl rfl ?_);(first|(refine sB S rfl rfl ?_;clear S;intro h S)|(refine zS S rfl rfl ?_;clear S;intro h S));refine qf ?_)|(refine qc 19 ?_;refine mv ?_;refine qf ?_)))
       simp only [Int.toNat_natCast] at S
       rw [qbf (by omega)] at S
       refine ⟨(k+1,P.set i (P.getD k default),true),?_,?_,(by repeat (first|exact Ks.le_nil _|refine Ks.qx rfl ?_|refine Ks.qA ?_))⟩
       ·show ns.length - (k+1)<ns.length - k;omega
       ·exact ⟨S,by (try dsimp only);omega,I2,(fun q=>by cases q),fun _=>by (try dsimp only);omega,by (try dsimp only);omega⟩
      ·have hpi:=I.le i (by omega)
       have hpk:=I.le k (by omega)
       have hge:P.getD i default≤P.getD k default:=by
        rcases Nat.lt_or_ge (P.getD k default) (P.getD i default) with z|z
        ·exact absurd ((n1.lt_iff (by omega) (by omega)).2 z) hc
        ·exact z
       skip
       all_goals (repeat' (first|refine qw ?_|refine qh rfl ?_|refine qi ?_|refine qp ?_|refine qg ?_|refine qj ?_|refine qo ?_|(refine qc 15 ?_;refine mv ?_;(first|refine ad ?_|refine vl ?_);refine mv ?_;refine qf ?_)))
       refine ⟨(k+1,P,ch),?_,?_,(by repeat (first|exact Ks.le_nil _|refine Ks.qx rfl ?_|refine Ks.qA ?_))⟩
       ·show ns.length - (k+1)<ns.length - k;omega
       ·exact ⟨S,by (try dsimp only);omega,I,fun q=>hstay (fun _=>hge) q,p2,p3⟩
      ·have hna:¬ adj r 1 (ns.getD i default) (ns.getD k default):=fun q=>by
        obtain ⟨t',t1,t2⟩:=xk H q
        rw [ht] at t1;cases t1
        exact absurd t2 (by assumption)
       skip
       all_goals (repeat' (first|refine qw ?_|refine qh rfl ?_|refine qi ?_|refine qp ?_|refine qg ?_|refine qj ?_|refine qo ?_|(refine qc 15 ?_;refine mv ?_;(first|refine ad ?_|refine vl ?_);refine mv ?_;refine qf ?_)))
       refine ⟨(k+1,P,ch),?_,?_,(by repeat (first|exact Ks.le_nil _|refine Ks.qx rfl ?_|refine Ks.qA ?_))⟩
       ·show ns.length - (k+1)<ns.length - k;omega
       ·exact ⟨S,by (try dsimp only);omega,I,fun q=>hstay (fun z=>absurd z hna) q,p2,p3⟩
     ·have hna:¬ adj r 1 (ns.getD i default) (ns.getD k default):=fun q=>by
       obtain ⟨t,t1,-⟩:=xk H q
       rw [ht] at t1;cases t1
      skip
      all_goals (repeat' (first|refine qw ?_|refine qh rfl ?_|refine qi ?_|refine qp ?_|refine qg ?_|refine qj ?_|refine qo ?_|(refine qc 15 ?_;refine mv ?_;(first|refine ad ?_|refine vl ?_);refine mv ?_;refine qf ?_)|(refine qL 17 ?_;refine mv ?_;refine mv ?_;(first|refine off ?_|refine mv ?_);(first|refine off ?_|(first|refine cT ?_|refine cF ?_|(refine cS ?_ ?_<;>intro hc)))<;>(refine vl ?_;refine mv ?_;(first|refine off ?_|refine mv ?_);(first|refine off ?_|refine mv ?_);(first|refine off ?_|(first|refine zK S ?_|refine qC S rfl rfl ?_));(first|refine off ?_|(first|refine lB S rfl rfl ?_|refine qy S rfl rfl ?_|refine qU S ?_|refine lH S ?_));(first|refine off ?_|refine mv ?_);(first|refine off ?_|refine mv ?_);(first|refine off ?_|(first|refine zK S ?_|refine qC S rfl rfl ?_));(first|refine off ?_|(first|refine lB S rfl rfl ?_|refine qy S rfl rfl ?_|refine qU S ?_|refine lH S ?_));(first|refine off ?_|(refine tO ?_ ?_<;>intro hc))<;>(refine vl ?_;refine qf ?_)))))
      refine ⟨(k+1,P,ch),?_,?_,(by repeat (first|exact Ks.le_nil _|refine Ks.qx rfl ?_|refine Ks.qA ?_))⟩
      ·show ns.length - (k+1)<ns.length - k;omega
      ·exact ⟨S,by (try dsimp only);omega,I,fun q=>hstay (fun z=>absurd z hna) q,p2,p3⟩
    ·obtain rfl:k=ns.length:=by omega
     skip
     all_goals (repeat' (first|refine qw ?_|refine qh rfl ?_|refine qi ?_|refine qp ?_|refine qg ?_|refine qj ?_|refine qo ?_|(refine qc 12 ?_;refine mv ?_;(first|refine ad ?_|refine vl ?_);refine mv ?_;refine qf ?_)))
     refine ⟨(i+1,P,ch),?_,?_,(by repeat (first|exact Ks.le_nil _|refine Ks.qx rfl ?_|refine Ks.qA ?_))⟩
     ·show ns.length - (i+1)<ns.length - i;omega
     ·exact ⟨S,by (try dsimp only);omega,I,fun q i' k' h hk=>p1 q i' k' (by (try dsimp only at h);omega) hk,p2,p3⟩
   ·obtain rfl:i=ns.length:=by omega
    refine ⟨(P,ch),?_,?_,(by repeat (first|exact Ks.le_nil _|refine Ks.qx rfl ?_|refine Ks.qA ?_))⟩
    ·show 2*P.sum+(if ch then 1 else 0)<2*List.sum _+(if true then 1 else 0)
     rw [hs0]
     cases ch
     ·simp;omega
     ·have:=p2 rfl
      simp;omega
    ·exact ⟨S,I,fun q i' k' hi hk=>p1 q i' k' hi hk⟩
end Go.Proofs.Xx
namespace Go.Proofs.Xx
open Go Go.Proofs
set_option linter.unusedSimpArgs false
set_option linter.unusedVariables false
set_option linter.unusedSectionVars false
set_option maxRecDepth 100000
set_option maxHeartbeats 4000000
theorem Hs.qdY {α:Type} {h0 h:AH} {u:Value} {e:TypeId} {z:Nat} {enc:α→List Value} {x:α} {rs:List Rs} (S:Hs h0 h (.sl u e z Xu [enc x] :: rs)):Hs h0 h (.sl u e z enc [x] :: rs):=by
 obtain ⟨fp,k1,k2,k3⟩:=S.sep
 refine ⟨S.ext,fp,?_,k2,k3⟩
 rcases k1 with ⟨q1,q2⟩|⟨b,o,cc,slk,cap,h1,h2,h3,h4,h5⟩
 ·cases q2
 ·exact .inr ⟨b,o,cc,slk,cap,h1,h2,h3,(by simpa [Xu] using h4),h5⟩
theorem qaZ {r:Rl} {mp:QF} {f:List UInt8} {p:Int×List UInt8} (hf:zH mp f=none) (hk:gat r.us f≠none):vZ r ((jS mp f p).map (·.1))<vZ r (mp.map (·.1)):=by
 rw [Ya hf,List.map_append]
 exact PS hk fun q=>yM.2 q hf
variable [Flag]
theorem qaI {h0:AH} (w:WfH h0) {p:Nat} {r:Rl} (B:BkRd h0 p r) (H:RO r):Fn Tryz.prog Xh 41 [.pointer (some ⟨p,0,none⟩)] h0 (fun u h'=>(∃ vr R,u = .tuple #[.slice none 0 0,vr]∧Hs h0 h' [.sl vr 9 1 eS R]∧RingOk r R∧R.length≤200)∨(∃ vi cs,u = .tuple #[vi,.slice none 0 0]∧Hs h0 h' [.sl vi 3 1 eI cs]∧ZX r cs)):=by
 have S:=Hs.start w
 have B0:=B
 obtain ⟨s,B⟩:=B
 have hb:=B.bk
 have h64:=H.l64
 have hrg:=B.rg
 have hgl:=B.len
 refine zg rfl Tryz.func41 rfl rfl ?_
 all_goals (repeat' (first|refine qw ?_|refine qh rfl ?_|refine qi ?_|refine qp ?_|refine qg ?_|refine qj ?_|refine qo ?_|(refine qc 0 ?_;refine mv ?_;refine mv ?_;refine qf ?_)|(refine qc 1 ?_;refine mv ?_)))
 (refine qE rfl rfl rfl rfl rfl ((Q5 S.wf (S.ext.get w hb)).mono ?_);rintro _ h ⟨rfl,x⟩)<;>(replace S:=S.qW x;clear x;refine qf ?_)
 all_goals (repeat' (first|refine qw ?_|refine qh rfl ?_|refine qi ?_|refine qp ?_|refine qg ?_|refine qj ?_|refine qo ?_|(refine qc 2 ?_;refine mv ?_;refine mv ?_;refine qf ?_)))
 (repeat (refine qw ?_));refine qc 3 ?_
 refine mkm (α:=Int×List UInt8) PK S ?_;clear S;intro m h S;(refine mv ?_;refine qf ?_)
 all_goals (repeat' (first|refine qw ?_|refine qh rfl ?_|refine qi ?_|refine qp ?_|refine qg ?_|refine qj ?_|refine qo ?_|(refine qc 4 ?_;refine mv ?_;refine vl ?_;(first|refine vl ?_|refine fB S ?_|refine fS S rfl rfl ?_|refine fA ?_);(first|refine vl ?_|refine fB S ?_|refine fS S rfl rfl ?_|refine fA ?_);(first|refine lB S rfl rfl ?_|refine qy S rfl rfl ?_|refine qU S ?_|refine lH S ?_);(first|refine jA S ?_|refine jZ S rfl rfl ?_);refine mv ?_;refine qf ?_)))
 refine qM (σ:=Nat×QF×(List UInt8→Nat)) (fun (i,mp,dep) h'=>Hs h0 h' [.mp m PK mp]∧i≤r.us.length∧OI r i mp dep) (fun (i,mp,dep)=>r.us.length - i) (fun (i,mp,dep)=>[(0,.pointer (some ⟨p,0,none⟩)),(4,.map (some m)),(25,s.vg.val),(26,.int .i64 s.gs.length),(27,.int .i64 i)]) (0,[],fun _=>0) (by repeat (first|exact Ks.le_nil _|refine Ks.qx rfl ?_|refine Ks.qA ?_)) ?_ ?_
 ·exact ⟨S,Nat.zero_le _,⟨⟨⟨fun x hx=>absurd rfl hx⟩,fun x hx=>absurd rfl hx,fun x hx=>absurd rfl hx,by simp,fun x hx=>absurd rfl hx⟩,fun x hx=>absurd rfl hx,fun j hj=>absurd hj (Nat.not_lt_zero _),fun j hj=>absurd hj (Nat.not_lt_zero _),fun x hx=>absurd rfl hx⟩⟩
 clear S
 rintro ⟨i,mp,dep⟩ h ⟨S,g1,I⟩
 all_goals (repeat' (first|refine qw ?_|refine qh rfl ?_|refine qi ?_|refine qp ?_|refine qj ?_|refine qo ?_|(refine qc 5 ?_;(first|refine cT ?_|refine cF ?_|(refine cS ?_ ?_<;>intro hc))<;>(refine qf ?_))))
 ·have hil:i<s.gs.length:=by omega
  have hg:=B.g hil
  simp only [Int.toNat_natCast] at *
  have hgn:(s.gs.getD i default).name=jJ r i:=by unfold jJ;rw [← hg]
  have hgk:gat r.us (jJ r i)≠none:=Yl.2 ⟨_,qQ (show i<r.us.length by omega),rfl⟩
  (repeat (refine qw ?_));first|refine Xq (σ:=QF×(List UInt8→Nat)) (fun (mp,dep) h'=>Hs h0 h' [.mp m PK mp]∧OI r (i+1) mp dep) (fun (mp,dep)=>[(0,.pointer (some ⟨p,0,none⟩)),(4,.map (some m)),(25,s.vg.val),(26,.int .i64 s.gs.length),(27,.int .i64 i)]) ?_ ?_|refine je (σ:=QF×(List UInt8→Nat)) (fun (mp,dep) h'=>Hs h0 h' [.mp m PK mp]∧OI r (i+1) mp dep) (fun (mp,dep)=>[(0,.pointer (some ⟨p,0,none⟩)),(4,.map (some m)),(25,s.vg.val),(26,.int .i64 s.gs.length),(27,.int .i64 i)]) ?_ ?_
  ·all_goals (repeat' (first|refine qw ?_|refine qh rfl ?_|refine qi ?_|refine qp ?_|refine qg ?_|refine qj ?_|refine qo ?_|(refine qc 6 ?_;(first|refine zK S ?_|refine qC S rfl rfl ?_);(first|refine lB S rfl rfl ?_|refine qy S rfl rfl ?_|refine qU S ?_|refine lH S ?_);(refine al S ?_;clear S;intro b h S);(first|(refine sB S rfl rfl ?_;clear S;intro h S)|(refine zS S rfl rfl ?_;clear S;intro h S));refine qf ?_)|(refine qc 7 ?_;refine mv ?_;(first|refine vl ?_|refine fB S ?_|refine fS S rfl rfl ?_|refine fA ?_);(first|refine lB S rfl rfl ?_|refine qy S rfl rfl ?_|refine qU S ?_|refine lH S ?_))))
   refine lk S (.there .here) (fun y hy=>?_) (fun hy=>?_)
   ·simp only [okV]
    (refine mv ?_;refine vl ?_;refine vl ?_;(refine al S ?_;clear S;intro b h S);(first|(refine sB S rfl rfl ?_;clear S;intro h S)|(refine zS S rfl rfl ?_;clear S;intro h S));refine mv ?_;refine qf ?_)
    all_goals (repeat' (first|refine qw ?_|refine qh rfl ?_|refine qi ?_|refine qp ?_|refine qg ?_|refine qj ?_|refine qo ?_|(refine qc 8 ?_;refine mv ?_;refine qf ?_)))
    rw [Int.toNat_natCast,hgn] at hy
    exact ⟨(mp,dep),⟨S.pick,I.skip (by rw [hy];simp)⟩,((by repeat (first|exact Ks.le_nil _|refine Ks.qx rfl ?_|refine Ks.qA ?_)))⟩
   ·rw [Int.toNat_natCast,hgn] at hy
    simp only [okV]
    (refine mv ?_;refine vl ?_;refine vl ?_;(refine al S ?_;clear S;intro b h S);(first|(refine sB S rfl rfl ?_;clear S;intro h S)|(refine zS S rfl rfl ?_;clear S;intro h S));refine mv ?_;refine qf ?_)
    skip
    all_goals (repeat' (first|refine qw ?_|refine qh rfl ?_|refine qi ?_|refine qp ?_|refine qg ?_|refine qj ?_|refine qo ?_|(refine qc 8 ?_;refine mv ?_;refine qf ?_)|(refine qc 9 ?_;refine mv ?_;(first|refine vl ?_|refine fB S ?_|refine fS S rfl rfl ?_|refine fA ?_);(first|refine lB S rfl rfl ?_|refine qy S rfl rfl ?_|refine qU S ?_|refine lH S ?_);refine vl ?_)))
    simp only [Int.toNat_natCast,hgn]
    refine up (x:=((0:Int),([]:List UInt8))) (key:=jJ r i) S (.there (.there .here)) (.there (.there .here)) (fun h S=>?_) (.inl rfl)
    have I0:=I.root hy hgk
    generalize hO:(fun x=>zH mp x≠none)=O at I0
    (refine qf ?_)
    all_goals (repeat' (first|refine qw ?_|refine qh rfl ?_|refine qi ?_|refine qp ?_|refine qg ?_|refine qj ?_|refine qo ?_|(refine qc 10 ?_;(first|refine vl ?_|refine fB S ?_|refine fS S rfl rfl ?_|refine fA ?_);(first|refine lB S rfl rfl ?_|refine qy S rfl rfl ?_|refine qU S ?_|refine lH S ?_);(refine one 1 S ?_;clear S;intro u h S);refine mv ?_;refine qf ?_)))
    simp only [Int.toNat_natCast,hgn] at S
    have S:=S.qdY (enc:=eS) (x:=jJ r i)
    have S:=(show Hs h0 h [.sl u 9 1 eS [jJ r i],.mp m PK (jS mp (jJ r i) (0,[]))] from S.pick)
    refine qM (σ:=QF×(List UInt8→Nat)×List (List UInt8)×Value) (fun (mp,dep,q,v9) h'=>Hs h0 h' [.sl v9 9 1 eS q,.mp m PK mp]∧SI r i O mp dep q) (fun (mp,dep,q,v9)=>2*vZ r (mp.map (·.1))+q.length) (fun (mp,dep,q,v9)=>[(0,.pointer (some ⟨p,0,none⟩)),(4,.map (some m)),(9,v9),(25,s.vg.val),(26,.int .i64 s.gs.length),(27,.int .i64 i)]) (jS mp (jJ r i) (0,[]),Vo dep (jJ r i) 0,[jJ r i],u) (by repeat (first|exact Ks.le_nil _|refine Ks.qx rfl ?_|refine Ks.qA ?_)) ?_ ?_
    ·exact ⟨S,I0⟩
    clear S I0 hy
    rintro ⟨mp,dep,q,v9⟩ h ⟨S,I⟩
    have hql:=I.ql
    have hml:=I.ci.len H
    all_goals (repeat' (first|refine qw ?_|refine qh rfl ?_|refine qi ?_|refine qp ?_|refine qg ?_|refine qj ?_|refine qo ?_|(refine qc 11 ?_;refine mv ?_;(first|refine jA S ?_|refine jZ S rfl rfl ?_);(first|refine cT ?_|refine cF ?_|(refine cS ?_ ?_<;>intro hc))<;>(refine qf ?_))))
    ·have hq:q≠[]:=fun e=>by rw [e] at hc;simp at hc
     all_goals (repeat' (first|refine qw ?_|refine qh rfl ?_|refine qi ?_|refine qp ?_|refine qg ?_|refine qj ?_|refine qo ?_|(refine qc 13 ?_;refine mv ?_;(first|refine zK S ?_|refine qC S rfl rfl ?_);(first|refine lB S rfl rfl ?_|refine qy S rfl rfl ?_|refine qU S ?_|refine lH S ?_);refine mv ?_;refine qf ?_)|(refine qc 14 ?_;refine mv ?_;refine mv ?_)))
     obtain ⟨n,hn⟩:∃ n,q.getD 0 default=n:=⟨_,rfl⟩
     have hn2:n∈q:=by
      rw [← hn];exact qQ (List.length_pos_iff.2 hq)
     have hnm:=(I.qm n hn2).1
     simp only [Int.toNat_zero,hn]
     (refine qE rfl rfl rfl rfl rfl ((Gj S.wf (B0.ext w S.ext) H n 2).mono ?_);rintro ul h ⟨l,x,l1,l2,l3⟩)<;>(replace S:=S.jT x;clear x;(first|refine jA S ?_|refine jZ S rfl rfl ?_);refine mv ?_;refine qf ?_)
     all_goals (repeat' (first|refine qw ?_|refine qh rfl ?_|refine qi ?_|refine qp ?_|refine qg ?_|refine qj ?_|refine qo ?_|(refine qc 11 ?_;refine mv ?_;(first|refine jA S ?_|refine jZ S rfl rfl ?_);(first|refine cT ?_|refine cF ?_|(refine cS ?_ ?_<;>intro hc))<;>(refine qf ?_))|(refine qc 13 ?_;refine mv ?_;(first|refine zK S ?_|refine qC S rfl rfl ?_);(first|refine lB S rfl rfl ?_|refine qy S rfl rfl ?_|refine qU S ?_|refine lH S ?_);refine mv ?_;refine qf ?_)|(refine qc 14 ?_;refine mv ?_;refine mv ?_)|(refine qc 24 ?_;(first|refine ad ?_|refine vl ?_);refine mv ?_;refine qf ?_)))
     obtain ⟨M,hM⟩:∃ M,2*vZ r (mp.map (·.1))+q.length=M:=⟨_,rfl⟩
     refine qM (σ:=Nat×QF×(List UInt8→Nat)×List (List UInt8)×Value) (fun (j,mp,dep,q,v9) h'=>Hs h0 h' [.sl ul 9 1 eS l,.sl v9 9 1 eS q,.mp m PK mp]∧j≤l.length∧SI r i O mp dep q∧q≠[]∧q.getD 0 default=n∧(∀ k,k<j→zH mp (l.getD k default)≠none∧JK mp (l.getD k default)≠JK mp n)∧2*vZ r (mp.map (·.1))+q.length≤M) (fun (j,mp,dep,q,v9)=>l.length - j) (fun (j,mp,dep,q,v9)=>[(0,.pointer (some ⟨p,0,none⟩)),(4,.map (some m)),(9,v9),(10,str n),(25,s.vg.val),(26,.int .i64 s.gs.length),(27,.int .i64 i),(56,ul),(57,.int .i64 l.length),(58,.int .i64 j)]) (0,mp,dep,q,v9) (by repeat (first|exact Ks.le_nil _|refine Ks.qx rfl ?_|refine Ks.qA ?_)) ?_ ?_
     ·exact ⟨S,Nat.zero_le _,I,hq,hn,fun k hk=>absurd hk (Nat.not_lt_zero _),Nat.le_of_eq hM⟩
     clear S I hq hn hn2 hnm hql
     rintro ⟨j,mp,dep,q,v9⟩ h ⟨S,k1,I,hq,hn,k2,k3⟩
     have hql:=I.ql
     have hml:=I.ci.len H
     have hn2:n∈q:=by
      rw [← hn];exact qQ (List.length_pos_iff.2 hq)
     have hnm:=(I.qm n hn2).1
     all_goals (repeat' (first|refine qw ?_|refine qh rfl ?_|refine qi ?_|refine qp ?_|refine qg ?_|refine qj ?_|refine qo ?_|(refine qc 15 ?_;(first|refine cT ?_|refine cF ?_|(refine cS ?_ ?_<;>intro hc))<;>(refine qf ?_))))
     ·have hjl:j<l.length:=by omega
      have hf:=(l2 _).1 (qQ hjl)
      obtain ⟨f,hfe⟩:∃ f,l.getD j default=f:=⟨_,rfl⟩
      rw [hfe] at hf
      all_goals (repeat' (first|refine qw ?_|refine qh rfl ?_|refine qi ?_|refine qp ?_|refine qg ?_|refine qj ?_|refine qo ?_|(refine qc 16 ?_;(first|refine zK S ?_|refine qC S rfl rfl ?_);(first|refine lB S rfl rfl ?_|refine qy S rfl rfl ?_|refine qU S ?_|refine lH S ?_);refine mv ?_;refine qf ?_)|(refine qc 17 ?_;refine mv ?_;refine mv ?_)))
      simp only [Int.toNat_natCast,hfe]
      refine lk S (.there (.there .here)) (fun y hy=>?_) (fun hy=>?_)
      ·simp only [okV]
       (refine mv ?_;refine vl ?_;refine vl ?_;(refine al S ?_;clear S;intro b h S);(first|(refine sB S rfl rfl ?_;clear S;intro h S)|(refine zS S rfl rfl ?_;clear S;intro h S));refine mv ?_;refine qf ?_)
       all_goals (repeat' (first|refine qw ?_|refine qh rfl ?_|refine qi ?_|refine qp ?_|refine qg ?_|refine qj ?_|refine qo ?_|(refine qc 18 ?_;refine mv ?_;refine vl ?_;refine mv ?_;refine qf ?_)|(refine qc 21 ?_;(first|refine vl ?_|refine fB S ?_|refine fS S rfl rfl ?_|refine fA ?_);(first|refine lB S rfl rfl ?_|refine qy S rfl rfl ?_|refine qU S ?_|refine lH S ?_);refine mv ?_;refine mv ?_)))
       refine lk S (.there (.there (.there .here))) (fun z hz=>?_) (fun hz=>absurd hz hnm)
       simp only [okV]
       (refine vl ?_;(first|refine cT ?_|refine cF ?_|(refine cS ?_ ?_<;>intro hc))<;>(refine mv ?_;refine qf ?_))
       all_goals (repeat' (first|refine qw ?_|refine qh rfl ?_|refine qi ?_|refine qp ?_|refine qg ?_|refine qj ?_|refine qo ?_))
       ·have hcc:JK mp f=JK mp n:=by rw [Jj hy,Jj hz];exact hc
        have hfm:zH mp f≠none:=by rw [hy];simp
        obtain ⟨r1,r2,r3,r4,r5⟩:=I.clash H hq hn hfm hf hcc
        have hMp:MpRd h m PK mp:=by
         obtain ⟨es,clock,m1,m2,-⟩:=yL S (.there (.there (.there .here)))
         exact ⟨es,clock,m1,m2⟩
        all_goals (repeat' (first|refine qw ?_|refine qh rfl ?_|refine qi ?_|refine qp ?_|refine qg ?_|refine qj ?_|refine qo ?_|(refine qc 22 ?_;(iterate 3 refine mv ?_);skip)))
        (refine qE rfl rfl rfl rfl rfl ((qba S.wf hMp I.ci.tree r1 hfm r2 hf r3 r4 r5).mono ?_);rintro vr h ⟨R,x,R1,R2⟩)<;>(replace S:=S.jT x;clear x;refine mv ?_;refine mv ?_;refine qf ?_)
        all_goals (repeat' (first|refine qw ?_|refine qh rfl ?_|refine qi ?_|refine qp ?_|refine qg ?_|refine qj ?_|refine qo ?_))
        refine qI ⟨_,rfl,?_⟩
        exact .inl ⟨vr,R,rfl,S.only .here,R1,R2⟩
       ·have hcc:JK mp f≠JK mp n:=by rw [Jj hy,Jj hz];exact hc
        skip
        all_goals (repeat' (first|refine qw ?_|refine qh rfl ?_|refine qi ?_|refine qp ?_|refine qg ?_|refine qj ?_|refine qo ?_|(refine qc 23 ?_;(first|refine ad ?_|refine vl ?_);refine mv ?_;refine qf ?_)))
        refine ⟨(j+1,mp,dep,q,v9),?_,?_,(by repeat (first|exact Ks.le_nil _|refine Ks.qx rfl ?_|refine Ks.qA ?_))⟩
        ·show l.length - (j+1)<l.length - j;omega
        ·refine ⟨S.pick,by (try dsimp only);omega,I,hq,hn,QZ k2 ?_,k3⟩
         rw [hfe];exact ⟨by rw [hy];simp,hcc⟩
      ·simp only [okV]
       (refine mv ?_;refine vl ?_;refine vl ?_;(refine al S ?_;clear S;intro b h S);(first|(refine sB S rfl rfl ?_;clear S;intro h S)|(refine zS S rfl rfl ?_;clear S;intro h S));refine mv ?_;refine qf ?_)
       skip
       all_goals (repeat' (first|refine qw ?_|refine qh rfl ?_|refine qi ?_|refine qp ?_|refine qg ?_|refine qj ?_|refine qo ?_|(refine qc 18 ?_;refine mv ?_;refine vl ?_;refine mv ?_;refine qf ?_)|(refine qc 19 ?_;(iterate 4 refine mv ?_);skip)))
       refine lk S (.there (.there (.there .here))) (fun z hz=>?_) (fun hz=>absurd hz hnm)
       simp only [okV]
       have ez:JK mp n=z.1:=Jj hz
       have hzb:0≤z.1∧z.1≤1:=by
        have:=I.ci.camp n hnm
        rw [ez] at this;omega
       (refine vl ?_;(first|refine sb ?_|refine vl ?_);refine mv ?_;refine vl ?_)
       have hfk:=(Qp H hf).2.1
       have hu:=qaZ (p:=(1 - z.1,n)) hy hfk
       have I2:=I.add hq hn hy hfk hf
       rw [ez] at I2
       refine up (x:=(1 - z.1,n)) (key:=f) S (.there (.there (.there .here))) (.there (.there (.there .here))) (fun h S=>?_) (.inl rfl)
       (refine qf ?_)
       all_goals (repeat' (first|refine qw ?_|refine qh rfl ?_|refine qi ?_|refine qp ?_|refine qg ?_|refine qj ?_|refine qo ?_|(refine qc 20 ?_;refine mv ?_;refine mv ?_;(refine one 1 S ?_;clear S;intro u h S))))
       refine app (y0:=f) S rfl rfl ?_;clear S;intro v9 h S;(refine mv ?_;refine qf ?_)
       skip
       all_goals (repeat' (first|refine qw ?_|refine qh rfl ?_|refine qi ?_|refine qp ?_|refine qg ?_|refine qj ?_|refine qo ?_|(refine qc 23 ?_;(first|refine ad ?_|refine vl ?_);refine mv ?_;refine qf ?_)))
       have nmf:∀ {w:List UInt8},zH mp w≠none→w≠f:=fun hw e=>by rw [e] at hw;exact hw hy
       refine ⟨(j+1,jS mp f (1 - z.1,n),Vo dep f (dep n+1),q ++ [f],v9),?_,?_,(by repeat (first|exact Ks.le_nil _|refine Ks.qx rfl ?_|refine Ks.qA ?_))⟩
       ·show l.length - (j+1)<l.length - j;omega
       ·have hz1:JK (jS mp f (1 - z.1,n)) n=JK mp n:=by rw [Qb,if_neg (nmf hnm)]
        refine ⟨S.pick,by (try dsimp only);omega,I2,by simp,by rw [YM hq];exact hn,QZ (fun k hk=>?_) ?_,?_⟩
        ·obtain ⟨g1,g2⟩:=k2 k hk
         rw [hz1,Qb,if_neg (nmf g1)]
         exact ⟨(zX _).2 (.inr g1),g2⟩
        ·rw [hfe,hz1,Qb,if_pos rfl,ez]
         refine ⟨(zX _).2 (.inl rfl),?_⟩
         show 1 - z.1≠z.1
         omega
        ·show 2*vZ r ((jS mp f (1 - z.1,n)).map (·.1))+(q ++ [f]).length≤M
         rw [List.length_append,List.length_singleton];omega
     ·obtain rfl:j=l.length:=by omega
      obtain ⟨n0,q',rfl⟩:∃ n0 q',q=n0 :: q':=by
       cases q with
       | nil=>exact absurd rfl hq
       | cons a b=>exact ⟨a,b,rfl⟩
      have en:n0=n:=hn
      subst en
      have I2:=I.pop fun z hz=>by
       obtain ⟨k,k1,k2'⟩:=qR.1 ((l2 z).2 hz)
       have:=k2 k k1
       rw [k2'] at this;exact this
      skip
      all_goals (repeat' (first|refine qw ?_|refine qh rfl ?_|refine qi ?_|refine qp ?_|refine qg ?_|refine qj ?_|refine qo ?_|(refine qc 12 ?_;refine mv ?_;(refine dr S rfl rfl ?_;clear S;intro vq S);refine mv ?_;refine qf ?_)))
      refine ⟨(mp,dep,q',vq),?_,?_,(by repeat (first|exact Ks.le_nil _|refine Ks.qx rfl ?_|refine Ks.qA ?_))⟩
      ·(try dsimp only)
       rw [hM];simp at k3;omega
      ·exact ⟨(show Hs h0 h [.sl vq 9 1 eS q',.mp m PK mp] from S.tail),I2⟩
    ·have hq:q=[]:=by cases q with|nil=>rfl|cons a b=>simp at hc
     subst hq
     exact ⟨(mp,dep),⟨S.only (.there .here),I.fin⟩,((by repeat (first|exact Ks.le_nil _|refine Ks.qx rfl ?_|refine Ks.qA ?_)))⟩
  ·clear S
   rintro ⟨mp2,dep2⟩ h ⟨S,I2⟩
   skip
   all_goals (repeat' (first|refine qw ?_|refine qh rfl ?_|refine qi ?_|refine qp ?_|refine qg ?_|refine qj ?_|refine qo ?_|(refine qc 24 ?_;(first|refine ad ?_|refine vl ?_);refine mv ?_;refine qf ?_)))
   refine ⟨(i+1,mp2,dep2),?_,?_,(by repeat (first|exact Ks.le_nil _|refine Ks.qx rfl ?_|refine Ks.qA ?_))⟩
   ·show r.us.length - (i+1)<r.us.length - i;omega
   ·exact ⟨S,by (try dsimp only);omega,I2⟩
 ·obtain rfl:i=r.us.length:=by omega
  have CO:=I.qbU
  skip
  all_goals (repeat' (first|refine qw ?_|refine qh rfl ?_|refine qi ?_|refine qp ?_|refine qg ?_|refine qj ?_|refine qo ?_|(refine qc 25 ?_;refine mv ?_;refine qf ?_)))
  have S:=S.Zv (e:=3) (z:=1) (enc:=eI)
  have S:=(show Hs h0 h [.sl (.slice none 0 0) 3 1 eI ((List.range 0).map fun i=>JK mp (jJ r i)),.mp m PK mp] from S)
  all_goals (repeat' (first|refine qw ?_|refine qh rfl ?_|refine qi ?_|refine qp ?_|refine qg ?_|refine qj ?_|refine qo ?_|(refine qc 26 ?_;refine mv ?_;refine vl ?_;(first|refine vl ?_|refine fB S ?_|refine fS S rfl rfl ?_|refine fA ?_);(first|refine vl ?_|refine fB S ?_|refine fS S rfl rfl ?_|refine fA ?_);(first|refine lB S rfl rfl ?_|refine qy S rfl rfl ?_|refine qU S ?_|refine lH S ?_);(first|refine jA S ?_|refine jZ S rfl rfl ?_);refine mv ?_;refine qf ?_)))
  refine qM (σ:=Nat×Value) (fun (j,v15) h'=>Hs h0 h' [.sl v15 3 1 eI ((List.range j).map fun i=>JK mp (jJ r i)),.mp m PK mp]∧j≤r.us.length) (fun (j,v15)=>r.us.length - j) (fun (j,v15)=>[(4,.map (some m)),(15,v15),(102,s.vg.val),(103,.int .i64 s.gs.length),(104,.int .i64 j)]) (0,.slice none 0 0) (by repeat (first|exact Ks.le_nil _|refine Ks.qx rfl ?_|refine Ks.qA ?_)) ?_ ?_
  ·exact ⟨S,Nat.zero_le _⟩
  clear S
  rintro ⟨j,v15⟩ h ⟨S,g2⟩
  have hjl2:((List.range j).map fun i=>JK mp (jJ r i)).length=j:=by simp
  all_goals (repeat' (first|refine qw ?_|refine qh rfl ?_|refine qi ?_|refine qp ?_|refine qg ?_|refine qj ?_|refine qo ?_|(refine qc 27 ?_;(first|refine cT ?_|refine cF ?_|(refine cS ?_ ?_<;>intro hc))<;>(refine qf ?_))))
  ·have hil:j<s.gs.length:=by omega
   have hg:=B.g hil
   have hgn:(s.gs.getD j default).name=jJ r j:=by unfold jJ;rw [← hg]
   have hme:=I.gm j (by omega)
   all_goals (repeat' (first|refine qw ?_|refine qh rfl ?_|refine qi ?_|refine qp ?_|refine qg ?_|refine qj ?_|refine qo ?_|(refine qc 28 ?_;(first|refine zK S ?_|refine qC S rfl rfl ?_);(first|refine lB S rfl rfl ?_|refine qy S rfl rfl ?_|refine qU S ?_|refine lH S ?_);(refine al S ?_;clear S;intro b h S);(first|(refine sB S rfl rfl ?_;clear S;intro h S)|(refine zS S rfl rfl ?_;clear S;intro h S));refine qf ?_)|(refine qc 29 ?_;refine mv ?_;refine mv ?_;(first|refine vl ?_|refine fB S ?_|refine fS S rfl rfl ?_|refine fA ?_);(first|refine lB S rfl rfl ?_|refine qy S rfl rfl ?_|refine qU S ?_|refine lH S ?_))))
   simp only [Int.toNat_natCast,hgn]
   refine lk S (.there (.there .here)) (fun y hy=>?_) (fun hy=>absurd hy hme)
   simp only [okV]
   (refine vl ?_;(refine one 1 S ?_;clear S;intro u h S))
   refine app (y0:=y.1) S rfl rfl ?_;clear S;intro v15 h S;(refine mv ?_;refine qf ?_)
   skip
   all_goals (repeat' (first|refine qw ?_|refine qh rfl ?_|refine qi ?_|refine qp ?_|refine qg ?_|refine qj ?_|refine qo ?_|(refine qc 30 ?_;(first|refine ad ?_|refine vl ?_);refine mv ?_;refine qf ?_)))
   refine ⟨(j+1,v15),?_,?_,(by repeat (first|exact Ks.le_nil _|refine Ks.qx rfl ?_|refine Ks.qA ?_))⟩
   ·show r.us.length - (j+1)<r.us.length - j;omega
   ·have e1:(List.range (j+1)).map (fun i=>JK mp (jJ r i))=(List.range j).map (fun i=>JK mp (jJ r i)) ++ [y.1]:=by
     rw [List.range_succ,List.map_append,List.map_cons,Jj hy];rfl
    refine ⟨?_,by (try dsimp only);omega⟩
    dsimp only
    rw [e1]
    exact S.pick
  ·obtain rfl:j=r.us.length:=by omega
   skip
   all_goals (repeat' (first|refine qw ?_|refine qh rfl ?_|refine qi ?_|refine qp ?_|refine qg ?_|refine qj ?_|refine qo ?_|(refine qc 31 ?_;(iterate 3 refine mv ?_);refine qf ?_)))
   refine qI ⟨_,rfl,?_⟩
   exact .inr ⟨v15,_,rfl,S.only .here,CO⟩
end Go.Proofs.Xx
namespace Go.Proofs.Xx
open Go Go.Proofs
set_option linter.unusedSimpArgs false
set_option linter.unusedVariables false
set_option linter.unusedSectionVars false
set_option maxRecDepth 100000
set_option maxHeartbeats 4000000
theorem CirOk.wl {r:Rl} (H:RO r) {cs:List Wd} (C:CirOk r cs) {w:Wd} (hw:w∈cs):w.ws.length≤64:=by
 obtain ⟨w1,w2,w3⟩:=C.ss w hw
 have:=Qm w1.nodup (m:=r.us.map (·.name)) fun x hx=>by
  obtain ⟨k,rc⟩:=(w3 x).1 hx
  exact Jf (rc.known H k)
 rw [List.length_map] at this
 have:=H.l64
 omega
variable [Flag]
theorem Va {h0:AH} (w:WfH h0) (v u:Value) (l m:List Int) (rv:Qd h0 v 1 eI l) (ru:Qd h0 u 1 eI m) (hl:l.length≤9223372036854775807) (hm:m.length≤9223372036854775807):Fn Tryz.prog Xh 61 [v,u] h0 (fun x h'=>Zd x (l=m)∧Hs h0 h' []):=by
 have S:=Hs.start w
 refine zg rfl Tryz.func61 rfl rfl ?_
 all_goals (repeat' (first|refine qw ?_|refine qh rfl ?_|refine qi ?_|refine qp ?_|refine qg ?_|refine qj ?_|refine qo ?_|(refine qc 0 ?_;refine mv ?_;refine qf ?_)|(refine qc 1 ?_;refine mv ?_;(first|refine jA S ?_|refine jZ S rfl rfl ?_);refine mv ?_;(first|refine jA S ?_|refine jZ S rfl rfl ?_);(first|refine cT ?_|refine cF ?_|(refine cS ?_ ?_<;>intro hc))<;>(refine qf ?_))|(refine qc 2 ?_;refine mv ?_;refine qf ?_)|(refine qc 3 ?_;refine mv ?_;refine qf ?_)))
 ·refine qI ⟨_,rfl,?_⟩
  exact ⟨.inr ⟨rfl,fun q=>by subst q;omega⟩,S⟩
 ·refine qM (σ:=Nat) (fun i h'=>Hs h0 h' []∧i≤l.length∧∀ j,j<i→l.getD j default=m.getD j default) (fun i=>l.length - i) (fun i=>[(0,v),(1,u),(5,.int .i64 i)]) 0 (by repeat (first|exact Ks.le_nil _|refine Ks.qx rfl ?_|refine Ks.qA ?_)) ?_ ?_
  ·exact ⟨S,Nat.zero_le _,fun j hj=>absurd hj (Nat.not_lt_zero _)⟩
  clear S
  rintro i h ⟨S,g1,g2⟩
  all_goals (repeat' (first|refine qw ?_|refine qh rfl ?_|refine qi ?_|refine qp ?_|refine qg ?_|refine qj ?_|refine qo ?_|(refine qc 4 ?_;refine mv ?_;refine mv ?_;(first|refine jA S ?_|refine jZ S rfl rfl ?_);(first|refine cT ?_|refine cF ?_|(refine cS ?_ ?_<;>intro hc))<;>(refine qf ?_))|(refine qc 5 ?_;refine mv ?_;(first|refine ad ?_|refine vl ?_);refine mv ?_;refine qf ?_)|(refine qL 6 ?_;refine mv ?_;refine mv ?_;(first|refine zK S ?_|refine qC S rfl rfl ?_);(first|refine lB S rfl rfl ?_|refine qy S rfl rfl ?_|refine qU S ?_|refine lH S ?_);refine mv ?_;refine mv ?_;(first|refine zK S ?_|refine qC S rfl rfl ?_);(first|refine lB S rfl rfl ?_|refine qy S rfl rfl ?_|refine qU S ?_|refine lH S ?_);(first|refine cT ?_|refine cF ?_|(refine cS ?_ ?_<;>intro hc))<;>(refine qf ?_))|(refine qc 7 ?_;refine mv ?_;refine qf ?_)|(refine qc 8 ?_;refine mv ?_;refine qf ?_)))
  all_goals (try simp only [Int.toNat_natCast] at *)
  ·refine qI ⟨_,rfl,?_⟩
   exact ⟨.inr ⟨rfl,fun q=>by subst q;exact hc rfl⟩,S⟩
  ·refine ⟨i+1,?_,?_,(by repeat (first|exact Ks.le_nil _|refine Ks.qx rfl ?_|refine Ks.qA ?_))⟩
   ·show l.length - (i+1)<l.length - i;omega
   ·exact ⟨S,by omega,QZ g2 (by omega)⟩
  ·refine qI ⟨_,rfl,?_⟩
   exact ⟨.inl ⟨rfl,QX (by omega) fun j hj=>g2 j (by omega)⟩,S⟩
theorem qaX {h0:AH} (w:WfH h0) {p:Nat} {r:Rl} (B:BkRd h0 p r) (v:RlV) (HR:RlOk h0 v r) (H:RO r):Fn Tryz.prog Xh 46 [.pointer (some ⟨p,0,none⟩),v.val] h0 (fun u h'=>u = .bool true∧Hs h0 h' []):=by
 have S:=Hs.start w
 have h64:=H.l64
 unfold RlV.val
 refine zg rfl Tryz.func46 rfl rfl ?_
 all_goals (repeat' (first|refine qw ?_|refine qh rfl ?_|refine qi ?_|refine qp ?_|refine qg ?_|refine qj ?_|refine qo ?_|(refine qc 0 ?_;(refine bx S ?_;clear S;intro b h S);refine mv ?_;refine qf ?_)))
 obtain ⟨b3,hnm⟩:∃ x,x=b:=⟨_,rfl⟩;subst hnm
 replace S:Hs h0 h (.blk b3 [v.vg.val,v.vt.val] 32 :: []):=S
 all_goals (repeat' (first|refine qw ?_|refine qh rfl ?_|refine qi ?_|refine qp ?_|refine qg ?_|refine qj ?_|refine qo ?_|(refine qc 1 ?_;refine mv ?_)))
 (refine qE rfl rfl rfl rfl rfl ((KH S.wf (B.ext w S.ext) H).mono ?_);rintro u1 h ⟨cs,x,c1,c2,c3⟩)<;>(replace S:=S.qao x;clear x;refine mv ?_;refine qf ?_)
 all_goals (repeat' (first|refine qw ?_|refine qh rfl ?_|refine qi ?_|refine qp ?_|refine qg ?_|refine qj ?_|refine qo ?_|(refine qc 1 ?_;refine mv ?_)|(refine qc 2 ?_;(first|refine lB S rfl rfl ?_|refine qy S rfl rfl ?_|refine qU S ?_|refine lH S ?_))))
 (refine qE rfl rfl rfl rfl rfl ((wI S.wf v r (HR.ext w S.ext) H).mono ?_);rintro u2 h ⟨ds,x,d1,d2,d3⟩)<;>(replace S:=S.qao x;clear x;refine mv ?_;refine qf ?_)
 have e:=c1.uniq d1 c2 d2
 have hcd:cs.length=ds.length:=by have:=congrArg List.length e;simpa using this
 have hei:∀ i,i<cs.length→(cs.getD i default).ws=(ds.getD i default).ws:=fun i hi=>by
  have:=congrArg (fun l=>l.getD i default) e
  (try simp only at this)
  rwa [zq (f:=fun w:Wd=>w.ws) hi,zq (f:=fun w:Wd=>w.ws) (show i<ds.length by omega)] at this
 all_goals (repeat' (first|refine qw ?_|refine qh rfl ?_|refine qi ?_|refine qp ?_|refine qg ?_|refine qj ?_|refine qo ?_|(refine qc 2 ?_;(first|refine lB S rfl rfl ?_|refine qy S rfl rfl ?_|refine qU S ?_|refine lH S ?_))|(refine qc 3 ?_;refine mv ?_;(first|refine jA S ?_|refine jZ S rfl rfl ?_);refine mv ?_;(first|refine jA S ?_|refine jZ S rfl rfl ?_);(first|refine cT ?_|refine cF ?_|(refine cS ?_ ?_<;>intro hc))<;>(refine qf ?_))|(refine qc 5 ?_;refine mv ?_;refine qf ?_)))
 refine qM (σ:=Nat) (fun i h'=>Hs h0 h' [.sl u2 22 1 xZ ds,W9 ds,.sl u1 22 1 xZ cs,W9 cs,.blk b3 [v.vg.val,v.vt.val] 32]∧i≤cs.length) (fun i=>cs.length - i) (fun i=>[(0,.pointer (some ⟨p,0,none⟩)),(3,.pointer (some ⟨b3,0,none⟩)),(5,u1),(6,u2),(7,.int .i64 i)]) 0 (by repeat (first|exact Ks.le_nil _|refine Ks.qx rfl ?_|refine Ks.qA ?_)) ?_ ?_
 ·exact ⟨S,Nat.zero_le _⟩
 clear S
 rintro i h ⟨S,g1⟩
 all_goals (repeat' (first|refine qw ?_|refine qh rfl ?_|refine qi ?_|refine qp ?_|refine qg ?_|refine qj ?_|refine qo ?_|(refine qc 6 ?_;refine mv ?_;refine mv ?_;(first|refine jA S ?_|refine jZ S rfl rfl ?_);(first|refine cT ?_|refine cF ?_|(refine cS ?_ ?_<;>intro hc))<;>(refine qf ?_))))
 ·have hil:i<cs.length:=by omega
  obtain ⟨f1,hw1⟩:=Hs.qbw (p:=WdsOk ds) S (.there .here)
  obtain ⟨f2,hw2⟩:=Hs.qbw (p:=WdsOk cs) S (.there (.there (.there .here)))
  have l1:=c1.wl H (qQ hil)
  have l2:=d1.wl H (qQ (show i<ds.length by omega))
  all_goals (repeat' (first|refine qw ?_|refine qh rfl ?_|refine qi ?_|refine qp ?_|refine qg ?_|refine qj ?_|refine qo ?_|(refine qL 8 ?_;refine mv ?_;refine mv ?_;(first|refine zK S ?_|refine qC S rfl rfl ?_);(first|refine lB S rfl rfl ?_|refine qy S rfl rfl ?_|refine qU S ?_|refine lH S ?_);refine mv ?_;refine mv ?_;(first|refine zK S ?_|refine qC S rfl rfl ?_);(first|refine lB S rfl rfl ?_|refine qy S rfl rfl ?_|refine qU S ?_|refine lH S ?_))))
  simp only [Int.toNat_natCast]
  (refine qE rfl rfl rfl rfl rfl ((X6 S.wf (cs.getD i default).sv.val (ds.getD i default).sv.val (cs.getD i default).ws (ds.getD i default).ws (hw2.rd hil) (hw1.rd (by omega)) (Nat.le_trans l1 (by decide)) (Nat.le_trans l2 (by decide))).mono ?_);rintro _ h ⟨⟨rfl,z⟩|⟨rfl,z⟩,x⟩)<;>(replace S:=S.qW x;clear x;refine vl ?_;refine qf ?_)
  ·skip
   all_goals (repeat' (first|refine qw ?_|refine qh rfl ?_|refine qi ?_|refine qp ?_|refine qg ?_|refine qj ?_|refine qo ?_|(refine qc 7 ?_;refine mv ?_;(first|refine ad ?_|refine vl ?_);refine mv ?_;refine qf ?_)|(refine qL 8 ?_;refine mv ?_;refine mv ?_;(first|refine zK S ?_|refine qC S rfl rfl ?_);(first|refine lB S rfl rfl ?_|refine qy S rfl rfl ?_|refine qU S ?_|refine lH S ?_);refine mv ?_;refine mv ?_;(first|refine zK S ?_|refine qC S rfl rfl ?_);(first|refine lB S rfl rfl ?_|refine qy S rfl rfl ?_|refine qU S ?_|refine lH S ?_))))
   refine ⟨i+1,?_,?_,(by repeat (first|exact Ks.le_nil _|refine Ks.qx rfl ?_|refine Ks.qA ?_))⟩
   ·show cs.length - (i+1)<cs.length - i;omega
   ·exact ⟨S,by omega⟩
  ·exact absurd (hei i hil) z
 ·have S:=S.only (.there (.there (.there (.there .here))))
  skip
  all_goals (repeat' (first|refine qw ?_|refine qh rfl ?_|refine qi ?_|refine qp ?_|refine qg ?_|refine qj ?_|refine qo ?_|(refine qc 10 ?_;refine mv ?_)))
  (refine qE rfl rfl rfl rfl rfl ((qaw S.wf (B.ext w S.ext) H).mono ?_);rintro u8 h ⟨es,x,e1,e2⟩)<;>(replace S:=S.jT x;clear x;refine mv ?_;refine qf ?_)
  all_goals (repeat' (first|refine qw ?_|refine qh rfl ?_|refine qi ?_|refine qp ?_|refine qg ?_|refine qj ?_|refine qo ?_|(refine qc 10 ?_;refine mv ?_)|(refine qc 11 ?_;(first|refine lB S rfl rfl ?_|refine qy S rfl rfl ?_|refine qU S ?_|refine lH S ?_))))
  (refine qE rfl rfl rfl rfl rfl ((pM S.wf v r (HR.ext w S.ext) H).mono ?_);rintro u9 h ⟨fs,x,f1,f2⟩)<;>(replace S:=S.jT x;clear x;refine mv ?_;refine qf ?_)
  obtain rfl:=e1.uniq f1
  all_goals (repeat' (first|refine qw ?_|refine qh rfl ?_|refine qi ?_|refine qp ?_|refine qg ?_|refine qj ?_|refine qo ?_|(refine qc 11 ?_;(first|refine lB S rfl rfl ?_|refine qy S rfl rfl ?_|refine qU S ?_|refine lH S ?_))|(refine qc 12 ?_;refine mv ?_;(first|refine jA S ?_|refine jZ S rfl rfl ?_);refine mv ?_;(first|refine jA S ?_|refine jZ S rfl rfl ?_);(first|refine cT ?_|refine cF ?_|(refine cS ?_ ?_<;>intro hc))<;>(refine qf ?_))|(refine qc 14 ?_;refine mv ?_;refine qf ?_)))
  refine qM (σ:=Nat) (fun i h'=>Hs h0 h' [.sl u9 149 2 jL es,.sl u8 147 2 jL es,.blk b3 [v.vg.val,v.vt.val] 32]∧i≤es.length) (fun i=>es.length - i) (fun i=>[(0,.pointer (some ⟨p,0,none⟩)),(3,.pointer (some ⟨b3,0,none⟩)),(8,u8),(9,u9),(10,.int .i64 i)]) 0 (by repeat (first|exact Ks.le_nil _|refine Ks.qx rfl ?_|refine Ks.qA ?_)) ?_ ?_
  ·exact ⟨S,Nat.zero_le _⟩
  clear S
  rintro i h ⟨S,g2⟩
  all_goals (repeat' (first|refine qw ?_|refine qh rfl ?_|refine qi ?_|refine qp ?_|refine qg ?_|refine qj ?_|refine qo ?_|(refine qc 15 ?_;refine mv ?_;refine mv ?_;(first|refine jA S ?_|refine jZ S rfl rfl ?_);(first|refine cT ?_|refine cF ?_|(refine cS ?_ ?_<;>intro hc))<;>(refine qf ?_))))
  ·have hil:i<es.length:=by omega
   all_goals (repeat' (first|refine qw ?_|refine qh rfl ?_|refine qi ?_|refine qp ?_|refine qg ?_|refine qj ?_|refine qo ?_|(refine qL 17 ?_;refine mv ?_;refine mv ?_;(first|refine zK S ?_|refine qC S rfl rfl ?_);(first|refine vl ?_|refine fB S ?_|refine fS S rfl rfl ?_|refine fA ?_);(first|refine lB S rfl rfl ?_|refine qy S rfl rfl ?_|refine qU S ?_|refine lH S ?_);refine mv ?_;refine mv ?_;(first|refine zK S ?_|refine qC S rfl rfl ?_);(first|refine vl ?_|refine fB S ?_|refine fS S rfl rfl ?_|refine fA ?_);(first|refine lB S rfl rfl ?_|refine qy S rfl rfl ?_|refine qU S ?_|refine lH S ?_);(refine tS ?_ ?_<;>intro hc)<;>(refine mv ?_;(first|refine off ?_|refine mv ?_);(first|refine off ?_|refine mv ?_);(first|refine off ?_|(first|refine zK S ?_|refine qC S rfl rfl ?_));(first|refine off ?_|(first|refine vl ?_|refine fB S ?_|refine fS S rfl rfl ?_|refine fA ?_));(first|refine off ?_|(first|refine lB S rfl rfl ?_|refine qy S rfl rfl ?_|refine qU S ?_|refine lH S ?_));(first|refine off ?_|refine mv ?_);(first|refine off ?_|refine mv ?_);(first|refine off ?_|(first|refine zK S ?_|refine qC S rfl rfl ?_));(first|refine off ?_|(first|refine vl ?_|refine fB S ?_|refine fS S rfl rfl ?_|refine fA ?_));(first|refine off ?_|(first|refine lB S rfl rfl ?_|refine qy S rfl rfl ?_|refine qU S ?_|refine lH S ?_));(first|refine off ?_|(first|refine cT ?_|refine cF ?_|(refine cS ?_ ?_<;>intro hc)))<;>(refine vl ?_;refine qf ?_)))))
   ·skip
    all_goals (repeat' (first|refine qw ?_|refine qh rfl ?_|refine qi ?_|refine qp ?_|refine qg ?_|refine qj ?_|refine qo ?_|(refine qc 16 ?_;refine mv ?_;(first|refine ad ?_|refine vl ?_);refine mv ?_;refine qf ?_)|(refine qL 17 ?_;refine mv ?_;refine mv ?_;(first|refine zK S ?_|refine qC S rfl rfl ?_);(first|refine vl ?_|refine fB S ?_|refine fS S rfl rfl ?_|refine fA ?_);(first|refine lB S rfl rfl ?_|refine qy S rfl rfl ?_|refine qU S ?_|refine lH S ?_);refine mv ?_;refine mv ?_;(first|refine zK S ?_|refine qC S rfl rfl ?_);(first|refine vl ?_|refine fB S ?_|refine fS S rfl rfl ?_|refine fA ?_);(first|refine lB S rfl rfl ?_|refine qy S rfl rfl ?_|refine qU S ?_|refine lH S ?_);(refine tS ?_ ?_<;>intro hc)<;>(refine mv ?_;(first|refine off ?_|refine mv ?_);(first|refine off ?_|refine mv ?_);(first|refine off ?_|(first|refine zK S ?_|refine qC S rfl rfl ?_));(first|refine off ?_|(first|refine vl ?_|refine fB S ?_|refine fS S rfl rfl ?_|refine fA ?_));(first|refine off ?_|(first|refine lB S rfl rfl ?_|refine qy S rfl rfl ?_|refine qU S ?_|refine lH S ?_));(first|refine off ?_|refine mv ?_);(first|refine off ?_|refine mv ?_);(first|refine off ?_|(first|refine zK S ?_|refine qC S rfl rfl ?_));(first|refine off ?_|(first|refine vl ?_|refine fB S ?_|refine fS S rfl rfl ?_|refine fA ?_));(first|refine off ?_|(first|refine lB S rfl rfl ?_|refine qy S rfl rfl ?_|refine qU S ?_|refine lH S ?_));(first|refine off ?_|(first|refine cT ?_|refine cF ?_|(refine cS ?_ ?_<;>intro hc)))<;>(refine vl ?_;refine qf ?_)))))
    refine ⟨i+1,?_,?_,(by repeat (first|exact Ks.le_nil _|refine Ks.qx rfl ?_|refine Ks.qA ?_))⟩
    ·show es.length - (i+1)<es.length - i;omega
    ·exact ⟨S,by omega⟩
   all_goals exact absurd rfl (by assumption)
  ·have S:=S.only (.there (.there .here))
   have hnil:=(Rd.none_ h0 1:Qd h0 (.slice none 0 0) 1 eI [])
   have hnilS:=(Rd.none_ h0 1:Qd h0 (.slice none 0 0) 1 eS [])
   skip
   all_goals (repeat' (first|refine qw ?_|refine qh rfl ?_|refine qi ?_|refine qp ?_|refine qg ?_|refine qj ?_|refine qo ?_|(refine qc 19 ?_;refine mv ?_)))
   (refine qE rfl rfl rfl rfl rfl ((qaI S.wf (B.ext w S.ext) H).mono ?_);rintro _ h (⟨vr,R,rfl,x,RG,hl⟩|⟨vi,ps,rfl,x,C⟩))<;>(replace S:=S.jT x;clear x;refine mv ?_;refine vl ?_;refine vl ?_;refine mv ?_;refine mv ?_;refine qf ?_)
   all_goals (all_goals (repeat' (first|refine qw ?_|refine qh rfl ?_|refine qi ?_|refine qp ?_|refine qg ?_|refine qj ?_|refine qo ?_|(refine qc 19 ?_;refine mv ?_)|(refine qc 20 ?_;(first|refine lB S rfl rfl ?_|refine qy S rfl rfl ?_|refine qU S ?_|refine lH S ?_)))))
   ·(refine qE rfl rfl rfl rfl rfl ((xJ S.wf v r (HR.ext w S.ext) H).mono ?_);rintro _ h (⟨vj,bs,rfl,x,C2,C3⟩|⟨rfl,hno,x⟩))<;>((first|replace S:=S.jT x|replace S:=S.qW x);clear x;refine mv ?_;refine vl ?_;refine vl ?_;refine mv ?_;refine mv ?_;refine qf ?_)
    ·exact absurd C2 (RG.no H bs)
    ·have h3:=RG.three
     skip
     all_goals (repeat' (first|refine qw ?_|refine qh rfl ?_|refine qi ?_|refine qp ?_|refine qg ?_|refine qj ?_|refine qo ?_|(refine qc 20 ?_;(first|refine lB S rfl rfl ?_|refine qy S rfl rfl ?_|refine qU S ?_|refine lH S ?_))|(refine qc 21 ?_;refine mv ?_;refine mv ?_)))
     (refine qE rfl rfl rfl rfl rfl ((Va S.wf (.slice none 0 0) (.slice none 0 0) [] [] (Rd.none_ h 1) (Rd.none_ h 1) (by decide) (by decide)).mono ?_);rintro _ h ⟨⟨rfl,z⟩|⟨rfl,z⟩,x⟩)<;>(replace S:=S.qW x;clear x;refine mv ?_;(first|refine off ?_|refine mv ?_);(first|refine off ?_|refine mv ?_);(first|refine off ?_|(first|refine jA S ?_|refine jZ S rfl rfl ?_));(first|refine off ?_|(first|refine cT ?_|refine cF ?_|(refine cS ?_ ?_<;>intro hc)))<;>((first|refine off ?_|(first|refine bT ?_|refine vl ?_));refine vl ?_;refine mv ?_;refine qf ?_))
     ·skip
      all_goals (repeat' (first|refine qw ?_|refine qh rfl ?_|refine qi ?_|refine qp ?_|refine qg ?_|refine qj ?_|refine qo ?_|(refine qc 21 ?_;refine mv ?_;refine mv ?_)))
      refine qI ⟨_,rfl,?_⟩
      exact ⟨rfl,S.drop⟩
     ·exact absurd rfl z
   ·(refine qE rfl rfl rfl rfl rfl ((xJ S.wf v r (HR.ext w S.ext) H).mono ?_);rintro _ h (⟨vj,bs,rfl,x,C2,C3⟩|⟨rfl,hno,x⟩))<;>((first|replace S:=S.jT x|replace S:=S.qW x);clear x;refine mv ?_;refine vl ?_;refine vl ?_;refine mv ?_;refine mv ?_;refine qf ?_)
    ·obtain rfl:=C3 ps C
     skip
     all_goals (repeat' (first|refine qw ?_|refine qh rfl ?_|refine qi ?_|refine qp ?_|refine qg ?_|refine qj ?_|refine qo ?_|(refine qc 20 ?_;(first|refine lB S rfl rfl ?_|refine qy S rfl rfl ?_|refine qU S ?_|refine lH S ?_))|(refine qc 21 ?_;refine mv ?_;refine mv ?_)))
     have hpl:ps.length≤9223372036854775807:=by rw [C.len];omega
     (refine qE rfl rfl rfl rfl rfl ((Va S.wf vi vj ps ps (Rd.Jb S (.there .here)) (Rd.Jb S .here) hpl hpl).mono ?_);rintro _ h ⟨⟨rfl,z⟩|⟨rfl,z⟩,x⟩)<;>(replace S:=S.qW x;clear x;refine mv ?_;(first|refine off ?_|refine mv ?_);(first|refine off ?_|refine mv ?_);(first|refine off ?_|(first|refine jA S ?_|refine jZ S rfl rfl ?_));(first|refine off ?_|(first|refine cT ?_|refine cF ?_|(refine cS ?_ ?_<;>intro hc)))<;>((first|refine off ?_|(first|refine bT ?_|refine vl ?_));refine vl ?_;refine mv ?_;refine qf ?_))
     ·skip
      all_goals (repeat' (first|refine qw ?_|refine qh rfl ?_|refine qi ?_|refine qp ?_|refine qg ?_|refine qj ?_|refine qo ?_|(refine qc 21 ?_;refine mv ?_;refine mv ?_)))
      refine qI ⟨_,rfl,?_⟩
      exact ⟨rfl,S.drop⟩
     ·exact absurd rfl z
    ·exact absurd C (hno ps)
end Go.Proofs.Xx
