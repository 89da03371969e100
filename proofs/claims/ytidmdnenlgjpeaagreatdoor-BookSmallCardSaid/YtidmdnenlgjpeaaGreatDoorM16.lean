/-
  The reference's circles.
-/
import Derived.Test.YtidmdnenlgjpeaaGreatDoorM15
import Derived.Test.YtidmdnenlgjpeaaGreatDoorM12
import Derived.Test.YtidmdnenlgjpeaaGreatDoorM13
set_option linter.unusedSimpArgs false
set_option linter.unusedVariables false
set_option linter.unusedSectionVars false
set_option maxRecDepth 100000
set_option maxHeartbeats 4000000
namespace Go.Proofs.Xx
open Go Go.Proofs
variable [Flag]
theorem kP {h0:AH} (w:WfH h0) (v:RlV) (r:Rl) (HR:RlOk h0 v r) (H:RO r):Fn Tryz.prog Xh 100 [v.val] h0 (fun u h'=>∃ cs,Hs h0 h' [.sl u 22 1 vZ cs,yS cs]∧CirOk r cs∧(∀ x,gat r.us x≠none→∃ w∈cs,x∈w.ws)∧cs.length≤64):=by
 have S:=Hs.start w;have h64:=H.l64;unfold RlV.val;refine qV rfl Tryz.func100 rfl rfl ?_;all_goals (repeat' (first|refine qi ?_|(refine qc 0 ?_;(refine bx S ?_;clear S;intro b h S);refine mv ?_;refine qf ?_)))
 obtain ⟨b1,hnm⟩:∃ x,x=b:=⟨_,rfl⟩;subst hnm;replace S:Hs h0 h (.blk b1 [v.vg.val,v.vt.val] 32 :: []):=S;all_goals (repeat' (first|(refine qc 1 ?_;refine lB S rfl rfl ?_)))
 (refine qx rfl rfl rfl rfl rfl ((qab S.wf v r (HR.ext w S.ext) H).mono ?_);rintro un h ⟨ns,x,n1,n2,n3⟩)<;>(replace S:=S.Qd x;clear x;refine mv ?_;refine qf ?_)
 have hns:∀ x,gat r.us x≠none→x∈ns:=fun x hx=>(n2 x).2 hx;have hnl:ns.length≤64:=by omega
 have S:=S.Zg (e:=9) (z:=1) (enc:=eS);all_goals (repeat' (first|refine qi ?_|refine qh ?_|(refine qc 2 ?_;refine mv ?_;refine qf ?_)|(refine qc 3 ?_;refine mv ?_;refine qf ?_)))
 refine qJ (σ:=Nat×Value) (fun (i,v4) h'=>Hs h0 h' [.sl v4 9 1 eS (lst ns (List.range i)),.sl un 9 1 eS ns,.blk b1 [v.vg.val,v.vt.val] 32]∧i≤ns.length) (fun (i,v4)=>ns.length - i) (fun (i,v4)=>[(1,.pointer (some ⟨b1,0,none⟩)),(3,un),(4,v4),(5,.int .i64 i)]) (0,.slice none 0 0) qy ?_ ?_
 ·exact ⟨S,zB0 _⟩
 clear S;rintro ⟨i,v4⟩ h ⟨S,g1⟩;have hll:(lst ns (List.range i)).length=i:=by simp [lst]
 all_goals (repeat' (first|refine qi ?_|refine qg rfl ?_|refine qj ?_|refine qo ?_|refine qh ?_|(refine qc 4 ?_;refine mv ?_;refine mv ?_;refine QC S rfl rfl ?_;(first|(refine cS ?_ ?_<;>intro hc))<;>(refine qf ?_))))
 ·have hil:i<ns.length:=by omega
  have e1:lst ns (List.range (i+1))=lst ns (List.range i) ++ [ns.getD i default]:=by unfold lst;rw [List.range_succ,zC9];rfl
  all_goals (repeat' (first|(refine qc 6 ?_;(iterate 3 refine mv ?_);refine qF S rfl rfl ?_;refine qB S rfl rfl ?_;(refine one 1 S ?_;clear S;intro u h S))))
  simp only [zA0] at *;refine app (y0:=ns.getD i default) S rfl rfl ?_;clear S;intro v4 h S;(refine mv ?_;refine qf ?_);all_goals (repeat' (first|(refine qc 5 ?_;refine mv ?_;refine ad ?_;refine mv ?_;refine qf ?_)))
  refine ⟨(i+1,v4),?_,?_,qy⟩
  ·show ns.length - (i+1)<ns.length - i;omega
  ·refine ⟨?_,by (try dsimp only);omega⟩;(try dsimp only);rw [e1];exact S.pick
 ·obtain rfl:i=ns.length:=by omega
  have I0:LI r ns (List.range ns.length):=by
   have hg:∀ i,i<ns.length→(List.range ns.length).getD i default=i:=fun i hi=>by
    rw [zA2,List.getElem?_range hi];rfl
   refine ⟨by simp,fun i hi=>?_,fun i hi=>?_⟩
   ·simp only [List.length_range] at hi;rw [hg i hi];exact zA3 _
   ·simp only [List.length_range] at hi;rw [hg i hi];exact .refl
  clear hll;all_goals (repeat' (first|refine qi ?_|refine qh ?_|(refine qc 7 ?_;refine mv ?_;refine qf ?_)))
  refine qJ (σ:=List Nat×Bool) (fun (P,ch) h'=>Hs h0 h' [.sl v4 9 1 eS (lst ns P),.sl un 9 1 eS ns,.blk b1 [v.vg.val,v.vt.val] 32]∧LI r ns P∧(ch=false→LC r ns P)) (fun (P,ch)=>2*P.sum+(if ch then 1 else 0)) (fun (P,ch)=>[(1,.pointer (some ⟨b1,0,none⟩)),(3,un),(4,v4),(6,.bool ch)]) (List.range ns.length,true) qy ?_ ?_
  ·exact ⟨S,I0,fun q=>by cases q⟩
  clear S I0;rintro ⟨P,ch⟩ h ⟨S,I,C⟩;have hfl:=I.len;have hll:(lst ns P).length=ns.length:=by simp [lst];exact hfl
  cases ch
  ·replace C:=C rfl;all_goals (repeat' (first|refine qi ?_|refine qg rfl ?_|refine qo ?_|refine qh ?_|(refine qc 8 ?_;refine mv ?_;refine qf ?_)|(refine qc 20 ?_;refine mv ?_;refine qf ?_)|(refine qc 21 ?_;refine mv ?_;refine qf ?_)))
   have S:=(S.Zg (e:=22) (z:=1) (enc:=vZ)).anyS (p:=WdsOk []) fun h' g hg=>by cases hg
   replace S:Hs h0 h (yS [] :: .sl (.slice none 0 0) 22 1 vZ [] :: .sl v4 9 1 eS (lst ns P) :: .sl un 9 1 eS ns :: .blk b1 [v.vg.val,v.vt.val] 32 :: []):=S;refine qJ (σ:=Nat×Value×List Wd) (fun (i,v11,cs) h'=>Hs h0 h' [.sl v11 22 1 vZ cs,yS cs,.sl v4 9 1 eS (lst ns P),.sl un 9 1 eS ns,.blk b1 [v.vg.val,v.vt.val] 32]∧i≤ns.length∧cs.map (·.ws)=Jp ns P i) (fun (i,v11,cs)=>ns.length - i) (fun (i,v11,cs)=>[(3,un),(4,v4),(11,v11),(12,.int .i64 i)]) (0,.slice none 0 0,[]) qy ?_ ?_
   ·exact ⟨S.pick,zB0 _,rfl⟩
   clear S;rintro ⟨i,v11,cs⟩ h ⟨S,g1,g2⟩;have hcl:cs.length≤i:=by
    have:=congrArg List.length g2;rw [zC5] at this;rw [this];exact qax ns P i
   all_goals (repeat' (first|refine qi ?_|refine qg rfl ?_|refine qj ?_|refine qo ?_|(refine qc 22 ?_;refine mv ?_;refine mv ?_;refine QC S rfl rfl ?_;(first|(refine cS ?_ ?_<;>intro hc))<;>(refine qf ?_))))
   ·have hil:i<ns.length:=by omega
    have hsu:=GY ns P i;(repeat (refine qi ?_));first|refine Xv (σ:=Value×List Wd) (fun (v11,cs) h'=>Hs h0 h' [.sl v11 22 1 vZ cs,yS cs,.sl v4 9 1 eS (lst ns P),.sl un 9 1 eS ns,.blk b1 [v.vg.val,v.vt.val] 32]∧cs.map (·.ws)=Jp ns P (i+1)) (fun (v11,cs)=>[(3,un),(4,v4),(11,v11),(12,.int .i64 i)]) ?_ ?_
    ·all_goals (repeat' (first|refine qi ?_|refine qg rfl ?_|refine qj ?_|refine qo ?_|refine qh ?_|(refine qK 24 ?_;refine mv ?_;refine mv ?_;refine qF S rfl rfl ?_;refine qB S rfl rfl ?_;refine mv ?_;refine mv ?_;refine qF S rfl rfl ?_;refine qB S rfl rfl ?_;(refine tS ?_ ?_<;>intro hc)<;>(refine qf ?_))))
     all_goals (try simp only [zA0] at *)
     all_goals (try rw [Yv (by omega)] at hc)
     ·have hpi:=I.le i (by omega);have hp:P.getD i default=i:=n1.inj (by omega) hil hc;all_goals (repeat' (first|refine qi ?_|refine qh ?_|(refine qc 25 ?_;refine mv ?_;refine qf ?_)|(refine qc 26 ?_;refine mv ?_;refine qf ?_)))
      have S:=S.Zg (e:=9) (z:=1) (enc:=eS);refine qJ (σ:=Nat×Value) (fun (k,v13) h'=>Hs h0 h' [.sl v13 9 1 eS (ZH ns P i k),.sl v11 22 1 vZ cs,yS cs,.sl v4 9 1 eS (lst ns P),.sl un 9 1 eS ns,.blk b1 [v.vg.val,v.vt.val] 32]∧k≤ns.length) (fun (k,v13)=>ns.length - k) (fun (k,v13)=>[(3,un),(4,v4),(11,v11),(12,.int .i64 i),(13,v13),(14,.int .i64 k)]) (0,.slice none 0 0) qy ?_ ?_
      ·exact ⟨S,zB0 _⟩
      clear S;rintro ⟨k,v13⟩ h ⟨S,k1⟩;have hcl2:=qbz ns P i k;all_goals (repeat' (first|refine qi ?_|refine qg rfl ?_|refine qj ?_|refine qo ?_|refine qh ?_|(refine qc 27 ?_;refine mv ?_;refine mv ?_;refine QC S rfl rfl ?_;(first|(refine cS ?_ ?_<;>intro hc))<;>(refine qf ?_))))
      ·have hkl:k<ns.length:=by omega
       have hpk:=I.le k (by omega);have hsu2:=qay ns P i k;all_goals (repeat' (first|refine qg rfl ?_|refine qj ?_|(refine qK 29 ?_;refine mv ?_;refine mv ?_;refine qF S rfl rfl ?_;refine qB S rfl rfl ?_;refine mv ?_;refine mv ?_;refine qF S rfl rfl ?_;refine qB S rfl rfl ?_;(refine tS ?_ ?_<;>intro hc)<;>(refine qf ?_))))
       all_goals (try simp only [zA0] at *)
       all_goals (try rw [Yv (by omega)] at hc)
       ·have hpk2:P.getD k default=i:=n1.inj (by omega) hil hc;rw [if_pos hpk2] at hsu2;all_goals (repeat' (first|(refine qc 30 ?_;(iterate 3 refine mv ?_);refine qF S rfl rfl ?_;refine qB S rfl rfl ?_;(refine one 1 S ?_;clear S;intro u h S))))
        simp only [zA0] at *;refine app (y0:=ns.getD k default) S rfl rfl ?_;clear S;intro v13 h S;(refine mv ?_;refine qf ?_);all_goals (repeat' (first|(refine qc 28 ?_;refine mv ?_;refine ad ?_;refine mv ?_;refine qf ?_)))
        refine ⟨(k+1,v13),?_,?_,qy⟩
        ·show ns.length - (k+1)<ns.length - k;omega
        ·refine ⟨?_,by (try dsimp only);omega⟩;(try dsimp only);rw [hsu2];exact S.pick
       ·rw [if_neg (fun e=>hc (by rw [e])),zD7] at hsu2;all_goals (repeat' (first|(refine qc 28 ?_;refine mv ?_;refine ad ?_;refine mv ?_;refine qf ?_)))
        refine ⟨(k+1,v13),?_,?_,qy⟩
        ·show ns.length - (k+1)<ns.length - k;omega
        ·refine ⟨?_,by (try dsimp only);omega⟩;(try dsimp only);rw [hsu2];exact S
      ·obtain rfl:k=ns.length:=by omega
       obtain ⟨v13',rfl⟩:=S.sV v13;rw [if_pos hp] at hsu;all_goals (repeat' (first|(refine qc 31 ?_;refine mv ?_;refine mv ?_;(refine one 1 S ?_;clear S;intro u h S))))
       refine app (y0:=⟨v13',ZH ns P i ns.length⟩) S rfl rfl ?_;clear S;intro v11 h S;(refine mv ?_;refine qf ?_);have S:=(show Hs h0 h (.sl v13'.val 9 1 eS (ZH ns P i ns.length) :: yS cs :: .sl v11 22 1 vZ (cs ++ [⟨v13',ZH ns P i ns.length⟩]) :: .sl v4 9 1 eS (lst ns P) :: .sl un 9 1 eS ns :: .blk b1 [v.vg.val,v.vt.val] 32 :: []) from S.pick)
       have S:=Hs.qcN (g:=⟨v13',ZH ns P i ns.length⟩) S;exact ⟨(v11,cs ++ [⟨v13',ZH ns P i ns.length⟩]),⟨S.pick,by rw [zC9,g2,hsu];rfl⟩,(qy)⟩
     ·rw [if_neg (fun e=>hc (by rw [e])),zD7] at hsu;exact ⟨(v11,cs),⟨S,by rw [hsu];exact g2⟩,(qy)⟩
    ·clear S g2 hcl;rintro ⟨v11,cs⟩ h ⟨S,g2⟩;all_goals (repeat' (first|(refine qc 23 ?_;refine mv ?_;refine ad ?_;refine mv ?_;refine qf ?_)))
     refine ⟨(i+1,v11,cs),?_,?_,qy⟩
     ·show ns.length - (i+1)<ns.length - i;omega
     ·exact ⟨S,by (try dsimp only);omega,g2⟩
   ·obtain rfl:i=ns.length:=by omega
    obtain ⟨c1,c2⟩:=I.cir H C n1 n2 g2;all_goals (repeat' (first|(refine qc 32 ?_;refine mv ?_;refine mv ?_;refine qf ?_)))
    refine qC ⟨_,rfl,?_⟩;exact ⟨cs,(show Hs h0 h [.sl v11 22 1 vZ cs,yS cs] from S.pick),c1,c2,by omega⟩
  ·all_goals (repeat' (first|refine qi ?_|refine qg rfl ?_|refine qj ?_|refine qh ?_|(refine qc 8 ?_;refine mv ?_;refine qf ?_)|(refine qc 9 ?_;refine mv ?_;refine qf ?_)|(refine qc 10 ?_;refine mv ?_;refine qf ?_)))
   obtain ⟨s0,hs0⟩:∃ s0,P.sum=s0:=⟨_,rfl⟩
   refine qJ (σ:=Nat×List Nat×Bool) (fun (i,P,ch) h'=>Hs h0 h' [.sl v4 9 1 eS (lst ns P),.sl un 9 1 eS ns,.blk b1 [v.vg.val,v.vt.val] 32]∧i≤ns.length∧LI r ns P∧(ch=false→∀ i' k',i'<i→k'<ns.length→adj r 1 (ns.getD i' default) (ns.getD k' default)→P.getD i' default≤P.getD k' default)∧(ch=true→P.sum<s0)∧P.sum≤s0) (fun (i,P,ch)=>ns.length - i) (fun (i,P,ch)=>[(1,.pointer (some ⟨b1,0,none⟩)),(3,un),(4,v4),(6,.bool ch),(7,.int .i64 i)]) (0,P,false) qy ?_ ?_
   ·exact ⟨S,zB0 _,I,fun _ i' k' h=>absurd h (zB7 _),(fun q=>by cases q),Nat.le_of_eq hs0⟩
   clear S I C hfl hll;rintro ⟨i,P,ch⟩ h ⟨S,g1,I,p1,p2,p3⟩;have hfl:=I.len;all_goals (repeat' (first|refine qi ?_|refine qg rfl ?_|refine qj ?_|refine qo ?_|refine qh ?_|(refine qc 11 ?_;refine mv ?_;refine mv ?_;refine QC S rfl rfl ?_;(first|(refine cS ?_ ?_<;>intro hc))<;>(refine qf ?_))))
   ·have hil:i<ns.length:=by omega
    all_goals (repeat' (first|refine qh ?_|(refine qc 13 ?_;refine mv ?_;refine qf ?_)))
    refine qJ (σ:=Nat×List Nat×Bool) (fun (k,P,ch) h'=>Hs h0 h' [.sl v4 9 1 eS (lst ns P),.sl un 9 1 eS ns,.blk b1 [v.vg.val,v.vt.val] 32]∧k≤ns.length∧LI r ns P∧(ch=false→∀ i' k',(i'<i∨(i'=i∧k'<k))→k'<ns.length→adj r 1 (ns.getD i' default) (ns.getD k' default)→P.getD i' default≤P.getD k' default)∧(ch=true→P.sum<s0)∧P.sum≤s0) (fun (k,P,ch)=>ns.length - k) (fun (k,P,ch)=>[(1,.pointer (some ⟨b1,0,none⟩)),(3,un),(4,v4),(6,.bool ch),(7,.int .i64 i),(8,.int .i64 k)]) (0,P,ch) qy ?_ ?_
    ·refine ⟨S,zB0 _,I,fun q i' k' h=>p1 q i' k' ?_,p2,p3⟩;rcases h with h|h
     ·exact h
     ·exact absurd h.2 (zB7 _)
    clear S I hfl p1 p2 p3;rintro ⟨k,P,ch⟩ h ⟨S,k1,I,p1,p2,p3⟩;have hfl:=I.len;have hll:(lst ns P).length=ns.length:=by simp [lst];exact hfl
    all_goals (repeat' (first|refine qi ?_|refine qg rfl ?_|refine qj ?_|refine qo ?_|refine qh ?_|(refine qc 14 ?_;refine mv ?_;refine mv ?_;refine QC S rfl rfl ?_;(first|(refine cS ?_ ?_<;>intro hc))<;>(refine qf ?_))))
    ·have hkl:k<ns.length:=by omega
     have hstay:(adj r 1 (ns.getD i default) (ns.getD k default)→P.getD i default≤P.getD k default)→(ch=false)→∀ i' k',(i'<i∨(i'=i∧k'<k+1))→k'<ns.length→adj r 1 (ns.getD i' default) (ns.getD k' default)→P.getD i' default≤P.getD k' default:=fun hq q i' k' h hk a=>by
      by_cases e:i'=i∧k'=k
      ·obtain ⟨rfl,rfl⟩:=e;exact hq a
      ·exact p1 q i' k' (by omega) hk a
     all_goals (repeat' (first|(refine qK 16 ?_;refine lB S rfl rfl ?_;refine mv ?_;refine mv ?_;refine qF S rfl rfl ?_;refine qB S rfl rfl ?_;refine mv ?_;refine mv ?_;refine qF S rfl rfl ?_;refine qB S rfl rfl ?_)))
     simp only [zA0];(refine qx rfl rfl rfl rfl rfl ((qa3 S.wf v r (HR.ext w S.ext) H (ns.getD i default) (ns.getD k default)).mono ?_);rintro _ h ⟨⟨t,ht,rfl⟩|⟨ht,rfl⟩,x⟩)<;>(replace S:=S.qL x;clear x;refine mv ?_;refine vl ?_;refine vl ?_;refine mv ?_;refine mv ?_;refine qf ?_)
     ·skip
      all_goals (repeat' (first|refine qi ?_|refine qg rfl ?_|refine qj ?_|(refine qK 17 ?_;(iterate 3 refine mv ?_);(first|(first|(refine cS ?_ ?_<;>intro hc)))<;>(refine vl ?_;refine mv ?_;(first|refine off ?_|refine mv ?_);(first|refine off ?_|refine mv ?_);(first|refine off ?_|(refine qF S rfl rfl ?_));(first|refine off ?_|(refine qB S rfl rfl ?_));(first|refine off ?_|refine mv ?_);(first|refine off ?_|refine mv ?_);(first|refine off ?_|(refine qF S rfl rfl ?_));(first|refine off ?_|(refine qB S rfl rfl ?_));(first|refine off ?_|(refine tO ?_ ?_<;>intro hc))<;>(refine vl ?_;refine qf ?_)))))
      all_goals (try simp only [zA0] at *)
      all_goals (try rw [Yv (by omega),Yv (by omega)] at hc)
      ·have hadj:adj r 1 (ns.getD i default) (ns.getD k default):=by
        have:=yN ht;rwa [show t.k=1 by omega] at this
       have hpi:=I.le i (by omega);have hpk:=I.le k (by omega);have hlt:=(n1.lt_iff (by omega) (by omega)).1 hc;have I2:=I.set (by omega) (by omega) hlt hadj;have hsum:=Wj (l:=P) (i:=i) (x:=P.getD k default) (by omega) hlt;all_goals (repeat' (first|(refine qc 15 ?_;refine mv ?_;refine ad ?_;refine mv ?_;refine qf ?_)|(refine qc 18 ?_;(iterate 4 refine mv ?_);refine qF S rfl rfl ?_;refine qB S rfl rfl ?_;refine qF S rfl rfl ?_;(first|(refine zZ S rfl rfl ?_;clear S;intro h S));refine qf ?_)|(refine qc 19 ?_;refine mv ?_;refine qf ?_)))
       simp only [zA0] at S;rw [qcj (by omega)] at S;refine ⟨(k+1,P.set i (P.getD k default),true),?_,?_,qy⟩
       ·show ns.length - (k+1)<ns.length - k;omega
       ·exact ⟨S,by (try dsimp only);omega,I2,(fun q=>by cases q),fun _=>by (try dsimp only);omega,by (try dsimp only);omega⟩
      ·have hpi:=I.le i (by omega);have hpk:=I.le k (by omega);have hge:P.getD i default≤P.getD k default:=by
        rcases zA7 (P.getD k default) (P.getD i default) with z|z
        ·exact absurd ((n1.lt_iff (by omega) (by omega)).2 z) hc
        ·exact z
       all_goals (repeat' (first|(refine qc 15 ?_;refine mv ?_;refine ad ?_;refine mv ?_;refine qf ?_)))
       refine ⟨(k+1,P,ch),?_,?_,qy⟩
       ·show ns.length - (k+1)<ns.length - k;omega
       ·exact ⟨S,by (try dsimp only);omega,I,fun q=>hstay (fun _=>hge) q,p2,p3⟩
      ·have hna:¬ adj r 1 (ns.getD i default) (ns.getD k default):=fun q=>by
        obtain ⟨t',t1,t2⟩:=xY H q;rw [ht] at t1;cases t1
        exact absurd t2 (by assumption)
       all_goals (repeat' (first|(refine qc 15 ?_;refine mv ?_;refine ad ?_;refine mv ?_;refine qf ?_)))
       refine ⟨(k+1,P,ch),?_,?_,qy⟩
       ·show ns.length - (k+1)<ns.length - k;omega
       ·exact ⟨S,by (try dsimp only);omega,I,fun q=>hstay (fun z=>absurd z hna) q,p2,p3⟩
     ·have hna:¬ adj r 1 (ns.getD i default) (ns.getD k default):=fun q=>by
       obtain ⟨t,t1,-⟩:=xY H q;rw [ht] at t1;cases t1
      all_goals (repeat' (first|refine qi ?_|refine qg rfl ?_|refine qj ?_|(refine qc 15 ?_;refine mv ?_;refine ad ?_;refine mv ?_;refine qf ?_)|(refine qK 17 ?_;refine mv ?_;refine mv ?_;refine off ?_;(refine off ?_)<;>(refine vl ?_;refine mv ?_;refine off ?_;refine off ?_;refine off ?_;refine off ?_;refine off ?_;refine off ?_;refine off ?_;refine off ?_;(refine off ?_)<;>(refine vl ?_;refine qf ?_)))))
      refine ⟨(k+1,P,ch),?_,?_,qy⟩
      ·show ns.length - (k+1)<ns.length - k;omega
      ·exact ⟨S,by (try dsimp only);omega,I,fun q=>hstay (fun z=>absurd z hna) q,p2,p3⟩
    ·obtain rfl:k=ns.length:=by omega
     all_goals (repeat' (first|(refine qc 12 ?_;refine mv ?_;refine ad ?_;refine mv ?_;refine qf ?_)))
     refine ⟨(i+1,P,ch),?_,?_,qy⟩
     ·show ns.length - (i+1)<ns.length - i;omega
     ·exact ⟨S,by (try dsimp only);omega,I,fun q i' k' h hk=>p1 q i' k' (by (try dsimp only at h);omega) hk,p2,p3⟩
   ·obtain rfl:i=ns.length:=by omega
    refine ⟨(P,ch),?_,?_,qy⟩
    ·show 2*P.sum+(if ch then 1 else 0)<2*List.sum _+(if true then 1 else 0)
     rw [hs0];cases ch
     ·simp;omega
     ·have:=p2 rfl;simp;omega
    ·exact ⟨S,I,fun q i' k' hi hk=>p1 q i' k' hi hk⟩
end Go.Proofs.Xx
namespace Go.Proofs.Xx
open Go Go.Proofs
theorem Hs.qfa {α:Type} {h0 h:AH} {u:Value} {e:TypeId} {z:Nat} {enc:α→List Value} {x:α} {rs:List Rs} (S:Hs h0 h (.sl u e z Xz [enc x] :: rs)):Hs h0 h (.sl u e z enc [x] :: rs):=by
 obtain ⟨fp,k1,k2,k3⟩:=S.sep;refine ⟨S.ext,fp,?_,k2,k3⟩;rcases k1 with ⟨q1,q2⟩|⟨b,o,cc,slk,cap,h1,h2,h3,h4,h5⟩
 ·cases q2
 ·exact .inr ⟨b,o,cc,slk,cap,h1,h2,h3,(by simpa [Xz] using h4),h5⟩
theorem qbY {r:Rl} {mp:QN} {f:List UInt8} {p:Int×List UInt8} (hf:zG mp f=none) (hk:gat r.us f≠none):kC r ((jZ mp f p).map (·.1))<kC r (mp.map (·.1)):=by
 rw [Yn hf,zC9];exact qaM hk fun q=>vH.2 q hf
variable [Flag]
theorem qbD {h0:AH} (w:WfH h0) {p:Nat} {r:Rl} (B:BkRd h0 p r) (H:RO r):Fn Tryz.prog Xh 41 [.pointer (some ⟨p,0,none⟩)] h0 (fun u h'=>(∃ vr R,u = .tuple #[.slice none 0 0,vr]∧Hs h0 h' [.sl vr 9 1 eS R]∧RingOk r R∧R.length≤200)∨(∃ vi cs,u = .tuple #[vi,.slice none 0 0]∧Hs h0 h' [.sl vi 3 1 eI cs]∧Z5 r cs)):=by
 have S:=Hs.start w;have B0:=B;obtain ⟨s,B⟩:=B;have hb:=B.bk;have h64:=H.l64;have hrg:=B.rg;have hgl:=B.len;refine qV rfl Tryz.func41 rfl rfl ?_;all_goals (repeat' (first|refine qi ?_|(refine qc 0 ?_;refine mv ?_;refine mv ?_;refine qf ?_)|(refine qc 1 ?_;refine mv ?_)))
 (refine qx rfl rfl rfl rfl rfl ((QK S.wf (S.ext.get w hb)).mono ?_);rintro _ h ⟨rfl,x⟩)<;>(replace S:=S.qL x;clear x;refine qf ?_)
 all_goals (repeat' (first|refine qi ?_|refine qg rfl ?_|refine qj ?_))
 (repeat (refine qi ?_));refine qc 3 ?_;refine mkm (α:=Int×List UInt8) eSp S ?_;clear S;intro m h S;(refine mv ?_;refine qf ?_);all_goals (repeat' (first|refine qi ?_|refine qh ?_|(refine qc 4 ?_;refine mv ?_;refine vl ?_;refine vl ?_;refine vl ?_;refine lH S ?_;refine Qa S ?_;refine mv ?_;refine qf ?_)))
 refine qJ (σ:=Nat×QN×(List UInt8→Nat)) (fun (i,mp,dep) h'=>Hs h0 h' [.mp m eSp mp]∧i≤r.us.length∧OI r i mp dep) (fun (i,mp,dep)=>r.us.length - i) (fun (i,mp,dep)=>[(0,.pointer (some ⟨p,0,none⟩)),(4,.map (some m)),(25,s.vg.val),(26,.int .i64 s.gs.length),(27,.int .i64 i)]) (0,[],fun _=>0) qy ?_ ?_
 ·exact ⟨S,zB0 _,⟨⟨⟨fun x hx=>absurd rfl hx⟩,fun x hx=>absurd rfl hx,fun x hx=>absurd rfl hx,by simp,fun x hx=>absurd rfl hx⟩,fun x hx=>absurd rfl hx,fun j hj=>absurd hj (zB7 _),fun j hj=>absurd hj (zB7 _),fun x hx=>absurd rfl hx⟩⟩
 clear S;rintro ⟨i,mp,dep⟩ h ⟨S,g1,I⟩;all_goals (repeat' (first|refine qi ?_|refine qg rfl ?_|refine qj ?_|refine qo ?_|(refine qc 5 ?_;(first|(refine cS ?_ ?_<;>intro hc))<;>(refine qf ?_))))
 ·have hil:i<s.gs.length:=by omega
  have hg:=B.g hil;simp only [zA0] at *;have hgn:(s.gs.getD i default).name=jO r i:=by unfold jO;rw [← hg]
  have hgk:gat r.us (jO r i)≠none:=Xo.2 ⟨_,qO (show i<r.us.length by omega),rfl⟩;(repeat (refine qi ?_));first|refine Xv (σ:=QN×(List UInt8→Nat)) (fun (mp,dep) h'=>Hs h0 h' [.mp m eSp mp]∧OI r (i+1) mp dep) (fun (mp,dep)=>[(0,.pointer (some ⟨p,0,none⟩)),(4,.map (some m)),(25,s.vg.val),(26,.int .i64 s.gs.length),(27,.int .i64 i)]) ?_ ?_
  ·all_goals (repeat' (first|refine qi ?_|refine qh ?_|(refine qc 6 ?_;refine Qv S ?_;refine zu S ?_;(refine al S ?_;clear S;intro b h S);(first|(refine sB S rfl rfl ?_;clear S;intro h S));refine qf ?_)|(refine qc 7 ?_;refine mv ?_;refine vl ?_;refine lB S rfl rfl ?_)))
   refine lk S (.there .here) (fun y hy=>?_) (fun hy=>?_)
   ·simp only [okV];(refine mv ?_;refine vl ?_;refine vl ?_;(refine al S ?_;clear S;intro b h S);(first|(refine sB S rfl rfl ?_;clear S;intro h S));refine mv ?_;refine qf ?_);all_goals (repeat' (first|refine qi ?_|refine qg rfl ?_|refine qo ?_|(refine qc 8 ?_;refine mv ?_;refine qf ?_)))
    rw [zA0,hgn] at hy;exact ⟨(mp,dep),⟨S.pick,I.skip (by rw [hy];simp)⟩,(qy)⟩
   ·rw [zA0,hgn] at hy;simp only [okV];(refine mv ?_;refine vl ?_;refine vl ?_;(refine al S ?_;clear S;intro b h S);(first|(refine sB S rfl rfl ?_;clear S;intro h S));refine mv ?_;refine qf ?_);all_goals (repeat' (first|refine qi ?_|refine qg rfl ?_|refine qj ?_|(refine qc 8 ?_;refine mv ?_;refine qf ?_)|(refine qc 9 ?_;refine mv ?_;refine vl ?_;refine lB S rfl rfl ?_;refine vl ?_)))
    simp only [zA0,hgn];refine up (x:=((0:Int),([]:List UInt8))) (key:=jO r i) S (.there (.there .here)) (.there (.there .here)) (fun h S=>?_) (.inl rfl);have I0:=I.root hy hgk;generalize hO:(fun x=>zG mp x≠none)=O at I0
    (refine qf ?_)
    all_goals (repeat' (first|refine qi ?_|refine qh ?_|(refine qc 10 ?_;refine vl ?_;refine lB S rfl rfl ?_;(refine one 1 S ?_;clear S;intro u h S);refine mv ?_;refine qf ?_)))
    simp only [zA0,hgn] at S;have S:=S.qfa (enc:=eS) (x:=jO r i);have S:=(show Hs h0 h [.sl u 9 1 eS [jO r i],.mp m eSp (jZ mp (jO r i) (0,[]))] from S.pick)
    refine qJ (σ:=QN×(List UInt8→Nat)×List (List UInt8)×Value) (fun (mp,dep,q,v9) h'=>Hs h0 h' [.sl v9 9 1 eS q,.mp m eSp mp]∧SI r i O mp dep q) (fun (mp,dep,q,v9)=>2*kC r (mp.map (·.1))+q.length) (fun (mp,dep,q,v9)=>[(0,.pointer (some ⟨p,0,none⟩)),(4,.map (some m)),(9,v9),(25,s.vg.val),(26,.int .i64 s.gs.length),(27,.int .i64 i)]) (jZ mp (jO r i) (0,[]),VK dep (jO r i) 0,[jO r i],u) qy ?_ ?_
    ·exact ⟨S,I0⟩
    clear S I0 hy;rintro ⟨mp,dep,q,v9⟩ h ⟨S,I⟩;have hql:=I.ql;have hml:=I.ci.len H;all_goals (repeat' (first|refine qi ?_|refine qg rfl ?_|refine qj ?_|refine qo ?_|refine qh ?_|(refine qc 11 ?_;refine mv ?_;refine QC S rfl rfl ?_;(first|(refine cS ?_ ?_<;>intro hc))<;>(refine qf ?_))))
    ·have hq:q≠[]:=fun e=>by rw [e] at hc;simp at hc
     all_goals (repeat' (first|refine qi ?_|(refine qc 13 ?_;refine mv ?_;refine qF S rfl rfl ?_;refine qB S rfl rfl ?_;refine mv ?_;refine qf ?_)|(refine qc 14 ?_;refine mv ?_;refine mv ?_)))
     obtain ⟨n,hn⟩:∃ n,q.getD 0 default=n:=⟨_,rfl⟩
     have hn2:n∈q:=by
      rw [← hn];exact qO (List.length_pos_iff.2 hq)
     have hnm:=(I.qm n hn2).1;simp only [Int.toNat_zero,hn];(refine qx rfl rfl rfl rfl rfl ((pV S.wf (B0.ext w S.ext) H n 2).mono ?_);rintro ul h ⟨l,x,l1,l2,l3⟩)<;>(replace S:=S.Qd x;clear x;refine QC S rfl rfl ?_;refine mv ?_;refine qf ?_)
     all_goals (repeat' (refine qh ?_))
     obtain ⟨M,hM⟩:∃ M,2*kC r (mp.map (·.1))+q.length=M:=⟨_,rfl⟩
     refine qJ (σ:=Nat×QN×(List UInt8→Nat)×List (List UInt8)×Value) (fun (j,mp,dep,q,v9) h'=>Hs h0 h' [.sl ul 9 1 eS l,.sl v9 9 1 eS q,.mp m eSp mp]∧j≤l.length∧SI r i O mp dep q∧q≠[]∧q.getD 0 default=n∧(∀ k,k<j→zG mp (l.getD k default)≠none∧JU mp (l.getD k default)≠JU mp n)∧2*kC r (mp.map (·.1))+q.length≤M) (fun (j,mp,dep,q,v9)=>l.length - j) (fun (j,mp,dep,q,v9)=>[(0,.pointer (some ⟨p,0,none⟩)),(4,.map (some m)),(9,v9),(10,str n),(25,s.vg.val),(26,.int .i64 s.gs.length),(27,.int .i64 i),(56,ul),(57,.int .i64 l.length),(58,.int .i64 j)]) (0,mp,dep,q,v9) qy ?_ ?_
     ·exact ⟨S,zB0 _,I,hq,hn,fun k hk=>absurd hk (zB7 _),Nat.le_of_eq hM⟩
     clear S I hq hn hn2 hnm hql;rintro ⟨j,mp,dep,q,v9⟩ h ⟨S,k1,I,hq,hn,k2,k3⟩;have hql:=I.ql;have hml:=I.ci.len H;have hn2:n∈q:=by
      rw [← hn];exact qO (List.length_pos_iff.2 hq)
     have hnm:=(I.qm n hn2).1;all_goals (repeat' (first|refine qi ?_|refine qg rfl ?_|refine qj ?_|refine qo ?_|refine qh ?_|(refine qc 15 ?_;(first|(refine cS ?_ ?_<;>intro hc))<;>(refine qf ?_))))
     ·have hjl:j<l.length:=by omega
      have hf:=(l2 _).1 (qO hjl);obtain ⟨f,hfe⟩:∃ f,l.getD j default=f:=⟨_,rfl⟩
      rw [hfe] at hf;all_goals (repeat' (first|refine qi ?_|(refine qc 16 ?_;refine qF S rfl rfl ?_;refine qB S rfl rfl ?_;refine mv ?_;refine qf ?_)|(refine qc 17 ?_;refine mv ?_;refine mv ?_)))
      simp only [zA0,hfe];refine lk S (.there (.there .here)) (fun y hy=>?_) (fun hy=>?_)
      ·simp only [okV];(refine mv ?_;refine vl ?_;refine vl ?_;(refine al S ?_;clear S;intro b h S);(first|(refine sB S rfl rfl ?_;clear S;intro h S));refine mv ?_;refine qf ?_);all_goals (repeat' (first|refine qi ?_|refine qg rfl ?_|refine qh ?_|(refine qc 18 ?_;refine mv ?_;refine vl ?_;refine mv ?_;refine qf ?_)|(refine qc 21 ?_;refine vl ?_;refine lB S rfl rfl ?_;refine mv ?_;refine mv ?_)))
       refine lk S (.there (.there (.there .here))) (fun z hz=>?_) (fun hz=>absurd hz hnm);simp only [okV];(refine vl ?_;(first|(refine cS ?_ ?_<;>intro hc))<;>(refine mv ?_;refine qf ?_));all_goals (repeat' (first|refine qi ?_|refine qg rfl ?_|refine qj ?_))
       ·have hcc:JU mp f=JU mp n:=by rw [Jo hy,Jo hz];exact hc
        have hfm:zG mp f≠none:=by rw [hy];simp
        obtain ⟨r1,r2,r3,r4,r5⟩:=I.clash H hq hn hfm hf hcc;have hMp:MpRd h m eSp mp:=by
         obtain ⟨es,clock,m1,m2,-⟩:=vG S (.there (.there (.there .here)));exact ⟨es,clock,m1,m2⟩
        all_goals (repeat' (first|(refine qc 22 ?_;(iterate 3 refine mv ?_);skip)))
        (refine qx rfl rfl rfl rfl rfl ((qcf S.wf hMp I.ci.tree r1 hfm r2 hf r3 r4 r5).mono ?_);rintro vr h ⟨R,x,R1,R2⟩)<;>(replace S:=S.Qd x;clear x;refine mv ?_;refine mv ?_;refine qf ?_)
        all_goals (repeat' (fail))
        refine qC ⟨_,rfl,?_⟩;exact .inl ⟨vr,R,rfl,S.only .here,R1,R2⟩
       ·have hcc:JU mp f≠JU mp n:=by rw [Jo hy,Jo hz];exact hc
        all_goals (repeat' (first|(refine qc 23 ?_;refine ad ?_;refine mv ?_;refine qf ?_)))
        refine ⟨(j+1,mp,dep,q,v9),?_,?_,qy⟩
        ·show l.length - (j+1)<l.length - j;omega
        ·refine ⟨S.pick,by (try dsimp only);omega,I,hq,hn,Zb k2 ?_,k3⟩;rw [hfe];exact ⟨by rw [hy];simp,hcc⟩
      ·simp only [okV];(refine mv ?_;refine vl ?_;refine vl ?_;(refine al S ?_;clear S;intro b h S);(first|(refine sB S rfl rfl ?_;clear S;intro h S));refine mv ?_;refine qf ?_);all_goals (repeat' (first|refine qi ?_|refine qg rfl ?_|refine qh ?_|(refine qc 18 ?_;refine mv ?_;refine vl ?_;refine mv ?_;refine qf ?_)|(refine qc 19 ?_;(iterate 4 refine mv ?_);skip)))
       refine lk S (.there (.there (.there .here))) (fun z hz=>?_) (fun hz=>absurd hz hnm);simp only [okV];have ez:JU mp n=z.1:=Jo hz;have hzb:0≤z.1∧z.1≤1:=by
        have:=I.ci.camp n hnm;rw [ez] at this;omega
       (refine vl ?_;refine sb ?_;refine mv ?_;refine vl ?_)
       have hfk:=(Qy H hf).2.1;have hu:=qbY (p:=(1 - z.1,n)) hy hfk;have I2:=I.add hq hn hy hfk hf;rw [ez] at I2;refine up (x:=(1 - z.1,n)) (key:=f) S (.there (.there (.there .here))) (.there (.there (.there .here))) (fun h S=>?_) (.inl rfl);(refine qf ?_);all_goals (repeat' (first|(refine qc 20 ?_;refine mv ?_;refine mv ?_;(refine one 1 S ?_;clear S;intro u h S))))
       refine app (y0:=f) S rfl rfl ?_;clear S;intro v9 h S;(refine mv ?_;refine qf ?_);all_goals (repeat' (first|(refine qc 23 ?_;refine ad ?_;refine mv ?_;refine qf ?_)))
       have nmf:∀ {w:List UInt8},zG mp w≠none→w≠f:=fun hw e=>by rw [e] at hw;exact hw hy
       refine ⟨(j+1,jZ mp f (1 - z.1,n),VK dep f (dep n+1),q ++ [f],v9),?_,?_,qy⟩
       ·show l.length - (j+1)<l.length - j;omega
       ·have hz1:JU (jZ mp f (1 - z.1,n)) n=JU mp n:=by rw [Ql,if_neg (nmf hnm)]
        refine ⟨S.pick,by (try dsimp only);omega,I2,by simp,by rw [Y3 hq];exact hn,Zb (fun k hk=>?_) ?_,?_⟩
        ·obtain ⟨g1,g2⟩:=k2 k hk;rw [hz1,Ql,if_neg (nmf g1)];exact ⟨(ja _).2 (.inr g1),g2⟩
        ·rw [hfe,hz1,Ql,if_pos rfl,ez];refine ⟨(ja _).2 (.inl rfl),?_⟩;show 1 - z.1≠z.1
         omega
        ·show 2*kC r ((jZ mp f (1 - z.1,n)).map (·.1))+(q ++ [f]).length≤M
         rw [zB2,zD5];omega
     ·obtain rfl:j=l.length:=by omega
      obtain ⟨n0,q',rfl⟩:∃ n0 q',q=n0 :: q':=by
       cases q with
       | nil=>exact absurd rfl hq
       | cons a b=>exact ⟨a,b,rfl⟩
      have en:n0=n:=hn;subst en;have I2:=I.pop fun z hz=>by
       obtain ⟨k,k1,k2'⟩:=qQ.1 ((l2 z).2 hz);have:=k2 k k1;rw [k2'] at this;exact this
      all_goals (repeat' (first|(refine qc 12 ?_;refine mv ?_;(refine dr S rfl rfl ?_;clear S;intro vq S);refine mv ?_;refine qf ?_)))
      refine ⟨(mp,dep,q',vq),?_,?_,qy⟩
      ·(try dsimp only)
       rw [hM];simp at k3;omega
      ·exact ⟨(show Hs h0 h [.sl vq 9 1 eS q',.mp m eSp mp] from S.tail),I2⟩
    ·have hq:q=[]:=by cases q with|nil=>rfl|cons a b=>simp at hc
     subst hq;exact ⟨(mp,dep),⟨S.only (.there .here),I.fin⟩,(qy)⟩
  ·clear S;rintro ⟨mp2,dep2⟩ h ⟨S,I2⟩;all_goals (repeat' (first|(refine qc 24 ?_;refine ad ?_;refine mv ?_;refine qf ?_)))
   refine ⟨(i+1,mp2,dep2),?_,?_,qy⟩
   ·show r.us.length - (i+1)<r.us.length - i;omega
   ·exact ⟨S,by (try dsimp only);omega,I2⟩
 ·obtain rfl:i=r.us.length:=by omega
  have CO:=I.qeF;all_goals (repeat' (first|refine qi ?_|(refine qc 25 ?_;refine mv ?_;refine qf ?_)))
  have S:=S.Zg (e:=3) (z:=1) (enc:=eI);have S:=(show Hs h0 h [.sl (.slice none 0 0) 3 1 eI ((List.range 0).map fun i=>JU mp (jO r i)),.mp m eSp mp] from S)
  all_goals (repeat' (first|refine qh ?_|(refine qc 26 ?_;refine mv ?_;refine vl ?_;refine vl ?_;refine vl ?_;refine lH S ?_;refine Qa S ?_;refine mv ?_;refine qf ?_)))
  refine qJ (σ:=Nat×Value) (fun (j,v15) h'=>Hs h0 h' [.sl v15 3 1 eI ((List.range j).map fun i=>JU mp (jO r i)),.mp m eSp mp]∧j≤r.us.length) (fun (j,v15)=>r.us.length - j) (fun (j,v15)=>[(4,.map (some m)),(15,v15),(102,s.vg.val),(103,.int .i64 s.gs.length),(104,.int .i64 j)]) (0,.slice none 0 0) qy ?_ ?_
  ·exact ⟨S,zB0 _⟩
  clear S;rintro ⟨j,v15⟩ h ⟨S,g2⟩;have hjl2:((List.range j).map fun i=>JU mp (jO r i)).length=j:=by simp
  all_goals (repeat' (first|refine qi ?_|refine qg rfl ?_|refine qj ?_|refine qo ?_|refine qh ?_|(refine qc 27 ?_;(first|(refine cS ?_ ?_<;>intro hc))<;>(refine qf ?_))))
  ·have hil:j<s.gs.length:=by omega
   have hg:=B.g hil;have hgn:(s.gs.getD j default).name=jO r j:=by unfold jO;rw [← hg]
   have hme:=I.gm j (by omega);all_goals (repeat' (first|(refine qc 28 ?_;refine Qv S ?_;refine zu S ?_;(refine al S ?_;clear S;intro b h S);(first|(refine sB S rfl rfl ?_;clear S;intro h S));refine qf ?_)|(refine qc 29 ?_;refine mv ?_;refine mv ?_;refine vl ?_;refine lB S rfl rfl ?_)))
   simp only [zA0,hgn];refine lk S (.there (.there .here)) (fun y hy=>?_) (fun hy=>absurd hy hme);simp only [okV];(refine vl ?_;(refine one 1 S ?_;clear S;intro u h S));refine app (y0:=y.1) S rfl rfl ?_;clear S;intro v15 h S;(refine mv ?_;refine qf ?_);all_goals (repeat' (first|(refine qc 30 ?_;refine ad ?_;refine mv ?_;refine qf ?_)))
   refine ⟨(j+1,v15),?_,?_,qy⟩
   ·show r.us.length - (j+1)<r.us.length - j;omega
   ·have e1:(List.range (j+1)).map (fun i=>JU mp (jO r i))=(List.range j).map (fun i=>JU mp (jO r i)) ++ [y.1]:=by
     rw [List.range_succ,zC9,List.map_cons,Jo hy];rfl
    refine ⟨?_,by (try dsimp only);omega⟩;dsimp only;rw [e1];exact S.pick
  ·obtain rfl:j=r.us.length:=by omega
   all_goals (repeat' (first|(refine qc 31 ?_;(iterate 3 refine mv ?_);refine qf ?_)))
   refine qC ⟨_,rfl,?_⟩;exact .inr ⟨v15,_,rfl,S.only .here,CO⟩
end Go.Proofs.Xx
namespace Go.Proofs.Xx
open Go Go.Proofs
theorem CirOk.wl {r:Rl} (H:RO r) {cs:List Wd} (C:CirOk r cs) {w:Wd} (hw:w∈cs):w.ws.length≤64:=by
 obtain ⟨w1,w2,w3⟩:=C.ss w hw;have:=Qu w1.nodup (m:=r.us.map (·.name)) fun x hx=>by
  obtain ⟨k,rc⟩:=(w3 x).1 hx;exact Jk (rc.known H k)
 rw [zC5] at this;have:=H.l64;omega
variable [Flag]
theorem Vw {h0:AH} (w:WfH h0) (v u:Value) (l m:List Int) (rv:Qq h0 v 1 eI l) (ru:Qq h0 u 1 eI m) (hl:l.length≤9223372036854775807) (hm:m.length≤9223372036854775807):Fn Tryz.prog Xh 61 [v,u] h0 (fun x h'=>Zk x (l=m)∧Hs h0 h' []):=by
 have S:=Hs.start w;refine qV rfl Tryz.func61 rfl rfl ?_;all_goals (repeat' (first|refine qi ?_|refine qg rfl ?_|refine qj ?_|refine qh ?_|(refine qc 0 ?_;refine mv ?_;refine qf ?_)|(refine qc 1 ?_;refine mv ?_;refine Qa S ?_;refine mv ?_;refine Qa S ?_;(first|(refine cS ?_ ?_<;>intro hc))<;>(refine qf ?_))|(refine qc 2 ?_;refine mv ?_;refine qf ?_)|(refine qc 3 ?_;refine mv ?_;refine qf ?_)))
 ·refine qC ⟨_,rfl,?_⟩;exact ⟨.inr ⟨rfl,fun q=>by subst q;omega⟩,S⟩
 ·refine qJ (σ:=Nat) (fun i h'=>Hs h0 h' []∧i≤l.length∧∀ j,j<i→l.getD j default=m.getD j default) (fun i=>l.length - i) (fun i=>[(0,v),(1,u),(5,.int .i64 i)]) 0 qy ?_ ?_
  ·exact ⟨S,zB0 _,fun j hj=>absurd hj (zB7 _)⟩
  clear S;rintro i h ⟨S,g1,g2⟩;all_goals (repeat' (first|refine qi ?_|refine qg rfl ?_|refine qj ?_|refine qo ?_|refine qh ?_|(refine qc 4 ?_;refine mv ?_;refine mv ?_;refine Qa S ?_;(first|(refine cS ?_ ?_<;>intro hc))<;>(refine qf ?_))|(refine qc 5 ?_;refine mv ?_;refine ad ?_;refine mv ?_;refine qf ?_)|(refine qK 6 ?_;refine mv ?_;refine mv ?_;refine Qv S ?_;refine zu S ?_;refine mv ?_;refine mv ?_;refine Qv S ?_;refine zu S ?_;(first|(refine cS ?_ ?_<;>intro hc))<;>(refine qf ?_))|(refine qc 7 ?_;refine mv ?_;refine qf ?_)|(refine qc 8 ?_;refine mv ?_;refine qf ?_)))
  all_goals (try simp only [zA0] at *)
  ·refine qC ⟨_,rfl,?_⟩;exact ⟨.inr ⟨rfl,fun q=>by subst q;exact hc rfl⟩,S⟩
  ·refine ⟨i+1,?_,?_,qy⟩
   ·show l.length - (i+1)<l.length - i;omega
   ·exact ⟨S,by omega,Zb g2 (by omega)⟩
  ·refine qC ⟨_,rfl,?_⟩;exact ⟨.inl ⟨rfl,Q7 (by omega) fun j hj=>g2 j (by omega)⟩,S⟩
theorem qbV {h0:AH} (w:WfH h0) {p:Nat} {r:Rl} (B:BkRd h0 p r) (v:RlV) (HR:RlOk h0 v r) (H:RO r):Fn Tryz.prog Xh 46 [.pointer (some ⟨p,0,none⟩),v.val] h0 (fun u h'=>u = .bool true∧Hs h0 h' []):=by
 have S:=Hs.start w;have h64:=H.l64;unfold RlV.val;refine qV rfl Tryz.func46 rfl rfl ?_;all_goals (repeat' (first|refine qi ?_|(refine qc 0 ?_;(refine bx S ?_;clear S;intro b h S);refine mv ?_;refine qf ?_)))
 obtain ⟨b3,hnm⟩:∃ x,x=b:=⟨_,rfl⟩;subst hnm;replace S:Hs h0 h (.blk b3 [v.vg.val,v.vt.val] 32 :: []):=S;all_goals (repeat' (first|(refine qc 1 ?_;refine mv ?_)))
 (refine qx rfl rfl rfl rfl rfl ((GZ S.wf (B.ext w S.ext) H).mono ?_);rintro u1 h ⟨cs,x,c1,c2,c3⟩)<;>(replace S:=S.gU x;clear x;refine mv ?_;refine qf ?_)
 all_goals (repeat' (first|refine qi ?_|(refine qc 2 ?_;refine lB S rfl rfl ?_)))
 (refine qx rfl rfl rfl rfl rfl ((kP S.wf v r (HR.ext w S.ext) H).mono ?_);rintro u2 h ⟨ds,x,d1,d2,d3⟩)<;>(replace S:=S.gU x;clear x;refine mv ?_;refine qf ?_)
 have e:=c1.uniq d1 c2 d2;have hcd:cs.length=ds.length:=by have:=congrArg List.length e;simpa using this
 have hei:∀ i,i<cs.length→(cs.getD i default).ws=(ds.getD i default).ws:=fun i hi=>by
  have:=congrArg (fun l=>l.getD i default) e;(try simp only at this);rwa [zx (f:=fun w:Wd=>w.ws) hi,zx (f:=fun w:Wd=>w.ws) (show i<ds.length by omega)] at this
 all_goals (repeat' (first|refine qi ?_|refine qg rfl ?_|refine qj ?_|refine qh ?_|(refine qc 3 ?_;refine mv ?_;refine QC S rfl rfl ?_;refine mv ?_;refine QC S rfl rfl ?_;(refine cF ?_)<;>(refine qf ?_))|(refine qc 5 ?_;refine mv ?_;refine qf ?_)))
 refine qJ (σ:=Nat) (fun i h'=>Hs h0 h' [.sl u2 22 1 vZ ds,yS ds,.sl u1 22 1 vZ cs,yS cs,.blk b3 [v.vg.val,v.vt.val] 32]∧i≤cs.length) (fun i=>cs.length - i) (fun i=>[(0,.pointer (some ⟨p,0,none⟩)),(3,.pointer (some ⟨b3,0,none⟩)),(5,u1),(6,u2),(7,.int .i64 i)]) 0 qy ?_ ?_
 ·exact ⟨S,zB0 _⟩
 clear S;rintro i h ⟨S,g1⟩;all_goals (repeat' (first|refine qi ?_|refine qg rfl ?_|refine qj ?_|refine qo ?_|refine qh ?_|(refine qc 6 ?_;refine mv ?_;refine mv ?_;refine QC S rfl rfl ?_;(first|(refine cS ?_ ?_<;>intro hc))<;>(refine qf ?_))))
 ·have hil:i<cs.length:=by omega
  obtain ⟨f1,hw1⟩:=Hs.qcB (p:=WdsOk ds) S (.there .here);obtain ⟨f2,hw2⟩:=Hs.qcB (p:=WdsOk cs) S (.there (.there (.there .here)));have l1:=c1.wl H (qO hil);have l2:=d1.wl H (qO (show i<ds.length by omega));all_goals (repeat' (first|(refine qK 8 ?_;refine mv ?_;refine mv ?_;refine qF S rfl rfl ?_;refine qB S rfl rfl ?_;refine mv ?_;refine mv ?_;refine qF S rfl rfl ?_;refine qB S rfl rfl ?_)))
  simp only [zA0];(refine qx rfl rfl rfl rfl rfl ((Yj S.wf (cs.getD i default).sv.val (ds.getD i default).sv.val (cs.getD i default).ws (ds.getD i default).ws (hw2.rd hil) (hw1.rd (by omega)) (zD0 l1 (by decide)) (zD0 l2 (by decide))).mono ?_);rintro _ h ⟨⟨rfl,z⟩|⟨rfl,z⟩,x⟩)<;>(replace S:=S.qL x;clear x;refine vl ?_;refine qf ?_)
  ·skip
   all_goals (repeat' (first|refine qg rfl ?_|refine qj ?_|(refine qc 7 ?_;refine mv ?_;refine ad ?_;refine mv ?_;refine qf ?_)))
   refine ⟨i+1,?_,?_,qy⟩
   ·show cs.length - (i+1)<cs.length - i;omega
   ·exact ⟨S,by omega⟩
  ·exact absurd (hei i hil) z
 ·have S:=S.only (.there (.there (.there (.there .here))));all_goals (repeat' (first|(refine qc 10 ?_;refine mv ?_)))
  (refine qx rfl rfl rfl rfl rfl ((qbt S.wf (B.ext w S.ext) H).mono ?_);rintro u8 h ⟨es,x,e1,e2⟩)<;>(replace S:=S.Qd x;clear x;refine mv ?_;refine qf ?_)
  all_goals (repeat' (first|refine qi ?_|(refine qc 11 ?_;refine lB S rfl rfl ?_)))
  (refine qx rfl rfl rfl rfl rfl ((qad S.wf v r (HR.ext w S.ext) H).mono ?_);rintro u9 h ⟨fs,x,f1,f2⟩)<;>(replace S:=S.Qd x;clear x;refine mv ?_;refine qf ?_)
  obtain rfl:=e1.uniq f1;all_goals (repeat' (first|refine qi ?_|refine qg rfl ?_|refine qj ?_|refine qh ?_|(refine qc 12 ?_;refine mv ?_;refine QC S rfl rfl ?_;refine mv ?_;refine QC S rfl rfl ?_;(refine cF ?_)<;>(refine qf ?_))|(refine qc 14 ?_;refine mv ?_;refine qf ?_)))
  refine qJ (σ:=Nat) (fun i h'=>Hs h0 h' [.sl u9 149 2 jP es,.sl u8 147 2 jP es,.blk b3 [v.vg.val,v.vt.val] 32]∧i≤es.length) (fun i=>es.length - i) (fun i=>[(0,.pointer (some ⟨p,0,none⟩)),(3,.pointer (some ⟨b3,0,none⟩)),(8,u8),(9,u9),(10,.int .i64 i)]) 0 qy ?_ ?_
  ·exact ⟨S,zB0 _⟩
  clear S;rintro i h ⟨S,g2⟩;all_goals (repeat' (first|refine qi ?_|refine qg rfl ?_|refine qj ?_|refine qo ?_|refine qh ?_|(refine qc 15 ?_;refine mv ?_;refine mv ?_;refine QC S rfl rfl ?_;(first|(refine cS ?_ ?_<;>intro hc))<;>(refine qf ?_))))
  ·have hil:i<es.length:=by omega
   all_goals (repeat' (first|refine qi ?_|refine qg rfl ?_|refine qj ?_|(refine qK 17 ?_;refine mv ?_;refine mv ?_;refine qF S rfl rfl ?_;refine fS S rfl rfl ?_;refine qB S rfl rfl ?_;refine mv ?_;refine mv ?_;refine qF S rfl rfl ?_;refine fS S rfl rfl ?_;refine qB S rfl rfl ?_;(refine tS ?_ ?_<;>intro hc)<;>(refine mv ?_;(first|refine off ?_|refine mv ?_);(first|refine off ?_|refine mv ?_);(first|refine off ?_|(refine qF S rfl rfl ?_));(first|refine off ?_|(refine fS S rfl rfl ?_));(first|refine off ?_|(refine qB S rfl rfl ?_));(first|refine off ?_|refine mv ?_);(first|refine off ?_|refine mv ?_);(first|refine off ?_|(refine qF S rfl rfl ?_));(first|refine off ?_|(refine fS S rfl rfl ?_));(first|refine off ?_|(refine qB S rfl rfl ?_));(first|refine off ?_|(refine cF ?_))<;>(refine vl ?_;refine qf ?_)))))
   ·skip
    all_goals (repeat' (first|(refine qc 16 ?_;refine mv ?_;refine ad ?_;refine mv ?_;refine qf ?_)))
    refine ⟨i+1,?_,?_,qy⟩
    ·show es.length - (i+1)<es.length - i;omega
    ·exact ⟨S,by omega⟩
   all_goals exact absurd rfl (by assumption)
  ·have S:=S.only (.there (.there .here));have hnil:=(Rd.none_ h0 1:Qq h0 (.slice none 0 0) 1 eI [])
   have hnilS:=(Rd.none_ h0 1:Qq h0 (.slice none 0 0) 1 eS [])
   all_goals (repeat' (first|(refine qc 19 ?_;refine mv ?_)))
   (refine qx rfl rfl rfl rfl rfl ((qbD S.wf (B.ext w S.ext) H).mono ?_);rintro _ h (⟨vr,R,rfl,x,RG,hl⟩|⟨vi,ps,rfl,x,C⟩))<;>(replace S:=S.Qd x;clear x;refine mv ?_;refine vl ?_;refine vl ?_;refine mv ?_;refine mv ?_;refine qf ?_)
   all_goals (all_goals (repeat' (first|refine qi ?_|(refine qc 20 ?_;refine lB S rfl rfl ?_))))
   ·(refine qx rfl rfl rfl rfl rfl ((yx S.wf v r (HR.ext w S.ext) H).mono ?_);rintro _ h (⟨vj,bs,rfl,x,C2,C3⟩|⟨rfl,hno,x⟩))<;>((first|replace S:=S.Qd x|replace S:=S.qL x);clear x;refine mv ?_;refine vl ?_;refine vl ?_;refine mv ?_;refine mv ?_;refine qf ?_)
    ·exact absurd C2 (RG.no H bs)
    ·have h3:=RG.three;all_goals (repeat' (first|refine qi ?_|(refine qc 21 ?_;refine mv ?_;refine mv ?_)))
     (refine qx rfl rfl rfl rfl rfl ((Vw S.wf (.slice none 0 0) (.slice none 0 0) [] [] (Rd.none_ h 1) (Rd.none_ h 1) (by decide) (by decide)).mono ?_);rintro _ h ⟨⟨rfl,z⟩|⟨rfl,z⟩,x⟩)<;>(replace S:=S.qL x;clear x;refine mv ?_;(first|refine off ?_|refine mv ?_);(first|refine off ?_|refine mv ?_);(first|refine off ?_|(refine QC S rfl rfl ?_));(first|refine off ?_|(refine cF ?_))<;>((first|refine off ?_|(refine bT ?_));refine vl ?_;refine mv ?_;refine qf ?_))
     ·skip
      all_goals (repeat' (fail))
      refine qC ⟨_,rfl,?_⟩;exact ⟨rfl,S.drop⟩
     ·exact absurd rfl z
   ·(refine qx rfl rfl rfl rfl rfl ((yx S.wf v r (HR.ext w S.ext) H).mono ?_);rintro _ h (⟨vj,bs,rfl,x,C2,C3⟩|⟨rfl,hno,x⟩))<;>((first|replace S:=S.Qd x|replace S:=S.qL x);clear x;refine mv ?_;refine vl ?_;refine vl ?_;refine mv ?_;refine mv ?_;refine qf ?_)
    ·obtain rfl:=C3 ps C;all_goals (repeat' (first|refine qi ?_|(refine qc 21 ?_;refine mv ?_;refine mv ?_)))
     have hpl:ps.length≤9223372036854775807:=by rw [C.len];omega
     (refine qx rfl rfl rfl rfl rfl ((Vw S.wf vi vj ps ps (Rd.Qc S (.there .here)) (Rd.Qc S .here) hpl hpl).mono ?_);rintro _ h ⟨⟨rfl,z⟩|⟨rfl,z⟩,x⟩)<;>(replace S:=S.qL x;clear x;refine mv ?_;(first|refine off ?_|refine mv ?_);(first|refine off ?_|refine mv ?_);(first|refine off ?_|(refine Qa S ?_));(first|refine off ?_|(refine cT ?_))<;>((first|refine off ?_|(refine bT ?_));refine vl ?_;refine mv ?_;refine qf ?_))
     ·skip
      all_goals (repeat' (fail))
      refine qC ⟨_,rfl,?_⟩;exact ⟨rfl,S.drop⟩
     ·exact absurd rfl z
    ·exact absurd C (hno ps)
end Go.Proofs.Xx
namespace Go.Proofs.Xx
open Go Go.Proofs
variable [Flag]
theorem qdL {h0:AH} (w:WfH h0) (v:Value) (l:List Ti) (hr:Qq h0 v 3 jb l) (hl:l.length*40≤140737488351232):Fn Tryz.prog Xh 99 [v] h0 (fun u h'=>Hs h0 h' [.sl u 111 3 jb l]):=by
 have S:=Hs.start w;refine qV rfl Tryz.func99 rfl rfl ?_;all_goals (repeat' (first|refine qi ?_|refine qh ?_|(refine qc 0 ?_;refine mv ?_;refine qf ?_)|(refine qc 1 ?_;refine mv ?_;refine qf ?_)|(refine qc 2 ?_;refine mv ?_;refine qf ?_)))
 have S:=S.Zg (e:=111) (z:=3) (enc:=jb);refine qJ (σ:=Nat×Value) (fun (i,v3) h'=>Hs h0 h' [.sl v3 111 3 jb (l.take i)]∧i≤l.length) (fun (i,v3)=>l.length - i) (fun (i,v3)=>[(0,v),(3,v3),(4,.int .i64 i)]) (0,.slice none 0 0) qy ?_ ?_
 ·exact ⟨S,zB0 _⟩
 clear S;rintro ⟨i,v3⟩ h ⟨S,g1⟩;have htl:(l.take i).length=i:=by simp;omega
 all_goals (repeat' (first|refine qi ?_|refine qg rfl ?_|refine qj ?_|refine qo ?_|refine qh ?_|(refine qc 3 ?_;refine mv ?_;refine mv ?_;refine Qa S ?_;(first|(refine cS ?_ ?_<;>intro hc))<;>(refine qf ?_))))
 ·have hil:i<l.length:=by omega
  all_goals (repeat' (first|(refine qc 5 ?_;(iterate 3 refine mv ?_);refine Qv S ?_;refine zu S ?_;(refine one 3 S ?_;clear S;intro u h S))))
  simp only [zA0] at *;refine app (y0:=l.getD i default) S rfl rfl ?_;clear S;intro v3 h S;(refine mv ?_;refine qf ?_);all_goals (repeat' (first|(refine qc 4 ?_;refine mv ?_;refine ad ?_;refine mv ?_;refine qf ?_)))
  refine ⟨(i+1,v3),?_,?_,qy⟩
  ·show l.length - (i+1)<l.length - i;omega
  ·refine ⟨?_,by (try dsimp only);omega⟩;dsimp only;rw [zi hil];exact S
 ·obtain rfl:i=l.length:=by omega
  rw [zD4] at S;all_goals (repeat' (first|(refine qc 6 ?_;refine mv ?_;refine mv ?_;refine qf ?_)))
  refine qC ⟨_,rfl,?_⟩;exact S
theorem qdN {h0:AH} (w:WfH h0) (g:QM) (rd:Qq h0 g.tv.val 1 eS g.tg) (hl:g.tg.length≤8796093021952):Fn Tryz.prog Xh 103 [gV g] h0 (fun u h'=>∃ tv:SlV,u=gV { g with tv:=tv }∧Hs h0 h' [.sl tv.val 9 1 eS g.tg]):=by
 have S:=Hs.start w;obtain ⟨⟨n1,n2,n3,n4,n5,n6,n7,n8,n9⟩,n10⟩:=g;unfold gV;dsimp only at *;refine qV rfl Tryz.func103 rfl rfl ?_;all_goals (repeat' (first|refine qi ?_|(refine qc 0 ?_;(refine bx S ?_;clear S;intro b h S);(refine al S ?_;clear S;intro b h S);refine qf ?_)))
 obtain ⟨b1,hnm⟩:∃ x,x=b:=⟨_,rfl⟩;subst hnm;all_goals (repeat' (first|(refine qc 1 ?_;refine vl ?_;refine lB S rfl rfl ?_)))
 (refine qx rfl rfl rfl rfl rfl ((qbw S.wf n10.val n9 (rd.ext w S.ext) hl).mono ?_);rintro v h x)<;>(replace S:=S.Qd x;clear x;obtain ⟨tv,rfl⟩:=S.sV v;refine vl ?_;(first|(refine sB S rfl rfl ?_;clear S;intro h S));refine qf ?_)
 all_goals (repeat' (first|refine qi ?_|(refine qc 2 ?_;refine lB S rfl rfl ?_;(first|(refine sB S rfl rfl ?_;clear S;intro h S));refine qf ?_)))
 refine qC ⟨_,Za S rfl (by first|exact .there .here) (by exact rfl) (by exact rfl),?_⟩;exact ⟨tv,rfl,S.only .here⟩
theorem qcv {h0:AH} (w:WfH h0) (v:Value) (l:List QM) (hr:Qq h0 v 9 eG l) (ht:∀ i,i<l.length→Qq h0 (l.getD i default).tv.val 1 eS (l.getD i default).tg∧(l.getD i default).tg.length≤8796093021952) (hl:l.length*112≤140737488351232):Fn Tryz.prog Xh 98 [v] h0 (fun u h'=>∃ (vg:SlV) (gs:List QM),u=vg.val∧gs.map (·.toGu)=l.map (·.toGu)∧Hs h0 h' [JR gs,.sl vg.val 24 9 eG gs]):=by
 have S:=Hs.start w;refine qV rfl Tryz.func98 rfl rfl ?_;all_goals (repeat' (first|refine qi ?_|refine qh ?_|(refine qc 0 ?_;refine mv ?_;refine qf ?_)|(refine qc 1 ?_;refine mv ?_;refine qf ?_)|(refine qc 2 ?_;refine mv ?_;refine qf ?_)))
 have S:=((S.Zg (e:=24) (z:=9) (enc:=eG))).anyS (p:=fun h fp=>Star h (([]:List QM).map Zx) fp) fun h'=>trivial;replace S:Hs h0 h0 [JR [],.sl (SlV.val ⟨none,0,0⟩) 24 9 eG []]:=S;refine qJ (σ:=Nat×SlV×List QM) (fun (i,vg,gs) h'=>Hs h0 h' [JR gs,.sl vg.val 24 9 eG gs]∧i≤l.length∧gs.map (·.toGu)=(l.take i).map (·.toGu)) (fun (i,vg,gs)=>l.length - i) (fun (i,vg,gs)=>[(0,v),(3,vg.val),(4,.int .i64 i)]) (0,⟨none,0,0⟩,[]) qy ?_ ?_
 ·exact ⟨S,zB0 _,rfl⟩
 clear S;rintro ⟨i,vg,gs⟩ h ⟨S,g1,g2⟩;have hgs:gs.length=i:=by have:=congrArg List.length g2;simp at this;omega
 all_goals (repeat' (first|refine qi ?_|refine qg rfl ?_|refine qj ?_|refine qo ?_|refine qh ?_|(refine qc 3 ?_;refine mv ?_;refine mv ?_;refine Qa S ?_;(first|(refine cS ?_ ?_<;>intro hc))<;>(refine qf ?_))))
 ·have hil:i<l.length:=by omega
  all_goals (repeat' (first|(refine qc 5 ?_;(iterate 3 refine mv ?_);refine Qv S ?_;refine zu S ?_)))
  simp only [zA0];(refine qx rfl rfl rfl rfl rfl ((qdN S.wf (l.getD i default) ((ht i hil).1.ext w S.ext) (ht i hil).2).mono ?_);rintro _ h ⟨tv,rfl,x⟩)<;>(replace S:=S.Qd x;clear x;(refine one 9 S ?_;clear S;intro u h S))
  refine app (y0:={ l.getD i default with tv:=tv }) S rfl rfl ?_;clear S;intro v3 h S;obtain ⟨vg',rfl⟩:=S.sV v3;(refine mv ?_;refine qf ?_);all_goals (repeat' (first|(refine qc 4 ?_;refine mv ?_;refine ad ?_;refine mv ?_;refine qf ?_)))
  refine ⟨(i+1,vg',gs ++ [{ l.getD i default with tv:=tv }]),?_,?_,qy⟩
  ·show l.length - (i+1)<l.length - i;omega
  ·replace S:Hs h0 h (.sl vg'.val 24 9 eG (gs ++ [{ l.getD i default with tv:=tv }]) :: .sl tv.val 9 1 eS (l.getD i default).tg :: JR gs :: []):=S;have S:=(show Hs h0 h (.sl tv.val 9 1 eS (l.getD i default).tg :: JR gs :: .sl vg'.val 24 9 eG (gs ++ [{ l.getD i default with tv:=tv }]) :: []) from S.pick)
   refine ⟨Hs.qaN (g:={ l.getD i default with tv:=tv }) S,by (try dsimp only);omega,?_⟩;dsimp only;rw [zi (by omega),zC9,zC9,g2];rfl
 ·obtain rfl:i=l.length:=by omega
  rw [zD4] at g2;all_goals (repeat' (first|(refine qc 6 ?_;refine mv ?_;refine mv ?_;refine qf ?_)))
  refine qC ⟨_,rfl,?_⟩;exact ⟨vg,gs,rfl,g2,S⟩
structure RlFit (h:AH) (v:RlV) (r:Rl):Prop where
 ok:RlOk h v r
 tg:∀ i,i<v.gs.length→(v.gs.getD i default).tg.length≤8796093021952
 lg:r.us.length*112≤140737488351232
 lt:r.ts.length*40≤140737488351232
theorem RlFit.ext {h h':AH} {v:RlV} {r:Rl} (a:RlFit h v r) (w:WfH h) (x:Ext h h'):RlFit h' v r:=⟨a.ok.ext w x,a.tg,a.lg,a.lt⟩
theorem qdM {h0:AH} (w:WfH h0) (v:RlV) (r:Rl) (H:RlFit h0 v r):Fn Tryz.prog Xh 43 [v.val] h0 (fun u h'=>∃ v':RlV,u=v'.val∧v'.gs.map (·.toGu)=r.us∧Hs h0 h' (qaa v' r.ts)):=by
 have S:=Hs.start w;have hgl:=H.ok.len;have hlg:=H.lg;unfold RlV.val;refine qV rfl Tryz.func43 rfl rfl ?_;all_goals (repeat' (first|refine qi ?_|(refine qc 0 ?_;(refine bx S ?_;clear S;intro b h S);(refine al S ?_;clear S;intro b h S);refine qf ?_)))
 obtain ⟨b2,hnm⟩:∃ x,x=b:=⟨_,rfl⟩;subst hnm;obtain ⟨b1,hnm⟩:∃ x,x=b:=⟨_,rfl⟩;subst hnm;(repeat (refine qi ?_));refine Q9 (id:=1) [(4,(0,1))] [some (b1)] ?_;refine qA ?_;(first|(refine vl ?_<;>refine qf ⟨⟨by (first|exact True.intro),rfl⟩,?_⟩));refine qA ?_;(first|(refine lB S rfl rfl ?_<;>refine qf ⟨⟨by (first|exact True.intro),rfl⟩,?_⟩));((refine qA ?_;first|refine qx rfl rfl rfl rfl rfl ((qcv S.wf v.vg.val v.gs (H.ok.rg.ext w S.ext) (fun i hi=>⟨(H.ok.tg i hi).1.ext w S.ext,H.tg i hi⟩) (by omega)).mono ?_));rintro _ h ⟨vg,gs,rfl,g2,x⟩)<;>((refine qf ⟨⟨True.intro,?_⟩,?_⟩;(focus ((show keepsX _ _ _ _ _;simp only [keepsX];(repeat' (first|exact True.intro|refine And.intro ?_ ?_));all_goals (intro hw;first|exact x.ext.old _ S.bB)))));replace S:=S.gU x;clear x;refine qA ?_;(first|(refine vl ?_<;>refine qf ⟨⟨by (first|exact True.intro),rfl⟩,?_⟩));refine qA ?_;(first|(refine lB S rfl rfl ?_<;>refine qf ⟨⟨by (first|exact Or.inr rfl),rfl⟩,?_⟩)))
 ((refine qA ?_;first|refine qx rfl rfl rfl rfl rfl ((qdL S.wf v.vt.val r.ts (H.ok.rt.ext w S.ext) H.lt).mono ?_));rintro u h x)<;>((refine qf ⟨⟨True.intro,?_⟩,?_⟩;(focus ((show keepsX _ _ _ _ _;simp only [keepsX];(repeat' (first|exact True.intro|refine And.intro ?_ ?_));all_goals (intro hw;first|exact x.ext.old _ S.bB)))));replace S:=S.Qd x;clear x;obtain ⟨vt',rfl⟩:=S.sV u;refine qA ?_;(first|(refine vl ?_<;>refine qf ⟨⟨by (first|exact True.intro),rfl⟩,?_⟩));refine qA ?_;(first|((refine sB S rfl rfl ?_;have S0:=S;clear S;intro h S);refine qf ⟨⟨True.intro,?_⟩,?_⟩;(focus ((show keepsX _ _ _ _ _;simp only [keepsX];(repeat' (first|exact True.intro|refine And.intro ?_ ?_));all_goals (intro hw;first|exact (S.gB).trans (S0.gB).symm))));clear S0));refine ZG ?_)
 all_goals (repeat' (fail))
 refine qC ⟨_,Za S rfl (by first|exact .there (.there (.there .here))) (by exact rfl) (by exact rfl),?_⟩;refine ⟨⟨vg,vt',gs⟩,rfl,g2.trans H.ok.us,?_⟩;exact (show Hs h0 h [.sl vg.val 24 9 eG gs,.sl vt'.val 111 3 jb r.ts,JR gs] from S.pick)
end Go.Proofs.Xx
namespace Go.Proofs.Xx
open Go Go.Proofs
theorem Sep.front {lo:Nat} {h:AH} {r:Rs} {l2:List Rs}:∀ {l1:List Rs} {V:Fp},Sep lo h (l1 ++ r :: l2) V→Sep lo h (r :: (l1 ++ l2)) V
 | [],_,k=>k
 | x :: l1,V,⟨fx,h1,h2,h3⟩=>by
  obtain ⟨fr,k1,k2,k3⟩:=Sep.front h3;exact ⟨fr,k1,fun b hb=>⟨(k2 b hb).1,(k2 b hb).2.1,(k2 b hb).2.2.1⟩,fx,h1,fun b hb=>⟨(h2 b hb).1,(h2 b hb).2.1,(h2 b hb).2.2,fun q=>(k2 b q).2.2.2 hb⟩,k3.mono fun b hb=>⟨⟨hb.1.1,hb.2⟩,hb.1.2⟩⟩
theorem Sep.back {lo:Nat} {h:AH} {r:Rs} {l2:List Rs}:∀ {l1:List Rs} {V:Fp},Sep lo h (r :: (l1 ++ l2)) V→Sep lo h (l1 ++ r :: l2) V
 | [],_,k=>k
 | x :: l1,V,⟨fr,k1,k2,fx,h1,h2,k3⟩ =>
  ⟨fx,h1,fun b hb=>⟨(h2 b hb).1,(h2 b hb).2.1,(h2 b hb).2.2.1⟩,Sep.back ⟨fr,k1,fun b hb=>⟨(k2 b hb).1,(k2 b hb).2.1,(k2 b hb).2.2,fun q=>(h2 b q).2.2.2 hb⟩,k3.mono fun b hb=>⟨⟨hb.1.1,hb.2⟩,hb.1.2⟩⟩⟩
theorem Hs.qdb {h0 h:AH} {rs:List Rs} {gs:List QM} (S:Hs h0 h (JR gs :: rs)):Hs h0 h (gs.map Zx ++ rs):=by
 obtain ⟨U,k1,k2,k3⟩:=S.sep;exact ⟨S.ext,Star.sep (k1 h fun _ _=>rfl) k2 k3⟩
theorem Hs.qda {h0 h:AH} {rs:List Rs} {gs:List QM} (S:Hs h0 h (gs.map Zx ++ rs)):Hs h0 h (JR gs :: rs):=by
 obtain ⟨U,k1,k2,k3⟩:=Sep.star S.sep;exact ⟨S.ext,U,fun h' q=>k1.local q,k2,k3⟩
theorem Hs.KY {h0 h:AH} {rs:List Rs} {gs:List QM} (S:Hs h0 h (JR gs :: rs)) {i:Nat} (hi:i<gs.length):Hs h0 h (Zx (gs.getD i default) :: JR (gs.take i ++ gs.drop (i+1)) :: rs):=by
 have S:=S.qdb;have e:gs=gs.take i ++ gs.getD i default :: gs.drop (i+1):=by
  rw [zA2,zA4 hi,zH7,← zG7 hi,zH1]
 have S2:Hs h0 h ((gs.take i).map Zx ++ Zx (gs.getD i default) :: ((gs.drop (i+1)).map Zx ++ rs)):=by
  have:=S;rw [e] at this;simpa using this
 have S3:Hs h0 h (Zx (gs.getD i default) :: ((gs.take i).map Zx ++ ((gs.drop (i+1)).map Zx ++ rs))):=⟨S.ext,Sep.front S2.sep⟩
 obtain ⟨f,k1,k2,k3⟩:=S3.sep;refine ⟨S.ext,f,k1,k2,?_⟩;rw [← zF2,← zC9] at k3;obtain ⟨U,q1,q2,q3⟩:=Sep.star k3;exact ⟨U,fun h' q=>q1.local q,q2,q3⟩
theorem Hs.KX {h0 h:AH} {rs:List Rs} {gs:List QM} {g:QM} {i:Nat} (S:Hs h0 h (Zx g :: JR (gs.take i ++ gs.drop (i+1)) :: rs)) (hi:i<gs.length):Hs h0 h (JR (gs.set i g) :: rs):=by
 obtain ⟨f,k1,k2,U,q1,q2,q3⟩:=S.sep;have k3:=Star.sep (q1 h fun _ _=>rfl) q2 q3;rw [zC9,zF2] at k3;have S2:Hs h0 h ((gs.take i).map Zx ++ Zx g :: ((gs.drop (i+1)).map Zx ++ rs)):=⟨S.ext,Sep.back ⟨f,k1,k2,k3⟩⟩
 refine Hs.qda ?_;rw [List.set_eq_take_append_cons_drop,if_pos hi];simpa using S2
variable [Flag]
theorem qar {h0:AH} (w:WfH h0) (v:RlV) (r:Rl) (H:RlOk h0 v r):Fn Tryz.prog Xh 44 [v.val] h0 (fun u h'=>((u = .tuple #[.int .i64 0,.int .i64 0]∧VRl r)∨∃ i e,u = .tuple #[.int .i64 i,.int .i64 e]∧Bad r i e)∧Hs h0 h' []):=by
 have S:=Hs.start w;unfold RlV.val;refine qV rfl Tryz.func44 rfl rfl ?_;all_goals (repeat' (first|refine qi ?_|refine qg rfl ?_|refine qj ?_|refine qo ?_|refine qh ?_|refine qp ?_|refine qw ?_|(refine qc 0 ?_;(refine bx S ?_;clear S;intro b h S);refine mv ?_;refine mv ?_;refine qf ?_)|(refine qc 1 ?_;(first|refine lB S rfl rfl ?_|refine qB S rfl rfl ?_|refine zu S ?_|refine lH S ?_))))
 (refine qx rfl rfl rfl rfl rfl ((V3 S.wf v r (H.ext w S.ext)).mono ?_);rintro _ h (⟨p,rfl,hv,x⟩|⟨i,e,rfl,hb,x⟩))<;>(refine mv ?_;refine vl ?_;refine vl ?_;refine vl ?_;(iterate 3 refine mv ?_);refine qf ?_)
 ·replace S:=S.join x;all_goals (repeat' (first|refine qi ?_|refine qg rfl ?_|refine qj ?_|refine qo ?_|refine qh ?_|refine qp ?_|refine qw ?_|(refine qc 2 ?_;(iterate 4 refine mv ?_);refine qf ?_)))
  refine qC ⟨_,rfl,?_⟩;exact ⟨.inl ⟨rfl,hv⟩,S.drop⟩
 ·replace S:=S.join x;all_goals (repeat' (first|refine qi ?_|refine qg rfl ?_|refine qj ?_|refine qo ?_|refine qh ?_|refine qp ?_|refine qw ?_|(refine qc 2 ?_;(iterate 4 refine mv ?_);refine qf ?_)))
  refine qC ⟨_,rfl,?_⟩;exact ⟨.inr ⟨_,_,rfl,hb⟩,S.drop⟩
theorem qcy {h0:AH} (w:WfH h0) {p:Nat} {r:Rl} (B:BkRd h0 p r):Fn Tryz.prog Xh 50 [.pointer (some ⟨p,0,none⟩)] h0 (fun u h'=>u = .int .i64 r.us.length∧Hs h0 h' []):=by
 have S:=Hs.start w;obtain ⟨s,B⟩:=B;have hb:=B.bk;have hrg:=B.rg;have hgl:=B.len;refine qV rfl Tryz.func50 rfl rfl ?_;all_goals (repeat' (first|refine qi ?_|refine qg rfl ?_|refine qj ?_|refine qo ?_|refine qh ?_|refine qp ?_|refine qw ?_|(refine qc 0 ?_;refine mv ?_;refine qf ?_)|(refine qc 1 ?_;refine mv ?_)))
 (refine qx rfl rfl rfl rfl rfl ((QK S.wf (S.ext.get w hb)).mono ?_);rintro _ h ⟨rfl,x⟩)<;>(replace S:=S.qL x;clear x;refine qf ?_)
 all_goals (repeat' (first|refine qi ?_|refine qg rfl ?_|refine qj ?_|refine qo ?_|refine qh ?_|refine qp ?_|refine qw ?_|(refine qc 2 ?_;refine mv ?_;refine qf ?_)|(refine qc 3 ?_;refine mv ?_;refine vl ?_;(first|refine vl ?_|refine fB S ?_|refine fS S rfl rfl ?_|refine fA ?_);(first|refine vl ?_|refine fB S ?_|refine fS S rfl rfl ?_|refine fA ?_);(first|refine lB S rfl rfl ?_|refine qB S rfl rfl ?_|refine zu S ?_|refine lH S ?_);(first|refine Qa S ?_|refine QC S rfl rfl ?_);refine mv ?_;refine qf ?_)))
 refine qC ⟨_,rfl,?_⟩;exact ⟨by rw [hgl];rfl,S.drop⟩
end Go.Proofs.Xx
namespace Go.Proofs.Xx
open Go Go.Proofs
variable [Flag]
theorem qcd {h0:AH} (w:WfH h0) {p:Nat} {r:Rl} (B:BkRd h0 p r) (v:RlV) (HR:RlOk h0 v r) (H:RO r):Fn Tryz.prog Xh 45 [.pointer (some ⟨p,0,none⟩),v.val] h0 (fun u h'=>u = .bool true∧Hs h0 h' []):=by
 have S:=Hs.start w;have hgl:=HR.len;have hrg:=HR.rg;have h64:=H.l64;unfold RlV.val;refine qV rfl Tryz.func45 rfl rfl ?_;all_goals (repeat' (first|refine qi ?_|(refine qc 0 ?_;(refine bx S ?_;clear S;intro b h S);refine mv ?_;refine qf ?_)))
 obtain ⟨b3,hnm⟩:∃ x,x=b:=⟨_,rfl⟩;subst hnm;all_goals (repeat' (first|(refine qc 1 ?_;refine mv ?_)))
 (refine qx rfl rfl rfl rfl rfl ((Pi S.wf (B.ext w S.ext) H).mono ?_);rintro _ h ⟨⟨vg,vt,gs⟩,rfl,g2,x⟩)<;>(replace S:=S.join x;clear x;dsimp only [qaa,List.cons_append,List.nil_append] at S;unfold RlV.val;dsimp only;(refine al S ?_;clear S;intro b h S);(first|(refine sB S rfl rfl ?_;clear S;intro h S));refine qf ?_)
 obtain ⟨b5,hnm⟩:∃ x,x=b:=⟨_,rfl⟩;subst hnm;replace S:Hs h0 h (.blk b5 [vg.val,vt.val] 32 :: .sl vg.val 24 9 eG gs :: .sl vt.val 111 3 jb r.ts :: JR gs :: .blk b3 [v.vg.val,v.vt.val] 32 :: []):=S;have h256:=H.l256;have hR1:r.us.length≤9223372036854775807:=by omega
 have hR2:r.ts.length≤9223372036854775807:=by omega
 have hR3:∀ g∈r.us,g.tg.length≤9223372036854775807:=fun g hg=>by have:=(wu (H.chk g hg)).2.2.2.1;omega
 have hgs:gs.length=r.us.length:=by rw [← g2,zC5]
 have R1:RlOk h ⟨vg,vt,gs⟩ r:=Hs.qdi (v:=⟨vg,vt,gs⟩) (rs:=[]) (show Hs h0 h [.sl vg.val 24 9 eG gs,.sl vt.val 111 3 jb r.ts,JR gs] from S.pick) g2 hR1 hR2 hR3;(repeat (refine qi ?_));refine Q9 (id:=2) [(8,(1,2))] [some (b3)] ?_;refine qA ?_;(first|(refine lB S rfl rfl ?_<;>refine qf ⟨⟨by (first|exact True.intro),rfl⟩,?_⟩));refine qA ?_;(first|(refine lB S rfl rfl ?_<;>refine qf ⟨⟨by (first|exact True.intro),rfl⟩,?_⟩));((refine qA ?_;first|refine qx rfl rfl rfl rfl rfl ((ZJ S.wf ⟨vg,vt,gs⟩ v r r R1 (HR.ext w S.ext)).mono ?_));rintro _ h ⟨⟨rfl,z⟩|⟨rfl,z⟩,x⟩)<;>((refine qf ⟨⟨True.intro,?_⟩,?_⟩;(focus ((show keepsX _ _ _ _ _;simp only [keepsX];(repeat' (first|exact True.intro|refine And.intro ?_ ?_));all_goals (intro hw;first|exact x.ext.old _ S.bB)))));replace S:=S.qL x;clear x;refine qA ?_;(first|(refine vl ?_<;>refine qf ⟨⟨by (first|exact True.intro),rfl⟩,?_⟩));refine qA ?_;(first|(refine mv ?_<;>refine qf ⟨⟨by (first|exact True.intro),rfl⟩,?_⟩));refine qA ?_;(first|(refine off ?_;refine qf ⟨⟨by (first|exact True.intro),rfl⟩,?_⟩)|(refine mv ?_<;>refine qf ⟨⟨by (first|exact True.intro),rfl⟩,?_⟩));(first|(refine qA ?_;refine off ?_;refine qf ⟨⟨True.intro,by show keepsX _ _ _ _ _;simp [keepsX]⟩,?_⟩;refine qA ?_;(first|(refine off ?_;refine qf ⟨⟨by (first|exact True.intro),rfl⟩,?_⟩));refine qA ?_;(first|(refine off ?_;refine qf ⟨⟨by (first|exact Or.inl rfl),rfl⟩,?_⟩));refine qA ?_;(first|(refine off ?_;refine qf ⟨⟨by (first|exact True.intro),rfl⟩,?_⟩));refine qA ?_;(first|(refine off ?_;refine qf ⟨⟨by (first|exact True.intro),rfl⟩,?_⟩))<;>(refine qA ?_;(first|(refine vl ?_<;>refine qf ⟨⟨by (first|exact True.intro),rfl⟩,?_⟩));refine ZG ?_))|skip))
 all_goals first|exact absurd rfl z|skip
 all_goals (((refine qA ?_;first|refine qx rfl rfl rfl rfl rfl ((qcy S.wf (B.ext w S.ext)).mono ?_));rintro _ h ⟨rfl,x⟩)<;>((refine qf ⟨⟨True.intro,?_⟩,?_⟩;(focus ((show keepsX _ _ _ _ _;simp only [keepsX];(repeat' (first|exact True.intro|refine And.intro ?_ ?_));all_goals (intro hw;first|exact x.ext.old _ S.bB)))));replace S:=S.qL x;clear x;refine qA ?_;(first|(refine vl ?_<;>refine qf ⟨⟨by (first|exact True.intro),rfl⟩,?_⟩));refine qA ?_;(first|(refine lB S rfl rfl ?_<;>refine qf ⟨⟨by (first|exact Or.inr rfl),rfl⟩,?_⟩));refine qA ?_;(first|(refine Qa S ?_<;>refine qf ⟨⟨by (first|exact True.intro),rfl⟩,?_⟩));refine qA ?_;(first|(refine cF ?_<;>refine qf ⟨⟨by (first|exact True.intro),rfl⟩,?_⟩))<;>(refine qA ?_;(first|(refine vl ?_<;>refine qf ⟨⟨by (first|exact True.intro),rfl⟩,?_⟩));refine ZG ?_)))
 all_goals (repeat' (first|refine qi ?_|refine qg rfl ?_|refine qj ?_|refine qh ?_|(refine qc 4 ?_;refine mv ?_;refine qf ?_)))
 ·obtain ⟨n,hn⟩:∃ n,n=r.us.length:=⟨_,rfl⟩
  refine qJ (σ:=Nat×List QM×List QM) (fun (i,ks,ms) h'=>Hs h0 h' [.blk b5 [vg.val,vt.val] 32,.sl vg.val 24 9 eG ks,.sl vt.val 111 3 jb r.ts,JR ms,.blk b3 [v.vg.val,v.vt.val] 32]∧i≤n∧ks.length=n∧ms.length=n∧∀ k,k<n→(ks.getD k default).tv=(ms.getD k default).tv∧(ms.getD k default).tg.length≤9223372036854775807) (fun (i,ks,ms)=>n - i) (fun (i,ks,ms)=>[(0,.pointer (some ⟨p,0,none⟩)),(3,.pointer (some ⟨b3,0,none⟩)),(5,.pointer (some ⟨b5,0,none⟩)),(6,.int .i64 i)]) (0,gs,gs) qy ?_ ?_
  ·refine ⟨S,zB0 _,by omega,by omega,fun k hk=>⟨rfl,?_⟩⟩;exact hR3 _ (by rw [← g2];exact zF1.2 ⟨_,qO (show k<gs.length by omega),rfl⟩)
  clear S;rintro ⟨i,ks,ms⟩ h ⟨S,i1,i2,i3,i4⟩;all_goals (repeat' (first|refine qi ?_|refine qg rfl ?_|refine qj ?_|refine qo ?_|refine qh ?_|(refine qc 5 ?_;refine mv ?_;refine vl ?_;refine lB S rfl rfl ?_;refine QC S rfl rfl ?_;(first|(refine cS ?_ ?_<;>intro hc))<;>(refine qf ?_))|(refine qc 7 ?_;refine mv ?_;refine qf ?_)))
  ·have hik:i<ks.length:=by omega
   have him:i<ms.length:=by omega
   obtain ⟨e1,e2⟩:=i4 i (by omega);have S:=(show Hs h0 h (JR ms :: .blk b5 [vg.val,vt.val] 32 :: .sl vg.val 24 9 eG ks :: .sl vt.val 111 3 jb r.ts :: .blk b3 [v.vg.val,v.vt.val] 32 :: []) from S.pick)
   replace S:=S.KY him;rw [show Zx (ms.getD i default)=Rs.sl (ks.getD i default).tv.val 9 1 eS (ms.getD i default).tg by unfold Zx;rw [e1]] at S;refine qJ (σ:=Nat×List (List UInt8)) (fun (j,l) h'=>Hs h0 h' [.sl (ks.getD (Int.ofNat i).toNat default).tv.val 9 1 eS l,JR (ms.take i ++ ms.drop (i+1)),.blk b5 [vg.val,vt.val] 32,.sl vg.val 24 9 eG ks,.sl vt.val 111 3 jb r.ts,.blk b3 [v.vg.val,v.vt.val] 32]∧j≤l.length∧l.length≤9223372036854775807) (fun (j,l)=>l.length - j) (fun (j,l)=>[(0,.pointer (some ⟨p,0,none⟩)),(3,.pointer (some ⟨b3,0,none⟩)),(5,.pointer (some ⟨b5,0,none⟩)),(6,.int .i64 i),(7,.int .i64 j)]) (0,(ms.getD i default).tg) qy ?_ ?_
   ·exact ⟨S,zB0 _,e2⟩
   clear S;rintro ⟨j,l⟩ h ⟨S,j1,j2⟩;all_goals (repeat' (first|refine qi ?_|refine qg rfl ?_|refine qj ?_|refine qo ?_|refine qh ?_|(refine qc 8 ?_;refine mv ?_;refine vl ?_;refine lB S rfl rfl ?_;refine mv ?_;refine qF S rfl rfl ?_;refine fS S rfl rfl ?_;refine qB S rfl rfl ?_;refine QC S rfl rfl ?_;(first|(refine cS ?_ ?_<;>intro hc))<;>(refine qf ?_))))
   ·have hjl:j<l.length:=by omega
    all_goals (repeat' (first|(refine qc 10 ?_;refine vl ?_;refine lB S rfl rfl ?_;refine mv ?_;refine qF S rfl rfl ?_;refine fS S rfl rfl ?_;refine qB S rfl rfl ?_;refine mv ?_;refine qF S rfl rfl ?_;(first|(refine zZ S rfl rfl ?_;clear S;intro h S));refine qf ?_)))
    simp only [zA0] at S;all_goals (repeat' (first|(refine qc 9 ?_;refine mv ?_;refine ad ?_;refine mv ?_;refine qf ?_)))
    refine ⟨(j+1,l.set j [120]),?_,?_,qy⟩
    ·show (l.set j _).length - (j+1)<l.length - j;rw [zF5];omega
    ·refine ⟨S,?_,?_⟩<;>(try dsimp only)<;>rw [zF5]<;>omega
   ·skip
    have ey:(ks.getD i default).tv=(({ (ks.getD i default) with name:=[120] }:QM)).tv:=rfl;(repeat (refine qi ?_));refine qc 11 ?_;refine vl ?_;refine lB S rfl rfl ?_;refine mv ?_;refine qF S rfl rfl ?_;refine fS S rfl rfl ?_;refine zZ (y:={ ks.getD (Int.ofNat i).toNat default with name:=[120] }) S rfl rfl ?_;clear S;intro h S;(refine qf ?_);all_goals (repeat' (first|(refine qc 6 ?_;refine mv ?_;refine ad ?_;refine mv ?_;refine qf ?_)))
    refine ⟨(i+1,ks.set i { ks.getD i default with name:=[120] },ms.set i { ms.getD i default with tg:=l }),?_,?_,qy⟩
    ·show n - (i+1)<n - i;omega
    ·have S1:Hs h0 h (.sl (ms.getD i default).tv.val 9 1 eS l :: JR (ms.take i ++ ms.drop (i+1)) :: .blk b5 [vg.val,vt.val] 32 :: .sl vg.val 24 9 eG (ks.set i { ks.getD i default with name:=[120] }) :: .sl vt.val 111 3 jb r.ts :: .blk b3 [v.vg.val,v.vt.val] 32 :: []):=by rw [← e1];exact S
     have S2:=Hs.KX (g:={ ms.getD i default with tg:=l }) S1 him;refine ⟨S2.pick,by (try dsimp only);omega,by simpa using i2,by simpa using i3,fun k hk=>?_⟩;by_cases q:i=k
     ·subst q;simp only [zA2,List.getElem?_set,if_pos hik,if_pos him,if_true,zH7];exact ⟨by simpa [zA2] using e1,j2⟩
     ·simp only [zA2,List.getElem?_set,if_neg q];simpa [zA2] using i4 k hk
  ·clear g2;all_goals (repeat' (first|refine qh ?_|(refine qc 12 ?_;refine mv ?_;refine qf ?_)))
   refine qJ (σ:=Nat×List Ti) (fun (i,ts) h'=>Hs h0 h' [.blk b5 [vg.val,vt.val] 32,.sl vt.val 111 3 jb ts,.blk b3 [v.vg.val,v.vt.val] 32]∧i≤ts.length∧ts.length≤256) (fun (i,ts)=>ts.length - i) (fun (i,ts)=>[(0,.pointer (some ⟨p,0,none⟩)),(3,.pointer (some ⟨b3,0,none⟩)),(5,.pointer (some ⟨b5,0,none⟩)),(8,.int .i64 i)]) (0,r.ts) qy ?_ ?_
   ·exact ⟨S.pick,zB0 _,h256⟩
   clear S;rintro ⟨k,ts⟩ h ⟨S,k1,k2⟩;all_goals (repeat' (first|refine qi ?_|refine qg rfl ?_|refine qj ?_|refine qo ?_|refine qh ?_|(refine qc 13 ?_;refine mv ?_;refine vl ?_;refine lB S rfl rfl ?_;refine QC S rfl rfl ?_;(first|(refine cS ?_ ?_<;>intro hc))<;>(refine qf ?_))))
   ·have hkl:k<ts.length:=by omega
    (repeat (refine qi ?_));refine qc 15 ?_;refine vl ?_;refine lB S rfl rfl ?_;refine mv ?_;refine qF S rfl rfl ?_;refine fS S rfl rfl ?_;refine zZ (y:={ ts.getD (Int.ofNat k).toNat default with a:=[120] }) S rfl rfl ?_;clear S;intro h S;(refine qf ?_);all_goals (repeat' (first|(refine qc 14 ?_;refine mv ?_;refine ad ?_;refine mv ?_;refine qf ?_)))
    refine ⟨(k+1,ts.set (Int.ofNat k).toNat { ts.getD (Int.ofNat k).toNat default with a:=[120] }),?_,?_,qy⟩
    ·show (ts.set _ _).length - (k+1)<ts.length - k;rw [zF5];omega
    ·refine ⟨S,?_,?_⟩<;>(try dsimp only)<;>rw [zF5]<;>omega
   ·skip
    (repeat (refine qi ?_));refine Q9 (id:=16) [(2,(0,1))] [some (b3)] ?_;refine qA ?_;(first|(refine mv ?_<;>refine qf ⟨⟨by (first|exact True.intro),rfl⟩,?_⟩));((refine qA ?_;first|refine qx rfl rfl rfl rfl rfl ((Pi S.wf (B.ext w S.ext) H).mono ?_));rintro _ h ⟨rv,rfl,hus,x⟩)<;>((refine qf ⟨⟨True.intro,?_⟩,?_⟩;(focus ((show keepsX _ _ _ _ _;simp only [keepsX];(repeat' (first|exact True.intro|refine And.intro ?_ ?_));all_goals (intro hw;first|exact x.ext.old _ S.bB)))));replace S:=S.join x;clear x;dsimp only [qaa,List.cons_append,List.nil_append] at S;refine qA ?_;(first|(refine lB S rfl rfl ?_<;>refine qf ⟨⟨by (first|exact Or.inr rfl),rfl⟩,?_⟩)))
    ((refine qA ?_;first|refine qx rfl rfl rfl rfl rfl ((ZJ S.wf rv v r r (Hs.qdi (v:=rv) S hus hR1 hR2 hR3) (HR.ext w S.ext)).mono ?_));rintro _ h ⟨⟨rfl,z⟩|⟨rfl,z⟩,x⟩)<;>((refine qf ⟨⟨True.intro,?_⟩,?_⟩;(focus ((show keepsX _ _ _ _ _;simp only [keepsX];(repeat' (first|exact True.intro|refine And.intro ?_ ?_));all_goals (intro hw;first|exact x.ext.old _ S.bB)))));replace S:=S.qL x;clear x;refine qA ?_;(first|(refine mv ?_<;>refine qf ⟨⟨by (first|exact True.intro),rfl⟩,?_⟩));refine ZG ?_)
    all_goals first|exact absurd rfl z|skip
    all_goals (repeat' (fail))
    refine qC ⟨_,rfl,?_⟩;exact ⟨rfl,S.drop⟩
end Go.Proofs.Xx
