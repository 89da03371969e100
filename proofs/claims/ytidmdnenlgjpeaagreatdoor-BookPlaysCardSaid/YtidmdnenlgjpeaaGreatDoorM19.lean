/-
  The reference's circles.
-/
import Derived.Test.YtidmdnenlgjpeaaGreatDoorM18
import Derived.Test.YtidmdnenlgjpeaaGreatDoorM15
import Derived.Test.YtidmdnenlgjpeaaGreatDoorM12
import Derived.Test.YtidmdnenlgjpeaaGreatDoorM13
import Derived.Test.YtidmdnenlgjpeaaGreatDoorM16
set_option linter.unusedSimpArgs false
set_option linter.unusedVariables false
set_option linter.unusedSectionVars false
set_option maxRecDepth 100000
set_option maxHeartbeats 4000000
namespace Go.Proofs.Xx
open Go Go.Proofs
variable [Flag]
theorem Gi {h0:AH} (w:WfH h0) (v:RlV) (r:Rl) (HR:RlOk h0 v r) (H:RO r):Fn Tryz.prog Xh 100 [v.val] h0 (fun u h'=>∃ cs,Hs h0 h' [.sl u 22 1 gI cs,wY cs]∧CirOk r cs∧(∀ x,gat r.us x≠none→∃ w∈cs,x∈w.ws)∧cs.length≤64):=by
 have S:=Hs.start w;have h64:=H.l64;unfold RlV.val;refine qZ rfl Tryz.func100 rfl rfl ?_;all_goals (repeat' (first|refine qg ?_|(refine qc 0 ?_;(refine bx S ?_;clear S;intro b h S);refine qK ?_)))
 obtain ⟨b1,hnm⟩:∃ x,x=b:=⟨_,rfl⟩;subst hnm;replace S:Hs h0 h (.blk b1 [v.vg.val,v.vt.val] 32 :: []):=S;all_goals (repeat' (first|(refine qc 1 ?_;refine lB S rfl rfl ?_)))
 (refine qx rfl rfl rfl rfl rfl ((Vx S.wf v r (HR.ext w S.ext) H).mono ?_);rintro un h ⟨ns,x,n1,n2,n3⟩)<;>(replace S:=S.zQ x;clear x;refine qK ?_)
 have hns:∀ x,gat r.us x≠none→x∈ns:=fun x hx=>(n2 x).2 hx;have hnl:ns.length≤64:=by omega
 have S:=S.Qb (e:=9) (z:=1) (enc:=eS);all_goals (repeat' (first|refine qg ?_|refine qi ?_|(refine qc 2 ?_;refine qK ?_)|(refine qc 3 ?_;refine qK ?_)))
 refine qH (σ:=Nat×Value) (fun (i,v4) h'=>Hs h0 h' [.sl v4 9 1 eS (lst ns (List.range i)),.sl un 9 1 eS ns,.blk b1 [v.vg.val,v.vt.val] 32]∧i≤ns.length) (fun (i,v4)=>ns.length - i) (fun (i,v4)=>[(1,.pointer (some ⟨b1,0,none⟩)),(3,un),(4,v4),(5,.int .i64 i)]) (0,.slice none 0 0) qo ?_ ?_
 ·exact ⟨S,zB0 _⟩
 clear S;rintro ⟨i,v4⟩ h ⟨S,g1⟩;have hll:(lst ns (List.range i)).length=i:=by simp [lst]
 all_goals (repeat' (first|refine qg ?_|refine qh rfl ?_|refine qj ?_|refine qw ?_|refine qi ?_|(refine qc 4 ?_;refine qE ?_;refine ZJ S rfl rfl ?_;(first|(refine cS ?_ ?_<;>intro hc))<;>(refine qf ?_))))
 ·have hil:i<ns.length:=by omega
  have e1:lst ns (List.range (i+1))=lst ns (List.range i) ++ [ns.getD i default]:=by unfold lst;rw [List.range_succ,zC9];rfl
  all_goals (repeat' (first|(refine qc 6 ?_;refine qE ?_;refine mv ?_;refine qy S rfl rfl ?_;refine qI S rfl rfl ?_;(refine one 1 S ?_;clear S;intro u h S))))
  simp only [zA0] at *;refine app (y0:=ns.getD i default) S rfl rfl ?_;clear S;intro v4 h S;(refine qK ?_);all_goals (repeat' (first|(refine qc 5 ?_;refine qO ?_)))
  refine ⟨(i+1,v4),?_,?_,qo⟩
  ·show ns.length - (i+1)<ns.length - i;omega
  ·refine ⟨?_,by (try dsimp only);omega⟩;(try dsimp only);rw [e1];exact S.pick
 ·obtain rfl:i=ns.length:=by omega
  have I0:LI r ns (List.range ns.length):=by
   have hg:∀ i,i<ns.length→(List.range ns.length).getD i default=i:=fun i hi=>by
    rw [zA2,List.getElem?_range hi];rfl
   refine ⟨by simp,fun i hi=>?_,fun i hi=>?_⟩
   ·simp only [List.length_range] at hi;rw [hg i hi];exact zA3 _
   ·simp only [List.length_range] at hi;rw [hg i hi];exact .refl
  clear hll;all_goals (repeat' (first|refine qg ?_|refine qi ?_|(refine qc 7 ?_;refine qK ?_)))
  refine qH (σ:=List Nat×Bool) (fun (P,ch) h'=>Hs h0 h' [.sl v4 9 1 eS (lst ns P),.sl un 9 1 eS ns,.blk b1 [v.vg.val,v.vt.val] 32]∧LI r ns P∧(ch=false→LC r ns P)) (fun (P,ch)=>2*P.sum+(if ch then 1 else 0)) (fun (P,ch)=>[(1,.pointer (some ⟨b1,0,none⟩)),(3,un),(4,v4),(6,.bool ch)]) (List.range ns.length,true) qo ?_ ?_
  ·exact ⟨S,I0,fun q=>by cases q⟩
  clear S I0;rintro ⟨P,ch⟩ h ⟨S,I,C⟩;have hfl:=I.len;have hll:(lst ns P).length=ns.length:=by simp [lst];exact hfl
  cases ch
  ·replace C:=C rfl;all_goals (repeat' (first|refine qg ?_|refine qh rfl ?_|refine qw ?_|refine qi ?_|(refine qc 8 ?_;refine qK ?_)|(refine qc 20 ?_;refine qK ?_)|(refine qc 21 ?_;refine qK ?_)))
   have S:=(S.Qb (e:=22) (z:=1) (enc:=gI)).anyS (p:=WdsOk []) fun h' g hg=>by cases hg
   replace S:Hs h0 h (wY [] :: .sl (.slice none 0 0) 22 1 gI [] :: .sl v4 9 1 eS (lst ns P) :: .sl un 9 1 eS ns :: .blk b1 [v.vg.val,v.vt.val] 32 :: []):=S;refine qH (σ:=Nat×Value×List Wd) (fun (i,v11,cs) h'=>Hs h0 h' [.sl v11 22 1 gI cs,wY cs,.sl v4 9 1 eS (lst ns P),.sl un 9 1 eS ns,.blk b1 [v.vg.val,v.vt.val] 32]∧i≤ns.length∧cs.map (·.ws)=Xc ns P i) (fun (i,v11,cs)=>ns.length - i) (fun (i,v11,cs)=>[(3,un),(4,v4),(11,v11),(12,.int .i64 i)]) (0,.slice none 0 0,[]) qo ?_ ?_
   ·exact ⟨S.pick,zB0 _,rfl⟩
   clear S;rintro ⟨i,v11,cs⟩ h ⟨S,g1,g2⟩;have hcl:cs.length≤i:=by
    have:=congrArg List.length g2;rw [zC5] at this;rw [this];exact qa6 ns P i
   all_goals (repeat' (first|refine qg ?_|refine qh rfl ?_|refine qj ?_|refine qw ?_|(refine qc 22 ?_;refine qE ?_;refine ZJ S rfl rfl ?_;(first|(refine cS ?_ ?_<;>intro hc))<;>(refine qf ?_))))
   ·have hil:i<ns.length:=by omega
    have hsu:=PK ns P i;(repeat (refine qg ?_));first|refine ZG (σ:=Value×List Wd) (fun (v11,cs) h'=>Hs h0 h' [.sl v11 22 1 gI cs,wY cs,.sl v4 9 1 eS (lst ns P),.sl un 9 1 eS ns,.blk b1 [v.vg.val,v.vt.val] 32]∧cs.map (·.ws)=Xc ns P (i+1)) (fun (v11,cs)=>[(3,un),(4,v4),(11,v11),(12,.int .i64 i)]) ?_ ?_
    ·all_goals (repeat' (first|refine qg ?_|refine qh rfl ?_|refine qj ?_|refine qw ?_|refine qi ?_|(refine qJ 24 ?_;refine qE ?_;refine qy S rfl rfl ?_;refine qI S rfl rfl ?_;refine qE ?_;refine qy S rfl rfl ?_;refine qI S rfl rfl ?_;(refine tS ?_ ?_<;>intro hc)<;>(refine qf ?_))))
     all_goals (try simp only [zA0] at *)
     all_goals (try rw [Y4 (by omega)] at hc)
     ·have hpi:=I.le i (by omega);have hp:P.getD i default=i:=n1.inj (by omega) hil hc;all_goals (repeat' (first|refine qg ?_|refine qi ?_|(refine qc 25 ?_;refine qK ?_)|(refine qc 26 ?_;refine qK ?_)))
      have S:=S.Qb (e:=9) (z:=1) (enc:=eS);refine qH (σ:=Nat×Value) (fun (k,v13) h'=>Hs h0 h' [.sl v13 9 1 eS (Jv ns P i k),.sl v11 22 1 gI cs,wY cs,.sl v4 9 1 eS (lst ns P),.sl un 9 1 eS ns,.blk b1 [v.vg.val,v.vt.val] 32]∧k≤ns.length) (fun (k,v13)=>ns.length - k) (fun (k,v13)=>[(3,un),(4,v4),(11,v11),(12,.int .i64 i),(13,v13),(14,.int .i64 k)]) (0,.slice none 0 0) qo ?_ ?_
      ·exact ⟨S,zB0 _⟩
      clear S;rintro ⟨k,v13⟩ h ⟨S,k1⟩;have hcl2:=qcb ns P i k;all_goals (repeat' (first|refine qg ?_|refine qh rfl ?_|refine qj ?_|refine qw ?_|refine qi ?_|(refine qc 27 ?_;refine qE ?_;refine ZJ S rfl rfl ?_;(first|(refine cS ?_ ?_<;>intro hc))<;>(refine qf ?_))))
      ·have hkl:k<ns.length:=by omega
       have hpk:=I.le k (by omega);have hsu2:=qa7 ns P i k;all_goals (repeat' (first|refine qh rfl ?_|refine qj ?_|(refine qJ 29 ?_;refine qE ?_;refine qy S rfl rfl ?_;refine qI S rfl rfl ?_;refine qE ?_;refine qy S rfl rfl ?_;refine qI S rfl rfl ?_;(refine tS ?_ ?_<;>intro hc)<;>(refine qf ?_))))
       all_goals (try simp only [zA0] at *)
       all_goals (try rw [Y4 (by omega)] at hc)
       ·have hpk2:P.getD k default=i:=n1.inj (by omega) hil hc;rw [if_pos hpk2] at hsu2;all_goals (repeat' (first|(refine qc 30 ?_;refine qE ?_;refine mv ?_;refine qy S rfl rfl ?_;refine qI S rfl rfl ?_;(refine one 1 S ?_;clear S;intro u h S))))
        simp only [zA0] at *;refine app (y0:=ns.getD k default) S rfl rfl ?_;clear S;intro v13 h S;(refine qK ?_);all_goals (repeat' (first|(refine qc 28 ?_;refine qO ?_)))
        refine ⟨(k+1,v13),?_,?_,qo⟩
        ·show ns.length - (k+1)<ns.length - k;omega
        ·refine ⟨?_,by (try dsimp only);omega⟩;(try dsimp only);rw [hsu2];exact S.pick
       ·rw [if_neg (fun e=>hc (by rw [e])),zD7] at hsu2;all_goals (repeat' (first|(refine qc 28 ?_;refine qO ?_)))
        refine ⟨(k+1,v13),?_,?_,qo⟩
        ·show ns.length - (k+1)<ns.length - k;omega
        ·refine ⟨?_,by (try dsimp only);omega⟩;(try dsimp only);rw [hsu2];exact S
      ·obtain rfl:k=ns.length:=by omega
       obtain ⟨v13',rfl⟩:=S.sV v13;rw [if_pos hp] at hsu;all_goals (repeat' (first|(refine qc 31 ?_;refine qE ?_;(refine one 1 S ?_;clear S;intro u h S))))
       refine app (y0:=⟨v13',Jv ns P i ns.length⟩) S rfl rfl ?_;clear S;intro v11 h S;(refine qK ?_);have S:=(show Hs h0 h (.sl v13'.val 9 1 eS (Jv ns P i ns.length) :: wY cs :: .sl v11 22 1 gI (cs ++ [⟨v13',Jv ns P i ns.length⟩]) :: .sl v4 9 1 eS (lst ns P) :: .sl un 9 1 eS ns :: .blk b1 [v.vg.val,v.vt.val] 32 :: []) from S.pick)
       have S:=Hs.qdM (g:=⟨v13',Jv ns P i ns.length⟩) S;exact ⟨(v11,cs ++ [⟨v13',Jv ns P i ns.length⟩]),⟨S.pick,by rw [zC9,g2,hsu];rfl⟩,(qo)⟩
     ·rw [if_neg (fun e=>hc (by rw [e])),zD7] at hsu;exact ⟨(v11,cs),⟨S,by rw [hsu];exact g2⟩,(qo)⟩
    ·clear S g2 hcl;rintro ⟨v11,cs⟩ h ⟨S,g2⟩;all_goals (repeat' (first|(refine qc 23 ?_;refine qO ?_)))
     refine ⟨(i+1,v11,cs),?_,?_,qo⟩
     ·show ns.length - (i+1)<ns.length - i;omega
     ·exact ⟨S,by (try dsimp only);omega,g2⟩
   ·obtain rfl:i=ns.length:=by omega
    obtain ⟨c1,c2⟩:=I.cir H C n1 n2 g2;all_goals (repeat' (first|(refine qc 32 ?_;refine qX ?_)))
    refine qC ⟨_,rfl,?_⟩;exact ⟨cs,(show Hs h0 h [.sl v11 22 1 gI cs,wY cs] from S.pick),c1,c2,by omega⟩
  ·all_goals (repeat' (first|refine qg ?_|refine qh rfl ?_|refine qj ?_|refine qi ?_|(refine qc 8 ?_;refine qK ?_)|(refine qc 9 ?_;refine qK ?_)|(refine qc 10 ?_;refine qK ?_)))
   obtain ⟨s0,hs0⟩:∃ s0,P.sum=s0:=⟨_,rfl⟩
   refine qH (σ:=Nat×List Nat×Bool) (fun (i,P,ch) h'=>Hs h0 h' [.sl v4 9 1 eS (lst ns P),.sl un 9 1 eS ns,.blk b1 [v.vg.val,v.vt.val] 32]∧i≤ns.length∧LI r ns P∧(ch=false→∀ i' k',i'<i→k'<ns.length→adj r 1 (ns.getD i' default) (ns.getD k' default)→P.getD i' default≤P.getD k' default)∧(ch=true→P.sum<s0)∧P.sum≤s0) (fun (i,P,ch)=>ns.length - i) (fun (i,P,ch)=>[(1,.pointer (some ⟨b1,0,none⟩)),(3,un),(4,v4),(6,.bool ch),(7,.int .i64 i)]) (0,P,false) qo ?_ ?_
   ·exact ⟨S,zB0 _,I,fun _ i' k' h=>absurd h (zB7 _),(fun q=>by cases q),Nat.le_of_eq hs0⟩
   clear S I C hfl hll;rintro ⟨i,P,ch⟩ h ⟨S,g1,I,p1,p2,p3⟩;have hfl:=I.len;all_goals (repeat' (first|refine qg ?_|refine qh rfl ?_|refine qj ?_|refine qw ?_|refine qi ?_|(refine qc 11 ?_;refine qE ?_;refine ZJ S rfl rfl ?_;(first|(refine cS ?_ ?_<;>intro hc))<;>(refine qf ?_))))
   ·have hil:i<ns.length:=by omega
    all_goals (repeat' (first|refine qi ?_|(refine qc 13 ?_;refine qK ?_)))
    refine qH (σ:=Nat×List Nat×Bool) (fun (k,P,ch) h'=>Hs h0 h' [.sl v4 9 1 eS (lst ns P),.sl un 9 1 eS ns,.blk b1 [v.vg.val,v.vt.val] 32]∧k≤ns.length∧LI r ns P∧(ch=false→∀ i' k',(i'<i∨(i'=i∧k'<k))→k'<ns.length→adj r 1 (ns.getD i' default) (ns.getD k' default)→P.getD i' default≤P.getD k' default)∧(ch=true→P.sum<s0)∧P.sum≤s0) (fun (k,P,ch)=>ns.length - k) (fun (k,P,ch)=>[(1,.pointer (some ⟨b1,0,none⟩)),(3,un),(4,v4),(6,.bool ch),(7,.int .i64 i),(8,.int .i64 k)]) (0,P,ch) qo ?_ ?_
    ·refine ⟨S,zB0 _,I,fun q i' k' h=>p1 q i' k' ?_,p2,p3⟩;rcases h with h|h
     ·exact h
     ·exact absurd h.2 (zB7 _)
    clear S I hfl p1 p2 p3;rintro ⟨k,P,ch⟩ h ⟨S,k1,I,p1,p2,p3⟩;have hfl:=I.len;have hll:(lst ns P).length=ns.length:=by simp [lst];exact hfl
    all_goals (repeat' (first|refine qg ?_|refine qh rfl ?_|refine qj ?_|refine qw ?_|refine qi ?_|(refine qc 14 ?_;refine qE ?_;refine ZJ S rfl rfl ?_;(first|(refine cS ?_ ?_<;>intro hc))<;>(refine qf ?_))))
    ·have hkl:k<ns.length:=by omega
     have hstay:(adj r 1 (ns.getD i default) (ns.getD k default)→P.getD i default≤P.getD k default)→(ch=false)→∀ i' k',(i'<i∨(i'=i∧k'<k+1))→k'<ns.length→adj r 1 (ns.getD i' default) (ns.getD k' default)→P.getD i' default≤P.getD k' default:=fun hq q i' k' h hk a=>by
      by_cases e:i'=i∧k'=k
      ·obtain ⟨rfl,rfl⟩:=e;exact hq a
      ·exact p1 q i' k' (by omega) hk a
     all_goals (repeat' (first|(refine qJ 16 ?_;refine lB S rfl rfl ?_;refine qE ?_;refine qy S rfl rfl ?_;refine qI S rfl rfl ?_;refine qE ?_;refine qy S rfl rfl ?_;refine qI S rfl rfl ?_)))
     simp only [zA0];(refine qx rfl rfl rfl rfl rfl ((xy S.wf v r (HR.ext w S.ext) H (ns.getD i default) (ns.getD k default)).mono ?_);rintro _ h ⟨⟨t,ht,rfl⟩|⟨ht,rfl⟩,x⟩)<;>(replace S:=S.qN x;clear x;refine zk ?_)
     ·skip
      all_goals (repeat' (first|refine qg ?_|refine qh rfl ?_|refine qj ?_|(refine qJ 17 ?_;refine qE ?_;refine mv ?_;(first|(first|(refine cS ?_ ?_<;>intro hc)))<;>(refine vl ?_;refine mv ?_;(first|refine off ?_|refine mv ?_);(first|refine off ?_|refine mv ?_);(first|refine off ?_|(refine qy S rfl rfl ?_));(first|refine off ?_|(refine qI S rfl rfl ?_));(first|refine off ?_|refine mv ?_);(first|refine off ?_|refine mv ?_);(first|refine off ?_|(refine qy S rfl rfl ?_));(first|refine off ?_|(refine qI S rfl rfl ?_));(first|refine off ?_|(refine tO ?_ ?_<;>intro hc))<;>(refine zU ?_)))))
      all_goals (try simp only [zA0] at *)
      all_goals (try rw [Y4 (by omega),Y4 (by omega)] at hc)
      ·have hadj:adj r 1 (ns.getD i default) (ns.getD k default):=by
        have:=VP ht;rwa [show t.k=1 by omega] at this
       have hpi:=I.le i (by omega);have hpk:=I.le k (by omega);have hlt:=(n1.lt_iff (by omega) (by omega)).1 hc;have I2:=I.set (by omega) (by omega) hlt hadj;have hsum:=xg (l:=P) (i:=i) (x:=P.getD k default) (by omega) hlt;all_goals (repeat' (first|(refine qc 15 ?_;refine qO ?_)|(refine qc 18 ?_;refine qE ?_;refine qE ?_;refine qy S rfl rfl ?_;refine qI S rfl rfl ?_;refine qy S rfl rfl ?_;(first|(refine zY S rfl rfl ?_;clear S;intro h S));refine qf ?_)|(refine qc 19 ?_;refine qK ?_)))
       simp only [zA0] at S;rw [qcZ (by omega)] at S;refine ⟨(k+1,P.set i (P.getD k default),true),?_,?_,qo⟩
       ·show ns.length - (k+1)<ns.length - k;omega
       ·exact ⟨S,by (try dsimp only);omega,I2,(fun q=>by cases q),fun _=>by (try dsimp only);omega,by (try dsimp only);omega⟩
      ·have hpi:=I.le i (by omega);have hpk:=I.le k (by omega);have hge:P.getD i default≤P.getD k default:=by
        rcases zA7 (P.getD k default) (P.getD i default) with z|z
        ·exact absurd ((n1.lt_iff (by omega) (by omega)).2 z) hc
        ·exact z
       all_goals (repeat' (first|(refine qc 15 ?_;refine qO ?_)))
       refine ⟨(k+1,P,ch),?_,?_,qo⟩
       ·show ns.length - (k+1)<ns.length - k;omega
       ·exact ⟨S,by (try dsimp only);omega,I,fun q=>hstay (fun _=>hge) q,p2,p3⟩
      ·have hna:¬ adj r 1 (ns.getD i default) (ns.getD k default):=fun q=>by
        obtain ⟨t',t1,t2⟩:=Vq H q;rw [ht] at t1;cases t1
        exact absurd t2 (by assumption)
       all_goals (repeat' (first|(refine qc 15 ?_;refine qO ?_)))
       refine ⟨(k+1,P,ch),?_,?_,qo⟩
       ·show ns.length - (k+1)<ns.length - k;omega
       ·exact ⟨S,by (try dsimp only);omega,I,fun q=>hstay (fun z=>absurd z hna) q,p2,p3⟩
     ·have hna:¬ adj r 1 (ns.getD i default) (ns.getD k default):=fun q=>by
       obtain ⟨t,t1,-⟩:=Vq H q;rw [ht] at t1;cases t1
      all_goals (repeat' (first|refine qg ?_|refine qh rfl ?_|refine qj ?_|(refine qc 15 ?_;refine qO ?_)|(refine qJ 17 ?_;refine qE ?_;refine off ?_;(refine off ?_)<;>(refine vl ?_;refine mv ?_;refine off ?_;refine off ?_;refine off ?_;refine off ?_;refine off ?_;refine off ?_;refine off ?_;refine off ?_;(refine off ?_)<;>(refine zU ?_)))))
      refine ⟨(k+1,P,ch),?_,?_,qo⟩
      ·show ns.length - (k+1)<ns.length - k;omega
      ·exact ⟨S,by (try dsimp only);omega,I,fun q=>hstay (fun z=>absurd z hna) q,p2,p3⟩
    ·obtain rfl:k=ns.length:=by omega
     all_goals (repeat' (first|(refine qc 12 ?_;refine qO ?_)))
     refine ⟨(i+1,P,ch),?_,?_,qo⟩
     ·show ns.length - (i+1)<ns.length - i;omega
     ·exact ⟨S,by (try dsimp only);omega,I,fun q i' k' h hk=>p1 q i' k' (by (try dsimp only at h);omega) hk,p2,p3⟩
   ·obtain rfl:i=ns.length:=by omega
    refine ⟨(P,ch),?_,?_,qo⟩
    ·show 2*P.sum+(if ch then 1 else 0)<2*List.sum _+(if true then 1 else 0)
     rw [hs0];cases ch
     ·simp;omega
     ·have:=p2 rfl;simp;omega
    ·exact ⟨S,I,fun q i' k' hi hk=>p1 q i' k' hi hk⟩
end Go.Proofs.Xx
namespace Go.Proofs.Xx
open Go Go.Proofs
theorem CirOk.wl {r:Rl} (H:RO r) {cs:List Wd} (C:CirOk r cs) {w:Wd} (hw:w∈cs):w.ws.length≤64:=by
 obtain ⟨w1,w2,w3⟩:=C.ss w hw;have:=jw w1.nodup (m:=r.us.map (·.name)) fun x hx=>by
  obtain ⟨k,rc⟩:=(w3 x).1 hx;exact ZL (rc.known H k)
 rw [zC5] at this;have:=H.l64;omega
variable [Flag]
theorem V9 {h0:AH} (w:WfH h0) (v u:Value) (l m:List Int) (rv:Qh h0 v 1 eI l) (ru:Qh h0 u 1 eI m) (hl:l.length≤9223372036854775807) (hm:m.length≤9223372036854775807):Fn Tryz.prog Xh 61 [v,u] h0 (fun x h'=>Zm x (l=m)∧Hs h0 h' []):=by
 have S:=Hs.start w;refine qZ rfl Tryz.func61 rfl rfl ?_;all_goals (repeat' (first|refine qg ?_|refine qh rfl ?_|refine qj ?_|refine qi ?_|(refine qc 0 ?_;refine qK ?_)|(refine qc 1 ?_;refine mv ?_;refine Zx S ?_;refine mv ?_;refine Zx S ?_;(first|(refine cS ?_ ?_<;>intro hc))<;>(refine qf ?_))|(refine qc 2 ?_;refine qK ?_)|(refine qc 3 ?_;refine qK ?_)))
 ·refine qC ⟨_,rfl,?_⟩;exact ⟨.inr ⟨rfl,fun q=>by subst q;omega⟩,S⟩
 ·refine qH (σ:=Nat) (fun i h'=>Hs h0 h' []∧i≤l.length∧∀ j,j<i→l.getD j default=m.getD j default) (fun i=>l.length - i) (fun i=>[(0,v),(1,u),(5,.int .i64 i)]) 0 qo ?_ ?_
  ·exact ⟨S,zB0 _,fun j hj=>absurd hj (zB7 _)⟩
  clear S;rintro i h ⟨S,g1,g2⟩;all_goals (repeat' (first|refine qg ?_|refine qh rfl ?_|refine qj ?_|refine qw ?_|refine qi ?_|(refine qc 4 ?_;refine qE ?_;refine Zx S ?_;(first|(refine cS ?_ ?_<;>intro hc))<;>(refine qf ?_))|(refine qc 5 ?_;refine qO ?_)|(refine qJ 6 ?_;refine qE ?_;refine QN S ?_;refine jQ S ?_;refine qE ?_;refine QN S ?_;refine jQ S ?_;(first|(refine cS ?_ ?_<;>intro hc))<;>(refine qf ?_))|(refine qc 7 ?_;refine qK ?_)|(refine qc 8 ?_;refine qK ?_)))
  all_goals (try simp only [zA0] at *)
  ·refine qC ⟨_,rfl,?_⟩;exact ⟨.inr ⟨rfl,fun q=>by subst q;exact hc rfl⟩,S⟩
  ·refine ⟨i+1,?_,?_,qo⟩
   ·show l.length - (i+1)<l.length - i;omega
   ·exact ⟨S,by omega,Ze g2 (by omega)⟩
  ·refine qC ⟨_,rfl,?_⟩;exact ⟨.inl ⟨rfl,QH (by omega) fun j hj=>g2 j (by omega)⟩,S⟩
theorem qcA {h0:AH} (w:WfH h0) {p:Nat} {r:Rl} (B:BkRd h0 p r) (v:RlV) (HR:RlOk h0 v r) (H:RO r):Fn Tryz.prog Xh 46 [.pointer (some ⟨p,0,none⟩),v.val] h0 (fun u h'=>u = .bool true∧Hs h0 h' []):=by
 have S:=Hs.start w;have h64:=H.l64;unfold RlV.val;refine qZ rfl Tryz.func46 rfl rfl ?_;all_goals (repeat' (first|refine qg ?_|(refine qc 0 ?_;(refine bx S ?_;clear S;intro b h S);refine qK ?_)))
 obtain ⟨b3,hnm⟩:∃ x,x=b:=⟨_,rfl⟩;subst hnm;replace S:Hs h0 h (.blk b3 [v.vg.val,v.vt.val] 32 :: []):=S;all_goals (repeat' (first|(refine qc 1 ?_;refine mv ?_)))
 (refine qx rfl rfl rfl rfl rfl ((PL S.wf (B.ext w S.ext) H).mono ?_);rintro u1 h ⟨cs,x,c1,c2,c3⟩)<;>(replace S:=S.wH x;clear x;refine qK ?_)
 all_goals (repeat' (first|refine qg ?_|(refine qc 2 ?_;refine lB S rfl rfl ?_)))
 (refine qx rfl rfl rfl rfl rfl ((Gi S.wf v r (HR.ext w S.ext) H).mono ?_);rintro u2 h ⟨ds,x,d1,d2,d3⟩)<;>(replace S:=S.wH x;clear x;refine qK ?_)
 have e:=c1.uniq d1 c2 d2;have hcd:cs.length=ds.length:=by have:=congrArg List.length e;simpa using this
 have hei:∀ i,i<cs.length→(cs.getD i default).ws=(ds.getD i default).ws:=fun i hi=>by
  have:=congrArg (fun l=>l.getD i default) e;(try simp only at this);rwa [zf (f:=fun w:Wd=>w.ws) hi,zf (f:=fun w:Wd=>w.ws) (show i<ds.length by omega)] at this
 all_goals (repeat' (first|refine qg ?_|refine qh rfl ?_|refine qj ?_|refine qi ?_|(refine qc 3 ?_;refine mv ?_;refine ZJ S rfl rfl ?_;refine mv ?_;refine ZJ S rfl rfl ?_;(refine cF ?_)<;>(refine qf ?_))|(refine qc 5 ?_;refine qK ?_)))
 refine qH (σ:=Nat) (fun i h'=>Hs h0 h' [.sl u2 22 1 gI ds,wY ds,.sl u1 22 1 gI cs,wY cs,.blk b3 [v.vg.val,v.vt.val] 32]∧i≤cs.length) (fun i=>cs.length - i) (fun i=>[(0,.pointer (some ⟨p,0,none⟩)),(3,.pointer (some ⟨b3,0,none⟩)),(5,u1),(6,u2),(7,.int .i64 i)]) 0 qo ?_ ?_
 ·exact ⟨S,zB0 _⟩
 clear S;rintro i h ⟨S,g1⟩;all_goals (repeat' (first|refine qg ?_|refine qh rfl ?_|refine qj ?_|refine qw ?_|refine qi ?_|(refine qc 6 ?_;refine qE ?_;refine ZJ S rfl rfl ?_;(first|(refine cS ?_ ?_<;>intro hc))<;>(refine qf ?_))))
 ·have hil:i<cs.length:=by omega
  obtain ⟨f1,hw1⟩:=Hs.qdu (p:=WdsOk ds) S (.there .here);obtain ⟨f2,hw2⟩:=Hs.qdu (p:=WdsOk cs) S (.there (.there (.there .here)));have l1:=c1.wl H (qM hil);have l2:=d1.wl H (qM (show i<ds.length by omega));all_goals (repeat' (first|(refine qJ 8 ?_;refine qE ?_;refine qy S rfl rfl ?_;refine qI S rfl rfl ?_;refine qE ?_;refine qy S rfl rfl ?_;refine qI S rfl rfl ?_)))
  simp only [zA0];(refine qx rfl rfl rfl rfl rfl ((QE S.wf (cs.getD i default).sv.val (ds.getD i default).sv.val (cs.getD i default).ws (ds.getD i default).ws (hw2.rd hil) (hw1.rd (by omega)) (zD0 l1 (by decide)) (zD0 l2 (by decide))).mono ?_);rintro _ h ⟨⟨rfl,z⟩|⟨rfl,z⟩,x⟩)<;>(replace S:=S.qN x;clear x;refine zU ?_)
  ·skip
   all_goals (repeat' (first|refine qh rfl ?_|refine qj ?_|(refine qc 7 ?_;refine qO ?_)))
   refine ⟨i+1,?_,?_,qo⟩
   ·show cs.length - (i+1)<cs.length - i;omega
   ·exact ⟨S,by omega⟩
  ·exact absurd (hei i hil) z
 ·have S:=S.only (.there (.there (.there (.there .here))));all_goals (repeat' (first|(refine qc 10 ?_;refine mv ?_)))
  (refine qx rfl rfl rfl rfl rfl ((qb4 S.wf (B.ext w S.ext) H).mono ?_);rintro u8 h ⟨es,x,e1,e2⟩)<;>(replace S:=S.zQ x;clear x;refine qK ?_)
  all_goals (repeat' (first|refine qg ?_|(refine qc 11 ?_;refine lB S rfl rfl ?_)))
  (refine qx rfl rfl rfl rfl rfl ((qaR S.wf v r (HR.ext w S.ext) H).mono ?_);rintro u9 h ⟨fs,x,f1,f2⟩)<;>(replace S:=S.zQ x;clear x;refine qK ?_)
  obtain rfl:=e1.uniq f1;all_goals (repeat' (first|refine qg ?_|refine qh rfl ?_|refine qj ?_|refine qi ?_|(refine qc 12 ?_;refine mv ?_;refine ZJ S rfl rfl ?_;refine mv ?_;refine ZJ S rfl rfl ?_;(refine cF ?_)<;>(refine qf ?_))|(refine qc 14 ?_;refine qK ?_)))
  refine qH (σ:=Nat) (fun i h'=>Hs h0 h' [.sl u9 149 2 Qw es,.sl u8 147 2 Qw es,.blk b3 [v.vg.val,v.vt.val] 32]∧i≤es.length) (fun i=>es.length - i) (fun i=>[(0,.pointer (some ⟨p,0,none⟩)),(3,.pointer (some ⟨b3,0,none⟩)),(8,u8),(9,u9),(10,.int .i64 i)]) 0 qo ?_ ?_
  ·exact ⟨S,zB0 _⟩
  clear S;rintro i h ⟨S,g2⟩;all_goals (repeat' (first|refine qg ?_|refine qh rfl ?_|refine qj ?_|refine qw ?_|refine qi ?_|(refine qc 15 ?_;refine qE ?_;refine ZJ S rfl rfl ?_;(first|(refine cS ?_ ?_<;>intro hc))<;>(refine qf ?_))))
  ·have hil:i<es.length:=by omega
   all_goals (repeat' (first|refine qg ?_|refine qh rfl ?_|refine qj ?_|(refine qJ 17 ?_;refine qE ?_;refine qy S rfl rfl ?_;refine fS S rfl rfl ?_;refine qI S rfl rfl ?_;refine qE ?_;refine qy S rfl rfl ?_;refine fS S rfl rfl ?_;refine qI S rfl rfl ?_;(refine tS ?_ ?_<;>intro hc)<;>(refine mv ?_;(first|refine off ?_|refine mv ?_);(first|refine off ?_|refine mv ?_);(first|refine off ?_|(refine qy S rfl rfl ?_));(first|refine off ?_|(refine fS S rfl rfl ?_));(first|refine off ?_|(refine qI S rfl rfl ?_));(first|refine off ?_|refine mv ?_);(first|refine off ?_|refine mv ?_);(first|refine off ?_|(refine qy S rfl rfl ?_));(first|refine off ?_|(refine fS S rfl rfl ?_));(first|refine off ?_|(refine qI S rfl rfl ?_));(first|refine off ?_|(refine cF ?_))<;>(refine zU ?_)))))
   ·skip
    all_goals (repeat' (first|(refine qc 16 ?_;refine qO ?_)))
    refine ⟨i+1,?_,?_,qo⟩
    ·show es.length - (i+1)<es.length - i;omega
    ·exact ⟨S,by omega⟩
   all_goals exact absurd rfl (by assumption)
  ·have S:=S.only (.there (.there .here));have hnil:=(Rd.none_ h0 1:Qh h0 (.slice none 0 0) 1 eI [])
   have hnilS:=(Rd.none_ h0 1:Qh h0 (.slice none 0 0) 1 eS [])
   all_goals (repeat' (first|(refine qc 19 ?_;refine mv ?_)))
   (refine qx rfl rfl rfl rfl rfl ((qci S.wf (B.ext w S.ext) H).mono ?_);rintro _ h (⟨vr,R,rfl,x,RG,hl⟩|⟨vi,ps,rfl,x,C⟩))<;>(replace S:=S.zQ x;clear x;refine zk ?_)
   all_goals (all_goals (repeat' (first|refine qg ?_|(refine qc 20 ?_;refine lB S rfl rfl ?_))))
   ·(refine qx rfl rfl rfl rfl rfl ((vZ S.wf v r (HR.ext w S.ext) H).mono ?_);rintro _ h (⟨vj,bs,rfl,x,C2,C3⟩|⟨rfl,hno,x⟩))<;>((first|replace S:=S.zQ x|replace S:=S.qN x);clear x;refine zk ?_)
    ·exact absurd C2 (RG.no H bs)
    ·have h3:=RG.three;all_goals (repeat' (first|refine qg ?_|(refine qc 21 ?_;refine qE ?_)))
     (refine qx rfl rfl rfl rfl rfl ((V9 S.wf (.slice none 0 0) (.slice none 0 0) [] [] (Rd.none_ h 1) (Rd.none_ h 1) (by decide) (by decide)).mono ?_);rintro _ h ⟨⟨rfl,z⟩|⟨rfl,z⟩,x⟩)<;>(replace S:=S.qN x;clear x;refine mv ?_;(first|refine off ?_|refine mv ?_);(first|refine off ?_|refine mv ?_);(first|refine off ?_|(refine ZJ S rfl rfl ?_));(first|refine off ?_|(refine cF ?_))<;>((first|refine off ?_|(refine bT ?_));refine Jb ?_))
     ·skip
      all_goals (repeat' (fail))
      refine qC ⟨_,rfl,?_⟩;exact ⟨rfl,S.drop⟩
     ·exact absurd rfl z
   ·(refine qx rfl rfl rfl rfl rfl ((vZ S.wf v r (HR.ext w S.ext) H).mono ?_);rintro _ h (⟨vj,bs,rfl,x,C2,C3⟩|⟨rfl,hno,x⟩))<;>((first|replace S:=S.zQ x|replace S:=S.qN x);clear x;refine zk ?_)
    ·obtain rfl:=C3 ps C;all_goals (repeat' (first|refine qg ?_|(refine qc 21 ?_;refine qE ?_)))
     have hpl:ps.length≤9223372036854775807:=by rw [C.len];omega
     (refine qx rfl rfl rfl rfl rfl ((V9 S.wf vi vj ps ps (Rd.jm S (.there .here)) (Rd.jm S .here) hpl hpl).mono ?_);rintro _ h ⟨⟨rfl,z⟩|⟨rfl,z⟩,x⟩)<;>(replace S:=S.qN x;clear x;refine mv ?_;(first|refine off ?_|refine mv ?_);(first|refine off ?_|refine mv ?_);(first|refine off ?_|(refine Zx S ?_));(first|refine off ?_|(refine cT ?_))<;>((first|refine off ?_|(refine bT ?_));refine Jb ?_))
     ·skip
      all_goals (repeat' (fail))
      refine qC ⟨_,rfl,?_⟩;exact ⟨rfl,S.drop⟩
     ·exact absurd rfl z
    ·exact absurd C (hno ps)
end Go.Proofs.Xx
namespace Go.Proofs.Xx
open Go Go.Proofs
theorem Sep.front {lo:Nat} {h:AH} {r:Rs} {l2:List Rs}:∀ {l1:List Rs} {V:Fp},Sep lo h (l1 ++ r :: l2) V→Sep lo h (r :: (l1 ++ l2)) V
 | [],_,k=>k
 | x :: l1,V,⟨fx,h1,h2,h3⟩=>by
  obtain ⟨fr,k1,k2,k3⟩:=Sep.front h3;exact ⟨fr,k1,fun b hb=>⟨(k2 b hb).1,(k2 b hb).2.1,(k2 b hb).2.2.1⟩,fx,h1,fun b hb=>⟨(h2 b hb).1,(h2 b hb).2.1,(h2 b hb).2.2,fun q=>(k2 b q).2.2.2 hb⟩,k3.mono fun b hb=>⟨⟨hb.1.1,hb.2⟩,hb.1.2⟩⟩
theorem Sep.back {lo:Nat} {h:AH} {r:Rs} {l2:List Rs}:∀ {l1:List Rs} {V:Fp},Sep lo h (r :: (l1 ++ l2)) V→Sep lo h (l1 ++ r :: l2) V
 | [],_,k=>k
 | x :: l1,V,⟨fr,k1,k2,fx,h1,h2,k3⟩ =>
  ⟨fx,h1,fun b hb=>⟨(h2 b hb).1,(h2 b hb).2.1,(h2 b hb).2.2.1⟩,Sep.back ⟨fr,k1,fun b hb=>⟨(k2 b hb).1,(k2 b hb).2.1,(k2 b hb).2.2,fun q=>(h2 b q).2.2.2 hb⟩,k3.mono fun b hb=>⟨⟨hb.1.1,hb.2⟩,hb.1.2⟩⟩⟩
theorem Hs.qd9 {h0 h:AH} {rs:List Rs} {gs:List Qi} (S:Hs h0 h (jX gs :: rs)):Hs h0 h (gs.map Zo ++ rs):=by
 obtain ⟨U,k1,k2,k3⟩:=S.sep;exact ⟨S.ext,Star.sep (k1 h fun _ _=>rfl) k2 k3⟩
theorem Hs.qd7 {h0 h:AH} {rs:List Rs} {gs:List Qi} (S:Hs h0 h (gs.map Zo ++ rs)):Hs h0 h (jX gs :: rs):=by
 obtain ⟨U,k1,k2,k3⟩:=Sep.star S.sep;exact ⟨S.ext,U,fun h' q=>k1.local q,k2,k3⟩
theorem Hs.qd8 {h0 h:AH} {rs:List Rs} {gs:List Qi} (S:Hs h0 h (jX gs :: rs)) {i:Nat} (hi:i<gs.length):Hs h0 h (Zo (gs.getD i default) :: jX (gs.take i ++ gs.drop (i+1)) :: rs):=by
 have S:=S.qd9;have e:gs=gs.take i ++ gs.getD i default :: gs.drop (i+1):=by
  rw [zA2,zA4 hi,zH8,← zG8 hi,zH2]
 have S2:Hs h0 h ((gs.take i).map Zo ++ Zo (gs.getD i default) :: ((gs.drop (i+1)).map Zo ++ rs)):=by
  have:=S;rw [e] at this;simpa using this
 have S3:Hs h0 h (Zo (gs.getD i default) :: ((gs.take i).map Zo ++ ((gs.drop (i+1)).map Zo ++ rs))):=⟨S.ext,Sep.front S2.sep⟩
 obtain ⟨f,k1,k2,k3⟩:=S3.sep;refine ⟨S.ext,f,k1,k2,?_⟩;rw [← zF3,← zC9] at k3;obtain ⟨U,q1,q2,q3⟩:=Sep.star k3;exact ⟨U,fun h' q=>q1.local q,q2,q3⟩
theorem Hs.qd6 {h0 h:AH} {rs:List Rs} {gs:List Qi} {g:Qi} {i:Nat} (S:Hs h0 h (Zo g :: jX (gs.take i ++ gs.drop (i+1)) :: rs)) (hi:i<gs.length):Hs h0 h (jX (gs.set i g) :: rs):=by
 obtain ⟨f,k1,k2,U,q1,q2,q3⟩:=S.sep;have k3:=Star.sep (q1 h fun _ _=>rfl) q2 q3;rw [zC9,zF3] at k3;have S2:Hs h0 h ((gs.take i).map Zo ++ Zo g :: ((gs.drop (i+1)).map Zo ++ rs)):=⟨S.ext,Sep.back ⟨f,k1,k2,k3⟩⟩
 refine Hs.qd7 ?_;rw [List.set_eq_take_append_cons_drop,if_pos hi];simpa using S2
variable [Flag]
theorem qdr {h0:AH} (w:WfH h0) {p:Nat} {r:Rl} (B:BkRd h0 p r):Fn Tryz.prog Xh 50 [.pointer (some ⟨p,0,none⟩)] h0 (fun u h'=>u = .int .i64 r.us.length∧Hs h0 h' []):=by
 have S:=Hs.start w;obtain ⟨s,B⟩:=B;have hb:=B.bk;have hrg:=B.rg;have hgl:=B.len;refine qZ rfl Tryz.func50 rfl rfl ?_;all_goals (repeat' (first|refine qg ?_|refine qh rfl ?_|refine qj ?_|refine qw ?_|refine qi ?_|refine zo ?_|refine zq ?_|(refine qc 0 ?_;refine qK ?_)|(refine qc 1 ?_;refine mv ?_)))
 (refine qx rfl rfl rfl rfl rfl ((jD S.wf (S.ext.get w hb)).mono ?_);rintro _ h ⟨rfl,x⟩)<;>(replace S:=S.qN x;clear x;refine qf ?_)
 all_goals (repeat' (first|refine qg ?_|refine qh rfl ?_|refine qj ?_|refine qw ?_|refine qi ?_|refine zo ?_|refine zq ?_|(refine qc 2 ?_;refine qK ?_)|(refine qc 3 ?_;refine mv ?_;refine vl ?_;(first|refine vl ?_|refine fB S ?_|refine fS S rfl rfl ?_|refine fA ?_);(first|refine vl ?_|refine fB S ?_|refine fS S rfl rfl ?_|refine fA ?_);(first|refine lB S rfl rfl ?_|refine qI S rfl rfl ?_|refine jQ S ?_|refine lH S ?_);(first|refine Zx S ?_|refine ZJ S rfl rfl ?_);refine qK ?_)))
 refine qC ⟨_,rfl,?_⟩;exact ⟨by rw [hgl];rfl,S.drop⟩
end Go.Proofs.Xx
namespace Go.Proofs.Xx
open Go Go.Proofs
variable [Flag]
theorem qcM {h0:AH} (w:WfH h0) {p:Nat} {r:Rl} (B:BkRd h0 p r) (v:RlV) (HR:RlOk h0 v r) (H:RO r):Fn Tryz.prog Xh 45 [.pointer (some ⟨p,0,none⟩),v.val] h0 (fun u h'=>u = .bool true∧Hs h0 h' []):=by
 have S:=Hs.start w;have hgl:=HR.len;have hrg:=HR.rg;have h64:=H.l64;unfold RlV.val;refine qZ rfl Tryz.func45 rfl rfl ?_;all_goals (repeat' (first|refine qg ?_|(refine qc 0 ?_;(refine bx S ?_;clear S;intro b h S);refine qK ?_)))
 obtain ⟨b3,hnm⟩:∃ x,x=b:=⟨_,rfl⟩;subst hnm;all_goals (repeat' (first|(refine qc 1 ?_;refine mv ?_)))
 (refine qx rfl rfl rfl rfl rfl ((qae S.wf (B.ext w S.ext) H).mono ?_);rintro _ h ⟨⟨vg,vt,gs⟩,rfl,g2,x⟩)<;>(replace S:=S.join x;clear x;dsimp only [XF,List.cons_append,List.nil_append] at S;unfold RlV.val;dsimp only;(refine al S ?_;clear S;intro b h S);(first|(refine sB S rfl rfl ?_;clear S;intro h S));refine qf ?_)
 obtain ⟨b5,hnm⟩:∃ x,x=b:=⟨_,rfl⟩;subst hnm;replace S:Hs h0 h (.blk b5 [vg.val,vt.val] 32 :: .sl vg.val 24 9 eG gs :: .sl vt.val 111 3 zh r.ts :: jX gs :: .blk b3 [v.vg.val,v.vt.val] 32 :: []):=S;have h256:=H.l256;have hR1:r.us.length≤9223372036854775807:=by omega
 have hR2:r.ts.length≤9223372036854775807:=by omega
 have hR3:∀ g∈r.us,g.tg.length≤9223372036854775807:=fun g hg=>by have:=(QI (H.chk g hg)).2.2.2.1;omega
 have hgs:gs.length=r.us.length:=by rw [← g2,zC5]
 have R1:RlOk h ⟨vg,vt,gs⟩ r:=Hs.qee (v:=⟨vg,vt,gs⟩) (rs:=[]) (show Hs h0 h [.sl vg.val 24 9 eG gs,.sl vt.val 111 3 zh r.ts,jX gs] from S.pick) g2 hR1 hR2 hR3;(repeat (refine qg ?_));refine Qu (id:=2) [(8,(1,2))] [some (b3)] ?_;refine qp ?_;(first|(refine lB S rfl rfl ?_<;>refine qf ⟨⟨by (first|exact True.intro),rfl⟩,?_⟩));refine qp ?_;(first|(refine lB S rfl rfl ?_<;>refine qf ⟨⟨by (first|exact True.intro),rfl⟩,?_⟩));((refine qp ?_;first|refine qx rfl rfl rfl rfl rfl ((V7 S.wf ⟨vg,vt,gs⟩ v r r R1 (HR.ext w S.ext)).mono ?_));rintro _ h ⟨⟨rfl,z⟩|⟨rfl,z⟩,x⟩)<;>((refine qf ⟨⟨True.intro,?_⟩,?_⟩;(focus ((show keepsX _ _ _ _ _;simp only [keepsX];(repeat' (first|exact True.intro|refine And.intro ?_ ?_));all_goals (intro hw;first|exact x.ext.old _ S.bB)))));replace S:=S.qN x;clear x;refine qp ?_;(first|(refine vl ?_<;>refine qf ⟨⟨by (first|exact True.intro),rfl⟩,?_⟩));refine qp ?_;(first|(refine mv ?_<;>refine qf ⟨⟨by (first|exact True.intro),rfl⟩,?_⟩));refine qp ?_;(first|(refine off ?_;refine qf ⟨⟨by (first|exact True.intro),rfl⟩,?_⟩)|(refine mv ?_<;>refine qf ⟨⟨by (first|exact True.intro),rfl⟩,?_⟩));(first|(refine qp ?_;refine off ?_;refine qf ⟨⟨True.intro,by show keepsX _ _ _ _ _;simp [keepsX]⟩,?_⟩;refine qp ?_;(first|(refine off ?_;refine qf ⟨⟨by (first|exact True.intro),rfl⟩,?_⟩));refine qp ?_;(first|(refine off ?_;refine qf ⟨⟨by (first|exact Or.inl rfl),rfl⟩,?_⟩));refine qp ?_;(first|(refine off ?_;refine qf ⟨⟨by (first|exact True.intro),rfl⟩,?_⟩));refine qp ?_;(first|(refine off ?_;refine qf ⟨⟨by (first|exact True.intro),rfl⟩,?_⟩))<;>(refine qp ?_;(first|(refine vl ?_<;>refine qf ⟨⟨by (first|exact True.intro),rfl⟩,?_⟩));refine QL ?_))|skip))
 all_goals first|exact absurd rfl z|skip
 all_goals (((refine qp ?_;first|refine qx rfl rfl rfl rfl rfl ((qdr S.wf (B.ext w S.ext)).mono ?_));rintro _ h ⟨rfl,x⟩)<;>((refine qf ⟨⟨True.intro,?_⟩,?_⟩;(focus ((show keepsX _ _ _ _ _;simp only [keepsX];(repeat' (first|exact True.intro|refine And.intro ?_ ?_));all_goals (intro hw;first|exact x.ext.old _ S.bB)))));replace S:=S.qN x;clear x;refine qp ?_;(first|(refine vl ?_<;>refine qf ⟨⟨by (first|exact True.intro),rfl⟩,?_⟩));refine qp ?_;(first|(refine lB S rfl rfl ?_<;>refine qf ⟨⟨by (first|exact Or.inr rfl),rfl⟩,?_⟩));refine qp ?_;(first|(refine Zx S ?_<;>refine qf ⟨⟨by (first|exact True.intro),rfl⟩,?_⟩));refine qp ?_;(first|(refine cF ?_<;>refine qf ⟨⟨by (first|exact True.intro),rfl⟩,?_⟩))<;>(refine qp ?_;(first|(refine vl ?_<;>refine qf ⟨⟨by (first|exact True.intro),rfl⟩,?_⟩));refine QL ?_)))
 all_goals (repeat' (first|refine qg ?_|refine qh rfl ?_|refine qj ?_|refine qi ?_|(refine qc 4 ?_;refine qK ?_)))
 ·obtain ⟨n,hn⟩:∃ n,n=r.us.length:=⟨_,rfl⟩
  refine qH (σ:=Nat×List Qi×List Qi) (fun (i,ks,ms) h'=>Hs h0 h' [.blk b5 [vg.val,vt.val] 32,.sl vg.val 24 9 eG ks,.sl vt.val 111 3 zh r.ts,jX ms,.blk b3 [v.vg.val,v.vt.val] 32]∧i≤n∧ks.length=n∧ms.length=n∧∀ k,k<n→(ks.getD k default).tv=(ms.getD k default).tv∧(ms.getD k default).tg.length≤9223372036854775807) (fun (i,ks,ms)=>n - i) (fun (i,ks,ms)=>[(0,.pointer (some ⟨p,0,none⟩)),(3,.pointer (some ⟨b3,0,none⟩)),(5,.pointer (some ⟨b5,0,none⟩)),(6,.int .i64 i)]) (0,gs,gs) qo ?_ ?_
  ·refine ⟨S,zB0 _,by omega,by omega,fun k hk=>⟨rfl,?_⟩⟩;exact hR3 _ (by rw [← g2];exact zF2.2 ⟨_,qM (show k<gs.length by omega),rfl⟩)
  clear S;rintro ⟨i,ks,ms⟩ h ⟨S,i1,i2,i3,i4⟩;all_goals (repeat' (first|refine qg ?_|refine qh rfl ?_|refine qj ?_|refine qw ?_|refine qi ?_|(refine qc 5 ?_;refine mv ?_;refine vl ?_;refine lB S rfl rfl ?_;refine ZJ S rfl rfl ?_;(first|(refine cS ?_ ?_<;>intro hc))<;>(refine qf ?_))|(refine qc 7 ?_;refine qK ?_)))
  ·have hik:i<ks.length:=by omega
   have him:i<ms.length:=by omega
   obtain ⟨e1,e2⟩:=i4 i (by omega);have S:=(show Hs h0 h (jX ms :: .blk b5 [vg.val,vt.val] 32 :: .sl vg.val 24 9 eG ks :: .sl vt.val 111 3 zh r.ts :: .blk b3 [v.vg.val,v.vt.val] 32 :: []) from S.pick)
   replace S:=S.qd8 him;rw [show Zo (ms.getD i default)=Rs.sl (ks.getD i default).tv.val 9 1 eS (ms.getD i default).tg by unfold Zo;rw [e1]] at S;refine qH (σ:=Nat×List (List UInt8)) (fun (j,l) h'=>Hs h0 h' [.sl (ks.getD (Int.ofNat i).toNat default).tv.val 9 1 eS l,jX (ms.take i ++ ms.drop (i+1)),.blk b5 [vg.val,vt.val] 32,.sl vg.val 24 9 eG ks,.sl vt.val 111 3 zh r.ts,.blk b3 [v.vg.val,v.vt.val] 32]∧j≤l.length∧l.length≤9223372036854775807) (fun (j,l)=>l.length - j) (fun (j,l)=>[(0,.pointer (some ⟨p,0,none⟩)),(3,.pointer (some ⟨b3,0,none⟩)),(5,.pointer (some ⟨b5,0,none⟩)),(6,.int .i64 i),(7,.int .i64 j)]) (0,(ms.getD i default).tg) qo ?_ ?_
   ·exact ⟨S,zB0 _,e2⟩
   clear S;rintro ⟨j,l⟩ h ⟨S,j1,j2⟩;all_goals (repeat' (first|refine qg ?_|refine qh rfl ?_|refine qj ?_|refine qw ?_|refine qi ?_|(refine qc 8 ?_;refine mv ?_;refine vl ?_;refine lB S rfl rfl ?_;refine mv ?_;refine qy S rfl rfl ?_;refine fS S rfl rfl ?_;refine qI S rfl rfl ?_;refine ZJ S rfl rfl ?_;(first|(refine cS ?_ ?_<;>intro hc))<;>(refine qf ?_))))
   ·have hjl:j<l.length:=by omega
    all_goals (repeat' (first|(refine qc 10 ?_;refine vl ?_;refine lB S rfl rfl ?_;refine mv ?_;refine qy S rfl rfl ?_;refine fS S rfl rfl ?_;refine qI S rfl rfl ?_;refine mv ?_;refine qy S rfl rfl ?_;(first|(refine zY S rfl rfl ?_;clear S;intro h S));refine qf ?_)))
    simp only [zA0] at S;all_goals (repeat' (first|(refine qc 9 ?_;refine qO ?_)))
    refine ⟨(j+1,l.set j [120]),?_,?_,qo⟩
    ·show (l.set j _).length - (j+1)<l.length - j;rw [zF6];omega
    ·refine ⟨S,?_,?_⟩<;>(try dsimp only)<;>rw [zF6]<;>omega
   ·skip
    have ey:(ks.getD i default).tv=(({ (ks.getD i default) with name:=[120] }:Qi)).tv:=rfl;(repeat (refine qg ?_));refine qc 11 ?_;refine vl ?_;refine lB S rfl rfl ?_;refine mv ?_;refine qy S rfl rfl ?_;refine fS S rfl rfl ?_;refine zY (y:={ ks.getD (Int.ofNat i).toNat default with name:=[120] }) S rfl rfl ?_;clear S;intro h S;(refine qf ?_);all_goals (repeat' (first|(refine qc 6 ?_;refine qO ?_)))
    refine ⟨(i+1,ks.set i { ks.getD i default with name:=[120] },ms.set i { ms.getD i default with tg:=l }),?_,?_,qo⟩
    ·show n - (i+1)<n - i;omega
    ·have S1:Hs h0 h (.sl (ms.getD i default).tv.val 9 1 eS l :: jX (ms.take i ++ ms.drop (i+1)) :: .blk b5 [vg.val,vt.val] 32 :: .sl vg.val 24 9 eG (ks.set i { ks.getD i default with name:=[120] }) :: .sl vt.val 111 3 zh r.ts :: .blk b3 [v.vg.val,v.vt.val] 32 :: []):=by rw [← e1];exact S
     have S2:=Hs.qd6 (g:={ ms.getD i default with tg:=l }) S1 him;refine ⟨S2.pick,by (try dsimp only);omega,by simpa using i2,by simpa using i3,fun k hk=>?_⟩;by_cases q:i=k
     ·subst q;simp only [zA2,List.getElem?_set,if_pos hik,if_pos him,if_true,zH8];exact ⟨by simpa [zA2] using e1,j2⟩
     ·simp only [zA2,List.getElem?_set,if_neg q];simpa [zA2] using i4 k hk
  ·clear g2;all_goals (repeat' (first|refine qi ?_|(refine qc 12 ?_;refine qK ?_)))
   refine qH (σ:=Nat×List Ti) (fun (i,ts) h'=>Hs h0 h' [.blk b5 [vg.val,vt.val] 32,.sl vt.val 111 3 zh ts,.blk b3 [v.vg.val,v.vt.val] 32]∧i≤ts.length∧ts.length≤256) (fun (i,ts)=>ts.length - i) (fun (i,ts)=>[(0,.pointer (some ⟨p,0,none⟩)),(3,.pointer (some ⟨b3,0,none⟩)),(5,.pointer (some ⟨b5,0,none⟩)),(8,.int .i64 i)]) (0,r.ts) qo ?_ ?_
   ·exact ⟨S.pick,zB0 _,h256⟩
   clear S;rintro ⟨k,ts⟩ h ⟨S,k1,k2⟩;all_goals (repeat' (first|refine qg ?_|refine qh rfl ?_|refine qj ?_|refine qw ?_|refine qi ?_|(refine qc 13 ?_;refine mv ?_;refine vl ?_;refine lB S rfl rfl ?_;refine ZJ S rfl rfl ?_;(first|(refine cS ?_ ?_<;>intro hc))<;>(refine qf ?_))))
   ·have hkl:k<ts.length:=by omega
    (repeat (refine qg ?_));refine qc 15 ?_;refine vl ?_;refine lB S rfl rfl ?_;refine mv ?_;refine qy S rfl rfl ?_;refine fS S rfl rfl ?_;refine zY (y:={ ts.getD (Int.ofNat k).toNat default with a:=[120] }) S rfl rfl ?_;clear S;intro h S;(refine qf ?_);all_goals (repeat' (first|(refine qc 14 ?_;refine qO ?_)))
    refine ⟨(k+1,ts.set (Int.ofNat k).toNat { ts.getD (Int.ofNat k).toNat default with a:=[120] }),?_,?_,qo⟩
    ·show (ts.set _ _).length - (k+1)<ts.length - k;rw [zF6];omega
    ·refine ⟨S,?_,?_⟩<;>(try dsimp only)<;>rw [zF6]<;>omega
   ·skip
    (repeat (refine qg ?_));refine Qu (id:=16) [(2,(0,1))] [some (b3)] ?_;refine qp ?_;(first|(refine mv ?_<;>refine qf ⟨⟨by (first|exact True.intro),rfl⟩,?_⟩));((refine qp ?_;first|refine qx rfl rfl rfl rfl rfl ((qae S.wf (B.ext w S.ext) H).mono ?_));rintro _ h ⟨rv,rfl,hus,x⟩)<;>((refine qf ⟨⟨True.intro,?_⟩,?_⟩;(focus ((show keepsX _ _ _ _ _;simp only [keepsX];(repeat' (first|exact True.intro|refine And.intro ?_ ?_));all_goals (intro hw;first|exact x.ext.old _ S.bB)))));replace S:=S.join x;clear x;dsimp only [XF,List.cons_append,List.nil_append] at S;refine qp ?_;(first|(refine lB S rfl rfl ?_<;>refine qf ⟨⟨by (first|exact Or.inr rfl),rfl⟩,?_⟩)))
    ((refine qp ?_;first|refine qx rfl rfl rfl rfl rfl ((V7 S.wf rv v r r (Hs.qee (v:=rv) S hus hR1 hR2 hR3) (HR.ext w S.ext)).mono ?_));rintro _ h ⟨⟨rfl,z⟩|⟨rfl,z⟩,x⟩)<;>((refine qf ⟨⟨True.intro,?_⟩,?_⟩;(focus ((show keepsX _ _ _ _ _;simp only [keepsX];(repeat' (first|exact True.intro|refine And.intro ?_ ?_));all_goals (intro hw;first|exact x.ext.old _ S.bB)))));replace S:=S.qN x;clear x;refine qp ?_;(first|(refine mv ?_<;>refine qf ⟨⟨by (first|exact True.intro),rfl⟩,?_⟩));refine QL ?_)
    all_goals first|exact absurd rfl z|skip
    all_goals (repeat' (fail))
    refine qC ⟨_,rfl,?_⟩;exact ⟨rfl,S.drop⟩
end Go.Proofs.Xx
namespace Go.Proofs.Xx
open Go Go.Proofs
theorem RO.add {r:Rl} (H:RO r) {g:Gu} (h:(ZP r g).2=0):RO (ZP r g).1:=by
 obtain ⟨h1,h2,h3,h4⟩:=qbb h;rw [h4];have hm:∀ n,Xx.gat r.us n≠none→Xx.gat (r.us ++ [g]) n≠none:=fun n q=>by
  rw [Je] at q ⊢;obtain ⟨k,k1,k2⟩:=q;exact ⟨k,by simp [k1],k2⟩
 refine ⟨fun k hk=>?_,fun i j hij hj=>?_,by simp;omega,H.ts,fun t ht=>?_,H.l256⟩
 ·rcases zB8.1 hk with q|q
  ·exact H.chk k q
  ·rw [zB5.1 q];exact h1
 ·simp only [zB2,zD5] at hj;rw [Ym (show i<r.us.length by omega)];rcases zA7 j r.us.length with q|q
  ·rw [Ym q];exact H.nd i j hij q
  ·rw [KF q,show j - r.us.length=0 by omega];exact Zi.1 h2 _ (qM (by omega))
 ·obtain ⟨t1,t2,t3,t4⟩:=H.tt t ht;exact ⟨t1,t2,hm _ t3,hm _ t4⟩
def ncN:List UInt8:=[110,101,119,99,111,109,101,114]
def ncG:Qi:=⟨⟨ncN,[],[],0,0,[],false,false,[]⟩,⟨none,0,0⟩⟩
structure Ac where
 kd:Int
 a:List UInt8
 b:List UInt8
 t:Int
 g:Qi
instance instInhabitedAc:Inhabited Ac:=⟨⟨0,[],[],0,default⟩⟩
def yZ (x:Ac):List Value:=[.int .u8 x.kd,str x.a,str x.b,.int .u8 x.t,str x.g.name,str x.g.rank,str x.g.court,.int .i64 x.g.since,.int .i64 x.g.side,str x.g.diet,.bool x.g.host,.bool x.g.access,x.g.tv.val]
def acV (x:Ac):Value:=.agg #[.int .u8 x.kd,str x.a,str x.b,.int .u8 x.t,str x.g.name,str x.g.rank,str x.g.court,.int .i64 x.g.since,.int .i64 x.g.side,str x.g.diet,.bool x.g.host,.bool x.g.access,x.g.tv.val]
theorem qdx {r:Rl} {g:Gu} (h:(ZP r g).2≠0):(ZP r g).1=r:=by
 unfold ZP at h ⊢;split
 ·rfl
 ·rename_i h1
  rw [if_neg h1] at h;split
  ·rfl
  ·rename_i h2
   rw [if_neg h2] at h;split
   ·rfl
   ·rename_i h3;rw [if_neg h3] at h;exact absurd rfl h
theorem qcF {r:Rl} {a b:List UInt8} {k:Int} (h:(ZH r a b k).2≠0):(ZH r a b k).1=r:=by
 unfold ZH at h ⊢;split
 ·rfl
 ·rename_i h1
  rw [if_neg h1] at h;split
  ·rfl
  ·rename_i h2
   rw [if_neg h2] at h;split
   ·rfl
   ·rename_i h3
    rw [if_neg h3] at h;split
    ·rfl
    ·rename_i h4;rw [if_neg h4] at h;exact absurd rfl h
theorem qaC {r:Rl} {a b:List UInt8} (h:(Qj r a b).2≠0):(Qj r a b).1=r:=by
 unfold Qj at h ⊢;split
 ·rename_i h1;rw [if_pos h1] at h;exact absurd rfl h
 ·rfl
theorem qdP {us:List Gu}:(∀ i j,i<j→j<us.length→(us.getD i default).name≠(us.getD j default).name)↔us.Pairwise fun g k=>g.name≠k.name:=by
 rw [zD2];constructor
 ·intro h i j hi hj hij;have:=h i j hij hj;rwa [zA2,zA2,zA4 hj,zA4 hi] at this
 ·intro h i j hij hj;have:=h i j (by omega) hj hij;rwa [zA2,zA2,zA4 hj,zA4 (by omega)]
theorem RO.rem {r:Rl} (H:RO r) (n:List UInt8):RO ⟨Vy r.us n,r.ts.filter (jK n)⟩:=by
 have h64:=H.l64;have h256:=H.l256;have hm:∀ m,m≠n→Xx.gat r.us m≠none→Xx.gat (Vy r.us n) m≠none:=fun m hm q=>by
  rw [Je] at q ⊢;obtain ⟨k,k1,k2⟩:=q;refine ⟨k,zE0.2 ⟨k1,?_⟩,k2⟩;rw [zG4,decide_eq_false (by rw [k2];exact hm)]
 refine ⟨fun g hg=>H.chk g (zE0.1 hg).1,qdP.2 (List.Pairwise.filter _ (qdP.1 H.nd)),?_,List.Pairwise.filter _ H.ts,fun t ht=>?_,?_⟩
 ·exact zD0 (zF0 _ _) h64
 ·obtain ⟨t1,t2⟩:=zE0.1 ht;obtain ⟨q1,q2,q3,q4⟩:=H.tt t t1;have hk:¬ yV n t:=fun q=>by rw [Y7 q] at t2;cases t2
  exact ⟨q1,q2,hm _ (fun q=>hk (.inl q)) q3,hm _ (fun q=>hk (.inr q)) q4⟩
 ·exact zD0 (zF0 _ _) h256
variable [Flag]
theorem qdi {h0 h:AH} (w:WfH h0) {p:Nat} {r:Rl} {v:RlV} {rs:List Rs} (S:Hs h0 h (zN p r :: .sl v.vg.val 24 9 eG v.gs :: .sl v.vt.val 111 3 zh r.ts :: jX v.gs :: rs)) (hu:v.gs.map (·.toGu)=r.us) (H:RO r) (ac:Ac) (rg:Qh h0 ac.g.tv.val 1 eS ac.g.tg) (hl:ac.g.tg.length≤8796093021952) (hkd:0≤ac.kd) :
 Fn Tryz.prog Xh 48 [.pointer (some ⟨p,0,none⟩),v.val,acV ac] h (fun u h'=>∃ (v':RlV) (r':Rl),u = .tuple #[v'.val,.bool true]∧v'.gs.map (·.toGu)=r'.us∧RO r'∧Hs h0 h' (zN p r' :: .sl v'.vg.val 24 9 eG v'.gs :: .sl v'.vt.val 111 3 zh r'.ts :: jX v'.gs :: rs)):=by
 have h64:=H.l64;have h256:=H.l256;unfold RlV.val acV;refine qZ rfl Tryz.func48 rfl rfl ?_;all_goals (repeat' (first|refine qg ?_|(refine qc 0 ?_;(refine bx S ?_;clear S;intro b h S);(refine bx S ?_;clear S;intro b h S);(refine al S ?_;clear S;intro b h S);refine qK ?_)))
 obtain ⟨b6,hnm⟩:∃ x,x=b:=⟨_,rfl⟩;subst hnm;obtain ⟨b5,hnm⟩:∃ x,x=b:=⟨_,rfl⟩;subst hnm;obtain ⟨b4,hnm⟩:∃ x,x=b:=⟨_,rfl⟩;subst hnm;replace S:Hs h0 h (.blk b6 [.slice none 0 0,.slice none 0 0] 32 :: .blk b5 (yZ ac) 79 :: .blk b4 [v.vg.val,v.vt.val] 32 :: zN p r :: .sl v.vg.val 24 9 eG v.gs :: .sl v.vt.val 111 3 zh r.ts :: jX v.gs :: rs):=S;all_goals (repeat' (first|refine qg ?_|(refine qc 1 ?_;refine qX ?_)|(refine qc 2 ?_;refine qX ?_)|(refine qc 3 ?_;refine vl ?_;refine lB S rfl rfl ?_)))
 (refine qx rfl rfl rfl rfl rfl ((gJ S.wf ac.g (rg.ext w S.ext) hl).mono ?_);rintro _ h ⟨tv,rfl,x⟩)<;>(replace S:=S.zQ x;clear x;(refine al S ?_;clear S;intro b h S);(first|(refine sB S rfl rfl ?_;clear S;intro h S));refine qf ?_)
 obtain ⟨b12,hnm⟩:∃ x,x=b:=⟨_,rfl⟩;subst hnm;replace S:Hs h0 h (.blk b12 (eG { ac.g with tv:=tv }) 24 :: .sl tv.val 9 1 eS ac.g.tg :: .blk b6 [.slice none 0 0,.slice none 0 0] 32 :: .blk b5 (yZ ac) 79 :: .blk b4 [v.vg.val,v.vt.val] 32 :: zN p r :: .sl v.vg.val 24 9 eG v.gs :: .sl v.vt.val 111 3 zh r.ts :: jX v.gs :: rs):=S;all_goals (repeat' (first|refine qg ?_|(refine qc 4 ?_;refine lB S rfl rfl ?_;(refine al S ?_;clear S;intro b h S);(first|(refine sB S rfl rfl ?_;clear S;intro h S));refine qf ?_)))
 obtain ⟨b13,hnm⟩:∃ x,x=b:=⟨_,rfl⟩;subst hnm;replace S:Hs h0 h (.blk b13 [v.vg.val,v.vt.val] 32 :: .blk b12 (eG { ac.g with tv:=tv }) 24 :: .sl tv.val 9 1 eS ac.g.tg :: .blk b6 [.slice none 0 0,.slice none 0 0] 32 :: .blk b5 (yZ ac) 79 :: .blk b4 [v.vg.val,v.vt.val] 32 :: zN p r :: .sl v.vg.val 24 9 eG v.gs :: .sl v.vt.val 111 3 zh r.ts :: jX v.gs :: rs):=S;replace S:Hs h0 h (zN p r :: .blk b13 [v.vg.val,v.vt.val] 32 :: .sl tv.val 9 1 eS ac.g.tg :: .blk b12 (eG { ac.g with tv:=tv }) 24 :: .blk b6 [.slice none 0 0,.slice none 0 0] 32 :: .blk b5 (yZ ac) 79 :: .blk b4 [v.vg.val,v.vt.val] 32 :: .sl v.vg.val 24 9 eG v.gs :: .sl v.vt.val 111 3 zh r.ts :: jX v.gs :: rs):=S.pick;all_goals (repeat' (first|(refine qc 5 ?_;refine vl ?_;refine lB S rfl rfl ?_;refine rmU ?_;refine qf ?_)))
 (repeat (refine qg ?_));first|refine ZG (σ:=RlV×Rl×Int×Int) (fun (v',r',e,n) h'=>Hs h0 h' (zN p r' :: .blk b13 [v'.vg.val,v'.vt.val] 32 :: .blk b6 [.slice none 0 0,.slice none 0 0] 32 :: .sl v'.vg.val 24 9 eG v'.gs :: .sl v'.vt.val 111 3 zh r'.ts :: jX v'.gs :: rs)∧v'.gs.map (·.toGu)=r'.us∧RO r') (fun (v',r',e,n)=>[(6,.pointer (some ⟨b6,0,none⟩)),(8,.int .i64 e),(9,.int .i64 e),(10,.int .i64 n),(11,.int .i64 n),(13,.pointer (some ⟨b13,0,none⟩))]) ?_ ?_
 ·all_goals (repeat' (first|refine qg ?_|refine qh rfl ?_|refine qj ?_|refine qi ?_|(refine qc 6 ?_;refine mv ?_;refine lB S rfl rfl ?_)|(refine qc 14 ?_;(first|(refine cS ?_ ?_<;>intro hc))<;>(refine qK ?_))|(refine qc 15 ?_;refine mv ?_;refine vl ?_;refine lB S rfl rfl ?_)|(refine qc 17 ?_;(first|(refine cS ?_ ?_<;>intro hc))<;>(refine qK ?_))|(refine qc 18 ?_;refine mv ?_;refine vl ?_;refine lB S rfl rfl ?_;refine vl ?_;refine lB S rfl rfl ?_)|(refine qc 20 ?_;(first|(refine cS ?_ ?_<;>intro hc))<;>(refine qK ?_))|(refine qc 21 ?_;(first|(refine cS ?_ ?_<;>intro hc))<;>(refine qK ?_))|(refine qc 22 ?_;refine mv ?_;refine vl ?_;refine lB S rfl rfl ?_;refine vl ?_;refine lB S rfl rfl ?_;refine vl ?_;refine lB S rfl rfl ?_)|(refine qc 24 ?_;(first|(refine cS ?_ ?_<;>intro hc))<;>(refine qK ?_))|(refine qc 25 ?_;refine mv ?_;refine vl ?_;refine lB S rfl rfl ?_;refine vl ?_;refine lB S rfl rfl ?_)))
  ·
   (refine qx rfl rfl rfl rfl rfl ((qaP S H ac.a).mono ?_);rintro _ h (⟨q,rfl,S⟩|⟨i,q,rfl,S⟩))<;>(refine zk ?_)
   ·all_goals (repeat' (first|(refine qc 16 ?_;refine lB S rfl rfl ?_;refine vl ?_;refine lB S rfl rfl ?_)))
    (refine qx rfl rfl rfl rfl rfl ((xA S.wf v r (S.yS hu H) H ac.a).mono ?_);rintro _ h (⟨q2,rfl,x⟩|⟨q2,⟨vg',vt',gs'⟩,rfl,hu',x⟩))<;>((first|replace S:=S.qN x|(replace S:=S.join x;dsimp only [XF,List.cons_append,List.nil_append] at S));clear x;unfold RlV.val;(try dsimp only);(try dsimp only at hu');refine Qz ?_;(first|(refine sB S rfl rfl ?_;clear S;intro h S));refine qX ?_)
    ·replace S:Hs h0 h (zN p r :: .blk b13 [v.vg.val,v.vt.val] 32 :: .sl tv.val 9 1 eS ac.g.tg :: .blk b12 (eG { ac.g with tv:=tv }) 24 :: .blk b6 [.slice none 0 0,.slice none 0 0] 32 :: .blk b5 (yZ ac) 79 :: .blk b4 [v.vg.val,v.vt.val] 32 :: .sl v.vg.val 24 9 eG v.gs :: .sl v.vt.val 111 3 zh r.ts :: jX v.gs :: rs):=S;exact ⟨⟨v,r,6,0⟩,⟨S.pick,hu,H⟩,(qo)⟩
    ·exact absurd q q2
   ·all_goals (repeat' (first|(refine qc 16 ?_;refine lB S rfl rfl ?_;refine vl ?_;refine lB S rfl rfl ?_)))
    (refine qx rfl rfl rfl rfl rfl ((xA S.wf v r (S.yS hu H) H ac.a).mono ?_);rintro _ h (⟨q2,rfl,x⟩|⟨q2,⟨vg',vt',gs'⟩,rfl,hu',x⟩))<;>((first|replace S:=S.qN x|(replace S:=S.join x;dsimp only [XF,List.cons_append,List.nil_append] at S));clear x;unfold RlV.val;(try dsimp only);(try dsimp only at hu');refine Qz ?_;(first|(refine sB S rfl rfl ?_;clear S;intro h S));refine qX ?_)
    ·rw [q] at q2;cases q2
    ·rw [← qcQ H q] at S;replace S:Hs h0 h (.sl vg'.val 24 9 eG gs' :: .sl vt'.val 111 3 zh (r.ts.filter (jK ac.a)) :: jX gs' :: zN p ⟨Vy r.us ac.a,r.ts.filter (jK ac.a)⟩ :: .blk b13 [vg'.val,vt'.val] 32 :: .sl tv.val 9 1 eS ac.g.tg :: .blk b12 (eG { ac.g with tv:=tv }) 24 :: .blk b6 [.slice none 0 0,.slice none 0 0] 32 :: .blk b5 (yZ ac) 79 :: .blk b4 [v.vg.val,v.vt.val] 32 :: .sl v.vg.val 24 9 eG v.gs :: .sl v.vt.val 111 3 zh r.ts :: jX v.gs :: rs):=S;exact ⟨⟨⟨vg',vt',gs'⟩,⟨Vy r.us ac.a,r.ts.filter (jK ac.a)⟩,0,(r.ts.length:Int) - (r.ts.filter (jK ac.a)).length⟩,⟨S.pick,hu',H.rem ac.a⟩,(qo)⟩
  ·
   (refine qx rfl rfl rfl rfl rfl ((qaO S H ac.a ac.b).mono ?_);rintro _ h (⟨q1,rfl,S⟩|⟨q1,q2,rfl,S⟩|⟨q1,q2,q3,rfl,S⟩|⟨i,r1,q1,q2,q3,q4,rfl,S⟩))<;>(refine qK ?_)
   all_goals (all_goals (repeat' (first|(refine qc 19 ?_;refine lB S rfl rfl ?_;refine vl ?_;refine lB S rfl rfl ?_;refine vl ?_;refine lB S rfl rfl ?_))))
   all_goals ((refine qx rfl rfl rfl rfl rfl ((Pi S.wf v r (S.yS hu H) H ac.a ac.b).mono ?_);rintro _ h (⟨g1,rfl,x⟩|⟨g1,g2,rfl,x⟩|⟨g1,g2,g3,rfl,x⟩|⟨i',r2,⟨vg',vt',gs'⟩,g1,g2,g3,g4,rfl,hu',x⟩))<;>((first|replace S:=S.qN x|(replace S:=S.join x;dsimp only [XF,List.cons_append,List.nil_append] at S));clear x;unfold RlV.val;(try dsimp only);(try dsimp only at hu');refine Jc ?_;(first|(refine sB S rfl rfl ?_;clear S;intro h S));refine qK ?_))
   all_goals first|(exfalso;grind)|skip
   ·replace S:Hs h0 h (zN p r :: .blk b13 [v.vg.val,v.vt.val] 32 :: .sl tv.val 9 1 eS ac.g.tg :: .blk b12 (eG { ac.g with tv:=tv }) 24 :: .blk b6 [.slice none 0 0,.slice none 0 0] 32 :: .blk b5 (yZ ac) 79 :: .blk b4 [v.vg.val,v.vt.val] 32 :: .sl v.vg.val 24 9 eG v.gs :: .sl v.vt.val 111 3 zh r.ts :: jX v.gs :: rs):=S;exact ⟨⟨v,r,6,0⟩,⟨S.pick,hu,H⟩,(qo)⟩
   ·replace S:Hs h0 h (zN p r :: .blk b13 [v.vg.val,v.vt.val] 32 :: .sl tv.val 9 1 eS ac.g.tg :: .blk b12 (eG { ac.g with tv:=tv }) 24 :: .blk b6 [.slice none 0 0,.slice none 0 0] 32 :: .blk b5 (yZ ac) 79 :: .blk b4 [v.vg.val,v.vt.val] 32 :: .sl v.vg.val 24 9 eG v.gs :: .sl v.vt.val 111 3 zh r.ts :: jX v.gs :: rs):=S;exact ⟨⟨v,r,4,0⟩,⟨S.pick,hu,H⟩,(qo)⟩
   ·replace S:Hs h0 h (zN p r :: .blk b13 [v.vg.val,v.vt.val] 32 :: .sl tv.val 9 1 eS ac.g.tg :: .blk b12 (eG { ac.g with tv:=tv }) 24 :: .blk b6 [.slice none 0 0,.slice none 0 0] 32 :: .blk b5 (yZ ac) 79 :: .blk b4 [v.vg.val,v.vt.val] 32 :: .sl v.vg.val 24 9 eG v.gs :: .sl v.vt.val 111 3 zh r.ts :: jX v.gs :: rs):=S;exact ⟨⟨v,r,5,0⟩,⟨S.pick,hu,H⟩,(qo)⟩
   ·obtain rfl:i=i':=by rw [q1] at g1;exact Option.some.inj g1
    obtain rfl:=q4.uniq g4;replace S:Hs h0 h (.sl vg'.val 24 9 eG gs' :: .sl vt'.val 111 3 zh r1.ts :: jX gs' :: zN p r1 :: .blk b13 [vg'.val,vt'.val] 32 :: .sl tv.val 9 1 eS ac.g.tg :: .blk b12 (eG { ac.g with tv:=tv }) 24 :: .blk b6 [.slice none 0 0,.slice none 0 0] 32 :: .blk b5 (yZ ac) 79 :: .blk b4 [v.vg.val,v.vt.val] 32 :: .sl v.vg.val 24 9 eG v.gs :: .sl v.vt.val 111 3 zh r.ts :: jX v.gs :: rs):=S;exact ⟨⟨⟨vg',vt',gs'⟩,r1,0,0⟩,⟨S.pick,hu',q4.ro H (jo q1).1 q2 q3⟩,(qo)⟩
  iterate 2
   ·
    all_goals (repeat' (fail))
    (refine qx rfl rfl rfl rfl rfl ((qd5 S ac.a ac.b ac.t h256 H.ts).mono ?_);rintro _ h ⟨rfl,S⟩)<;>(refine qK ?_)
    all_goals (repeat' (first|(refine qc 23 ?_;refine lB S rfl rfl ?_;refine vl ?_;refine lB S rfl rfl ?_;refine vl ?_;refine lB S rfl rfl ?_;refine vl ?_;refine lB S rfl rfl ?_)))
    (refine qx rfl rfl rfl rfl rfl ((qcO S.wf v r (S.yS hu H) H ac.a ac.b ac.t).mono ?_);rintro _ h (⟨he,rfl,x⟩|⟨he,⟨vg',vt',gs'⟩,rfl,hu',x⟩))<;>((first|replace S:=S.qN x|(replace S:=S.join x;dsimp only [XF,List.cons_append,List.nil_append] at S));clear x;unfold RlV.val;(try dsimp only);(try dsimp only at hu');refine Jc ?_;(first|(refine sB S rfl rfl ?_;clear S;intro h S));refine qK ?_)
    ·rw [qcF he] at S;replace S:Hs h0 h (zN p r :: .blk b13 [v.vg.val,v.vt.val] 32 :: .sl tv.val 9 1 eS ac.g.tg :: .blk b12 (eG { ac.g with tv:=tv }) 24 :: .blk b6 [.slice none 0 0,.slice none 0 0] 32 :: .blk b5 (yZ ac) 79 :: .blk b4 [v.vg.val,v.vt.val] 32 :: .sl v.vg.val 24 9 eG v.gs :: .sl v.vt.val 111 3 zh r.ts :: jX v.gs :: rs):=S;exact ⟨⟨v,r,(ZH r ac.a ac.b ac.t).2,0⟩,⟨S.pick,hu,H⟩,(qo)⟩
    ·replace S:Hs h0 h (.sl vg'.val 24 9 eG gs' :: .sl vt'.val 111 3 zh (ZH r ac.a ac.b ac.t).1.ts :: jX gs' :: zN p (ZH r ac.a ac.b ac.t).1 :: .blk b13 [vg'.val,vt'.val] 32 :: .sl tv.val 9 1 eS ac.g.tg :: .blk b12 (eG { ac.g with tv:=tv }) 24 :: .blk b6 [.slice none 0 0,.slice none 0 0] 32 :: .blk b5 (yZ ac) 79 :: .blk b4 [v.vg.val,v.vt.val] 32 :: .sl v.vg.val 24 9 eG v.gs :: .sl v.vt.val 111 3 zh r.ts :: jX v.gs :: rs):=S;refine ⟨⟨⟨vg',vt',gs'⟩,(ZH r ac.a ac.b ac.t).1,0,0⟩,⟨S.pick,hu',H.tie he⟩,?_⟩;rw [he];exact qo
  ·
   (refine qx rfl rfl rfl rfl rfl ((qbl S ac.a ac.b h256 H.ts).mono ?_);rintro _ h ⟨rfl,S⟩)<;>(refine qK ?_)
   all_goals (repeat' (first|(refine qc 26 ?_;refine lB S rfl rfl ?_;refine vl ?_;refine lB S rfl rfl ?_;refine vl ?_;refine lB S rfl rfl ?_)))
   (refine qx rfl rfl rfl rfl rfl ((qaL S.wf v r (S.yS hu H) H ac.a ac.b).mono ?_);rintro _ h (⟨he,rfl,x⟩|⟨he,⟨vg',vt',gs'⟩,rfl,hu',x⟩))<;>((first|replace S:=S.qN x|(replace S:=S.join x;dsimp only [XF,List.cons_append,List.nil_append] at S));clear x;unfold RlV.val;(try dsimp only);(try dsimp only at hu');refine Jc ?_;(first|(refine sB S rfl rfl ?_;clear S;intro h S));refine qK ?_)
   ·rw [qaC he] at S;replace S:Hs h0 h (zN p r :: .blk b13 [v.vg.val,v.vt.val] 32 :: .sl tv.val 9 1 eS ac.g.tg :: .blk b12 (eG { ac.g with tv:=tv }) 24 :: .blk b6 [.slice none 0 0,.slice none 0 0] 32 :: .blk b5 (yZ ac) 79 :: .blk b4 [v.vg.val,v.vt.val] 32 :: .sl v.vg.val 24 9 eG v.gs :: .sl v.vt.val 111 3 zh r.ts :: jX v.gs :: rs):=S;exact ⟨⟨v,r,(Qj r ac.a ac.b).2,0⟩,⟨S.pick,hu,H⟩,(qo)⟩
   ·replace S:Hs h0 h (.sl vg'.val 24 9 eG gs' :: .sl vt'.val 111 3 zh (Qj r ac.a ac.b).1.ts :: jX gs' :: zN p (Qj r ac.a ac.b).1 :: .blk b13 [vg'.val,vt'.val] 32 :: .sl tv.val 9 1 eS ac.g.tg :: .blk b12 (eG { ac.g with tv:=tv }) 24 :: .blk b6 [.slice none 0 0,.slice none 0 0] 32 :: .blk b5 (yZ ac) 79 :: .blk b4 [v.vg.val,v.vt.val] 32 :: .sl v.vg.val 24 9 eG v.gs :: .sl v.vt.val 111 3 zh r.ts :: jX v.gs :: rs):=S;refine ⟨⟨⟨vg',vt',gs'⟩,(Qj r ac.a ac.b).1,0,0⟩,⟨S.pick,hu',H.qe0 ac.a ac.b⟩,?_⟩;rw [he];exact qo
  ·
   have hl9:ac.g.tg.length≤9223372036854775807:=by omega
   (refine qx rfl rfl rfl rfl rfl ((qeL S { ac.g with tv:=tv } (fun h' S'=>Rd.jm S' (.there .here)) hl9 h64).mono ?_);rintro _ h ⟨rfl,S⟩)<;>(refine qK ?_)
   (repeat (refine qg ?_));first|refine ZG (σ:=RlV×Rl×Int) (fun (v',r',e) h'=>Hs h0 h' (zN p r' :: .blk b13 [v'.vg.val,v'.vt.val] 32 :: .sl tv.val 9 1 eS ac.g.tg :: .blk b12 (eG { ac.g with tv:=tv }) 24 :: .blk b6 [.slice none 0 0,.slice none 0 0] 32 :: .blk b5 (yZ ac) 79 :: .blk b4 [v.vg.val,v.vt.val] 32 :: .sl v'.vg.val 24 9 eG v'.gs :: .sl v'.vt.val 111 3 zh r'.ts :: jX v'.gs :: rs)∧v'.gs.map (·.toGu)=r'.us∧RO r') (fun (v',r',e)=>[(0,.pointer (some ⟨p,0,none⟩)),(4,.pointer (some ⟨b4,0,none⟩)),(5,.pointer (some ⟨b5,0,none⟩)),(6,.pointer (some ⟨b6,0,none⟩)),(12,.pointer (some ⟨b12,0,none⟩)),(13,.pointer (some ⟨b13,0,none⟩)),(8,.int .i64 e),(9,.int .i64 e),(10,.int .i64 0),(11,.int .i64 0)]) ?_ ?_
   ·all_goals (repeat' (first|(refine qc 7 ?_;refine lB S rfl rfl ?_;refine vl ?_;refine lB S rfl rfl ?_)))
    (refine qx rfl rfl rfl rfl rfl ((qcR S.wf v r (S.yS hu H) H ac.g ⟨rg.ext w S.ext,hl9⟩).mono ?_);rintro _ h (⟨he,rfl,x⟩|⟨he,⟨vg',vt',gs'⟩,rfl,hu',x⟩))<;>((first|replace S:=S.qN x|(replace S:=S.join x;dsimp only [XF,List.cons_append,List.nil_append] at S));clear x;unfold RlV.val;(try dsimp only);(try dsimp only at hu');refine Jc ?_;(first|(refine sB S rfl rfl ?_;clear S;intro h S));refine qK ?_)
    ·have hq:(ZP r ac.g.toGu).1=r:=qdx he;rw [show (ZP r ({ ac.g with tv:=tv }:Qi).toGu).1=r from hq] at S;replace S:Hs h0 h (zN p r :: .blk b13 [v.vg.val,v.vt.val] 32 :: .sl tv.val 9 1 eS ac.g.tg :: .blk b12 (eG { ac.g with tv:=tv }) 24 :: .blk b6 [.slice none 0 0,.slice none 0 0] 32 :: .blk b5 (yZ ac) 79 :: .blk b4 [v.vg.val,v.vt.val] 32 :: .sl v.vg.val 24 9 eG v.gs :: .sl v.vt.val 111 3 zh r.ts :: jX v.gs :: rs):=S;exact ⟨⟨v,r,(ZP r ac.g.toGu).2⟩,⟨S.pick,hu,H⟩,(qo)⟩
    ·replace S:Hs h0 h (.sl vg'.val 24 9 eG gs' :: .sl vt'.val 111 3 zh (ZP r ac.g.toGu).1.ts :: jX gs' :: zN p (ZP r ac.g.toGu).1 :: .blk b13 [vg'.val,vt'.val] 32 :: .sl tv.val 9 1 eS ac.g.tg :: .blk b12 (eG { ac.g with tv:=tv }) 24 :: .blk b6 [.slice none 0 0,.slice none 0 0] 32 :: .blk b5 (yZ ac) 79 :: .blk b4 [v.vg.val,v.vt.val] 32 :: .sl v.vg.val 24 9 eG v.gs :: .sl v.vt.val 111 3 zh r.ts :: jX v.gs :: rs):=S;refine ⟨⟨⟨vg',vt',gs'⟩,(ZP r ac.g.toGu).1,0⟩,⟨S.pick,hu',H.add he⟩,?_⟩;rw [show (ZP r ({ ac.g with tv:=tv }:Qi).toGu).2=0 from he];exact qo
   clear S;rintro ⟨v',r',e⟩ h ⟨S,hu',H'⟩;all_goals (repeat' (first|refine qg ?_|(refine qc 8 ?_;refine lB S rfl rfl ?_;refine vl ?_;refine lB S rfl rfl ?_)))
   (refine qx rfl rfl rfl rfl rfl ((Z5 S.wf { ac.g with tv:=tv } ac.g (Rd.jm S (.there (.there .here))) (rg.ext w S.ext) hl9 hl9).mono ?_);rintro _ h ⟨⟨rfl,z⟩|⟨rfl,z⟩,x⟩)<;>(replace S:=S.qN x;clear x;refine zU ?_)
   all_goals first|exact absurd rfl z|skip
   all_goals (repeat' (first|refine qg ?_|refine qh rfl ?_|refine qj ?_|refine qi ?_|(refine qc 10 ?_;refine qK ?_)))
   refine qH (σ:=Nat×List (List UInt8)) (fun (i,l) h'=>Hs h0 h' (.sl tv.val 9 1 eS l :: zN p r' :: .blk b13 [v'.vg.val,v'.vt.val] 32 :: .blk b12 (eG { ac.g with tv:=tv }) 24 :: .blk b6 [.slice none 0 0,.slice none 0 0] 32 :: .blk b5 (yZ ac) 79 :: .blk b4 [v.vg.val,v.vt.val] 32 :: .sl v'.vg.val 24 9 eG v'.gs :: .sl v'.vt.val 111 3 zh r'.ts :: jX v'.gs :: rs)∧i≤l.length∧l.length≤8796093021952) (fun (i,l)=>l.length - i) (fun (i,l)=>[(0,.pointer (some ⟨p,0,none⟩)),(4,.pointer (some ⟨b4,0,none⟩)),(5,.pointer (some ⟨b5,0,none⟩)),(6,.pointer (some ⟨b6,0,none⟩)),(12,.pointer (some ⟨b12,0,none⟩)),(13,.pointer (some ⟨b13,0,none⟩)),(8,.int .i64 e),(9,.int .i64 e),(10,.int .i64 0),(11,.int .i64 0),(14,.int .i64 i)]) (0,ac.g.tg) qo ?_ ?_
   ·exact ⟨S.pick,zB0 _,hl⟩
   clear S;rintro ⟨i,l⟩ h ⟨S,i1,i2⟩;all_goals (repeat' (first|refine qg ?_|refine qh rfl ?_|refine qj ?_|refine qw ?_|refine qi ?_|(refine qc 11 ?_;refine mv ?_;refine vl ?_;refine lB S rfl rfl ?_;refine ZJ S rfl rfl ?_;(first|(refine cS ?_ ?_<;>intro hc))<;>(refine qf ?_))))
   ·have hil:i<l.length:=by omega
    all_goals (repeat' (first|(refine qc 13 ?_;refine vl ?_;refine lB S rfl rfl ?_;refine mv ?_;refine qy S rfl rfl ?_;(first|(refine zY S rfl rfl ?_;clear S;intro h S));refine qf ?_)))
    simp only [zA0] at S;all_goals (repeat' (first|(refine qc 12 ?_;refine qO ?_)))
    refine ⟨(i+1,l.set i [120]),?_,?_,qo⟩
    ·show (l.set i _).length - (i+1)<l.length - i;rw [zF6];omega
    ·refine ⟨S,?_,?_⟩<;>(try dsimp only)<;>rw [zF6]<;>omega
   ·exact ⟨⟨v',r',e,0⟩,⟨S.pick,hu',H'⟩,(qo)⟩
 ·clear S;rintro ⟨v',r',e,n⟩ h ⟨S,hu',H'⟩;all_goals (repeat' (first|refine qg ?_|(refine qc 27 ?_;refine lB S rfl rfl ?_;refine qE ?_;(refine cT ?_)<;>(refine qE ?_;refine mv ?_;(first|(refine cT ?_))<;>(refine vl ?_;(first|(refine sB S rfl rfl ?_;clear S;intro h S));refine qK ?_)))))
  all_goals first|skip
  refine qC ⟨_,zD S rfl (by first|exact .there (.there .here)) (by exact rfl) (by exact rfl),?_⟩;replace S:Hs h0 h (zN p r' :: .blk b13 [v'.vg.val,v'.vt.val] 32 :: .blk b6 [v'.vg.val,v'.vt.val] 32 :: .sl v'.vg.val 24 9 eG v'.gs :: .sl v'.vt.val 111 3 zh r'.ts :: jX v'.gs :: rs):=S;exact ⟨v',r',rfl,hu',H',S.pick⟩
end Go.Proofs.Xx
namespace Go.Proofs.Xx
open Go Go.Proofs
theorem Pth.inv {r:Rl} {x y:List UInt8} {Q:List (List UInt8)} (h:Pth r x Q y):(Q=[x]∧x=y)∨∃ w Q',Q=x :: Q'∧spk r x w∧Pth r w Q' y:=by
 induction h with
 | one=>exact .inl ⟨rfl,rfl⟩
 | snoc h b ih =>
  rename_i Q w z
  rcases ih with ⟨rfl,rfl⟩|⟨u,Q',rfl,a,g⟩
  ·exact .inr ⟨z,[z],rfl,b,.one⟩
  ·exact .inr ⟨u,Q' ++ [z],rfl,a,g.snoc b⟩
theorem lxl.asym {P Q:List (List UInt8)} (h:lxl P Q) (g:lxl Q P):False:=by
 obtain ⟨k,h1,h2,h3,h4⟩:=h.trans g;exact zA _ h4
theorem ChainOk.uniq {r:Rl} {x y:List UInt8} {P P':List (List UInt8)} (h:ChainOk r x y P) (g:ChainOk r x y P'):P=P':=by
 have e:=Nat.le_antisymm (h.sh _ g.pth) (g.sh _ h.pth);rcases h.lx _ g.pth e with q|q
 ·exact q
 ·rcases g.lx _ h.pth e.symm with q2|q2
  ·exact q2.symm
  ·exact absurd (q.asym q2) id
theorem lxl.cons {P Q:List (List UInt8)} {x:List UInt8} (h:lxl P Q):lxl (x :: P) (x :: Q):=by
 obtain ⟨k,h1,h2,h3,h4⟩:=h;refine ⟨k+1,by simp;omega,by simp;omega,fun j hj=>?_,h4⟩;cases j with
 | zero=>rfl
 | succ j=>exact h3 j (by omega)
theorem ChainOk.one (r:Rl) (y:List UInt8):ChainOk r y y [y]:=by
 refine ⟨.one,fun Q hq=>hq.pos,fun Q hq e=>?_⟩;rcases hq.inv with ⟨q,-⟩|⟨w,Q',q,-,g⟩
 ·exact .inl q.symm
 ·have:=g.pos;rw [q] at e;simp at e;rw [e] at this;simp at this
theorem ChainOk.cons {r:Rl} {x z y:List UInt8} {T:List (List UInt8)} (h:ChainOk r z y T) (a:spk r x z) (hs:∀ Q,Pth r x Q y→T.length+1≤Q.length) (hl:∀ w Q',spk r x w→Pth r w Q' y→Q'.length=T.length→¬ zG w z):ChainOk r x y (x :: T):=by
 refine ⟨h.pth.cons a,fun Q hq=>by simpa using hs Q hq,fun Q hq e=>?_⟩;have hT:=h.pth.pos;rcases hq.inv with ⟨q,-⟩|⟨w,Q',q,b,g⟩
 ·rw [q] at e;simp at e;rw [e] at hT;simp at hT
 ·subst q;simp at e;rcases Zr (hl w Q' b g e.symm) with q|q
  ·subst q;rcases h.lx _ g e with q|q
   ·exact .inl (by rw [q])
   ·exact .inr q.cons
  ·refine .inr ⟨1,by simp;exact hT,by simp;omega,fun j hj=>?_,?_⟩
   ·obtain rfl:j=0:=by omega
    rfl
   ·show zG (T.getD 0 default) (Q'.getD 0 default)
    rw [h.pth.head,g.head];exact q
structure FI (r:Rl) (ns:List (List UInt8)) (y:List UInt8) (far:List Int):Prop where
 len:far.length=ns.length
 rng:∀ i,i<far.length→0≤far.getD i default∧far.getD i default≤1000
 z:∀ i,i<far.length→(far.getD i default=0↔ns.getD i default=y)
 path:∀ i,i<far.length→far.getD i default<1000→∃ Q,Pth r (ns.getD i default) Q y∧(Q.length:Int)=far.getD i default+1
def FC (r:Rl) (ns:List (List UInt8)) (far:List Int):Prop:=∀ i k,i<ns.length→k<ns.length→spk r (ns.getD i default) (ns.getD k default)→far.getD i default≤far.getD k default+1
theorem FI.set {r:Rl} {ns:List (List UInt8)} {y:List UInt8} {far:List Int} (F:FI r ns y far) {i k:Nat} (hi:i<far.length) (hk:k<far.length) (h:far.getD k default+1<far.getD i default) (a:spk r (ns.getD i default) (ns.getD k default)):FI r ns y (far.set i (far.getD k default+1)):=by
 have hr1:=F.rng i hi;have hr2:=F.rng k hk;have hg:∀ j,(far.set i (far.getD k default+1)).getD j default=if j=i then far.getD k default+1 else far.getD j default:=fun j=>jC _ _ hi j
 refine ⟨by simp;exact F.len,fun j hj=>?_,fun j hj=>?_,fun j hj hlt=>?_⟩
 ·simp at hj;rw [hg];split
  ·omega
  ·exact F.rng j hj
 ·simp at hj;rw [hg];split
  ·rename_i e
   subst e;constructor
   ·intro q;omega
   ·intro q;have:=(F.z j hi).2 q;omega
  ·exact F.z j hj
 ·simp at hj;rw [hg] at hlt ⊢;split
  ·rename_i e
   subst e;obtain ⟨Q,q1,q2⟩:=F.path k hk (by omega);exact ⟨_,q1.cons a,by rw [zC4];omega⟩
  ·rename_i e
   rw [if_neg e] at hlt;exact F.path j hj hlt
theorem FI.short {r:Rl} {ns:List (List UInt8)} {y:List UInt8} {far:List Int} (F:FI r ns y far) (C:FC r ns far) (hns:∀ x,gat r.us x≠none→x∈ns):∀ (n:Nat) (Q:List (List UInt8)) (i:Nat),Q.length=n→i<far.length→Pth r (ns.getD i default) Q y→far.getD i default+1≤(Q.length:Int):=by
 intro n;induction n using Nat.strongRecOn with
 | _ n ih =>
  intro Q i hn hi hq;rcases hq.inv with ⟨q,e⟩|⟨w,Q',q,a,g⟩
  ·have:=(F.z i hi).2 e;rw [q];simp only [zC4,List.length_nil];omega
  ·obtain ⟨k,k1,k2⟩:=qL.1 (hns w a.kn.2);rw [← k2] at a g;have hk:k<far.length:=by rw [F.len];exact k1
   have h1:=ih Q'.length (by rw [← hn,q];simp) Q' k rfl hk g;have h2:=C i k (by rw [← F.len];exact hi) k1 a;rw [q];simp only [zC4];omega
theorem FI.down {r:Rl} {ns:List (List UInt8)} {y:List UInt8} {far:List Int} (F:FI r ns y far) (C:FC r ns far) (hns:∀ x,gat r.us x≠none→x∈ns) {i:Nat} (hi:i<far.length) (h:far.getD i default<1000) (h0:0<far.getD i default):∃ k,k<far.length∧far.getD k default=far.getD i default - 1∧spk r (ns.getD i default) (ns.getD k default):=by
 obtain ⟨Q,q1,q2⟩:=F.path i hi h;rcases q1.inv with ⟨q,e⟩|⟨w,Q',q,a,g⟩
 ·have:=(F.z i hi).2 e;omega
 ·obtain ⟨k,k1,k2⟩:=qL.1 (hns w a.kn.2);rw [← k2] at a g;have hk:k<far.length:=by rw [F.len];exact k1
  have h1:=F.short C hns _ Q' k rfl hk g;have h2:=C i k (by rw [← F.len];exact hi) k1 a;rw [q] at q2;simp only [zC4] at q2;exact ⟨k,hk,by omega,a⟩
theorem FI.all {r:Rl} {ns:List (List UInt8)} {y:List UInt8} {far:List Int} (F:FI r ns y far) (C:FC r ns far) (hns:∀ x,gat r.us x≠none→x∈ns):∀ (d i:Nat),i<far.length→far.getD i default<1000→far.getD i default=d→∀ e,e≤d→∃ k,k<far.length∧far.getD k default=(e:Int)
 | 0,i,hi,h,hd,e,he=>⟨i,hi,by rw [hd];omega⟩
 | d+1,i,hi,h,hd,e,he=>by
  rcases Nat.eq_or_lt_of_le he with q|q
  ·exact ⟨i,hi,by rw [hd,q]⟩
  ·obtain ⟨k,k1,k2,-⟩:=F.down C hns hi h (by omega);exact FI.all F C hns d k k1 (by omega) (by omega) e (by omega)
theorem FI.le {r:Rl} {ns:List (List UInt8)} {y:List UInt8} {far:List Int} (F:FI r ns y far) (C:FC r ns far) (hns:∀ x,gat r.us x≠none→x∈ns) (hl:ns.length≤64) {i:Nat} (hi:i<far.length) (h:far.getD i default<1000):far.getD i default≤63:=by
 have hr:=F.rng i hi;have hall:=F.all C hns (far.getD i default).toNat i hi h (by omega);have:=jw (List.nodup_range (n:=(far.getD i default).toNat+1)) (m:=far.map Int.toNat) fun e he=>by
  rw [zE3] at he;obtain ⟨k,k1,k2⟩:=hall e (by omega);refine zF2.2 ⟨_,qM k1,?_⟩;rw [k2];rfl
 have hl2:=F.len;rw [List.length_range,zC5] at this;omega
theorem FI.qgb {r:Rl} {ns:List (List UInt8)} {y:List UInt8} {far:List Int} (F:FI r ns y far) (C:FC r ns far) (hns:∀ x,gat r.us x≠none→x∈ns) (hl:ns.length≤64):∀ (n:Nat) (Q:List (List UInt8)) (i:Nat),Q.length=n→i<far.length→Pth r (ns.getD i default) Q y→far.getD i default<1000:=by
 intro n;induction n using Nat.strongRecOn with
 | _ n ih =>
  intro Q i hn hi hq;rcases hq.inv with ⟨q,e⟩|⟨w,Q',q,a,g⟩
  ·have:=(F.z i hi).2 e;omega
  ·obtain ⟨k,k1,k2⟩:=qL.1 (hns w a.kn.2);rw [← k2] at a g;have hk:k<far.length:=by rw [F.len];exact k1
   have h1:=ih Q'.length (by rw [← hn,q];simp) Q' k rfl hk g;have h2:=F.le C hns hl hk h1;have h3:=C i k (by rw [← F.len];exact hi) k1 a;omega
theorem FI.app {r:Rl} {ns:List (List UInt8)} {y:List UInt8} {far:List Int} {i:Nat} (F:FI r (ns.take i) y far) (hi:i<ns.length) (hl:(ns.take i).length=i) {x:Int} (hx:(x=0∧ns.getD i default=y)∨(x=1000∧¬ ns.getD i default=y)):FI r (ns.take (i+1)) y (far ++ [x]):=by
 have hf:=F.len;rw [hl] at hf;have e1:∀ j,j<i→(ns.take (i+1)).getD j default=(ns.take i).getD j default:=fun j hj=>by
  rw [getD_take (by omega),getD_take hj]
 have e2:(ns.take (i+1)).getD i default=ns.getD i default:=getD_take (by omega);have e3:(far ++ [x]).getD i default=x:=by rw [KF (by omega),hf,zG7];rfl
 have hlen:(far ++ [x]).length=i+1:=by simp;exact hf
 refine ⟨by rw [hlen,zA9];omega,fun j hj=>?_,fun j hj=>?_,fun j hj h=>?_⟩
 ·rw [hlen] at hj;rcases zA7 j i with q|q
  ·rw [Ym (by omega)];exact F.rng j (by omega)
  ·obtain rfl:j=i:=by omega
   rw [e3];omega
 ·rw [hlen] at hj;rcases zA7 j i with q|q
  ·rw [Ym (by omega),e1 j q];exact F.z j (by omega)
  ·obtain rfl:j=i:=by omega
   rw [e3,e2];rcases hx with ⟨h1,h2⟩|⟨h1,h2⟩
   ·exact ⟨fun _=>h2,fun _=>h1⟩
   ·exact ⟨fun q=>by omega,fun q=>absurd q h2⟩
 ·rw [hlen] at hj;rcases zA7 j i with q|q
  ·rw [Ym (by omega)] at h ⊢;rw [e1 j q];exact F.path j (by omega) h
  ·obtain rfl:j=i:=by omega
   rw [e3] at h ⊢;rw [e2];rcases hx with ⟨h1,h2⟩|⟨h1,h2⟩
   ·exact ⟨[ns.getD j default],h2 ▸ .one,by rw [h1];rfl⟩
   ·omega
def Wx (l:List Int):Nat:=(l.map Int.toNat).sum
theorem KR:∀ {l:List Int} {i:Nat} {x:Int},i<l.length→x.toNat<(l.getD i default).toNat→Wx (l.set i x)<Wx l
 | a :: l,0,x,h,hx=>by
  have hx:x.toNat<a.toNat:=hx;simp [Wx];omega
 | a :: l,i+1,x,h,hx=>by
  have:=KR (l:=l) (i:=i) (x:=x) (by simp at h;exact h) hx;simp [Wx] at this ⊢;exact this
theorem FI.step {r:Rl} {ns:List (List UInt8)} (hs:SS ns) {y:List UInt8} {far:List Int} (F:FI r ns y far) (C:FC r ns far) (hns:∀ x,gat r.us x≠none→x∈ns) {i k:Nat} (hi:i<far.length) (hk:k<far.length) (h:far.getD i default<1000) (e:far.getD k default=far.getD i default - 1) (a:spk r (ns.getD i default) (ns.getD k default)) (hl:∀ j,j<k→¬ (far.getD j default=far.getD i default - 1∧spk r (ns.getD i default) (ns.getD j default))) {T:List (List UInt8)} (c:ChainOk r (ns.getD k default) y T):ChainOk r (ns.getD i default) y (ns.getD i default :: T):=by
 have hT:(T.length:Int)=far.getD i default:=by
  have h1:=F.short C hns _ T k rfl hk c.pth;obtain ⟨Q,q1,q2⟩:=F.path k hk (by omega);have h2:=c.sh Q q1;omega
 refine c.cons a (fun Q hq=>?_) fun w Q' b g e2=>?_
 ·have:=F.short C hns _ Q i rfl hi hq;omega
 ·obtain ⟨j,j1,j2⟩:=qL.1 (hns w b.kn.2);have hj:j<far.length:=by rw [F.len];exact j1
  rw [← j2] at b g ⊢;have h1:=F.short C hns _ Q' j rfl hj g;have h2:=C i j (by rw [← F.len];exact hi) j1 b;rcases zA7 j k with q|q
  ·exact absurd ⟨by omega,b⟩ (hl j q)
  ·exact hs.le q (by rw [← F.len];exact hj)
end Go.Proofs.Xx
