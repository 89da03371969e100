/-
  The reference's chains.
-/
import Derived.Test.YtidmdnenlgjpeaaGreatDoorM19
import Derived.Test.YtidmdnenlgjpeaaGreatDoorM12
import Derived.Below
import Derived.ChangeSame
import Derived.ChangeArms
import Derived.OpenShut
import Derived.Test.YtidmdnenlgjpeaaGreatDoorM5
import Derived.Test.YtidmdnenlgjpeaaGreatDoorM3
import Derived.WideShapes
import Derived.ChangeShapes
import Derived.Test.YtidmdnenlgjpeaaGreatDoorM6
import Derived.Test.YtidmdnenlgjpeaaGreatDoorM9
import Derived.Test.YtidmdnenlgjpeaaGreatDoorM8
import Derived.Test.YtidmdnenlgjpeaaGreatDoorRows
import Derived.Lib.LaidTab
import Derived.Stop.LaidErr
import Derived.Shelf.Vars
set_option linter.unusedSimpArgs false
set_option linter.unusedVariables false
set_option linter.unusedSectionVars false
set_option maxRecDepth 100000
set_option maxHeartbeats 4000000
namespace Go.Proofs.Xx
open Go Go.Proofs
variable [Flag]
theorem vY {h0:AH} (w:WfH h0) (v:RlV) (r:Rl) (HR:RlOk h0 v r) (H:RO r) (na nb:List UInt8):Fn Tryz.prog Xh 86 [v.val,str na,str nb] h0 (fun u h'=>(∃ v P,u = .tuple #[v,.bool true]∧Hs h0 h' [.sl v 9 1 eS P]∧gat r.us na≠none∧gat r.us nb≠none∧ChainOk r na nb P∧P.length≤64)∨(u = .tuple #[.slice none 0 0,.bool false]∧(gat r.us na≠none→gat r.us nb≠none→∀ Q,¬ Pth r na Q nb)∧Hs h0 h' [])):=by
 have S:=Hs.start w;have h64:=H.l64;unfold RlV.val;refine qZ rfl Tryz.func86 rfl rfl ?_;all_goals (repeat' (first|refine qg ?_|(refine qc 0 ?_;(refine bx S ?_;clear S;intro b h S);refine qX ?_)))
 obtain ⟨b3,hnm⟩:∃ x,x=b:=⟨_,rfl⟩;subst hnm;replace S:Hs h0 h (.blk b3 [v.vg.val,v.vt.val] 32 :: []):=S;all_goals (repeat' (first|(refine qc 1 ?_;refine lB S rfl rfl ?_)))
 (refine qx rfl rfl rfl rfl rfl ((Vx S.wf v r (HR.ext w S.ext) H).mono ?_);rintro un h ⟨ns,x,n1,n2,n3⟩)<;>(replace S:=S.zQ x;clear x;refine qK ?_)
 have hns:∀ x,gat r.us x≠none→x∈ns:=fun x hx=>(n2 x).2 hx;have hnl:ns.length≤64:=by omega
 have S:=S.Qb (e:=3) (z:=1) (enc:=eI);all_goals (repeat' (first|refine qg ?_|refine qi ?_|(refine qc 2 ?_;refine qK ?_)|(refine qc 3 ?_;refine qK ?_)))
 refine qH (σ:=Nat×Value×List Int) (fun (i,v9,far) h'=>Hs h0 h' [.sl v9 3 1 eI far,.sl un 9 1 eS ns,.blk b3 [v.vg.val,v.vt.val] 32]∧i≤ns.length∧FI r (ns.take i) nb far) (fun (i,v9,far)=>ns.length - i) (fun (i,v9,far)=>[(1,str na),(2,str nb),(3,.pointer (some ⟨b3,0,none⟩)),(8,un),(9,v9),(10,.int .i64 i)]) (0,.slice none 0 0,[]) qo ?_ ?_
 ·exact ⟨S,zB0 _,⟨rfl,fun i hi=>absurd hi (zB7 _),fun i hi=>absurd hi (zB7 _),fun i hi=>absurd hi (zB7 _)⟩⟩
 clear S;rintro ⟨i,v9,far⟩ h ⟨S,g1,F⟩;have hfl:=F.len;rw [zA9,zE5 g1] at hfl;all_goals (repeat' (first|refine qg ?_|refine qh rfl ?_|refine qj ?_|refine qw ?_|(refine qc 4 ?_;refine qE ?_;refine ZJ S rfl rfl ?_;(first|(refine cS ?_ ?_<;>intro hc))<;>(refine qf ?_))))
 ·have hil:i<ns.length:=by omega
  (repeat (refine qg ?_));first|refine ZG (σ:=Value×List Int) (fun (v9,far) h'=>Hs h0 h' [.sl v9 3 1 eI far,.sl un 9 1 eS ns,.blk b3 [v.vg.val,v.vt.val] 32]∧FI r (ns.take (i+1)) nb far) (fun (v9,far)=>[(1,str na),(2,str nb),(3,.pointer (some ⟨b3,0,none⟩)),(8,un),(9,v9),(10,.int .i64 i)]) ?_ ?_
  ·all_goals (repeat' (first|refine qg ?_|refine qh rfl ?_|refine qi ?_|(refine qc 6 ?_;refine qE ?_;refine qy S rfl rfl ?_;refine qI S rfl rfl ?_;refine mv ?_;(refine tS ?_ ?_<;>intro hc)<;>(refine qf ?_))|(refine qc 7 ?_;refine mv ?_;(refine one 1 S ?_;clear S;intro u h S))|(refine qc 8 ?_;refine mv ?_;(refine one 1 S ?_;clear S;intro u h S))))
   all_goals (try simp only [zA0] at *)
   ·refine app (y0:=(0:Int)) S rfl rfl ?_;clear S;intro v9 h S;(refine qK ?_);exact ⟨(v9,far ++ [0]),⟨S.pick,F.app hil (by rw [zA9,zE5 g1]) (.inl ⟨rfl,hc⟩)⟩,(qo)⟩
   ·refine app (y0:=(1000:Int)) S rfl rfl ?_;clear S;intro v9 h S;(refine qK ?_);exact ⟨(v9,far ++ [1000]),⟨S.pick,F.app hil (by rw [zA9,zE5 g1]) (.inr ⟨rfl,hc⟩)⟩,(qo)⟩
  ·clear S F hfl;rintro ⟨v9,far⟩ h ⟨S,F⟩;all_goals (repeat' (first|(refine qc 5 ?_;refine qO ?_)))
   refine ⟨(i+1,v9,far),?_,?_,qo⟩
   ·show ns.length - (i+1)<ns.length - i;omega
   ·exact ⟨S,by (try dsimp only);omega,F⟩
 ·obtain rfl:i=ns.length:=by omega
  rw [zD4] at F;clear hfl;all_goals (repeat' (first|refine qg ?_|refine qi ?_|(refine qc 9 ?_;refine qK ?_)))
  refine qH (σ:=List Int×Bool) (fun (far,ch) h'=>Hs h0 h' [.sl v9 3 1 eI far,.sl un 9 1 eS ns,.blk b3 [v.vg.val,v.vt.val] 32]∧FI r ns nb far∧(ch=false→FC r ns far)) (fun (far,ch)=>2*Wx far+(if ch then 1 else 0)) (fun (far,ch)=>[(1,str na),(2,str nb),(3,.pointer (some ⟨b3,0,none⟩)),(8,un),(9,v9),(11,.bool ch)]) (far,true) qo ?_ ?_
  ·exact ⟨S,F,fun q=>by cases q⟩
  clear S F far;rintro ⟨far,ch⟩ h ⟨S,F,C⟩;have hfl:=F.len;cases ch
  ·replace C:=C rfl;all_goals (repeat' (first|refine qg ?_|refine qh rfl ?_|refine qw ?_|refine qi ?_|(refine qc 10 ?_;refine qK ?_)|(refine qc 21 ?_;refine qK ?_)|(refine qc 22 ?_;refine qK ?_)))
   have hnot:∀ i,i<far.length→1000≤far.getD i default→∀ Q,¬ Pth r (ns.getD i default) Q nb:=fun i hi h Q hq=>by
    have:=F.qgb C hns hnl _ Q i rfl hi hq;omega
   refine qH (σ:=Nat×Int) (fun (i,at_) h'=>Hs h0 h' [.sl v9 3 1 eI far,.sl un 9 1 eS ns,.blk b3 [v.vg.val,v.vt.val] 32]∧i≤ns.length∧((at_ = -1∧∀ j,j<i→ns.getD j default≠na)∨∃ j:Nat,j<i∧ns.getD j default=na∧at_=j)) (fun (i,at_)=>ns.length - i) (fun (i,at_)=>[(1,str na),(2,str nb),(3,.pointer (some ⟨b3,0,none⟩)),(8,un),(9,v9),(14,.int .i64 at_),(15,.int .i64 i)]) (0,-1) qo ?_ ?_
   ·exact ⟨S,zB0 _,.inl ⟨rfl,fun j hj=>absurd hj (zB7 _)⟩⟩
   clear S;rintro ⟨i,at_⟩ h ⟨S,g1,g2⟩;all_goals (repeat' (first|refine qg ?_|refine qh rfl ?_|refine qj ?_|refine qw ?_|(refine qc 23 ?_;refine qE ?_;refine ZJ S rfl rfl ?_;(first|(refine cS ?_ ?_<;>intro hc))<;>(refine qf ?_))))
   ·have hil:i<ns.length:=by omega
    all_goals (repeat' (first|refine qg ?_|refine qh rfl ?_|refine qj ?_|refine qi ?_|(refine qc 25 ?_;refine qE ?_;refine qy S rfl rfl ?_;refine qI S rfl rfl ?_;refine mv ?_;(refine tS ?_ ?_<;>intro hc)<;>(refine qf ?_))))
    all_goals (try simp only [zA0] at *)
    ·all_goals (repeat' (first|(refine qc 24 ?_;refine qO ?_)|(refine qc 26 ?_;refine qX ?_)))
     refine ⟨(i+1,(i:Int)),?_,?_,qo⟩
     ·show ns.length - (i+1)<ns.length - i;omega
     ·exact ⟨S,by (try dsimp only);omega,.inr ⟨i,by (try dsimp only);omega,hc,rfl⟩⟩
    ·skip
     all_goals (repeat' (first|(refine qc 24 ?_;refine qO ?_)))
     refine ⟨(i+1,at_),?_,?_,qo⟩
     ·show ns.length - (i+1)<ns.length - i;omega
     ·refine ⟨S,by (try dsimp only);omega,?_⟩;rcases g2 with ⟨e1,e2⟩|⟨j,j1,j2,j3⟩
      ·exact .inl ⟨e1,Ze e2 hc⟩
      ·exact .inr ⟨j,by (try dsimp only);omega,j2,j3⟩
   ·obtain rfl:i=ns.length:=by omega
    rcases g2 with ⟨rfl,e2⟩|⟨j,j1,j2,rfl⟩
    ·all_goals (repeat' (first|refine qg ?_|refine qh rfl ?_|(refine qc 27 ?_;refine mv ?_;(refine cT ?_)<;>(refine mv ?_;refine off ?_;refine off ?_;refine off ?_;refine off ?_;(refine off ?_)<;>(refine zU ?_)))|(refine qc 28 ?_;refine qX ?_)))
     refine qC ⟨_,rfl,?_⟩;refine .inr ⟨rfl,fun q=>?_,S.drop⟩;obtain ⟨j,j1,j2⟩:=qL.1 (hns _ q);exact absurd j2 (e2 j j1)
    ·have hr:=F.rng j (by omega);all_goals (repeat' (first|refine qg ?_|refine qh rfl ?_|refine qj ?_|(refine qc 27 ?_;refine mv ?_;(refine cF ?_)<;>(refine qE ?_;refine mv ?_;(first|(refine qy S rfl rfl ?_));(first|(refine qI S rfl rfl ?_));(first|(first|(refine cS ?_ ?_<;>intro hc)))<;>(refine zU ?_)))|(refine qc 28 ?_;refine qX ?_)))
     all_goals (try simp only [zA0] at *)
     ·refine qC ⟨_,rfl,?_⟩;refine .inr ⟨rfl,fun _ _ Q=>?_,S.drop⟩;rw [← j2];exact hnot j (by omega) hc Q
     ·have hlt:far.getD j default<1000:=by omega
      have hj63:=F.le C hns hnl (by omega) hlt;all_goals (repeat' (first|refine qg ?_|refine qi ?_|(refine qc 29 ?_;refine mv ?_;(refine one 1 S ?_;clear S;intro u h S);refine qK ?_)))
      have S:=S.qer (enc:=eS) (x:=na);refine qH (σ:=Nat×Value×List (List UInt8)) (fun (a,v16,pre) h'=>Hs h0 h' [.sl v16 9 1 eS (pre ++ [ns.getD a default]),.sl v9 3 1 eI far,.sl un 9 1 eS ns,.blk b3 [v.vg.val,v.vt.val] 32]∧a<ns.length∧far.getD a default<1000∧(pre.length:Int)+far.getD a default≤63∧(∀ T,ChainOk r (ns.getD a default) nb T→ChainOk r na nb (pre ++ T))) (fun (a,_,_)=>(far.getD a default).toNat) (fun (a,v16,pre)=>[(3,.pointer (some ⟨b3,0,none⟩)),(8,un),(9,v9),(14,.int .i64 a),(16,v16)]) (j,u,[]) qo ?_ ?_
      ·exact ⟨by rw [j2];exact S,j1,hlt,by show ((0:Nat):Int)+far.getD j default≤63;omega,fun T c=>by rw [zC0,← j2];exact c⟩
      clear S;rintro ⟨a,v16,pre⟩ h ⟨S,a1,a2,a3,a4⟩;have hra:0≤far.getD (a:Int).toNat default∧far.getD (a:Int).toNat default≤1000:=F.rng a (by omega);all_goals (repeat' (first|refine qg ?_|refine qh rfl ?_|refine qj ?_|refine qw ?_|refine qi ?_|(refine qc 30 ?_;refine qE ?_;refine qy S rfl rfl ?_;refine qI S rfl rfl ?_;(first|(refine cS ?_ ?_<;>intro hc))<;>(refine qf ?_))))
      all_goals (try simp only [zA0] at *)
      ·obtain ⟨ks,ks1,ks2,ks3⟩:=F.down C hns (i:=a) (by omega) a2 (by omega);all_goals (repeat' (first|refine qg ?_|refine qi ?_|(refine qc 31 ?_;refine qK ?_)))
       refine qH (σ:=Nat) (fun k h'=>Hs h0 h' [.sl v16 9 1 eS (pre ++ [ns.getD a default]),.sl v9 3 1 eI far,.sl un 9 1 eS ns,.blk b3 [v.vg.val,v.vt.val] 32]∧k≤ks∧(∀ j,j<k→¬ (far.getD j default=far.getD a default - 1∧spk r (ns.getD a default) (ns.getD j default)))) (fun k=>ks+1 - k) (fun k=>[(3,.pointer (some ⟨b3,0,none⟩)),(8,un),(9,v9),(14,.int .i64 a),(16,v16),(17,.int .i64 k)]) 0 qo ?_ ?_
       ·exact ⟨S,zB0 _,fun j hj=>absurd hj (zB7 _)⟩
       clear S;rintro k h ⟨S,k1,k2⟩;have hkl:k<far.length:=by omega
       have hnx:¬ (far.getD k default=far.getD a default - 1∧spk r (ns.getD a default) (ns.getD k default))→k+1≤ks:=fun q=>by
        rcases Nat.eq_or_lt_of_le k1 with e|e
        ·exact absurd ⟨e ▸ ks2,e ▸ ks3⟩ q
        ·exact e
       have hra2:0≤far.getD (a:Int).toNat default∧far.getD (a:Int).toNat default≤1000:=F.rng a (by omega);have hrk:0≤far.getD (k:Int).toNat default∧far.getD (k:Int).toNat default≤1000:=F.rng k hkl;all_goals (repeat' (first|refine qg ?_|refine qh rfl ?_|refine qj ?_|refine qi ?_|(refine qJ 32 ?_;refine qE ?_;refine qy S rfl rfl ?_;refine qI S rfl rfl ?_;refine qE ?_;refine qy S rfl rfl ?_;refine qI S rfl rfl ?_;refine sb ?_;(first|(refine cS ?_ ?_<;>intro hc))<;>(refine mv ?_;(first|refine off ?_|(refine lB S rfl rfl ?_));(first|refine off ?_|refine mv ?_);(first|refine off ?_|refine mv ?_);(first|refine off ?_|(refine qy S rfl rfl ?_));(first|refine off ?_|(refine qI S rfl rfl ?_));(first|refine off ?_|refine mv ?_);(first|refine off ?_|refine mv ?_);(first|refine off ?_|(refine qy S rfl rfl ?_));(first|refine off ?_|(refine qI S rfl rfl ?_));(first|(refine off ?_;refine off ?_;(refine off ?_)<;>(refine zU ?_))|skip)))))
       all_goals (try simp only [zA0] at *)
       ·skip
        all_goals (repeat' (first|(refine qc 33 ?_;refine qO ?_)))
        refine ⟨k+1,?_,?_,qo⟩
        ·show ks+1 - (k+1)<ks+1 - k;omega
        ·exact ⟨S,hnx (fun q=>hc q.1),Ze k2 (fun q=>hc q.1)⟩
       ·have ek:far.getD k default=far.getD a default - 1:=by omega
        (refine qx rfl rfl rfl rfl rfl ((YF S.wf v r (HR.ext w S.ext) H (ns.getD a default) (ns.getD k default)).mono ?_);rintro uc h ⟨lc,x,c1,c2⟩)<;>(replace S:=S.zQ x;clear x;(first|(refine ZJ S rfl rfl ?_));(first|(first|(refine cS ?_ ?_<;>intro hc)))<;>(refine zU ?_))
        all_goals (repeat' (first|refine qg ?_|refine qh rfl ?_|refine qj ?_|refine qw ?_|refine qi ?_))
        ·have hsp:¬ spk r (ns.getD a default) (ns.getD k default):=fun q=>by
          have:=J9.2 q;rw [← c1] at this;omega
         all_goals (repeat' (first|(refine qc 33 ?_;refine qO ?_)))
         refine ⟨k+1,?_,?_,qo⟩
         ·show ks+1 - (k+1)<ks+1 - k;omega
         ·exact ⟨S.tail,hnx (fun q=>hsp q.2),Ze k2 (fun q=>hsp q.2)⟩
        ·have hsp:spk r (ns.getD a default) (ns.getD k default):=J9.1 (by rw [← c1];omega);all_goals (repeat' (first|(refine qc 34 ?_;refine qX ?_)|(refine qc 35 ?_;refine qE ?_;refine mv ?_;refine qy S rfl rfl ?_;refine qI S rfl rfl ?_;(refine one 1 S ?_;clear S;intro u h S))))
         simp only [zA0] at *;have hpl:(pre ++ [ns.getD a default]).length≤64:=by rw [zB2,zD5];omega
         refine app (y0:=ns.getD k default) S rfl rfl ?_;clear S;intro v16 h S;(refine qK ?_);refine ⟨(k,v16,pre ++ [ns.getD a default]),?_,?_,qo⟩
         ·show (far.getD k default).toNat<(far.getD a default).toNat;omega
         ·refine ⟨S.pick,by (try dsimp only);omega,by (try dsimp only);omega,?_,fun T c=>?_⟩
          ·show ((pre ++ [ns.getD a default]).length:Int)+far.getD k default≤63
           rw [zB2,zD5];omega
          ·have:=a4 _ (F.step n1 C hns (by omega) hkl a2 ek hsp k2 c);show ChainOk r na nb (pre ++ [ns.getD a default] ++ T)
           rw [zF3];exact this
      ·have e0:ns.getD a default=nb:=(F.z a (by omega)).1 (by omega);have hka:gat r.us na≠none:=by rw [← j2];exact (n2 _).1 (qM j1)
       have hkb:gat r.us nb≠none:=by rw [← e0];exact (n2 _).1 (qM a1)
       have hpl:(pre ++ [ns.getD a default]).length≤64:=by rw [zB2,zD5];omega
       all_goals (repeat' (first|(refine qc 36 ?_;refine mv ?_;refine qX ?_)))
       refine qC ⟨_,rfl,?_⟩;refine .inl ⟨v16,_,rfl,S.only .here,hka,hkb,?_,hpl⟩;rw [e0];exact a4 _ (by rw [e0];exact ChainOk.one r nb)
  ·all_goals (repeat' (first|refine qg ?_|refine qh rfl ?_|refine qj ?_|refine qi ?_|(refine qc 10 ?_;refine qK ?_)|(refine qc 11 ?_;refine qK ?_)|(refine qc 12 ?_;refine qK ?_)))
   obtain ⟨s0,hs0⟩:∃ s0,Wx far=s0:=⟨_,rfl⟩
   refine qH (σ:=Nat×List Int×Bool) (fun (i,far,ch) h'=>Hs h0 h' [.sl v9 3 1 eI far,.sl un 9 1 eS ns,.blk b3 [v.vg.val,v.vt.val] 32]∧i≤ns.length∧FI r ns nb far∧(ch=false→∀ i' k',i'<i→k'<ns.length→spk r (ns.getD i' default) (ns.getD k' default)→far.getD i' default≤far.getD k' default+1)∧(ch=true→Wx far<s0)∧Wx far≤s0) (fun (i,far,ch)=>ns.length - i) (fun (i,far,ch)=>[(1,str na),(2,str nb),(3,.pointer (some ⟨b3,0,none⟩)),(8,un),(9,v9),(11,.bool ch),(12,.int .i64 i)]) (0,far,false) qo ?_ ?_
   ·exact ⟨S,zB0 _,F,fun _ i' k' h=>absurd h (zB7 _),(fun q=>by cases q),Nat.le_of_eq hs0⟩
   clear S F C hfl;rintro ⟨i,far,ch⟩ h ⟨S,g1,F,p1,p2,p3⟩;have hfl:=F.len;all_goals (repeat' (first|refine qg ?_|refine qh rfl ?_|refine qj ?_|refine qw ?_|refine qi ?_|(refine qc 13 ?_;refine qE ?_;refine ZJ S rfl rfl ?_;(first|(refine cS ?_ ?_<;>intro hc))<;>(refine qf ?_))))
   ·have hil:i<ns.length:=by omega
    all_goals (repeat' (first|refine qi ?_|(refine qc 15 ?_;refine qK ?_)))
    refine qH (σ:=Nat×List Int×Bool) (fun (k,far,ch) h'=>Hs h0 h' [.sl v9 3 1 eI far,.sl un 9 1 eS ns,.blk b3 [v.vg.val,v.vt.val] 32]∧k≤ns.length∧FI r ns nb far∧(ch=false→∀ i' k',(i'<i∨(i'=i∧k'<k))→k'<ns.length→spk r (ns.getD i' default) (ns.getD k' default)→far.getD i' default≤far.getD k' default+1)∧(ch=true→Wx far<s0)∧Wx far≤s0) (fun (k,far,ch)=>ns.length - k) (fun (k,far,ch)=>[(1,str na),(2,str nb),(3,.pointer (some ⟨b3,0,none⟩)),(8,un),(9,v9),(11,.bool ch),(12,.int .i64 i),(13,.int .i64 k)]) (0,far,ch) qo ?_ ?_
    ·refine ⟨S,zB0 _,F,fun q i' k' h=>p1 q i' k' ?_,p2,p3⟩;rcases h with h|h
     ·exact h
     ·exact absurd h.2 (zB7 _)
    clear S F hfl p1 p2 p3;rintro ⟨k,far,ch⟩ h ⟨S,k1,F,p1,p2,p3⟩;have hfl:=F.len;all_goals (repeat' (first|refine qg ?_|refine qh rfl ?_|refine qj ?_|refine qw ?_|refine qi ?_|(refine qc 16 ?_;refine qE ?_;refine ZJ S rfl rfl ?_;(first|(refine cS ?_ ?_<;>intro hc))<;>(refine qf ?_))))
    ·have hkl:k<ns.length:=by omega
     have hr1:0≤far.getD (i:Int).toNat default∧far.getD (i:Int).toNat default≤1000:=F.rng i (by omega);have hr2:0≤far.getD (k:Int).toNat default∧far.getD (k:Int).toNat default≤1000:=F.rng k (by omega);have hstay:∀ far':List Int,far'=far→(spk r (ns.getD i default) (ns.getD k default)→far.getD i default≤far.getD k default+1)→∀ i' k',(i'<i∨(i'=i∧k'<k+1))→(ch=false)→k'<ns.length→spk r (ns.getD i' default) (ns.getD k' default)→far.getD i' default≤far.getD k' default+1:=fun _ _ hq i' k' h q hk a=>by
      by_cases e:i'=i∧k'=k
      ·obtain ⟨rfl,rfl⟩:=e;exact hq a
      ·exact p1 q i' k' (by omega) hk a
     all_goals (repeat' (first|refine qh rfl ?_|refine qj ?_|(refine qJ 18 ?_;refine qE ?_;refine qy S rfl rfl ?_;refine qI S rfl rfl ?_;refine ad ?_;refine qE ?_;refine qy S rfl rfl ?_;refine qI S rfl rfl ?_;(first|(refine cS ?_ ?_<;>intro hc))<;>(refine mv ?_;(first|refine off ?_|(refine lB S rfl rfl ?_));(first|refine off ?_|refine mv ?_);(first|refine off ?_|refine mv ?_);(first|refine off ?_|(refine qy S rfl rfl ?_));(first|refine off ?_|(refine qI S rfl rfl ?_));(first|refine off ?_|refine mv ?_);(first|refine off ?_|refine mv ?_);(first|refine off ?_|(refine qy S rfl rfl ?_));(first|refine off ?_|(refine qI S rfl rfl ?_));(first|(refine off ?_;refine off ?_;(refine off ?_)<;>(refine zU ?_))|skip)))))
     all_goals (try simp only [zA0] at *)
     ·(refine qx rfl rfl rfl rfl rfl ((YF S.wf v r (HR.ext w S.ext) H (ns.getD i default) (ns.getD k default)).mono ?_);rintro uc h ⟨lc,x,c1,c2⟩)<;>(replace S:=S.zQ x;clear x;(first|(refine ZJ S rfl rfl ?_));(first|(first|(refine cS ?_ ?_<;>intro hc)))<;>(refine zU ?_))
      all_goals (repeat' (first|refine qg ?_|refine qh rfl ?_|refine qj ?_))
      ·have hsp:spk r (ns.getD i default) (ns.getD k default):=J9.1 (by rw [← c1];omega);have F2:=F.set (by omega) (by omega) (by assumption) hsp;have hsum:=KR (l:=far) (i:=i) (x:=far.getD k default+1) (by omega) (by omega);all_goals (repeat' (first|(refine qc 17 ?_;refine qO ?_)|(refine qc 19 ?_;refine qE ?_;refine qE ?_;refine qy S rfl rfl ?_;refine qI S rfl rfl ?_;refine ad ?_;refine qy S rfl rfl ?_;(first|(refine zY S rfl rfl ?_;clear S;intro h S));refine qf ?_)|(refine qc 20 ?_;refine qK ?_)))
       simp only [zA0] at S;refine ⟨(k+1,far.set i (far.getD k default+1),true),?_,?_,qo⟩
       ·show ns.length - (k+1)<ns.length - k;omega
       ·exact ⟨S.tail,by (try dsimp only);omega,F2,(fun q=>by cases q),fun _=>by (try dsimp only);omega,by (try dsimp only);omega⟩
      ·have hsp:¬ spk r (ns.getD i default) (ns.getD k default):=fun q=>by
        have:=J9.2 q;rw [← c1] at this;omega
       all_goals (repeat' (first|(refine qc 17 ?_;refine qO ?_)))
       refine ⟨(k+1,far,ch),?_,?_,qo⟩
       ·show ns.length - (k+1)<ns.length - k;omega
       ·exact ⟨S.tail,by (try dsimp only);omega,F,fun q i' k' h hk a=>hstay far rfl (fun z=>absurd z hsp) i' k' h q hk a,p2,p3⟩
     ·skip
      all_goals (repeat' (first|(refine qc 17 ?_;refine qO ?_)))
      refine ⟨(k+1,far,ch),?_,?_,qo⟩
      ·show ns.length - (k+1)<ns.length - k;omega
      ·exact ⟨S,by (try dsimp only);omega,F,fun q i' k' h hk a=>hstay far rfl (fun _=>by omega) i' k' h q hk a,p2,p3⟩
    ·obtain rfl:k=ns.length:=by omega
     all_goals (repeat' (first|(refine qc 14 ?_;refine qO ?_)))
     refine ⟨(i+1,far,ch),?_,?_,qo⟩
     ·show ns.length - (i+1)<ns.length - i;omega
     ·exact ⟨S,by (try dsimp only);omega,F,fun q i' k' h hk=>p1 q i' k' (by (try dsimp only at h);omega) hk,p2,p3⟩
   ·obtain rfl:i=ns.length:=by omega
    refine ⟨(far,ch),?_,?_,qo⟩
    ·show 2*Wx far+(if ch then 1 else 0)<2*Wx _+(if true then 1 else 0)
     rw [hs0];cases ch
     ·simp;omega
     ·have:=p2 rfl;simp;omega
    ·exact ⟨S,F,fun q i' k' hi hk=>p1 q i' k' hi hk⟩
end Go.Proofs.Xx
namespace Go.Proofs.Xx
open Go Go.Proofs
theorem qcx {P:Program} {X:Extern} {inR:Bool} {sz:Nat} {a b c d:Code} {L:Ks} {h:AH} {Q:KQ} (w:K P X inR sz a L h (Yr P X inR sz (.seq (.seq b c) d) Q)):K P X inR sz a L h (Yr P X inR sz (.seq b (.seq c d)) Q):=w.mono fun x L' h' q=>by
 cases x with
 | norm=>exact qdJ q
 | exit id=>exact q
 | ret=>exact q
variable [Flag]
theorem qbq {h0:AH} (w:WfH h0) {p:Nat} {r:Rl} (B:BkRd h0 p r) (H:RO r) (a b:List UInt8) (v:Value) (hv:tkd (QK r.ts a b)=v):Fn Tryz.prog Xh 36 [.pointer (some ⟨p,0,none⟩),str a,str b] h0 (fun u h'=>u=v∧Hs h0 h' []):=hv ▸ qbr w B H a b
theorem qaM {h0:AH} (w:WfH h0) (v:RlV) (r:Rl) (HR:RlOk h0 v r) (H:RO r) (a b:List UInt8) (v0:Value) (hv:tkd (QK r.ts a b)=v0):Fn Tryz.prog Xh 83 [v.val,str a,str b] h0 (fun u h'=>u=v0∧Hs h0 h' []) :=
 (xy w v r HR H a b).mono fun u h' q=>by
  refine ⟨?_,q.2⟩;rw [← hv];rcases q.1 with ⟨t,h1,h2⟩|⟨h1,h2⟩
  ·rw [h1,h2];rfl
  ·rw [h1,h2];rfl
theorem qdt {h0:AH} (w:WfH h0) {p:Nat} {r:Rl} (B:BkRd h0 p r) (v:RlV) (HR:RlOk h0 v r) (H:RO r) (na nb:List UInt8):Fn Tryz.prog Xh 34 [.pointer (some ⟨p,0,none⟩),v.val,str na,str nb] h0 (fun u h'=>u = .bool true∧Hs h0 h' []):=by
 have S:=Hs.start w;have hrg:=HR.rg;have hlg:=HR.lg;have hgl:=HR.len;have hnil:=(Rd.none_ h0 1:Qh h0 (.slice none 0 0) 1 eS [])
 unfold RlV.val;refine qZ rfl Tryz.func34 rfl rfl ?_;all_goals (repeat' (first|refine qg ?_|(refine qc 0 ?_;(refine bx S ?_;clear S;intro b h S);refine qK ?_)))
 obtain ⟨b5,hnm⟩:∃ x,x=b:=⟨_,rfl⟩;subst hnm;replace S:Hs h0 h (.blk b5 [v.vg.val,v.vt.val] 32 :: []):=S;refine qcx ?_;refine qdG (σ:=Unit) (fun _ h'=>Hs h0 h' [.blk b5 [v.vg.val,v.vt.val] 32]) (fun _=>[(0,.pointer (some ⟨p,0,none⟩)),(2,str na),(3,str nb),(5,.pointer (some ⟨b5,0,none⟩))]) ?_ ?_
 ·all_goals (repeat' (first|(refine qc 1 ?_;refine qE ?_)))
  (refine qx rfl rfl rfl rfl rfl ((find_ok S.wf (B.ext w S.ext) H na).mono ?_);rintro _ h (⟨i,tv,q1,rfl,x⟩|⟨q1,rfl,x⟩))<;>((first|replace S:=S.zQ x|replace S:=S.qN x);clear x;refine Jc ?_;(refine al S ?_;clear S;intro b h S);(first|(refine sB S rfl rfl ?_;clear S;intro h S));refine qK ?_)
  all_goals (all_goals (repeat' (first|refine qg ?_|(refine qc 2 ?_;refine vl ?_;refine lB S rfl rfl ?_;refine mv ?_))))
  all_goals (obtain ⟨b9,hnm⟩:∃ x,x=b:=⟨_,rfl⟩;subst hnm)
  ·obtain ⟨i1,i2,-⟩:=jo q1;have t1:=(QI (H.chk _ (qM i1))).2.2.2.1;replace S:Hs h0 h (.blk b9 (eG ⟨r.us.getD i default,tv⟩) 24 :: .sl tv.val 9 1 eS (r.us.getD i default).tg :: .blk b5 [v.vg.val,v.vt.val] 32 :: []):=S;(refine qx rfl rfl rfl rfl rfl ((jM S.wf v.vg.val v.gs (hrg.ext w S.ext) (by omega) na).mono ?_);rintro _ h ⟨⟨j,j1,j2,rfl⟩|⟨j1,rfl⟩,x⟩)<;>(replace S:=S.qN x;clear x;refine qK ?_)
   all_goals rw [HR.us,q1] at j1
   rotate_left
   ·cases j1
   cases j1
   have gi:(v.gs.getD i default).toGu=r.us.getD i default:=HR.at_ j2;unfold eG at S;all_goals (repeat' (first|refine qg ?_|(refine qJ 3 ?_;refine qE ?_;(refine cT ?_)<;>(refine vl ?_;refine qE ?_;refine mv ?_;(first|(refine lB S rfl rfl ?_));(first|(refine vl ?_));(first|(refine lB S rfl rfl ?_));refine mv ?_;(first|(refine QN S ?_));(first|(refine jQ S ?_));(skip)))))
   simp only [zA0];(refine qx rfl rfl rfl rfl rfl ((Z5 S.wf ⟨r.us.getD i default,tv⟩ (v.gs.getD i default) (Rd.jm S (.there .here)) ((HR.tg i j2).1.ext w S.ext) (zD0 t1 (by decide)) (HR.tg i j2).2).mono ?_);rintro _ h ⟨⟨rfl,z⟩|⟨rfl,z⟩,x⟩)<;>(replace S:=S.qN x;clear x;refine vl ?_;refine vl ?_;refine vl ?_;refine mv ?_;(first|refine off ?_|refine mv ?_);(first|refine off ?_|refine vl ?_);(first|refine off ?_|refine mv ?_);refine off ?_;refine off ?_;(first|(refine off ?_;refine off ?_;(first|refine off ?_|refine vl ?_);refine zU ?_)))
   ·all_goals (repeat' (first|refine qh rfl ?_|refine qj ?_))
    exact ⟨(),S.only (.there (.there .here)),(qo)⟩
   ·exact absurd gi.symm z
  ·replace S:Hs h0 h (.blk b9 (eG ⟨default,⟨none,0,0⟩⟩) 24 :: .blk b5 [v.vg.val,v.vt.val] 32 :: []):=S;(refine qx rfl rfl rfl rfl rfl ((jM S.wf v.vg.val v.gs (hrg.ext w S.ext) (by omega) na).mono ?_);rintro _ h ⟨⟨j,j1,j2,rfl⟩|⟨j1,rfl⟩,x⟩)<;>(replace S:=S.qN x;clear x;refine qK ?_)
   all_goals rw [HR.us,q1] at j1
   ·cases j1
   unfold eG at S;all_goals (repeat' (first|refine qg ?_|(refine qJ 3 ?_;refine qE ?_;(refine cF ?_)<;>(refine vl ?_;refine qE ?_;refine mv ?_;refine off ?_;refine off ?_;refine off ?_;refine off ?_;refine off ?_;refine off ?_;(first|(refine off ?_;refine off ?_;refine vl ?_;refine vl ?_;refine qE ?_;refine vl ?_;refine mv ?_;(first|(refine lB S rfl rfl ?_));refine vl ?_;(skip)))))))
   (refine qx rfl rfl rfl rfl rfl ((Z5 S.wf ⟨default,⟨none,0,0⟩⟩ ⟨default,⟨none,0,0⟩⟩ (Rd.none_ h 1) (Rd.none_ h 1) (by decide) (by decide)).mono ?_);rintro _ h ⟨⟨rfl,z⟩|⟨rfl,z⟩,x⟩)<;>(replace S:=S.qN x;clear x;refine vl ?_;refine vl ?_;refine zU ?_)
   ·all_goals (repeat' (first|refine qh rfl ?_|refine qj ?_))
    exact ⟨(),S.only (.there .here),(qo)⟩
   ·exact absurd rfl z
 clear S;rintro - h S;obtain ⟨K,bb,hk⟩:∃ (K:Int) (bb:Bool),tkd (QK r.ts na nb) = .tuple #[.int .u8 K,.bool bb]:=by
  cases QK r.ts na nb with
  | none=>exact ⟨0,false,rfl⟩
  | some t=>exact ⟨t.k,true,rfl⟩
 all_goals (repeat' (first|refine qg ?_|(refine qc 5 ?_;refine qE ?_;refine mv ?_;skip)))
 (refine qx rfl rfl rfl rfl rfl ((qbq S.wf (B.ext w S.ext) H na nb _ hk).mono ?_);rintro _ h ⟨rfl,x⟩)<;>(replace S:=S.qN x;clear x;refine zk ?_)
 all_goals (repeat' (first|refine qg ?_|(refine qc 6 ?_;refine lB S rfl rfl ?_;refine qE ?_)))
 (refine qx rfl rfl rfl rfl rfl ((qaM S.wf v r (HR.ext w S.ext) H na nb _ hk).mono ?_);rintro _ h ⟨rfl,x⟩)<;>(replace S:=S.qN x;clear x;refine zk ?_)
 all_goals (repeat' (refine qg ?_))
 (repeat (refine qg ?_));first|refine QD (σ:=Unit) (fun _ h'=>Hs h0 h' [.blk b5 [v.vg.val,v.vt.val] 32]) (fun _=>[(0,.pointer (some ⟨p,0,none⟩)),(2,str na),(3,str nb),(5,.pointer (some ⟨b5,0,none⟩))]) ?_ ?_
 ·cases bb
  all_goals ((repeat (refine qg ?_));refine Qu (id:=7) [(13,(0,1))] [some (b5)] ?_;refine qp ?_;(first|(refine mv ?_<;>refine qf ⟨⟨by (first|exact True.intro),rfl⟩,?_⟩));refine qp ?_;(first|(refine mv ?_<;>refine qf ⟨⟨by (first|exact True.intro),rfl⟩,?_⟩));refine qp ?_;(first|(refine cF ?_<;>refine qf ⟨⟨by (first|exact True.intro),rfl⟩,?_⟩))<;>(refine qp ?_;(first|(refine mv ?_<;>refine qf ⟨⟨by (first|exact True.intro),rfl⟩,?_⟩));refine qp ?_;(first|(refine mv ?_<;>refine qf ⟨⟨by (first|exact True.intro),rfl⟩,?_⟩));refine qp ?_;(first|(refine mv ?_<;>refine qf ⟨⟨by (first|exact True.intro),rfl⟩,?_⟩));refine qp ?_;(first|(refine vl ?_<;>refine qf ⟨⟨by (first|exact True.intro),rfl⟩,?_⟩));refine qp ?_;(first|(refine vl ?_<;>refine qf ⟨⟨by (first|exact True.intro),rfl⟩,?_⟩));refine qp ?_;(first|(refine mv ?_<;>refine qf ⟨⟨by (first|exact True.intro),rfl⟩,?_⟩));refine qp ?_;(first|(refine mv ?_<;>refine qf ⟨⟨by (first|exact True.intro),rfl⟩,?_⟩));refine qp ?_;(first|(refine mv ?_<;>refine qf ⟨⟨by (first|exact True.intro),rfl⟩,?_⟩));refine qp ?_;(first|(refine mv ?_<;>refine qf ⟨⟨by (first|exact True.intro),rfl⟩,?_⟩));(skip)))
  all_goals (((refine qp ?_;first|refine qx rfl rfl rfl rfl rfl ((wP S.wf (B.ext w S.ext) H na nb).mono ?_));rintro uc h ⟨lc,x,c1,c2⟩)<;>((refine qf ⟨⟨True.intro,?_⟩,?_⟩;(focus ((show keepsX _ _ _ _ _;simp only [keepsX];(repeat' (first|exact True.intro|refine And.intro ?_ ?_));all_goals (intro hw;first|exact x.ext.old _ S.bB)))));replace S:=S.zQ x;clear x;refine qp ?_;(first|(refine lB S rfl rfl ?_<;>refine qf ⟨⟨by (first|exact Or.inr rfl),rfl⟩,?_⟩));refine qp ?_;(first|(refine mv ?_<;>refine qf ⟨⟨by (first|exact True.intro),rfl⟩,?_⟩));refine qp ?_;(first|(refine mv ?_<;>refine qf ⟨⟨by (first|exact True.intro),rfl⟩,?_⟩));(skip)))
  all_goals (((refine qp ?_;first|refine qx rfl rfl rfl rfl rfl ((YF S.wf v r (HR.ext w S.ext) H na nb).mono ?_));rintro ud h ⟨ld,x,d1,d2⟩)<;>((refine qf ⟨⟨True.intro,?_⟩,?_⟩;(focus ((show keepsX _ _ _ _ _;simp only [keepsX];(repeat' (first|exact True.intro|refine And.intro ?_ ?_));all_goals (intro hw;first|exact x.ext.old _ S.bB)))));replace S:=S.zQ x;clear x;(skip)))
  all_goals (((refine qp ?_;first|refine qx rfl rfl rfl rfl rfl ((QE S.wf uc ud lc ld (Rd.jm S (.there .here)) (Rd.jm S .here) (zD0 c2 (by decide)) (zD0 d2 (by decide))).mono ?_));rintro _ h ⟨⟨rfl,z⟩|⟨rfl,z⟩,x⟩)<;>((refine qf ⟨⟨True.intro,?_⟩,?_⟩;(focus ((show keepsX _ _ _ _ _;simp only [keepsX];(repeat' (first|exact True.intro|refine And.intro ?_ ?_));all_goals (intro hw;first|exact x.ext.old _ S.bB)))));replace S:=S.qN x;clear x;refine qp ?_;(first|(refine vl ?_<;>refine qf ⟨⟨by (first|exact True.intro),rfl⟩,?_⟩));refine qp ?_;(first|(refine vl ?_<;>refine qf ⟨⟨by (first|exact True.intro),rfl⟩,?_⟩));refine QL ?_))
  all_goals first|exact absurd (c1.trans d1.symm) z|skip
  all_goals (all_goals (repeat' (first|refine qh rfl ?_|refine qj ?_)))
  all_goals exact ⟨(),S.only (.there (.there .here)),(qo)⟩
 clear S;rintro - h S;all_goals (repeat' (first|refine qg ?_|refine qi ?_|(refine qc 9 ?_;refine qK ?_)))
 refine qH (σ:=Nat) (fun k h'=>Hs h0 h' [.blk b5 [v.vg.val,v.vt.val] 32]∧k≤4) (fun k=>4 - k) (fun k=>[(0,.pointer (some ⟨p,0,none⟩)),(2,str na),(3,str nb),(5,.pointer (some ⟨b5,0,none⟩)),(15,.int .i64 k)]) 0 qo ?_ ?_
 ·exact ⟨S,by omega⟩
 clear S;rintro k h ⟨S,k1⟩;all_goals (repeat' (first|refine qg ?_|refine qh rfl ?_|refine qj ?_|refine qw ?_|refine qi ?_|(refine qc 10 ?_;refine mv ?_;(first|(refine cS ?_ ?_<;>intro hc))<;>(refine qf ?_))))
 ·have hk4:k<4:=by omega
  (repeat (refine qg ?_));refine Qu (id:=12) [(5,(0,1)),(8,(0,1))] [some (b5),none] ?_;refine qp ?_;(first|(refine mv ?_<;>refine qf ⟨⟨by (first|exact True.intro),rfl⟩,?_⟩));refine qp ?_;(first|(refine mv ?_<;>refine qf ⟨⟨by (first|exact True.intro),rfl⟩,?_⟩));refine qp ?_;(first|(refine mv ?_<;>refine qf ⟨⟨by (first|exact True.intro),rfl⟩,?_⟩));refine qp ?_;(first|(refine cU ?_<;>refine qf ⟨⟨by (first|exact True.intro),rfl⟩,?_⟩));((refine qp ?_;first|refine qx rfl rfl rfl rfl rfl ((wV S.wf (B.ext w S.ext) H na (k:Int)).mono ?_));rintro ua h ⟨l1,x,a1,a2,a3⟩)<;>((refine qf ⟨⟨True.intro,?_⟩,?_⟩;(focus ((show keepsX _ _ _ _ _;simp only [keepsX];(repeat' (first|exact True.intro|refine And.intro ?_ ?_));all_goals (intro hw;first|exact x.ext.old _ S.bB)))));replace S:=S.zQ x;clear x;refine qp ?_;(first|(refine lB S rfl rfl ?_<;>refine qf ⟨⟨by (first|exact Or.inr rfl),rfl⟩,?_⟩));refine qp ?_;(first|(refine mv ?_<;>refine qf ⟨⟨by (first|exact True.intro),rfl⟩,?_⟩));refine qp ?_;(first|(refine mv ?_<;>refine qf ⟨⟨by (first|exact True.intro),rfl⟩,?_⟩));refine qp ?_;(first|(refine cU ?_<;>refine qf ⟨⟨by (first|exact ⟨Or.inr rfl,rfl⟩),rfl⟩,?_⟩)))
  ((refine qp ?_;first|refine qx rfl rfl rfl rfl rfl ((qbE S.wf v r (HR.ext w S.ext) H na (k:Int)).mono ?_));rintro ub h ⟨l2,x,b1,b2,b3⟩)<;>((refine qf ⟨⟨True.intro,?_⟩,?_⟩;(focus ((show keepsX _ _ _ _ _;simp only [keepsX];(repeat' (first|exact True.intro|refine And.intro ?_ ?_));all_goals (intro hw;first|exact x.ext.old _ S.bB)))));replace S:=S.zQ x;clear x)
  ((refine qp ?_;first|refine qx rfl rfl rfl rfl rfl ((QE S.wf ua ub l1 l2 (Rd.jm S (.there .here)) (Rd.jm S .here) (zD0 a3 (by decide)) (zD0 b3 (by decide))).mono ?_));rintro _ h ⟨⟨rfl,z⟩|⟨rfl,z⟩,x⟩)<;>((refine qf ⟨⟨True.intro,?_⟩,?_⟩;(focus ((show keepsX _ _ _ _ _;simp only [keepsX];(repeat' (first|exact True.intro|refine And.intro ?_ ?_));all_goals (intro hw;first|exact x.ext.old _ S.bB)))));replace S:=S.qN x;clear x;refine qp ?_;(first|(refine vl ?_<;>refine qf ⟨⟨by (first|exact True.intro),rfl⟩,?_⟩));refine QL ?_)
  ·all_goals (repeat' (first|refine qh rfl ?_|refine qj ?_|(refine qc 11 ?_;refine qO ?_)))
   refine ⟨k+1,?_,?_,qo⟩
   ·show 4 - (k+1)<4 - k;omega
   ·exact ⟨S.only (.there (.there .here)),by omega⟩
  ·exact absurd (SS.eq a1 b1 fun x=>(a2 x).trans (b2 x).symm) z
 ·skip
  all_goals (repeat' (first|(refine qc 14 ?_;refine qE ?_;refine mv ?_;skip)))
  (refine qx rfl rfl rfl rfl rfl ((qcg S.wf (B.ext w S.ext) H na nb).mono ?_);rintro _ h (⟨vc,P,rfl,x,ka,kb,C,hl⟩|⟨rfl,hn,x⟩))<;>((first|replace S:=S.zQ x|replace S:=S.qN x);clear x;refine zk ?_)
  all_goals (all_goals (repeat' (first|refine qg ?_|(refine qc 15 ?_;refine lB S rfl rfl ?_;refine qE ?_))))
  ·(refine qx rfl rfl rfl rfl rfl ((vY S.wf v r (HR.ext w S.ext) H na nb).mono ?_);rintro _ h (⟨vd,P2,rfl,x,ka2,kb2,C2,hl2⟩|⟨rfl,hn,x⟩))<;>((first|replace S:=S.zQ x|replace S:=S.qN x);clear x;refine zk ?_)
   ·obtain rfl:=C.uniq C2;all_goals (repeat' (first|refine qg ?_|(refine qc 16 ?_;refine qE ?_;refine bT ?_;refine qE ?_;refine mv ?_;(skip))))
    (refine qx rfl rfl rfl rfl rfl ((QE S.wf vc vd P P (Rd.jm S (.there .here)) (Rd.jm S .here) (zD0 hl (by decide)) (zD0 hl (by decide))).mono ?_);rintro _ h ⟨⟨rfl,z⟩|⟨rfl,z⟩,x⟩)<;>(replace S:=S.qN x;clear x;refine Jb ?_)
    ·all_goals (repeat' (fail))
     refine qC ⟨_,rfl,?_⟩;exact ⟨rfl,S.drop⟩
    ·exact absurd rfl z
   ·exact absurd C.pth (hn ka kb P)
  ·(refine qx rfl rfl rfl rfl rfl ((vY S.wf v r (HR.ext w S.ext) H na nb).mono ?_);rintro _ h (⟨vd,P2,rfl,x,ka2,kb2,C2,hl2⟩|⟨rfl,hn2,x⟩))<;>((first|replace S:=S.zQ x|replace S:=S.qN x);clear x;refine zk ?_)
   ·exact absurd C2.pth (hn ka2 kb2 P2)
   ·skip
    all_goals (repeat' (first|refine qg ?_|(refine qc 16 ?_;refine qE ?_;refine bT ?_;refine qE ?_;refine mv ?_;(skip))))
    (refine qx rfl rfl rfl rfl rfl ((QE S.wf (.slice none 0 0) (.slice none 0 0) [] [] (Rd.none_ h 1) (Rd.none_ h 1) (by decide) (by decide)).mono ?_);rintro _ h ⟨⟨rfl,z⟩|⟨rfl,z⟩,x⟩)<;>(replace S:=S.qN x;clear x;refine Jb ?_)
    ·all_goals (repeat' (fail))
     refine qC ⟨_,rfl,?_⟩;exact ⟨rfl,S.drop⟩
    ·exact absurd rfl z
end Go.Proofs.Xx
namespace Go.Proofs.Xx
open Go Go.Proofs
theorem RO.nil:RO ⟨[],[]⟩:=by
 refine ⟨?_,?_,?_,?_,?_,?_⟩<;>simp [TS]
structure qeY (h:AH) (x:Ac):Prop where
 rg:Qh h x.g.tv.val 1 eS x.g.tg
 tl:x.g.tg.length≤8796093021952
 kd:0≤x.kd
variable [Flag]
theorem yD {h0:AH} (w:WfH h0) (v:Value) (l:List Ac) (hr:Qh h0 v 13 yZ l) (hl:l.length≤9223372036854775807) (ha:∀ i,i<l.length→qeY h0 (l.getD i default)):Fn Tryz.prog Xh 13 [v] h0 (fun u _=>u = .bool true):=by
 have S:=Hs.start w;refine qZ rfl Tryz.func13 rfl rfl ?_;all_goals (repeat' (first|refine qg ?_|(refine qc 0 ?_;refine qK ?_)|(refine qc 1 ?_;skip)))
 (refine qx rfl rfl rfl rfl rfl ((qeu S.wf).mono ?_);rintro _ h ⟨p,rfl,x⟩)<;>(replace S:=S.zQ x;clear x;refine qK ?_)
 all_goals (repeat' (first|refine qg ?_|refine qh rfl ?_|refine qj ?_|refine qi ?_|(refine qc 2 ?_;refine ZU ?_)|(refine qc 4 ?_;(refine al S ?_;clear S;intro b h S);refine qf ?_)|(refine qc 5 ?_;refine qK ?_)))
 obtain ⟨b4,hnm⟩:∃ x,x=b:=⟨_,rfl⟩;subst hnm;have S:=((S.Qb (e:=24) (z:=9) (enc:=eG)).Qb (e:=111) (z:=3) (enc:=zh)).anyS (p:=fun h fp=>Star h (([]:List Qi).map Zo) fp) fun h'=>trivial;replace S:Hs h0 h [jX [],.sl (SlV.val ⟨none,0,0⟩) 111 3 zh [],.sl (SlV.val ⟨none,0,0⟩) 24 9 eG [],.blk b4 [SlV.val ⟨none,0,0⟩,SlV.val ⟨none,0,0⟩] 32,zN p ⟨[],[]⟩]:=S;refine qH (σ:=Nat×RlV×Rl) (fun (i,v1,r) h'=>Hs h0 h' [zN p r,.sl v1.vg.val 24 9 eG v1.gs,.sl v1.vt.val 111 3 zh r.ts,jX v1.gs,.blk b4 [v1.vg.val,v1.vt.val] 32]∧i≤l.length∧v1.gs.map (·.toGu)=r.us∧RO r) (fun (i,v1,r)=>l.length - i) (fun (i,v1,r)=>[(0,v),(3,.pointer (some ⟨p,0,none⟩)),(4,.pointer (some ⟨b4,0,none⟩)),(5,.int .i64 i)]) (0,⟨⟨none,0,0⟩,⟨none,0,0⟩,[]⟩,⟨[],[]⟩) qo ?_ ?_
 ·exact ⟨S.pick,zB0 _,rfl,RO.nil⟩
 clear S;rintro ⟨i,v1,r⟩ h ⟨S,i1,hu,H⟩;all_goals (repeat' (first|refine qg ?_|refine qh rfl ?_|refine qj ?_|refine qw ?_|refine qi ?_|(refine qc 6 ?_;refine qE ?_;refine Zx S ?_;(first|(refine cS ?_ ?_<;>intro hc))<;>(refine mv ?_;(first|refine off ?_|refine mv ?_);(first|refine off ?_|(first|(refine cS ?_ ?_<;>intro hc)))<;>(refine zU ?_)))))
 ·have hil:i<l.length:=by omega
  have A:=ha i hil;obtain ⟨ac,hac⟩:∃ ac,ac=l.getD i default:=⟨_,rfl⟩
  rw [← hac] at A;(repeat (refine qg ?_));refine qcw (id:=8) (j1:=10) (rd:=[(10,(0,1))]) (fun b1=>[some b1]) S (HintOk.direct) ?_;clear S;intro b1 h S;refine qp ?_;(first|(refine mv ?_<;>refine qf ⟨⟨by (first|exact True.intro),rfl⟩,?_⟩));refine qp ?_;(first|(refine lB S rfl rfl ?_<;>refine qf ⟨⟨by (first|exact True.intro),rfl⟩,?_⟩));refine qp ?_;(first|(refine mv ?_<;>refine qf ⟨⟨by (first|exact True.intro),rfl⟩,?_⟩));refine qp ?_;(first|(refine mv ?_<;>refine qf ⟨⟨by (first|exact True.intro),rfl⟩,?_⟩));refine qp ?_;(first|(refine QN S ?_<;>refine qf ⟨⟨by (first|exact True.intro),rfl⟩,?_⟩));refine qp ?_;(first|(refine jQ S ?_<;>refine qf ⟨⟨by (first|exact True.intro),rfl⟩,?_⟩));simp only [zA0];rw [← hac];replace S:Hs h0 h (.blk b1 [.slice none 0 0,.slice none 0 0] 32 :: zN p r :: .sl v1.vg.val 24 9 eG v1.gs :: .sl v1.vt.val 111 3 zh r.ts :: jX v1.gs :: .blk b4 [v1.vg.val,v1.vt.val] 32 :: []):=S;have S:=(show Hs h0 h (zN p r :: .sl v1.vg.val 24 9 eG v1.gs :: .sl v1.vt.val 111 3 zh r.ts :: jX v1.gs :: .blk b1 [.slice none 0 0,.slice none 0 0] 32 :: .blk b4 [v1.vg.val,v1.vt.val] 32 :: []) from S.pick)
  refine qp ?_;refine qx rfl rfl rfl rfl rfl ((qdi w S hu H ac A.rg A.tl A.kd).mono ?_);have S0:=S;clear S;rintro _ h ⟨⟨vg',vt',gs'⟩,r',rfl,hu',H',S⟩;refine qf ⟨⟨True.intro,?_⟩,?_⟩;(focus ((show keepsX _ _ _ _ _;simp only [keepsX];(repeat' (first|exact True.intro|refine And.intro ?_ ?_));all_goals (intro hw;first|exact (S.gB).trans (S0.gB).symm))));clear S0;unfold RlV.val;dsimp only;dsimp only at hu';(refine qp ?_;(first|(refine mv ?_<;>refine qf ⟨⟨by (first|exact True.intro),rfl⟩,?_⟩));refine qp ?_;(first|(refine vl ?_<;>refine qf ⟨⟨by (first|exact True.intro),rfl⟩,?_⟩));refine qp ?_;(first|(refine vl ?_<;>refine qf ⟨⟨by (first|exact True.intro),rfl⟩,?_⟩));refine fl S rfl rfl S.gB ?_;refine qp ?_;(first|((refine sB S rfl rfl ?_;have S0:=S;clear S;intro h S);refine qf ⟨⟨True.intro,?_⟩,?_⟩;(focus ((show keepsX _ _ _ _ _;simp only [keepsX];(repeat' (first|exact True.intro|refine And.intro ?_ ?_));all_goals (intro hw;first|exact absurd hw (by decide +kernel)))));clear S0));refine qp ?_;(first|(refine mv ?_<;>refine qf ⟨⟨by (first|exact True.intro),rfl⟩,?_⟩));refine QL ?_);replace S:Hs h0 h (zN p r' :: .sl vg'.val 24 9 eG gs' :: .sl vt'.val 111 3 zh r'.ts :: jX gs' :: .blk b1 [vg'.val,vt'.val] 32 :: .blk b4 [v1.vg.val,v1.vt.val] 32 :: []):=S;all_goals (repeat' (first|refine qg ?_|(refine qJ 9 ?_;refine mv ?_;refine vl ?_;refine qE ?_;(first|(refine lB S rfl rfl ?_));(skip))))
  (refine qx rfl rfl rfl rfl rfl ((qcM S.wf (Hs.qeK (S.pick:Hs _ h [zN p r'])) ⟨vg',vt',gs'⟩ (S.yS (v:=⟨vg',vt',gs'⟩) hu' H') H').mono ?_);rintro _ h ⟨rfl,x⟩)<;>(replace S:=S.qN x;clear x;refine vl ?_;refine vl ?_;refine qE ?_;(first|(refine lB S rfl rfl ?_));refine qE ?_;(first|(refine QN S ?_));(first|(refine fB S ?_));(first|(refine jQ S ?_));refine qE ?_;(first|(refine QN S ?_));(first|(refine fB S ?_));(first|(refine jQ S ?_));(skip))
  simp only [zA0];rw [← hac];(refine qx rfl rfl rfl rfl rfl ((qdt S.wf (Hs.qeK (S.pick:Hs _ h [zN p r'])) ⟨vg',vt',gs'⟩ (S.yS (v:=⟨vg',vt',gs'⟩) hu' H') H' ac.a ac.b).mono ?_);rintro _ h ⟨rfl,x⟩)<;>(replace S:=S.qN x;clear x;refine vl ?_;refine zU ?_)
  all_goals (repeat' (first|refine qh rfl ?_|refine qj ?_|(refine qc 7 ?_;refine qO ?_)|(refine qc 11 ?_;refine lB S rfl rfl ?_;(first|(refine sB S rfl rfl ?_;clear S;intro h S));refine qf ?_)))
  refine ⟨(i+1,⟨vg',vt',gs'⟩,r'),?_,?_,qo⟩
  ·show l.length - (i+1)<l.length - i;omega
  ·replace S:Hs h0 h (zN p r' :: .sl vg'.val 24 9 eG gs' :: .sl vt'.val 111 3 zh r'.ts :: jX gs' :: .blk b1 [vg'.val,vt'.val] 32 :: .blk b4 [vg'.val,vt'.val] 32 :: []):=S;exact ⟨S.pick,by (try dsimp only);omega,hu',H'⟩
 all_goals
  all_goals (repeat' (first|(refine qc 12 ?_;refine mv ?_;refine lB S rfl rfl ?_)))
  (refine qx rfl rfl rfl rfl rfl ((qcA S.wf (Hs.qeK (S.pick:Hs _ h [zN p r])) v1 (S.yS hu H) H).mono ?_);rintro _ h ⟨rfl,x⟩)<;>(replace S:=S.qN x;clear x;refine mv ?_;(skip))
  (refine qx rfl rfl rfl rfl rfl ((qba S.wf).mono ?_);rintro _ h ⟨rfl,x⟩)<;>(replace S:=S.qN x;clear x;refine Jb ?_)
  all_goals (repeat' (fail))
  refine qC ⟨_,rfl,?_⟩;rfl
end Go.Proofs.Xx
namespace Go.Proofs.Xx
open Go Go.RowKit
section
variable {H:Type} {enc:TypeId×Value→H} {P:Program} {W W':World}
theorem J4 {α β:Type} {f g:α→Option β}:∀ {l:List α} {r:List β},l.mapM f=some r→(∀ a b,a∈l→b∈r→f a=some b→g a=some b)→l.mapM g=some r:=by
 intro l;induction l with
 | nil=>intro r h _;simpa using h
 | cons a l ih =>
  intro r h hk;rw [List.mapM_cons] at h ⊢;cases hf:f a with
  | none=>rw [hf] at h;cases h
  | some b =>
   rw [hf] at h;cases hm:l.mapM f with
   | none=>rw [hm] at h;cases h
   | some r' =>
    rw [hm] at h;simp at h;subst h;rw [hk a b (by simp) (by simp) hf,ih hm fun x y hx hy=>hk x y (by simp [hx]) (by simp [hy])];rfl
theorem PM (hb:∀ k,k<W.heap.size→W'.heap[k]? = W.heap[k]?) {base n:Nat} {a:Addr} {cs:List Value} (h:W.cells? base a n=some cs):W'.cells? base a n=some cs:=by
 unfold World.cells? at h ⊢;split at h
 ·rename_i hba
  rw [if_pos hba];refine J4 h fun i v _ _ hv=>?_;have hlt:(a.add i).block<W.heap.size:=by
   rcases zA7 (a.add i).block W.heap.size with q|q
   ·exact q
   ·have:W.cell? (a.add i)=none:=by
     unfold World.cell?;rw [Array.getElem?_eq_none q]
    rw [this] at hv;cases hv
  rw [← hv];exact World.cell?_of_block (w:=W) (hb _ hlt)
 ·cases h
def vJ (P:Program):List Field→Nat→Nat→Bool
 | [],at_,n=>Nat.beq at_ n
 | f :: r,at_,n=>Nat.beq f.offset at_ && vJ P r (at_+P.cellsOf f.type) n
def Zv (P:Program):Nat→TypeId→Bool
 | 0,_=>false
 | m+1,t=>match P.underlying t with
  | some .bool|some .string=>Nat.beq (P.cellsOf t) 1
  | some (.int _)=>Nat.beq (P.cellsOf t) 1
  | some (.slice e)=>Nat.beq (P.cellsOf t) 1 && (Zv P m e && !Nat.beq (P.cellsOf e) 0)
  | some (.struct fs)=>fs.toList.all (fun f=>Zv P m f.type) && vJ P fs.toList 0 (P.cellsOf t)
  | some (.array n e)=>Zv P m e && Nat.beq (P.cellsOf t) (n*P.cellsOf e)
  | _=>false
theorem qaE (hb:∀ k,k<W.heap.size→W'.heap[k]? = W.heap[k]?) {base:Nat} {sp:Nat→Bool} {held:Bool}:∀ (fuel m:Nat) (t:TypeId) (cs:List Value) (x:DataW H×List MemPlace),Zv P m t=true →
 DataW.trod enc P W base (fun _=>true) held fuel t cs=some x→(∀ p∈x.2,sp p.block=true)→DataW.trod enc P W' base sp held fuel t cs=some x:=by
 intro fuel;induction fuel with
 | zero=>intro m t cs x _ h _;cases h
 | succ fuel ih =>
  intro m t cs x hp h hsp;cases m with
  | zero=>cases hp
  | succ m =>
  unfold Zv at hp;cases hu:P.underlying t with
  | none=>rw [hu] at hp;cases hp
  | some u =>
   rw [hu] at hp;cases u with
   | bool=>obtain ⟨b,rfl,rfl⟩:=DataW.trod_bool hu h;unfold DataW.trod;rw [hu]
   | int k =>
    obtain ⟨b,rfl,rfl,hwf⟩:=DataW.trod_int hu h;unfold DataW.trod;rw [hu];simp [hwf]
   | string =>
    obtain ⟨b,rfl,rfl,hs⟩:=DataW.trod_string hu h;unfold DataW.trod;rw [hu];simp [hs]
   | struct fs =>
    simp only [zA8,zC8] at hp;unfold DataW.trod at h ⊢;rw [hu] at h ⊢;simp only at h ⊢;split at h
    ·rename_i hc
     rw [if_pos hc];simp only [Option.map_eq_some_iff] at h ⊢;obtain ⟨xs,h1,rfl⟩:=h;refine ⟨xs,J4 h1 fun f y hf hy hq=>ih m _ _ _ (hp.1 f hf) hq fun p hp=>hsp p ?_,rfl⟩;simp only [zH1];exact ⟨y,hy,hp⟩
    ·cases h
   | array n e =>
    simp only [zA8] at hp;unfold DataW.trod at h ⊢;rw [hu] at h ⊢;simp only at h ⊢;split at h
    ·rename_i hc
     rw [if_pos hc];simp only [Option.map_eq_some_iff] at h ⊢;obtain ⟨xs,h1,rfl⟩:=h;refine ⟨xs,J4 h1 fun f y hf hy hq=>ih m _ _ _ hp.1 hq fun p hp=>hsp p ?_,rfl⟩;simp only [zH1];exact ⟨y,hy,hp⟩
    ·cases h
   | slice e =>
    simp only [zA8,zG4] at hp;have hz:P.cellsOf e≠0:=fun q=>by have:=hp.2.2;rw [q] at this;simp at this
    rcases DataW.trod_slice hu h with ⟨rfl,rfl⟩|⟨a,len,cap,-,-,-,-,rfl,-⟩
    ·unfold DataW.trod;rw [hu];rfl
    ·unfold DataW.trod at h ⊢;rw [hu] at h ⊢;simp only at h ⊢;split at h
     ·rename_i hc
      rw [if_pos hc];simp only [if_true,Option.map_eq_some_iff,Option.bind_eq_some_iff] at h ⊢;obtain ⟨elems,h1,rest,h2,rfl⟩:=h;have key:∀ i y,y∈elems ++ rest→(W.cells? base (a.add (i*P.cellsOf e)) (P.cellsOf e)).bind (DataW.trod enc P W base (fun _=>true) held fuel e)=some y →
       (W'.cells? base (a.add (i*P.cellsOf e)) (P.cellsOf e)).bind (DataW.trod enc P W' base sp held fuel e)=some y:=by
       intro i y hy hq;rw [Option.bind_eq_some_iff] at hq ⊢;obtain ⟨cs',q1,q2⟩:=hq;refine ⟨cs',PM hb q1,ih m _ _ _ hp.2.1 q2 fun p hp=>hsp p ?_⟩;simp only [zB8,zH1];exact .inr ⟨y,by simpa using hy,hp⟩
      refine ⟨elems,J4 h1 fun i y _ hy hq=>key i y (by simp [hy]) hq,rest,?_,rfl⟩;cases hs:sp a.block with
      | true =>
       simp only [if_true];exact J4 h2 fun i y _ hy hq=>key (len+i) y (by simp [hy]) hq
      | false =>
       simp only [zD9,if_false];cases rest with
       | nil=>rfl
       | cons y rest =>
        have hp':sp a.block=true:=by
         refine hsp (.cell a.block (a.off+0)) ?_;simp only [zB8];refine .inl ?_;unfold MemPlace.row;rw [zF2];exact ⟨0,zE3.2 (Nat.mul_pos (by simp only [zC4];omega) (by omega)),rfl⟩
        rw [hs] at hp';cases hp'
     ·cases h
   | _=>cases hp
theorem YR (hb:∀ k,k<W.heap.size→W'.heap[k]? = W.heap[k]?) {base:Nat} {sp:Nat→Bool} {held:Bool}:∀ (ts:List TypeId) (vs:List Value) (ds:List (DataW H)) (ps:List MemPlace),ts.all (Zv P 20)=true →
 DataW.TrodAll enc P W base (fun _=>true) held ts vs ds ps→(∀ p∈ps,sp p.block=true)→DataW.TrodAll enc P W' base sp held ts vs ds ps
 | [],[],[],ps,_,h,_=>h
 | t :: ts,v :: vs,d :: ds,ps,hp,h,hsp=>by
  simp only [List.all_cons,zA8] at hp;obtain ⟨p,q,⟨fuel,h1⟩,h2,rfl⟩:=h;exact ⟨p,q,⟨fuel,qaE hb fuel 20 t _ _ hp.1 h1 fun x hx=>hsp x (by simp [hx])⟩,YR hb ts vs ds q hp.2 h2 fun x hx=>hsp x (by simp [hx]),rfl⟩
 | [],[],_ :: _,_,_,h,_=>h.elim
 | [],_ :: _,_,_,_,h,_=>h.elim
 | _ :: _,[],_,_,_,h,_=>h.elim
 | _ :: _,_ :: _,[],_,_,h,_=>h.elim
end
end Go.Proofs.Xx
namespace Go.Proofs.Xx
open Go Go.RowKit
section
variable {P:Program}
theorem Rel.qaw [Glob] {B:Bs} {e:Emb} {h:AH} {w:World} (r:Rel B e h w) {k sh:Nat} {cc:Array Value} {el:TypeId} {fr:Nat×Nat} {c:List Value} (hkB:k<B.lo) (hk:w.heap[k]? = some (.cells cc el fr)) (hsz:sh+c.length≤cc.size)
 (hc:∀ i v,c[i]? = some v→∃ v',cc[sh+i]? = some v'∧VR (e.put h.next ⟨k,sh,0⟩) v v') :
 Rel B (e.put h.next ⟨k,sh,0⟩) (h.add (.cells c el none true)) w∧e.le (e.put h.next ⟨k,sh,0⟩):=by
 have hle:=r.ZT ⟨k,sh,0⟩;have hlt:k<w.heap.size:=(zB9.1 hk).1;refine ⟨⟨fun b M q=>?_,fun b hb=>?_,fun b M q=>?_,fun b M p q1 q2=>?_,fun b M p b' M' p' e1 e2 e3 e4 e5 e6 e7=>?_,fun b M p q1 q2 q3=>?_,r.base,r.keep,r.glob⟩,hle⟩
 ·by_cases hb:b=h.next
  ·subst hb;exact zG1 _
  ·rw [Emb.zu _ _ hb] at q;exact Nat.lt_succ_of_lt (r.dom b M q)
 ·have hb':h.next+1≤b:=hb
  rw [AH.zF,if_neg (by omega)];exact r.wf b (by omega)
 ·by_cases hb:b=h.next
  ·subst hb;rw [Emb.zi] at q;cases q;exact hlt
  ·rw [Emb.zu _ _ hb] at q;exact r.rng b M q
 ·rw [AH.zF] at q2;by_cases hb:b=h.next
  ·subst hb;rw [Emb.zi] at q1;cases q1;rw [if_pos rfl] at q2;cases q2
   exact ⟨cc,fr,hk,hsz,hc,(fun _=>⟨rfl,fun q=>by cases q⟩),(fun _ q=>by cases q),(fun q=>by cases q)⟩
  ·rw [Emb.zu _ _ hb] at q1;rw [if_neg hb] at q2;exact (r.obj b M p q1 q2).mono hle
 ·rw [AH.zF] at e2 e4;by_cases hb':b'=h.next
  ·subst hb';rw [if_pos rfl] at e4;cases e4;cases e7
  ·rw [Emb.zu _ _ hb'] at e3;rw [if_neg hb'] at e4;by_cases hb:b=h.next
   ·subst hb;rw [Emb.zi] at e1;cases e1
    rw [if_pos rfl] at e2;cases e2
    have:=r.own b' M' p' e3 e4 e7;simp only at e5;omega
   ·rw [Emb.zu _ _ hb] at e1;rw [if_neg hb] at e2;exact r.inj b M p b' M' p' e1 e2 e3 e4 e5 e6 e7
 ·rw [AH.zF] at q2;by_cases hb:b=h.next
  ·subst hb;rw [if_pos rfl] at q2;cases q2;cases q3
  ·rw [Emb.zu _ _ hb] at q1;rw [if_neg hb] at q2;exact r.own b M p q1 q2 q3
def Bs.of (w:World):Bs:=⟨w.heap.size,w.heap⟩
def RoH (h:AH):Prop:=∀ b o,h.get b=some o→JR o=false
structure WRel [Glob] (w:World) (e:Emb) (h:AH):Prop where
 rel:Rel (Bs.of w) e h w
 ro:RoH h
theorem WRel.empty [Glob] {w:World} (hg:Glob.ok w.heap.size w.heap):WRel w (fun _=>none) ⟨.e,0,0⟩ :=
 ⟨⟨fun b L q=>(by cases q),fun b _=>Tr.wJ b,fun b L q=>(by cases q),fun b L o q=>(by cases q),fun b L o b' L' o' q=>(by cases q),fun b L o q=>(by cases q),zA3 _,fun _ _=>rfl,hg⟩,
  fun b o q=>by rw [show (⟨.e,0,0⟩:AH).get b=none from Tr.wJ b] at q;cases q⟩
theorem WRel.wfH [Glob] {w:World} {e:Emb} {h:AH} (r:WRel w e h):WfH h:=r.rel.wf
theorem WRel.qaw [Glob] {e:Emb} {h:AH} {w:World} (r:WRel w e h) {k sh:Nat} {cc:Array Value} {el:TypeId} {fr:Nat×Nat} {c:List Value} (hk:w.heap[k]? = some (.cells cc el fr)) (hsz:sh+c.length≤cc.size)
 (hc:∀ i v,c[i]? = some v→∃ v',cc[sh+i]? = some v'∧VR e v v') :
 ∃ e',WRel w e' (h.add (.cells c el none true))∧e.le e'∧Ext h (h.add (.cells c el none true))∧e' h.next=some ⟨k,sh,0⟩:=by
 have hle:=r.rel.ZT ⟨k,sh,0⟩;obtain ⟨r1,r2⟩:=Rel.qaw (sh:=sh) (c:=c) r.rel (show k<w.heap.size from (zB9.1 hk).1) hk hsz (fun i v hi=>by obtain ⟨v',h1,h2⟩:=hc i v hi;exact ⟨v',h1,h2.mono hle⟩);refine ⟨_,⟨r1,fun b o q=>?_⟩,r2,(Ext.refl r.wfH).add _,Emb.zi _ _ _⟩;rw [AH.zF] at q;split at q
 ·cases q;rfl
 ·exact r.ro b o q
def AR (P:Program) (h:AH):Nat→TypeId→List Value→Prop
 | 0,_,_=>False
 | f+1,t,cs =>
  match P.underlying t,cs with
  | some .bool,[.bool _]=>True
  | some (.int k),[.int k' n]=>k'=k∧(Lit.int k n).wf=true
  | some .string,[.string s]=>s.size≤maxLen
  | some (.slice e),[v]=>∃ n c,Rd h v (P.cellsOf e) n c∧(n≤maxLen∧n*P.bytesOf e≤reachBytes)∧Vm v∧∀ i,i<n→AR P h f e ((c.drop (i*P.cellsOf e)).take (P.cellsOf e))
  | some (.struct fs),cs=>cs.length=P.cellsOf t∧∀ fd∈fs.toList,AR P h f fd.type ((cs.drop fd.offset).take (P.cellsOf fd.type))
  | some (.array n e),cs=>cs.length=P.cellsOf t∧∀ i,i<n→AR P h f e ((cs.drop (i*P.cellsOf e)).take (P.cellsOf e))
  | _,_=>False
theorem AR.ext {h h':AH} (w:WfH h) (x:Ext h h'):∀ (f:Nat) (t:TypeId) (cs:List Value),AR P h f t cs→AR P h' f t cs
 | 0,_,_,q=>q
 | f+1,t,cs,q=>by
  unfold AR at q ⊢;split at q
  ·exact q
  ·exact q
  ·exact q
  ·obtain ⟨n,c,h1,h2,hc,h3⟩:=q;exact ⟨n,c,h1.ext w x,h2,hc,fun i hi=>AR.ext w x f _ _ (h3 i hi)⟩
  ·exact ⟨q.1,fun fd hf=>AR.ext w x f _ _ (q.2 fd hf)⟩
  ·exact ⟨q.1,fun i hi=>AR.ext w x f _ _ (q.2 i hi)⟩
  ·exact q
section
variable {H:Type} {enc:TypeId×Value→H}
def Light (P:Program) (t:TypeId) (d:DataW H):Prop:=∀ n∈DataW.weights P t d,n≤reachBytes
theorem Xz:∀ (ts:List TypeId) (ds:List (DataW H)) (j:Nat) (t:TypeId) (d:DataW H),ts[j]? = some t→ds[j]? = some d→∀ n∈DataW.weights P t d,n∈DataW.weightsEach P ts ds
 | [],_,_,_,_,q,_=>by simp at q
 | _ :: _,[],_,_,_,_,q=>by simp at q
 | t :: ts,d :: ds,0,_,_,q1,q2=>by
  simp only [List.getElem?_cons_zero,Option.some.injEq] at q1 q2;subst q1;subst q2;intro n hn;rw [DataW.weightsEach];exact List.mem_append_left _ hn
 | t :: ts,d :: ds,j+1,_,_,q1,q2=>by
  intro n hn;rw [DataW.weightsEach];exact List.mem_append_right _ (Xz ts ds j _ _ (by simpa using q1) (by simpa using q2) n hn)
theorem weightsAll_mem (e:TypeId):∀ (ds:List (DataW H)) (j:Nat) (d:DataW H),ds[j]? = some d→∀ n∈DataW.weights P e d,n∈DataW.weightsAll P e ds
 | [],_,_,q=>by simp at q
 | d :: ds,0,_,q=>by
  simp only [List.getElem?_cons_zero,Option.some.injEq] at q;subst q;intro n hn;rw [DataW.weightsAll];exact List.mem_append_left _ hn
 | d :: ds,j+1,_,q=>by
  intro n hn;rw [DataW.weightsAll];exact List.mem_append_right _ (weightsAll_mem e ds j _ (by simpa using q) n hn)
theorem Light.field {t:TypeId} {fs:Array Field} {ds:List (DataW H)} (hu:P.underlying t=some (.struct fs)) (hl:Light P t (.agg ds)) {i:Nat} {f:Field} {d:DataW H} (hf:fs[i]? = some f) (hd:ds[i]? = some d):Light P f.type d:=fun n hn=>by
 refine hl n ?_;rw [DataW.weights,hu];exact Xz _ _ i _ _ (by simp [hf]) hd n hn
theorem Light.item {t e:TypeId} {k:Nat} {ds:List (DataW H)} (hu:P.underlying t=some (.array k e)) (hl:Light P t (.agg ds)) {i:Nat} {d:DataW H} (hd:ds[i]? = some d):Light P e d:=fun n hn=>by
 refine hl n ?_;rw [DataW.weights,hu];exact weightsAll_mem e _ i _ hd n hn
theorem Light.elem {t e:TypeId} {ds rs:List (DataW H)} (hu:P.underlying t=some (.slice e)) (hl:Light P t (.slice ds rs)) {i:Nat} {d:DataW H} (hd:ds[i]? = some d):Light P e d:=fun n hn=>by
 refine hl n ?_;rw [DataW.weights,hu];exact List.mem_cons_of_mem _ (List.mem_append_left _ (weightsAll_mem e _ i _ hd n hn))
theorem Light.slice {t e:TypeId} {ds rs:List (DataW H)} (hu:P.underlying t=some (.slice e)) (hl:Light P t (.slice ds rs)):ds.length*P.bytesOf e≤reachBytes:=by
 have h1:=hl ((ds.length+rs.length)*P.bytesOf e) (by rw [DataW.weights,hu];exact List.mem_cons_self);exact zD0 (zD3 _ (Nat.le_add_right _ _)) h1
theorem KL:∀ (fs:List Field) (a n:Nat),vJ P fs a n=true→a≤n
 | [],a,n,h=>by have:=zA6 h;omega
 | f :: r,a,n,h=>by
  simp only [vJ,zA8] at h;have:=KL r _ n h.2;omega
def qcu [Glob] (enc:TypeId×Value→H) (P:Program) (w:World) (base:Nat) (sp:Nat→Bool) (held:Bool) (n:Nat) (t:TypeId) (cs:List Value):Prop:=∀ e h,WRel w e h→∃ e' h' r,WRel w e' h'∧e.le e'∧Ext h h'∧VRs e' r cs∧AR P h' n t r
theorem Wu [Glob] {w:World} {base n:Nat} {sp:Nat→Bool} {held:Bool} {cs:List Value}:∀ (fs:List Field) (a:Nat),vJ P fs a cs.length=true →
 (∀ fd∈fs,qcu enc P w base sp held n fd.type ((cs.drop fd.offset).take (P.cellsOf fd.type)))→∀ e h,WRel w e h →
 ∃ e' h' r,WRel w e' h'∧e.le e'∧Ext h h'∧VRs e' r (cs.drop a)∧∀ fd∈fs,a≤fd.offset∧AR P h' n fd.type ((r.drop (fd.offset - a)).take (P.cellsOf fd.type))
 | [],a,ht,_,e,h,r=>by
  have:=zA6 ht;exact ⟨e,h,[],r,e.le_refl,Ext.refl r.wfH,by rw [this,List.drop_length];exact .nil,fun fd q=>by cases q⟩
 | f :: fs,a,ht,hk,e,h,r=>by
  simp only [vJ,zA8] at ht;have hoff:=zA6 ht.1;have hle:=KL fs _ _ ht.2;obtain ⟨e1,h1,c1,r1,l1,x1,v1,a1⟩:=hk f (by simp) e h r;obtain ⟨e2,h2,c2,r2,l2,x2,v2,a2⟩:=Wu fs _ ht.2 (fun fd q=>hk fd (by simp [q])) e1 h1 r1;have hc1:c1.length=P.cellsOf f.type:=by
   have:=v1.length;rw [zA9,zB4,hoff] at this;omega
  refine ⟨e2,h2,c1 ++ c2,r2,Emb.le_trans l1 l2,x1.trans x2,?_,?_⟩
  ·have:=(v1.mono l2).append v2;rw [hoff,← List.drop_drop,zH2] at this;exact this
  ·intro fd q;rcases zE8.1 q with rfl|q
   ·refine ⟨by omega,?_⟩;rw [hoff,zG7,List.drop_zero,List.take_append_of_le_length (by omega),zF9 (by omega)];exact a1.ext r1.wfH x2 _ _ _
   ·obtain ⟨q1,q2⟩:=a2 fd q;refine ⟨by omega,?_⟩;rw [show fd.offset - a=c1.length+(fd.offset - (a+P.cellsOf f.type)) by omega,← List.drop_drop,List.drop_left];exact q2
theorem yz [Glob] {w:World} {base n:Nat} {sp:Nat→Bool} {held:Bool} {ty:TypeId} {z:Nat} {cs:List Value}:∀ (k:Nat),k*z≤cs.length →
 (∀ i,i<k→qcu enc P w base sp held n ty ((cs.drop (i*z)).take z))→∀ e h,WRel w e h →
 ∃ e' h' r,WRel w e' h'∧e.le e'∧Ext h h'∧VRs e' r (cs.take (k*z))∧∀ i,i<k→AR P h' n ty ((r.drop (i*z)).take z)
 | 0,_,_,e,h,r=>⟨e,h,[],r,e.le_refl,Ext.refl r.wfH,by simp;exact .nil,fun i q=>by omega⟩
 | k+1,hk,ht,e,h,r=>by
  rw [zE1,Nat.one_mul] at hk;obtain ⟨e1,h1,c1,r1,l1,x1,v1,a1⟩:=yz k (by omega) (fun i q=>ht i (by omega)) e h r;obtain ⟨e2,h2,c2,r2,l2,x2,v2,a2⟩:=ht k (by omega) e1 h1 r1;have hc1:c1.length=k*z:=by
   have:=v1.length;rw [zA9] at this;omega
  have hc2:c2.length=z:=by
   have:=v2.length;rw [zA9,zB4] at this;omega
  refine ⟨e2,h2,c1 ++ c2,r2,Emb.le_trans l1 l2,x1.trans x2,?_,fun i hi=>?_⟩
  ·have:=(v1.mono l2).append v2;rw [zE1,Nat.one_mul,List.take_add];exact this
  ·by_cases hik:i<k
   ·have:(i+1)*z≤k*z:=zD3 z hik;rw [zE1,Nat.one_mul] at this;rw [List.drop_append_of_le_length (by omega),List.take_append_of_le_length (by rw [zB4];omega)];exact (a1 i hik).ext r1.wfH x2 _ _ _
   ·obtain rfl:i=k:=by omega
    rw [← hc1,List.drop_left,zF9 (by omega)];exact a2
theorem embed [Glob] {w:World} {base:Nat} {sp:Nat→Bool} (hsp:∀ b,sp b=true) {held:Bool} (hw:∃ (k:Nat) (cc:Array Value) (el:TypeId) (fr:Nat×Nat),w.heap[k]? = some (.cells cc el fr)):∀ (n m:Nat) (t:TypeId) (cs:List Value) (x:DataW H×List MemPlace),Zv P m t=true →
 DataW.trod enc P w base sp held n t cs=some x→Light P t x.1→qcu enc P w base sp held n t cs
 | 0,_,_,_,_,_,h,_=>by simp [DataW.trod] at h
 | _+1,0,_,_,_,h,_,_=>by cases h
 | n+1,m+1,t,cs,x,hp,h,hlt=>by
  intro e h0 r;unfold Zv at hp;cases hu:P.underlying t with
  | none=>rw [hu] at hp;cases hp
  | some u =>
   rw [hu] at hp;cases u with
   | bool =>
    obtain ⟨b,rfl,-⟩:=DataW.trod_bool hu h;exact ⟨e,h0,[.bool b],r,e.le_refl,Ext.refl r.wfH,.one (.bool b),by unfold AR;rw [hu];trivial⟩
   | int k =>
    obtain ⟨b,rfl,-,hwf⟩:=DataW.trod_int hu h;exact ⟨e,h0,[.int k b],r,e.le_refl,Ext.refl r.wfH,.one (.int k b),by unfold AR;rw [hu];exact ⟨rfl,hwf⟩⟩
   | string =>
    obtain ⟨s,rfl,-,hs⟩:=DataW.trod_string hu h;exact ⟨e,h0,[.string s],r,e.le_refl,Ext.refl r.wfH,.one (.string s),by unfold AR;rw [hu];exact hs⟩
   | struct fs =>
    simp only [zA8,zC8] at hp;obtain ⟨xs,n',hn,hxe,hlen,hxl,hf⟩:=DataW.trod_struct hu h;rw [hxe] at hlt;obtain rfl:n'=n:=by omega
    obtain ⟨e1,h1,c1,r1,l1,x1,v1,a1⟩:=Wu fs.toList 0 (by rw [hlen];exact hp.2) (fun fd hfd=>by
     obtain ⟨i,hi,rfl⟩:=List.getElem_of_mem hfd;have hg:fs[i]? = some fs.toList[i]:=by rw [← zC1];exact zA4 hi
     have h2:=hf i _ hg;have hix:i<xs.length:=by rw [hxl];simpa using hi
     rw [zA4 hix] at h2;exact embed hsp hw n' m _ _ _ (hp.1 _ (List.getElem_mem hi)) h2 (hlt.field hu hg (by rw [zI1,zA4 hix];rfl))) e h0 r
    refine ⟨e1,h1,c1,r1,l1,x1,by simpa using v1,?_⟩;unfold AR;rw [hu];have hl1:=v1.length;simp only [List.drop_zero] at hl1;exact ⟨by omega,fun fd hfd=>by have:=(a1 fd hfd).2;simpa using this⟩
   | array k el =>
    simp only [zA8] at hp;have hsz:=zA6 hp.2;obtain ⟨xs,n',hn,hxe,hlen,hxl,hf⟩:=DataW.trod_array hu h;rw [hxe] at hlt;obtain rfl:n'=n:=by omega
    obtain ⟨e1,h1,c1,r1,l1,x1,v1,a1⟩:=yz (z:=P.cellsOf el) (ty:=el) (cs:=cs) k (by omega) (fun i hi=>by
     have h2:=hf i hi;have hix:i<xs.length:=by omega
     rw [zA4 hix] at h2;exact embed hsp hw n' m _ _ _ hp.1 h2 (hlt.item hu (by rw [zI1,zA4 hix];rfl))) e h0 r
    rw [zF9 (by omega)] at v1;refine ⟨e1,h1,c1,r1,l1,x1,v1,?_⟩;unfold AR;rw [hu];exact ⟨by have:=v1.length;omega,a1⟩
   | slice el =>
    simp only [zA8,zG4] at hp;have hz:P.cellsOf el≠0:=fun q=>by have:=hp.2.2;rw [q] at this;simp at this
    rcases DataW.trod_slice hu h with ⟨rfl,-⟩|⟨a,len,cap,elems,rest,n',hn,rfl,hxe,hb,hl,hm,hlen,hel,hrest,-⟩
    ·refine ⟨e,h0,[.slice none 0 0],r,e.le_refl,Ext.refl r.wfH,.one .nilSlice,?_⟩;unfold AR;rw [hu];exact ⟨0,[],Rd.none_ _ _,⟨zB0 _,by rw [Nat.zero_mul];exact zB0 _⟩,zA3 _,fun i hi=>by omega⟩
    ·obtain rfl:n'=n:=by omega
     rw [hxe] at hlt;have hwt:len*P.bytesOf el≤reachBytes:=by have:=hlt.slice hu;rwa [zC5,hlen] at this
     obtain ⟨hr1,hr2⟩:=hrest (hsp _);rcases zF5 cap with hc0|hc0
     ·subst hc0;obtain rfl:len=0:=by omega
      obtain ⟨k,cc,el0,fr,hk⟩:=hw;obtain ⟨e1,r1,l1,x1,q1⟩:=r.qaw (sh:=0) (c:=[]) hk (by simp) (fun i v hi=>by simp at hi);refine ⟨e1,_,[.slice (some ⟨h0.next,0,none⟩) 0 0],r1,l1,x1,.one (.slice h0.next 0 a 0 0 ⟨k,0,0⟩ q1 (zA3 _) (.inr ⟨rfl,rfl⟩)),?_⟩;unfold AR;rw [hu];exact ⟨0,[],.inr ⟨h0.next,0,0,[],el0,none,true,rfl,by rw [AH.zF,if_pos rfl],by simp [zI]⟩,⟨zB0 _,by rw [Nat.zero_mul];exact zB0 _⟩,zA3 _,fun i hi=>by omega⟩
     ·
      have hfirst:∃ cs0 y,w.cells? base a (P.cellsOf el)=some cs0∧DataW.trod enc P w base sp held n' el cs0=some y:=by
       rcases zF5 len with h0'|h0'
       ·have h2:=hr2 0 (by omega);have hix:0<rest.length:=by omega
        rw [zA4 hix,h0',Option.bind_eq_some_iff] at h2;obtain ⟨cs0,q1,q2⟩:=h2;exact ⟨cs0,_,by simpa [Addr.add] using q1,q2⟩
       ·have h2:=hel 0 h0';have hix:0<elems.length:=by omega
        rw [zA4 hix,Option.bind_eq_some_iff] at h2;obtain ⟨cs0,q1,q2⟩:=h2;exact ⟨cs0,_,by simpa [Addr.add] using q1,q2⟩
      obtain ⟨cs0,y0,g1,-⟩:=hfirst;obtain ⟨-,g2,g3⟩:=World.cells?_some g1;have g4:=g3 0 (by omega);rw [zA4 (by omega)] at g4;obtain ⟨ab,ao,asp⟩:=a;simp only [Addr.add,if_true] at g4;unfold World.cell? at g4;simp only at g4;cases hblk:w.heap[ab]? with
      | none=>rw [hblk] at g4;cases g4
      | some ob =>
       rw [hblk] at g4;cases ob with
       | cells cc el0 fr =>
        simp only at g4;cases asp with
        | some s=>simp at g4
        | none =>
         simp only [Option.isSome_none,zD9,if_false] at g4;have hao:ao<cc.size:=(zB9.1 g4).1;have hcell:∀ (i:Nat) (v:Value),w.cell? ⟨ab,ao+i,none⟩=some v↔cc[ao+i]? = some v:=fun i v=>by
          unfold World.cell?;simp [hblk]
         have helem:∀ i,i<len→∃ y,DataW.trod enc P w base sp held n' el (((cc.toList.drop ao).drop (i*P.cellsOf el)).take (P.cellsOf el))=some y∧Light P el y.1∧ao+i*P.cellsOf el+P.cellsOf el≤cc.size:=by
          intro i hi;have h2:=hel i hi;have hix:i<elems.length:=by omega
          rw [zA4 hix,Option.bind_eq_some_iff] at h2;obtain ⟨ci,q1,q2⟩:=h2;obtain ⟨-,q3,q4⟩:=World.cells?_some q1;have hadd:∀ j,((⟨ab,ao,none⟩:Addr).add (i*P.cellsOf el)).add j=⟨ab,ao+(i*P.cellsOf el+j),none⟩:=fun j=>by rw [jP,jP,zF8]
          have hlast:ao+i*P.cellsOf el+P.cellsOf el≤cc.size:=by
           have q5:=q4 (P.cellsOf el - 1) (by omega);rw [zA4 (by omega),hadd,hcell] at q5;have:=(zB9.1 q5).1;omega
          refine ⟨elems[i],?_,hlt.elem hu (i:=i) (by rw [zI1,zA4 hix];rfl),hlast⟩;rw [← q2];congr 1
          refine List.ext_getElem? fun j=>?_;by_cases hj:j<P.cellsOf el
          ·rw [zC7,if_pos hj,zC3,zC3];have q5:=q4 j hj;have e2:ci[j]? = some (ci[j]'(by omega)):=zA4 (by omega);rw [e2,hadd,hcell] at q5;rw [e2,zC1];exact q5
          ·rw [zG6 (by rw [zA9];omega),zG6 (by omega)]
         have hfit:ao+len*P.cellsOf el≤cc.size:=by
          rcases zF5 len with h0'|h0'
          ·rw [h0',Nat.zero_mul];omega
          ·obtain ⟨-,-,-,q⟩:=helem (len - 1) (by omega);have:(len - 1)*P.cellsOf el+P.cellsOf el=len*P.cellsOf el:=by
            rw [← Nat.succ_mul];congr 1;omega
           omega
         obtain ⟨e1,h1,c1,r1,l1,x1,v1,a1⟩:=yz (z:=P.cellsOf el) (ty:=el) (cs:=cc.toList.drop ao) len (by simp;omega) (fun i hi=>by
          obtain ⟨y,q1,q2,-⟩:=helem i hi;exact embed hsp hw n' m _ _ _ hp.2.1 q1 q2) e h0 r
         have hc1:c1.length=len*P.cellsOf el:=by
          have:=v1.length;rw [zA9,zB4,zC2] at this;omega
         obtain ⟨e2,r2,l2,x2,q2⟩:=r1.qaw (sh:=ao) (c:=c1) hblk (by omega) (fun i v hi=>by
          obtain ⟨v',q1,q2⟩:=v1.get i v hi;refine ⟨v',?_,q2⟩;rw [zC7,zC3,zC1] at q1;split at q1
          ·exact q1
          ·cases q1)
         refine ⟨e2,_,[.slice (some ⟨h1.next,0,none⟩) len cap],r2,Emb.le_trans l1 l2,x1.trans x2,.one (.slice h1.next 0 ⟨ab,ao,none⟩ len cap ⟨ab,ao,0⟩ q2 hl (.inl rfl)),?_⟩;unfold AR;rw [hu];refine ⟨len,c1,.inr ⟨h1.next,0,cap,c1,el0,none,true,rfl,by rw [AH.zF,if_pos rfl],by rw [← hc1];exact Qx c1⟩,⟨by omega,hwt⟩,hl,fun i hi=>(a1 i hi).ext r1.wfH x2 _ _ _⟩
       | _=>cases g4
   | _=>cases hp
end
end
end Go.Proofs.Xx
namespace Go.Proofs.Xx
open Go Go.RowKit Go.WideShapes Go.ChangeShapes
theorem VRs.WR {e:Emb} {r:List Value} {v:Value} (h:VRs e r [v]):∃ u,r=[u]∧VR e u v:=by
 cases h with
 | cons u v' s s' h1 h2=>cases h2;exact ⟨u,rfl,h1⟩
section
variable {P:Program}
def qcn (P:Program) (t:TypeId) (r:List Value):Value :=
 match P.underlying t with
 | some (.struct _)|some (.array _ _)=>.agg r.toArray
 | _=>r.headD .nilFunc
theorem qdz {w:World} {rc:Reach} {b0 m:Nat} {t:TypeId} {v:Value} {e:Emb} {r:List Value} (hp:Zv P m t=true) (hval:Value.okWide P w rc b0 t v) (hv:VRs e r v.cells.toList):VR e (qcn P t r) v:=by
 cases m with
 | zero=>cases hp
 | succ m =>
  unfold Zv at hp;unfold qcn;unfold Value.okWide at hval;cases hu:P.underlying t with
  | none=>rw [hu] at hp;cases hp
  | some u =>
   rw [hu] at hp hval;cases u with
   | struct fs =>
    obtain ⟨cs,rfl,-⟩:=hval;exact VR.agg (f:=e) r cs.toList (by simpa [Value.cells] using hv)
   | array n el =>
    obtain ⟨cs,rfl,-⟩:=hval;exact VR.agg (f:=e) r cs.toList (by simpa [Value.cells] using hv)
   | bool =>
    have:∃ b,v = .bool b:=by cases v<;>simp_all [Cell.okWide,Cell.ok]
    obtain ⟨b,rfl⟩:=this;obtain ⟨x,rfl,h1⟩:=VRs.WR (show VRs e r [.bool b] from hv);exact h1
   | int k =>
    have:∃ k' b,v = .int k' b:=by cases v<;>simp_all [Cell.okWide,Cell.ok]
    obtain ⟨k',b,rfl⟩:=this;obtain ⟨x,rfl,h1⟩:=VRs.WR (show VRs e r [.int k' b] from hv);exact h1
   | string =>
    have:∃ b,v = .string b:=by cases v<;>simp_all [Cell.okWide,Cell.ok]
    obtain ⟨b,rfl⟩:=this;obtain ⟨x,rfl,h1⟩:=VRs.WR (show VRs e r [.string b] from hv);exact h1
   | slice el =>
    have:∃ a l c,v = .slice a l c:=by cases v<;>simp_all [Cell.okWide,Cell.ok]
    obtain ⟨a,l,c,rfl⟩:=this;obtain ⟨x,rfl,h1⟩:=VRs.WR (show VRs e r [.slice a l c] from hv);exact h1
   | _=>cases hp
def ArgsR (P:Program) (h:AH):List TypeId→List Value→Prop
 | [],[]=>True
 | t :: ts,u :: us=>(∃ n r,AR P h n t r∧u=qcn P t r)∧ArgsR P h ts us
 | _,_=>False
theorem ArgsR.ext {h h':AH} (w:WfH h) (x:Ext h h'):∀ (ts:List TypeId) (us:List Value),ArgsR P h ts us→ArgsR P h' ts us
 | [],[],q=>q
 | t :: ts,u :: us,q=>⟨let ⟨n,r,h1,h2⟩:=q.1;⟨n,r,h1.ext w x _ _ _,h2⟩,ArgsR.ext w x ts us q.2⟩
 | [],_ :: _,q=>q.elim
 | _ :: _,[],q=>q.elim
theorem ArgsR.cons_inv {h:AH} {t:TypeId} {ts:List TypeId} {us:List Value} (a:ArgsR P h (t :: ts) us):∃ n r us',us=qcn P t r :: us'∧AR P h n t r∧ArgsR P h ts us':=by
 cases us with
 | nil=>exact a.elim
 | cons u us =>
  obtain ⟨⟨n,r,h1,rfl⟩,h2⟩:=a;exact ⟨n,r,us,rfl,h1,h2⟩
theorem ArgsR.Qo {h:AH} {us:List Value} (a:ArgsR P h [] us):us=[]:=by
 cases us with
 | nil=>rfl
 | cons u us=>exact a.elim
section
variable {H:Type} {enc:TypeId×Value→H}
theorem wM [Glob] {w:World} {rc:Reach} {b0 base:Nat} {held:Bool} (hw:∃ (k:Nat) (cc:Array Value) (el:TypeId) (fr:Nat×Nat),w.heap[k]? = some (.cells cc el fr)):∀ (ts:List TypeId) (vs:List Value) (ds:List (DataW H)) (ps:List MemPlace),
 ts.all (Zv P 20)=true→(∀ (j:Nat) t v,ts[j]? = some t→vs[j]? = some v→Value.okWide P w rc b0 t v)→DataW.TrodAll enc P w base (fun _=>true) held ts vs ds ps→(∀ n∈DataW.weightsEach P ts ds,n≤reachBytes)→∀ e h,WRel w e h →
 ∃ e' h' us,WRel w e' h'∧e.le e'∧Ext h h'∧VRs e' us vs∧ArgsR P h' ts us
 | [],[],[],_,_,_,_,_,e,h,r=>⟨e,h,[],r,e.le_refl,Ext.refl r.wfH,.nil,trivial⟩
 | t :: ts,v :: vs,d :: ds,ps,hp,hval,hA,hz,e,h,r=>by
  rw [DataW.weightsEach] at hz;simp only [List.all_cons,zA8] at hp;obtain ⟨p,q,⟨fuel,h1⟩,h2,rfl⟩:=hA;obtain ⟨e1,g1,r1,w1,l1,x1,v1,a1⟩:=embed (fun _=>rfl) hw fuel 20 t _ _ hp.1 h1 (fun n hn=>hz n (List.mem_append_left _ hn)) e h r;obtain ⟨e2,g2,us,w2,l2,x2,v2,a2⟩:=wM hw ts vs ds q hp.2 (fun j t v q1 q2=>hval (j+1) t v (by simpa using q1) (by simpa using q2)) h2 (fun n hn=>hz n (List.mem_append_right _ hn)) e1 g1 w1;exact ⟨e2,g2,qcn P t r1 :: us,w2,Emb.le_trans l1 l2,x1.trans x2,.cons _ _ _ _ (qdz hp.1 (hval 0 t v rfl rfl) (v1.mono l2)) v2,⟨fuel,r1,a1.ext w1.wfH x2 _ _ _,rfl⟩,a2⟩
 | [],[],_ :: _,_,_,_,h,_,_,_,_=>h.elim
 | [],_ :: _,_,_,_,_,h,_,_,_,_=>h.elim
 | _ :: _,[],_,_,_,_,h,_,_,_,_=>h.elim
 | _ :: _,_ :: _,[],_,_,_,h,_,_,_,_=>h.elim
theorem wF:∀ {ts us:List TypeId} {ds gs:List (DataW H)},(DataW.weightsEach P (ts ++ us) (ds ++ gs)).all (·≤reachBytes)=true→∀ n∈DataW.weightsEach P ts ds,n≤reachBytes
 | [],_,_,_,_=>fun n hn=>by simp [DataW.weightsEach] at hn
 | _ :: _,_,[],_,_=>fun n hn=>by simp [DataW.weightsEach] at hn
 | t :: ts,us,d :: ds,gs,hz=>fun n hn=>by
  rw [zC6,zC6,DataW.weightsEach,List.all_append,zA8] at hz;rw [DataW.weightsEach] at hn;rcases zB8.1 hn with q|q
  ·exact of_decide_eq_true (zC8.1 hz.1 n q)
  ·exact wF hz.2 n q
theorem qaY [Glob] {X:Extern} (hm:P.follows .mixedOrders=true) (hX:WI P X) (hN:∀ (f:FuncId) (fn:Func),P.funcs[f]? = some fn→fn.body.isSome=true→(fn.name == "runtime.NumGoroutine")=false)
 {f:FuncId} {fn:Func} {body:Code} (hfn:P.funcs[f]? = some fn) (hb:fn.body=some body) (hXn:∀ us h,X f us h=none) (hpl:fn.params.toList.all (Zv P 20)=true)
 (core:∀ h us,WfH h→ArgsR P h fn.params.toList us→Fn P X f us h (fun x _=>x = .bool true))
 {w:World} {rc:Reach} {b0:Nat} {args:Array Value} {ds:List (DataW H)} {ps:List MemPlace} (hg:Glob.ok w.heap.size w.heap) (hw:∃ (k:Nat) (cc:Array Value) (el:TypeId) (fr:Nat×Nat),w.heap[k]? = some (.cells cc el fr))
 (hval:∀ (j:Nat) t v,fn.params[j]? = some t→args[j]? = some v→Value.okWide P w rc b0 t v) (hA:DataW.TrodAll enc P w 0 (fun _=>true) true fn.params.toList args.toList ds ps) (hz:∀ n∈DataW.weightsEach P fn.params.toList ds,n≤reachBytes) :
 Calls P f args w fun e w'=>e = .returned (.bool true)∧Below w.heap.size w w':=by
 obtain ⟨e,h,us,r,-,-,v1,a1⟩:=wM (P:=P) hw fn.params.toList args.toList ds ps hpl (fun j t v q1 q2=>hval j t v (by simpa using q1) (by simpa using q2)) hA hz _ _ (WRel.empty hg);obtain ⟨n,v,h',hc,rfl⟩:=core h us r.wfH a1;obtain ⟨e',v',w',r1,t1,hv,hcalls⟩:=G5 (yw hm hX hN n) hc (hXn us h) hfn hb r.rel v1;cases hv
 rw [Array.toArray_toList] at hcalls;refine hcalls.mono fun en w'' ⟨q1,q2⟩=>?_;subst q2;exact ⟨q1,t1.os,t1.tape,t1.output,t1.size,fun k hk=>r1.keep k hk⟩
end
end
end Go.Proofs.Xx
namespace Go.Proofs.Xx
open Go Go.RowKit Go.WideShapes Go.ChangeShapes
section
variable {H:Type} {enc:TypeId×Value→H} {P:Program}
theorem trodAll_length {W:World} {base:Nat} {sp:Nat→Bool} {held:Bool}:∀ {ts:List TypeId} {vs:List Value} {ds:List (DataW H)} {ps:List MemPlace},DataW.TrodAll enc P W base sp held ts vs ds ps→ds.length=ts.length
 | [],[],[],_,_=>rfl
 | t :: ts,v :: vs,d :: ds,ps,h=>by
  obtain ⟨p,q,_,h2,_⟩:=h;simp [trodAll_length h2]
 | [],[],_ :: _,_,h=>h.elim
 | [],_ :: _,_,_,h=>h.elim
 | _ :: _,[],_,_,h=>h.elim
 | _ :: _,_ :: _,[],_,h=>h.elim
theorem yU {f:Func} {s:ChangeSpec} {apart fresh handsOn again:Bool} {W W':World} {args:Array Value} {v:Value} {ds gs:List (DataW H)} {before pa pv:List MemPlace}
 (hW:DataW.Whole enc P f.params.toList s.vars apart W args.toList ds gs before)
 (hres:∀ (b:Nat) (sp:Nat→Bool) (hd:Bool),DataW.TrodAll enc P W' b sp hd f.resultTypes.toList (v.resultList f.resultTypes.size) (s.fn H (ds ++ gs)).results [])
 (hargs:∀ sp:Nat→Bool,(∀ p∈before,sp p.block=true)→DataW.TrodAll enc P W' 0 sp true f.params.toList args.toList (s.fn H (ds ++ gs)).args pa)
 (hvars:∀ sp:Nat→Bool,(∀ p∈before,sp p.block=true)→DataW.TrodVars enc P W' sp s.vars (s.fn H (ds ++ gs)).vars pv)
 (hps:before=pa ++ pv) (hb:Below W.heap.size W W')
 (hok:∀ (j:Nat) (t:TypeId) (r:Value),f.resultTypes[j]? = some t→(v.resultList f.resultTypes.size)[j]? = some r→Value.okWide P W' .any 0 t r) :
 s.post enc P f apart fresh handsOn again W args v W':=by
 have hlt:∀ p∈before,p.block<W.heap.size:=fun p hp=>hW.lt p hp;have hold:∀ p∈before,(fun b=>decide (b<W.heap.size)) p.block=true:=fun p hp=>by simpa using hlt p hp
 refine ⟨ds,gs,before,[],pa,pv,hW,hres _ _ _,hargs _ hold,hvars _ hold,World.keptBut_mono (fun p hp=>⟨hp,?_⟩) (hb.frame (·∈before)),fun _=>?_⟩
 ·rw [hps,zB8] at hp;exact Or.inr hp
 ·obtain ⟨_,_,_,_,_,hz,hn⟩:=hW;refine ⟨hok,_,_,([] ++ pa) ++ pv,⟨[] ++ pa,pv,trodAll_append (hargs _ (fun _ _=>rfl)) (hres _ _ _),hvars _ (fun _ _=>rfl),rfl,?_,?_⟩,?_⟩
  ·intro b off hp;have hin:MemPlace.cell b off∈before:=by rw [hps];simpa using hp
   rw [hb.frozen (hlt _ hin)];exact hz b off hin
  ·intro ha;have:=hn ha;rw [hps] at this;simpa using this
  ·intro p hp _;rw [hps];simpa using hp
end
end Go.Proofs.Xx
namespace Go.Proofs.Xx
open Go
section
variable {P:Program} {h:AH}
theorem AR.pM {n:Nat} {t:TypeId} {r:List Value} (a:AR P h n t r) (hu:P.underlying t=some .string):∃ s:List UInt8,r=[str s]∧s.length≤maxLen:=by
 cases n with
 | zero=>exact a.elim
 | succ n =>
  unfold AR at a;rw [hu] at a;split at a
  all_goals (first|exact a.elim|(rename_i q _;cases q;done)|(rename_i q;cases q;done)|skip)
  rename_i s q
  exact ⟨s.data.toList,by rw [qbt],by simpa using a⟩
theorem AR.qc9 {n:Nat} {t:TypeId} {r:List Value} {k:IntKind} (a:AR P h n t r) (hu:P.underlying t=some (.int k)):∃ x:Int,r=[.int k x]∧(Lit.int k x).wf=true:=by
 cases n with
 | zero=>exact a.elim
 | succ n =>
  unfold AR at a;rw [hu] at a;split at a
  all_goals (first|exact a.elim|(rename_i q _;cases q;done)|(rename_i q;cases q;done)|skip)
  rename_i k0 k' x q
  cases q
  obtain ⟨rfl,h2⟩:=a;exact ⟨x,rfl,h2⟩
theorem AR.qaa {n:Nat} {t:TypeId} {r:List Value} {fs:Array Field} {m:List (Nat×TypeId)} {z:Nat} (a:AR P h n t r) (hu:P.underlying t=some (.struct fs)) (hm:fs.toList.map (fun f=>(f.offset,f.type))=m) (hz:P.cellsOf t=z) :
 ∃ n',r.length=z∧∀ p∈m,AR P h n' p.2 ((r.drop p.1).take (P.cellsOf p.2)):=by
 cases n with
 | zero=>exact a.elim
 | succ n =>
  unfold AR at a;rw [hu] at a;replace a:r.length=P.cellsOf t∧∀ fd∈fs.toList,AR P h n fd.type ((r.drop fd.offset).take (P.cellsOf fd.type)):=a;refine ⟨n,by rw [a.1,hz],fun p hp=>?_⟩;rw [← hm,zF2] at hp;obtain ⟨fd,hf,rfl⟩:=hp;exact a.2 fd hf
theorem pieces {α:Type} {z:Nat} {enc:α→List Value} {good:α→Prop}:∀ (n:Nat) (c:List Value),c.length=n*z→(∀ i,i<n→∃ y,(c.drop (i*z)).take z=enc y∧good y)→∃ l:List α,l.length=n∧c=l.flatMap enc∧∀ y∈l,good y
 | 0,c,hc,_=>⟨[],rfl,by rw [Nat.zero_mul] at hc;rw [zE9.1 hc];rfl,fun y q=>by cases q⟩
 | n+1,c,hc,hk=>by
  rw [zE1,Nat.one_mul] at hc;obtain ⟨y,h1,h2⟩:=hk 0 (by omega);obtain ⟨l,l1,l2,l3⟩:=pieces (z:=z) (enc:=enc) (good:=good) n (c.drop z) (by rw [zB4,hc];omega) (fun i hi=>by
   obtain ⟨y,q1,q2⟩:=hk (i+1) (by omega);refine ⟨y,?_,q2⟩;rw [List.drop_drop,← q1,zE1,Nat.one_mul,Nat.add_comm z])
  rw [Nat.zero_mul,List.drop_zero] at h1;refine ⟨y :: l,by simp [l1],?_,fun x q=>?_⟩
  ·rw [zG3,← h1,← l2,zH2]
  ·rcases zE8.1 q with rfl|q
   ·exact h2
   ·exact l3 x q
theorem AR.qac {α:Type} [Inhabited α] {n:Nat} {t e:TypeId} {r:List Value} {z:Nat} (enc:α→List Value) (good:α→Prop) (a:AR P h n t r) (hu:P.underlying t=some (.slice e)) (hz:P.cellsOf e=z) (hk:∀ n cs,AR P h n e cs→∃ y,cs=enc y∧good y) :
 ∃ v l,r=[v]∧Qh h v z enc l∧(l.length≤maxLen∧l.length*P.bytesOf e≤reachBytes)∧Vm v∧∀ i,i<l.length→good (l.getD i default):=by
 cases n with
 | zero=>exact a.elim
 | succ n =>
  unfold AR at a;rw [hu] at a;split at a
  all_goals (first|exact a.elim|(rename_i q _;cases q;done)|(rename_i q;cases q;done)|skip)
  rename_i e' v q
  cases q
  obtain ⟨k,c,h1,h2,hc,h3⟩:=a;rw [hz] at h1 h3;obtain ⟨l,l1,l2,l3⟩:=pieces (enc:=enc) (good:=good) k c h1.length (fun i hi=>hk n _ (h3 i hi));subst l1 l2;refine ⟨v,l,rfl,h1,h2,hc,fun i hi=>?_⟩;rw [zA2,zA4 hi];exact l3 _ (List.getElem_mem hi)
end
structure GstA (h:AH) (g:Qi):Prop where
 rd:Qh h g.tv.val 1 eS g.tg
 cap:Vm g.tv.val
 len:g.tg.length≤maxLen
 l1:g.name.length≤maxLen
 l2:g.rank.length≤maxLen
 l3:g.court.length≤maxLen
 l4:g.diet.length≤maxLen
 l5:∀ i,i<g.tg.length→(g.tg.getD i default).length≤maxLen
 wt:g.tg.length*16≤reachBytes
 i64:(-9223372036854775808≤g.since∧g.since≤9223372036854775807)∧(-9223372036854775808≤g.side∧g.side≤9223372036854775807)
theorem GstA.ext {h h':AH} {g:Qi} (a:GstA h g) (w:WfH h) (x:Ext h h'):GstA h' g:=⟨a.rd.ext w x,a.cap,a.len,a.l1,a.l2,a.l3,a.l4,a.l5,a.wt,a.i64⟩
theorem GstA.r {h:AH} {g:Qi} (a:GstA h g):qdK h g:=⟨a.rd,by have:=a.len;unfold maxLen at this;omega⟩
theorem qbT {x:Int} (h:(Lit.int .i64 x).wf=true) : -9223372036854775808≤x∧x≤9223372036854775807:=by
 simp [Lit.wf,IntKind.min,IntKind.max,IntKind.signed,IntKind.bits] at h
 omega
theorem AR.qdZ {P:Program} {h:AH} {n:Nat} {t:TypeId} {r:List Value} (a:AR P h n t r) (hu:P.underlying t=some .bool):∃ b:Bool,r=[.bool b]:=by
 cases n with
 | zero=>exact a.elim
 | succ n =>
  unfold AR at a;rw [hu] at a;split at a
  all_goals (first|exact a.elim|(rename_i q _;cases q;done)|(rename_i q;cases q;done)|skip)
  all_goals exact ⟨_,rfl⟩
theorem AR.qe8 {h:AH} {n:Nat} {r:List Value} (a:AR Tryz.prog h n 22 r):∃ v l,r=[v]∧Qh h v 1 eS l∧(l.length≤maxLen∧l.length*Tryz.prog.bytesOf 9≤reachBytes)∧Vm v∧∀ i,i<l.length→(l.getD i default).length≤maxLen :=
 AR.qac (e:=9) (z:=1) eS (fun s=>s.length≤maxLen) a (by kernel_rfl) (by kernel_rfl) (fun n cs q=>by
  obtain ⟨s,hs,hl⟩:=q.pM (by kernel_rfl);exact ⟨s,hs,hl⟩)
theorem AR.qf9 {h:AH} {n:Nat} {r:List Value} (a:AR Tryz.prog h n 24 r):∃ g,r=eG g∧GstA h g:=by
 obtain ⟨n',hl,hk⟩:=a.qaa (m:=[(0,9),(1,9),(2,9),(3,3),(4,3),(5,9),(6,4),(7,4),(8,22)]) (z:=9) rfl (by kernel_rfl) (by kernel_rfl);match r,hl with
 | [x0,x1,x2,x3,x4,x5,x6,x7,x8],_ =>
  obtain ⟨s0,e0,h0⟩:=AR.pM (show AR Tryz.prog h n' 9 [x0] from hk (0,9) (by simp)) (by kernel_rfl);obtain ⟨s1,e1,h1⟩:=AR.pM (show AR Tryz.prog h n' 9 [x1] from hk (1,9) (by simp)) (by kernel_rfl);obtain ⟨s2,e2,h2⟩:=AR.pM (show AR Tryz.prog h n' 9 [x2] from hk (2,9) (by simp)) (by kernel_rfl);obtain ⟨y3,e3,h3⟩:=AR.qc9 (k:=.i64) (show AR Tryz.prog h n' 3 [x3] from hk (3,3) (by simp)) (by kernel_rfl);obtain ⟨y4,e4,h4⟩:=AR.qc9 (k:=.i64) (show AR Tryz.prog h n' 3 [x4] from hk (4,3) (by simp)) (by kernel_rfl);obtain ⟨s5,e5,h5⟩:=AR.pM (show AR Tryz.prog h n' 9 [x5] from hk (5,9) (by simp)) (by kernel_rfl);obtain ⟨b6,e6⟩:=AR.qdZ (show AR Tryz.prog h n' 4 [x6] from hk (6,4) (by simp)) (by kernel_rfl);obtain ⟨b7,e7⟩:=AR.qdZ (show AR Tryz.prog h n' 4 [x7] from hk (7,4) (by simp)) (by kernel_rfl);obtain ⟨v,l,e8,g1,g2,g3,g4⟩:=AR.qe8 (show AR Tryz.prog h n' 22 [x8] from hk (8,22) (by simp));cases e0;cases e1;cases e2;cases e3;cases e4;cases e5;cases e6;cases e7
  obtain ⟨sv,rfl⟩:=g1.qfD;cases e8
  exact ⟨⟨⟨s0,s1,s2,y3,y4,s5,b6,b7,l⟩,sv⟩,rfl,g1,g3,g2.1,h0,h1,h2,h5,g4,(show Tryz.prog.bytesOf 9=16 by kernel_rfl) ▸ g2.2,qbT h3,qbT h4⟩
end Go.Proofs.Xx
namespace Go.Proofs.Xx
open Go Go.RowKit Go.Proofs
theorem qe3 {x:Int} (h:(Lit.int .u8 x).wf=true):0≤x:=by
 simp [Lit.wf,IntKind.min,IntKind.max,IntKind.signed,IntKind.bits] at h
 omega
theorem AR.qgh {h:AH} {n:Nat} {r:List Value} (a:AR Tryz.prog h n 79 r):∃ x,r=yZ x∧qeY h x:=by
 obtain ⟨n',hl,hk⟩:=a.qaa (m:=[(0,5),(1,9),(2,9),(3,48),(4,24)]) (z:=13) rfl (by kernel_rfl) (by kernel_rfl);match r,hl with
 | [x0,x1,x2,x3,y0,y1,y2,y3,y4,y5,y6,y7,y8],_ =>
  obtain ⟨k0,e0,h0⟩:=AR.qc9 (k:=.u8) (show AR Tryz.prog h n' 5 [x0] from hk (0,5) (by simp)) (by kernel_rfl);obtain ⟨s1,e1,h1⟩:=AR.pM (show AR Tryz.prog h n' 9 [x1] from hk (1,9) (by simp)) (by kernel_rfl);obtain ⟨s2,e2,h2⟩:=AR.pM (show AR Tryz.prog h n' 9 [x2] from hk (2,9) (by simp)) (by kernel_rfl);obtain ⟨k3,e3,h3⟩:=AR.qc9 (k:=.u8) (show AR Tryz.prog h n' 48 [x3] from hk (3,48) (by simp)) (by kernel_rfl);obtain ⟨g,e4,h4⟩:=AR.qf9 (show AR Tryz.prog h n' 24 [y0,y1,y2,y3,y4,y5,y6,y7,y8] from hk (4,24) (by simp));cases e0;cases e1;cases e2;cases e3;cases e4
  have hw:=h4.wt;rw [show reachBytes=140737488351232 from rfl] at hw;exact ⟨⟨k0,s1,s2,k3,g⟩,rfl,h4.rd,by show g.tg.length≤_;omega,qe3 h0⟩
theorem yE [Flag] (h:AH) (us:List Value) (w:WfH h) (a:ArgsR Tryz.prog h Tryz.f13.params.toList us):Fn Tryz.prog Xh 13 us h (fun x _=>x = .bool true):=by
 rw [show Tryz.f13.params.toList=[74] by kernel_rfl] at a;obtain ⟨n0,r0,us,rfl,a0,a⟩:=a.cons_inv;obtain rfl:=a.Qo;obtain ⟨v,l,rfl,g1,g2,g3,g4⟩:=AR.qac (e:=79) (z:=13) yZ (fun x=>qeY h x) a0 (by kernel_rfl) (by kernel_rfl) (fun n cs q=>q.qgh);have:=g2.1;unfold maxLen at this;exact yD w v l g1 (by omega) g4
end Go.Proofs.Xx
namespace Go.Proofs.Xx
open Go Go.RowKit Go.Proofs
theorem qdA [Flag] (f:FuncId) (h1:f≠19) (h2:f≠203) (h3:f≠182) (h4:f≠222) (h5:f≠184) (h6:f≠194) (h7:f≠135) (h8:f≠187) (h9:f≠88) (us:List Value) (h:AH):Xh f us h=none:=by
 have e:∀ n,f≠n→Nat.beq f n=false:=fun n q=>by rw [Bool.eq_false_iff];intro q';exact q (zA6 q')
 unfold Xh Xi X4 Xd Jw X0 WM WL WN withBytes QA;simp only [e _ h1,e _ h2,e _ h3,e _ h4,e _ h5,e _ h6,e _ h7,e _ h8,e _ h9]
theorem VD {W:World} (h:W.ShapedOpen Tryz.prog):1<W.heap.size∧∃ m el fr,W.heap[0]? = some (.cells #[.int .i64 m] el fr):=by
 have h0:((begin Tryz.prog (fun _ _=>0) default).world.heap[0]?).bind Obj.row? = some (#[.int .i64 0],3):=by kernel_rfl
 obtain ⟨m,hm⟩:=cell_of_shapedOpen_int h (g:=0) (t:=3) (of_decide_eq_true (by kernel_rfl)) h0 rfl (by kernel_rfl) (by kernel_rfl) Tryz.underlying3;obtain ⟨cs,hh,hs,-⟩:=h.1 0 _ 3 (of_decide_eq_true (by kernel_rfl)) h0;refine ⟨?_,m,3,(0,0),?_⟩
 ·have h1:(((begin Tryz.prog (fun _ _=>0) default).world.heap[1]?).bind Obj.row?).isSome=true:=by kernel_rfl
  obtain ⟨⟨z,t⟩,h1⟩:=Option.isSome_iff_exists.1 h1;obtain ⟨cs,hh,-⟩:=h.1 1 z t (of_decide_eq_true (by kernel_rfl)) h1;exact (zB9.1 hh).1
 ·rw [hh];have:cs=#[.int .i64 m]:=by
   simp only [World.cell?,hh] at hm;obtain ⟨l⟩:=cs;match l,hs,hm with
   | [x],_,hm=>simp at hm;rw [hm]
   | [],hs,_=>cases hs
   | _ :: _ :: _,hs,_=>simp at hs
  rw [this]
theorem GZ {W:World} (h:W.ShapedOpen Tryz.prog):∃ (k:Nat) (cc:Array Value) (el:TypeId) (fr:Nat×Nat),W.heap[k]? = some (.cells cc el fr):=by
 obtain ⟨-,m,el,fr,q⟩:=VD h;exact ⟨0,_,el,fr,q⟩
theorem PH [Flag] (hf:Flag.b=false) {W:World} (h:W.ShapedOpen Tryz.prog):Glob.ok W.heap.size W.heap :=
 ⟨(VD h).1,(VD h).2,fun q=>(by rw [hf] at q;cases q)⟩
end Go.Proofs.Xx
