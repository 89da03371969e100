/-
  The reference: With,Shared,Common.
-/
import Derived.Test.YtidmdnenlgjpeaaGreatDoorM17
import Derived.Test.YtidmdnenlgjpeaaGreatDoorM12
import Derived.Test.YtidmdnenlgjpeaaGreatDoorM15
set_option linter.unusedSimpArgs false
set_option linter.unusedVariables false
set_option linter.unusedSectionVars false
set_option maxRecDepth 100000
set_option maxHeartbeats 4000000
namespace Go.Proofs.Xx
open Go Go.Proofs
def adB (r:Rl) (k:Int) (n x:List UInt8):Bool:=match QK r.ts n x with|some t=>decide (t.k=k)|none=>false
theorem qdy {r:Rl} (H:RO r) {k:Int} {n x:List UInt8}:adB r k n x=true↔adj r k n x:=by
 unfold adB;constructor
 ·intro h;cases hq:QK r.ts n x with
  | none=>rw [hq] at h;cases h
  | some t =>
   rw [hq] at h;have e:t.k=k:=of_decide_eq_true h;exact e ▸ VP hq
 ·intro h;obtain ⟨t,h1,h2⟩:=Vq H h;rw [h1];exact decide_eq_true h2
theorem TgOk.ss {l:List (List UInt8)} (h:TgOk l):SS l:=fun i j hij=>by
 induction j with
 | zero=>omega
 | succ j ih =>
  intro hj;have h1:=(h (j+1) hj).2 (by omega);rw [Nat.add_sub_cancel] at h1;rcases zA7 i j with q|q
  ·exact jv (ih q (by omega)) h1
  ·obtain rfl:i=j:=by omega
   exact h1
variable [Flag]
theorem qbE {h0:AH} (w:WfH h0) (v:RlV) (r:Rl) (HR:RlOk h0 v r) (H:RO r) (n:List UInt8) (k:Int):Fn Tryz.prog Xh 85 [v.val,str n,.int .u8 k] h0 (fun u h'=>∃ l,Hs h0 h' [.sl u 9 1 eS l]∧SS l∧(∀ x,x∈l↔adj r k n x)∧l.length≤64):=by
 have S:=Hs.start w;have h64:=H.l64;unfold RlV.val;refine qZ rfl Tryz.func85 rfl rfl ?_;all_goals (repeat' (first|refine qg ?_|(refine qc 0 ?_;(refine bx S ?_;clear S;intro b h S);refine qK ?_)|(refine qc 1 ?_;refine qK ?_)))
 obtain ⟨b3,hnm⟩:∃ x,x=b:=⟨_,rfl⟩;subst hnm;replace S:Hs h0 h (.blk b3 [v.vg.val,v.vt.val] 32 :: []):=S;all_goals (repeat' (first|(refine qc 2 ?_;refine lB S rfl rfl ?_)))
 (refine qx rfl rfl rfl rfl rfl ((Vx S.wf v r (HR.ext w S.ext) H).mono ?_);rintro un h ⟨ns,x,n1,n2,n3⟩)<;>(replace S:=S.zQ x;clear x;refine qK ?_)
 have S:=S.Qb (e:=9) (z:=1) (enc:=eS);all_goals (repeat' (first|refine qg ?_|refine qi ?_|(refine qc 3 ?_;refine qK ?_)))
 refine qH (σ:=Nat×Value) (fun (i,v7) h'=>Hs h0 h' [.sl v7 9 1 eS ((ns.take i).filter (adB r k n)),.sl un 9 1 eS ns,.blk b3 [v.vg.val,v.vt.val] 32]∧i≤ns.length) (fun (i,v7)=>ns.length - i) (fun (i,v7)=>[(1,str n),(2,.int .u8 k),(3,.pointer (some ⟨b3,0,none⟩)),(7,v7),(8,un),(9,.int .i64 i)]) (0,.slice none 0 0) qo ?_ ?_
 ·exact ⟨S,zB0 _⟩
 clear S;rintro ⟨i,v7⟩ h ⟨S,g1⟩;have htl:((ns.take i).filter (adB r k n)).length≤64:=by
  have:=zF0 (adB r k n) (ns.take i);simp at this;omega
 all_goals (repeat' (first|refine qg ?_|refine qh rfl ?_|refine qj ?_|refine qw ?_|refine qi ?_|(refine qc 4 ?_;refine qE ?_;refine ZJ S rfl rfl ?_;(first|(refine cS ?_ ?_<;>intro hc))<;>(refine qf ?_))))
 ·have hil:i<ns.length:=by omega
  have hts:∀ b,adB r k n (ns.getD i default)=b→(ns.take (i+1)).filter (adB r k n)=(ns.take i).filter (adB r k n) ++ if b then [ns.getD i default] else []:=fun b hb=>by
   rw [qQ hil,zD1,zD8,hb];cases b<;>simp
  all_goals (repeat' (first|(refine qJ 6 ?_;refine lB S rfl rfl ?_;refine qE ?_;refine mv ?_;refine qy S rfl rfl ?_;refine qI S rfl rfl ?_)))
  simp only [zA0];(refine qx rfl rfl rfl rfl rfl ((xy S.wf v r (HR.ext w S.ext) H n (ns.getD i default)).mono ?_);rintro _ h ⟨⟨t,ht,rfl⟩|⟨ht,rfl⟩,x⟩)<;>(replace S:=S.qN x;clear x;refine zk ?_)
  ·skip
   all_goals (repeat' (first|refine qg ?_|refine qh rfl ?_|refine qj ?_|(refine qc 7 ?_;refine qE ?_;refine qE ?_;(first|(first|(refine cS ?_ ?_<;>intro hc)))<;>(refine zU ?_))|(refine qc 8 ?_;refine qE ?_;refine mv ?_;refine qy S rfl rfl ?_;refine qI S rfl rfl ?_;(refine one 1 S ?_;clear S;intro u h S))))
   all_goals (try simp only [zA0] at *)
   ·have e:=hts true (by unfold adB;rw [ht];exact decide_eq_true hc);refine app (y0:=ns.getD i default) S rfl rfl ?_;clear S;intro v7 h S;(refine qK ?_);all_goals (repeat' (first|(refine qc 5 ?_;refine qO ?_)))
    refine ⟨(i+1,v7),?_,?_,qo⟩
    ·show ns.length - (i+1)<ns.length - i;omega
    ·refine ⟨?_,by (try dsimp only);omega⟩;(try dsimp only);rw [e,if_pos rfl];exact S.pick
   ·have e:=hts false (by unfold adB;rw [ht];exact decide_eq_false hc);all_goals (repeat' (first|(refine qc 5 ?_;refine qO ?_)))
    refine ⟨(i+1,v7),?_,?_,qo⟩
    ·show ns.length - (i+1)<ns.length - i;omega
    ·refine ⟨?_,by (try dsimp only);omega⟩;(try dsimp only);rw [e];simp only [zD9,if_false,zD7];exact S.pick
  ·have e:=hts false (by unfold adB;rw [ht]);all_goals (repeat' (first|refine qg ?_|refine qh rfl ?_|refine qj ?_|(refine qc 5 ?_;refine qO ?_)|(refine qc 7 ?_;refine qE ?_;refine off ?_;refine off ?_;(refine off ?_)<;>(refine zU ?_))))
   refine ⟨(i+1,v7),?_,?_,qo⟩
   ·show ns.length - (i+1)<ns.length - i;omega
   ·refine ⟨?_,by (try dsimp only);omega⟩;(try dsimp only);rw [e];simp only [zD9,if_false,zD7];exact S.pick
 ·obtain rfl:i=ns.length:=by omega
  rw [zD4] at S htl;all_goals (repeat' (first|(refine qc 9 ?_;refine qX ?_)))
  refine qC ⟨_,rfl,?_⟩;refine ⟨_,S.only .here,n1.filter _,fun x=>?_,htl⟩;rw [zE0,qdy H];exact ⟨fun q=>q.2,fun q=>⟨(n2 x).2 (QJ H q).2.1,q⟩⟩
theorem Ph {h0:AH} (w:WfH h0) (g1 g2:Qi) (r1:Qh h0 g1.tv.val 1 eS g1.tg) (r2:Qh h0 g2.tv.val 1 eS g2.tg) (l1:g1.tg.length≤4) (l2:g2.tg.length≤4) (s2:SS g2.tg):Fn Tryz.prog Xh 132 [gV g1,gV g2] h0 (fun u h'=>Hs h0 h' [.sl u 9 1 eS (g1.tg.filter (ZK g2))]):=by
 have S:=Hs.start w;unfold gV;refine qZ rfl Tryz.func132 rfl rfl ?_;(repeat (refine qg ?_));refine qc 0 ?_;refine bx S ?_;clear S;intro b2 h S;refine bx S ?_;clear S;intro b3 h S;(refine qK ?_);replace S:Hs h0 h (.blk b3 (eG g2) 24 :: .blk b2 (eG g1) 24 :: []):=S;unfold eG at S;have S:=S.Qb (e:=9) (z:=1) (enc:=eS);all_goals (repeat' (first|refine qg ?_|refine qi ?_|(refine qc 1 ?_;refine qK ?_)|(refine qc 2 ?_;refine qK ?_)))
 refine qH (σ:=Nat×Value) (fun (i,v5) h'=>Hs h0 h' [.sl v5 9 1 eS ((g1.tg.take i).filter (ZK g2)),.blk b3 [str g2.name,str g2.rank,str g2.court,.int .i64 g2.since,.int .i64 g2.side,str g2.diet,.bool g2.host,.bool g2.access,g2.tv.val] 24,.blk b2 [str g1.name,str g1.rank,str g1.court,.int .i64 g1.since,.int .i64 g1.side,str g1.diet,.bool g1.host,.bool g1.access,g1.tv.val] 24]∧i≤g1.tg.length) (fun (i,v5)=>g1.tg.length - i) (fun (i,v5)=>[(2,.pointer (some ⟨b2,0,none⟩)),(3,.pointer (some ⟨b3,0,none⟩)),(5,v5),(6,.int .i64 i)]) (0,.slice none 0 0) qo ?_ ?_
 ·exact ⟨S,zB0 _⟩
 clear S;rintro ⟨i,v5⟩ h ⟨S,k1⟩;have htl:((g1.tg.take i).filter (ZK g2)).length≤4:=by
  have:=zF0 (ZK g2) (g1.tg.take i);simp at this;omega
 all_goals (repeat' (first|refine qg ?_|refine qh rfl ?_|refine qj ?_|refine qw ?_|refine qi ?_|(refine qc 3 ?_;refine mv ?_;refine vl ?_;refine lB S rfl rfl ?_;refine Zx S ?_;(first|(refine cS ?_ ?_<;>intro hc))<;>(refine qf ?_))))
 ·have hil:i<g1.tg.length:=by omega
  have hts:∀ b,ZK g2 (g1.tg.getD i default)=b→(g1.tg.take (i+1)).filter (ZK g2)=(g1.tg.take i).filter (ZK g2) ++ if b then [g1.tg.getD i default] else []:=fun b hb=>by
   rw [qQ hil,zD1,zD8,hb];cases b<;>simp
  all_goals (repeat' (first|refine qi ?_|(refine qc 5 ?_;refine qK ?_)))
  obtain ⟨L,hL⟩:∃ L,(g1.tg.take i).filter (ZK g2)=L:=⟨_,rfl⟩
  rw [hL] at S htl hts;refine qH (σ:=Nat×Value×Bool) (fun (k,v5,d) h'=>Hs h0 h' [.sl v5 9 1 eS (L ++ if d then [g1.tg.getD i default] else []),.blk b3 [str g2.name,str g2.rank,str g2.court,.int .i64 g2.since,.int .i64 g2.side,str g2.diet,.bool g2.host,.bool g2.access,g2.tv.val] 24,.blk b2 [str g1.name,str g1.rank,str g1.court,.int .i64 g1.since,.int .i64 g1.side,str g1.diet,.bool g1.host,.bool g1.access,g1.tv.val] 24]∧k≤g2.tg.length∧(d=true↔∃ j,j<k∧g2.tg.getD j default=g1.tg.getD i default)) (fun (k,v5,d)=>g2.tg.length - k) (fun (k,v5,d)=>[(2,.pointer (some ⟨b2,0,none⟩)),(3,.pointer (some ⟨b3,0,none⟩)),(5,v5),(6,.int .i64 i),(7,.int .i64 k)]) (0,v5,false) qo ?_ ?_
  ·refine ⟨?_,zB0 _,by simp⟩;(try dsimp only);rw [if_neg (by simp),zD7];exact S
  clear S;rintro ⟨k,v5,d⟩ h ⟨S,m1,m2⟩;all_goals (repeat' (first|refine qg ?_|refine qh rfl ?_|refine qj ?_|refine qw ?_|refine qi ?_|(refine qc 6 ?_;refine mv ?_;refine vl ?_;refine lB S rfl rfl ?_;refine Zx S ?_;(first|(refine cS ?_ ?_<;>intro hc))<;>(refine qf ?_))))
  ·have hkl:k<g2.tg.length:=by omega
   all_goals (repeat' (first|refine qh rfl ?_|refine qj ?_|(refine qJ 8 ?_;refine vl ?_;refine lB S rfl rfl ?_;refine mv ?_;refine QN S ?_;refine jQ S ?_;refine vl ?_;refine lB S rfl rfl ?_;refine mv ?_;refine QN S ?_;refine jQ S ?_;(refine tS ?_ ?_<;>intro hc)<;>(refine qf ?_))))
   all_goals (try simp only [zA0] at *)
   ·have hd:d=false:=by
     cases d with
     | false=>rfl
     | true =>
      obtain ⟨j,j1,j2⟩:=m2.1 rfl;exact absurd (j2.trans hc) (ZI s2.nodup j1 hkl)
    subst hd;rw [if_neg (by simp),zD7] at S;all_goals (repeat' (first|(refine qc 9 ?_;refine mv ?_;refine vl ?_;refine lB S rfl rfl ?_;refine mv ?_;refine QN S ?_;refine jQ S ?_;(refine one 1 S ?_;clear S;intro u h S))))
    simp only [zA0] at *;refine app (y0:=g1.tg.getD i default) S rfl rfl ?_;clear S;intro v5 h S;(refine qK ?_);all_goals (repeat' (first|(refine qc 7 ?_;refine qO ?_)))
    refine ⟨(k+1,v5,true),?_,?_,qo⟩
    ·show g2.tg.length - (k+1)<g2.tg.length - k;omega
    ·refine ⟨?_,by (try dsimp only);omega,⟨fun _=>⟨k,by (try dsimp only);omega,hc.symm⟩,fun _=>rfl⟩⟩;(try dsimp only);rw [if_pos rfl];exact S
   ·skip
    all_goals (repeat' (first|(refine qc 7 ?_;refine qO ?_)))
    refine ⟨(k+1,v5,d),?_,?_,qo⟩
    ·show g2.tg.length - (k+1)<g2.tg.length - k;omega
    ·refine ⟨S,by (try dsimp only);omega,?_⟩;(try dsimp only);rw [m2];constructor
     ·rintro ⟨j,j1,j2⟩;exact ⟨j,by omega,j2⟩
     ·rintro ⟨j,j1,j2⟩;rcases zA7 j k with q|q
      ·exact ⟨j,q,j2⟩
      ·obtain rfl:j=k:=by omega
       exact absurd j2.symm hc
  ·obtain rfl:k=g2.tg.length:=by omega
   have e:=hts d (by
    cases d with
    | true =>
     obtain ⟨j,j1,j2⟩:=m2.1 rfl;exact X9 (j2 ▸ qM j1)
    | false =>
     refine yf fun q=>?_;obtain ⟨j,j1,j2⟩:=qL.1 q;have:=m2.2 ⟨j,j1,j2⟩;cases this)
   all_goals (repeat' (first|(refine qc 4 ?_;refine qO ?_)))
   refine ⟨(i+1,v5),?_,?_,qo⟩
   ·show g1.tg.length - (i+1)<g1.tg.length - i;omega
   ·refine ⟨?_,by (try dsimp only);omega⟩;(try dsimp only);rw [e];exact S
 ·obtain rfl:i=g1.tg.length:=by omega
  rw [zD4] at S;all_goals (repeat' (first|(refine qc 10 ?_;refine qX ?_)))
  refine qC ⟨_,rfl,?_⟩;exact S.only .here
theorem YF {h0:AH} (w:WfH h0) (v:RlV) (r:Rl) (HR:RlOk h0 v r) (H:RO r) (na nb:List UInt8):Fn Tryz.prog Xh 84 [v.val,str na,str nb] h0 (fun u h'=>∃ l,Hs h0 h' [.sl u 9 1 eS l]∧l=y9 r na nb∧l.length≤4):=by
 have S:=Hs.start w;have hrg:=HR.rg;have hlg:=HR.lg;have hgl:=HR.len;unfold RlV.val;refine qZ rfl Tryz.func84 rfl rfl ?_;all_goals (repeat' (first|refine qg ?_|(refine qc 0 ?_;(refine bx S ?_;clear S;intro b h S);refine qK ?_)|(refine qc 1 ?_;refine vl ?_;refine lB S rfl rfl ?_;refine mv ?_)))
 obtain ⟨b3,hnm⟩:∃ x,x=b:=⟨_,rfl⟩;subst hnm;(refine qx rfl rfl rfl rfl rfl ((jM S.wf v.vg.val v.gs (hrg.ext w S.ext) (by omega) na).mono ?_);rintro _ h ⟨⟨i,i1,i2,rfl⟩|⟨i1,rfl⟩,x⟩)<;>(replace S:=S.qN x;clear x;refine qK ?_)
 all_goals rw [HR.us] at i1
 all_goals (all_goals (repeat' (first|refine qg ?_|(refine qc 2 ?_;refine vl ?_;refine lB S rfl rfl ?_;refine mv ?_))))
 ·(refine qx rfl rfl rfl rfl rfl ((jM S.wf v.vg.val v.gs (hrg.ext w S.ext) (by omega) nb).mono ?_);rintro _ h ⟨⟨j,j1,j2,rfl⟩|⟨j1,rfl⟩,x⟩)<;>(replace S:=S.qN x;clear x;refine qK ?_)
  all_goals rw [HR.us] at j1
  ·all_goals (repeat' (first|refine qg ?_|refine qh rfl ?_|refine qj ?_|(refine qc 3 ?_;refine mv ?_;(refine cF ?_)<;>(refine qE ?_;(first|(refine cF ?_))<;>(refine zU ?_)))))
   all_goals (repeat' (first|(refine qJ 5 ?_;refine vl ?_;refine lB S rfl rfl ?_;refine mv ?_;refine QN S ?_;refine jQ S ?_;refine vl ?_;refine lB S rfl rfl ?_;refine mv ?_;refine QN S ?_;refine jQ S ?_)))
   have gi:(v.gs.getD i default).toGu=r.us.getD i default:=HR.at_ i2;have gj:(v.gs.getD j default).toGu=r.us.getD j default:=HR.at_ j2;have ci:=QI (H.chk _ (qM (show i<r.us.length by omega)));have cj:=QI (H.chk _ (qM (show j<r.us.length by omega)));have t1:(v.gs.getD i default).tg.length≤4:=by
    show (v.gs.getD i default).toGu.tg.length≤4
    rw [gi];exact ci.2.2.2.1
   have t2:(v.gs.getD j default).tg.length≤4:=by
    show (v.gs.getD j default).toGu.tg.length≤4
    rw [gj];exact cj.2.2.2.1
   have s2:SS (v.gs.getD j default).tg:=by
    show SS (v.gs.getD j default).toGu.tg
    rw [gj];exact cj.2.2.2.2.ss
   simp only [zA0];(refine qx rfl rfl rfl rfl rfl ((Ph S.wf (v.gs.getD i default) (v.gs.getD j default) ((HR.tg i i2).1.ext w S.ext) ((HR.tg j j2).1.ext w S.ext) t1 t2 s2).mono ?_);rintro u h x)<;>(replace S:=S.zQ x;clear x;refine qK ?_)
   all_goals (repeat' (fail))
   refine qC ⟨_,rfl,?_⟩;have hle:=zF0 (ZK (v.gs.getD j default)) (v.gs.getD i default).tg;refine ⟨_,S.only .here,?_,zD0 hle t1⟩;unfold y9;rw [i1,j1];show (v.gs.getD i default).toGu.tg.filter (fun t=>decide (t∈(v.gs.getD j default).toGu.tg))=_
   rw [gi,gj]
  ·skip
   all_goals (repeat' (first|refine qg ?_|refine qh rfl ?_|(refine qc 3 ?_;refine mv ?_;(refine cF ?_)<;>(refine qE ?_;(first|(refine cT ?_))<;>(refine zU ?_)))|(refine qc 4 ?_;refine qK ?_)))
   refine qC ⟨_,rfl,?_⟩;exact ⟨[],(S.drop.Qb (e:=9) (z:=1) (enc:=eS)),by simp [y9,i1,j1],by simp⟩
 ·(refine qx rfl rfl rfl rfl rfl ((jM S.wf v.vg.val v.gs (hrg.ext w S.ext) (by omega) nb).mono ?_);rintro _ h ⟨⟨j,j1,j2,rfl⟩|⟨j1,rfl⟩,x⟩)<;>(replace S:=S.qN x;clear x;refine qK ?_)
  all_goals (skip)
  all_goals (all_goals (repeat' (first|refine qg ?_|refine qh rfl ?_|(refine qc 3 ?_;refine mv ?_;(refine cT ?_)<;>(refine mv ?_;refine off ?_;(refine off ?_)<;>(refine zU ?_)))|(refine qc 4 ?_;refine qK ?_))))
  all_goals (refine qC ⟨_,rfl,?_⟩)
  all_goals exact ⟨[],(S.drop.Qb (e:=9) (z:=1) (enc:=eS)),by simp [y9,i1],by simp⟩
end Go.Proofs.Xx
namespace Go.Proofs.Xx
open Go Go.Proofs
def lst (ns:List (List UInt8)) (P:List Nat):List (List UInt8):=P.map fun p=>ns.getD p default
theorem Y4 {ns:List (List UInt8)} {P:List Nat} {i:Nat} (h:i<P.length):(lst ns P).getD i default=ns.getD (P.getD i default) default:=zf (f:=fun p=>ns.getD p default) h
theorem qcZ {ns:List (List UInt8)} {P:List Nat} {i k:Nat} (h:k<P.length):(lst ns P).set i ((lst ns P).getD k default)=lst ns (P.set i (P.getD k default)):=by
 rw [Y4 h];unfold lst;rw [List.map_set]
theorem SS.lt_iff {l:List (List UInt8)} (h:SS l) {i j:Nat} (hi:i<l.length) (hj:j<l.length):zG (l.getD i default) (l.getD j default)↔i<j:=by
 constructor
 ·intro q;rcases zA7 i j with z|z
  ·exact z
  ·exact absurd q (h.le z hi)
 ·exact fun q=>h i j q hj
theorem SS.inj {l:List (List UInt8)} (h:SS l) {i j:Nat} (hi:i<l.length) (hj:j<l.length) (e:l.getD i default=l.getD j default):i=j:=by
 rcases zE7 i j with q|q|q
 ·exact absurd e (ZI h.nodup q hj)
 ·exact q
 ·exact absurd e.symm (ZI h.nodup q hi)
structure LI (r:Rl) (ns:List (List UInt8)) (P:List Nat):Prop where
 len:P.length=ns.length
 le:∀ i,i<P.length→P.getD i default≤i
 rc:∀ i,i<P.length→Rch r 1 (ns.getD i default) (ns.getD (P.getD i default) default)
def LC (r:Rl) (ns:List (List UInt8)) (P:List Nat):Prop:=∀ i k,i<ns.length→k<ns.length→adj r 1 (ns.getD i default) (ns.getD k default)→P.getD i default≤P.getD k default
theorem LI.set {r:Rl} {ns:List (List UInt8)} {P:List Nat} (I:LI r ns P) {i k:Nat} (hi:i<P.length) (hk:k<P.length) (h:P.getD k default<P.getD i default) (a:adj r 1 (ns.getD i default) (ns.getD k default)):LI r ns (P.set i (P.getD k default)):=by
 have hg:∀ j,(P.set i (P.getD k default)).getD j default=if j=i then P.getD k default else P.getD j default:=fun j=>jC _ _ hi j
 refine ⟨by simp;exact I.len,fun j hj=>?_,fun j hj=>?_⟩
 ·simp at hj;rw [hg];split
  ·rename_i e
   have:=I.le i hi;omega
  ·exact I.le j hj
 ·simp at hj;rw [hg];split
  ·rename_i e
   rw [e];exact (Rch.step .refl a).trans (I.rc k hk)
  ·exact I.rc j hj
theorem xg:∀ {l:List Nat} {i x:Nat},i<l.length→x<l.getD i default→(l.set i x).sum<l.sum
 | a :: l,0,x,h,hx=>by
  have hx:x<a:=hx;simp;omega
 | a :: l,i+1,x,h,hx=>by
  have:=xg (l:=l) (i:=i) (x:=x) (by simp at h;exact h) hx;simp;exact this
theorem LI.comp {r:Rl} (H:RO r) {ns:List (List UInt8)} {P:List Nat} (I:LI r ns P) (C:LC r ns P) (hns:∀ x,gat r.us x≠none→x∈ns) {i:Nat} (hi:i<ns.length) {x:List UInt8} (h:Rch r 1 (ns.getD i default) x):∃ k,k<ns.length∧ns.getD k default=x∧P.getD k default=P.getD i default:=by
 induction h with
 | refl=>exact ⟨i,hi,rfl,rfl⟩
 | step h a ih =>
  obtain ⟨k,k1,k2,k3⟩:=ih;obtain ⟨m,m1,m2⟩:=qL.1 (hns _ (QJ H a).2.1);rw [← k2,← m2] at a;have h1:=C k m k1 m1 a;have h2:=C m k m1 k1 a.symm;exact ⟨m,m1,m2,by omega⟩
theorem LI.fix {r:Rl} (H:RO r) {ns:List (List UInt8)} {P:List Nat} (I:LI r ns P) (C:LC r ns P) (hs:SS ns) (hns:∀ x,gat r.us x≠none→x∈ns) {i:Nat} (hi:i<ns.length):P.getD (P.getD i default) default=P.getD i default:=by
 have h1:=I.le i (by rw [I.len];exact hi);obtain ⟨k,k1,k2,k3⟩:=I.comp H C hns hi (I.rc i (by rw [I.len];exact hi));have:=hs.inj k1 (by omega) k2;rw [this] at k3;exact k3
def Jv (ns:List (List UInt8)) (P:List Nat) (i n:Nat):List (List UInt8):=((List.range n).filter fun k=>decide (P.getD k default=i)).map fun k=>ns.getD k default
theorem qa7 (ns:List (List UInt8)) (P:List Nat) (i n:Nat):Jv ns P i (n+1)=Jv ns P i n ++ if P.getD n default=i then [ns.getD n default] else []:=by
 unfold Jv;rw [List.range_succ,zD1,zC9];congr 1
 rw [zD8,List.filter_nil];by_cases h:P.getD n default=i
 ·rw [if_pos (decide_eq_true h),if_pos h];rfl
 ·rw [if_neg (by rw [decide_eq_false h];decide),if_neg h];rfl
theorem XX {ns:List (List UInt8)} {P:List Nat} {i n:Nat} {x:List UInt8}:x∈Jv ns P i n↔∃ k,k<n∧P.getD k default=i∧ns.getD k default=x:=by
 unfold Jv;simp only [zF2,zE0,zE3,decide_eq_true_eq];constructor
 ·rintro ⟨k,⟨h1,h2⟩,h3⟩;exact ⟨k,h1,h2,h3⟩
 ·rintro ⟨k,h1,h2,h3⟩;exact ⟨k,⟨h1,h2⟩,h3⟩
theorem SS.qfs {l:List (List UInt8)} (h:l.Pairwise zG):SS l:=by
 intro i j hij hj;have:=zD2.1 h i j (by omega) hj hij;rw [zA2,zA2,zA4 hj,zA4 (show i<l.length by omega)];exact this
theorem qas {ns:List (List UInt8)} (hs:SS ns) {P:List Nat} {i n:Nat} (hn:n≤ns.length):SS (Jv ns P i n):=by
 apply SS.qfs
 unfold Jv;rw [List.pairwise_map];have h1:(List.range n).Pairwise fun a b=>a<b:=List.pairwise_lt_range;have h2:=h1.filter fun k=>decide (P.getD k default=i);refine List.Pairwise.imp_of_mem ?_ h2;intro a b ha hb hab;have hb':=zE3.1 (zE0.1 hb).1;exact hs a b hab (by omega)
theorem qcb (ns:List (List UInt8)) (P:List Nat) (i n:Nat):(Jv ns P i n).length≤n:=by
 unfold Jv;rw [zC5];have:=zF0 (fun k=>decide (P.getD k default=i)) (List.range n);simpa using this
def Xc (ns:List (List UInt8)) (P:List Nat) (n:Nat):List (List (List UInt8)):=((List.range n).filter fun i=>decide (P.getD i default=i)).map fun i=>Jv ns P i ns.length
theorem PK (ns:List (List UInt8)) (P:List Nat) (n:Nat):Xc ns P (n+1)=Xc ns P n ++ if P.getD n default=n then [Jv ns P n ns.length] else []:=by
 unfold Xc;rw [List.range_succ,zD1,zC9];congr 1
 rw [zD8,List.filter_nil];by_cases h:P.getD n default=n
 ·rw [if_pos (decide_eq_true h),if_pos h];rfl
 ·rw [if_neg (by rw [decide_eq_false h];decide),if_neg h];rfl
theorem qa6 (ns:List (List UInt8)) (P:List Nat) (n:Nat):(Xc ns P n).length≤n:=by
 unfold Xc;rw [zC5];have:=zF0 (fun i=>decide (P.getD i default=i)) (List.range n);simpa using this
theorem LI.head {r:Rl} {ns:List (List UInt8)} {P:List Nat} (I:LI r ns P) (hs:SS ns) {i:Nat} (hi:i<ns.length) (e:P.getD i default=i):(Jv ns P i ns.length).getD 0 default=ns.getD i default:=by
 have hm:ns.getD i default∈Jv ns P i ns.length:=XX.2 ⟨i,hi,e,rfl⟩;have hss:=qas hs (P:=P) (i:=i) (zA3 ns.length);have hpos:=List.length_pos_of_mem hm;obtain ⟨k,k1,k2,k3⟩:=XX.1 (qM hpos);obtain ⟨j,j1,j2⟩:=qL.1 hm;have h1:=hss.le (zB0 j) j1;rw [j2,← k3,hs.lt_iff hi k1] at h1;have h2:=I.le k (by rw [I.len];exact k1);have:k=i:=by omega
 rw [← k3,this]
theorem LI.cir {r:Rl} (H:RO r) {ns:List (List UInt8)} {P:List Nat} (I:LI r ns P) (C:LC r ns P) (hs:SS ns) (hns:∀ x,x∈ns↔gat r.us x≠none) {cs:List Wd} (e:cs.map (·.ws)=Xc ns P ns.length):CirOk r cs∧∀ x,gat r.us x≠none→∃ w∈cs,x∈w.ws:=by
 have hns':∀ x,gat r.us x≠none→x∈ns:=fun x hx=>(hns x).2 hx;have key:∀ w∈cs,∃ i,i<ns.length∧P.getD i default=i∧w.ws=Jv ns P i ns.length:=fun w hw=>by
  have:w.ws∈Xc ns P ns.length:=by rw [← e];exact zF2.2 ⟨w,hw,rfl⟩
  unfold Xc at this;simp only [zF2,zE0,zE3,decide_eq_true_eq] at this;obtain ⟨i,⟨h1,h2⟩,h3⟩:=this;exact ⟨i,h1,h2,h3.symm⟩
 refine ⟨⟨fun w hw=>?_,?_⟩,fun x hx=>?_⟩
 ·obtain ⟨i,hi,hp,hw2⟩:=key w hw;rw [hw2,I.head hs hi hp];refine ⟨qas hs (zA3 _),fun q=>?_,fun x=>?_⟩
  ·have:ns.getD i default∈Jv ns P i ns.length:=XX.2 ⟨i,hi,hp,rfl⟩;rw [q] at this;cases this
  ·rw [XX];constructor
   ·rintro ⟨k,k1,k2,rfl⟩;refine ⟨(hns _).1 (qM hi),?_⟩;have:=I.rc k (by rw [I.len];exact k1);rw [k2] at this;exact this.symm
   ·rintro ⟨-,h2⟩;obtain ⟨k,k1,k2,k3⟩:=I.comp H C hns' hi h2;exact ⟨k,k1,by rw [k3,hp],k2⟩
 ·have hp:(Xc ns P ns.length).Pairwise fun a b=>zG (a.getD 0 default) (b.getD 0 default):=by
   unfold Xc;rw [List.pairwise_map];have h1:(List.range ns.length).Pairwise fun a b=>a<b:=List.pairwise_lt_range;have h2:=h1.filter fun i=>decide (P.getD i default=i);refine List.Pairwise.imp_of_mem ?_ h2;intro a b ha hb hab;have ha':=zE0.1 ha;have hb':=zE0.1 hb;have a1:=zE3.1 ha'.1;have b1:=zE3.1 hb'.1;rw [I.head hs a1 (of_decide_eq_true ha'.2),I.head hs b1 (of_decide_eq_true hb'.2)];exact hs a b hab b1
  rw [← e,List.pairwise_map] at hp;intro i j hij hj;have:=zD2.1 hp i j (by omega) hj hij;have g:∀ i (h:i<cs.length),cs.getD i default=cs[i]:=fun i h=>by rw [zA2,zA4 h];rfl
  rw [g i (by omega),g j hj];exact this
 ·obtain ⟨k,k1,k2⟩:=qL.1 (hns' x hx);have h1:=I.le k (by rw [I.len];exact k1);have h2:=I.fix H C hs hns' k1;have hm:Jv ns P (P.getD k default) ns.length∈cs.map (·.ws):=by
   rw [e];unfold Xc;simp only [zF2,zE0,zE3,decide_eq_true_eq];exact ⟨_,⟨by omega,h2⟩,rfl⟩
  obtain ⟨w,w1,w2⟩:=zF2.1 hm;exact ⟨w,w1,by rw [w2];exact XX.2 ⟨k,k1,rfl,k2⟩⟩
theorem CirOk.uniq {r:Rl} {cs ds:List Wd} (C:CirOk r cs) (D:CirOk r ds) (hc:∀ x,gat r.us x≠none→∃ w∈cs,x∈w.ws) (hd:∀ x,gat r.us x≠none→∃ w∈ds,x∈w.ws):cs.map (·.ws)=ds.map (·.ws):=by
 have hk:∀ {cs:List Wd},CirOk r cs→SS (cs.map fun w=>w.ws.getD 0 default):=fun {cs} C i j hij hj=>by
  rw [zC5] at hj;rw [zf (f:=fun w:Wd=>w.ws.getD 0 default) hj,zf (f:=fun w:Wd=>w.ws.getD 0 default) (show i<cs.length by omega)];exact C.hd i j hij hj
 have hsub:∀ {cs ds:List Wd},CirOk r cs→CirOk r ds→(∀ x,gat r.us x≠none→∃ w∈ds,x∈w.ws)→∀ w∈cs,∃ u∈ds,u.ws=w.ws:=fun {cs ds} C D hd w hw=>by
  obtain ⟨w1,w2,w3⟩:=C.ss w hw;have h0:w.ws.getD 0 default∈w.ws:=qM (List.length_pos_iff.2 w2);have hg:=((w3 _).1 h0).1;obtain ⟨u,u1,u2⟩:=hd _ hg;obtain ⟨v1,v2,v3⟩:=D.ss u u1;refine ⟨u,u1,v1.eq w1 fun x=>?_⟩;have hr:=((v3 _).1 u2).2;rw [v3,w3];exact ⟨fun q=>⟨hg,hr.symm.trans q.2⟩,fun q=>⟨((v3 _).1 u2).1,hr.trans q.2⟩⟩
 have heads:(cs.map fun w=>w.ws.getD 0 default)=ds.map fun w=>w.ws.getD 0 default:=(hk C).eq (hk D) fun x=>by
  simp only [zF2];constructor
  ·rintro ⟨w,w1,rfl⟩;obtain ⟨u,u1,u2⟩:=hsub C D hd w w1;exact ⟨u,u1,by rw [u2]⟩
  ·rintro ⟨w,w1,rfl⟩;obtain ⟨u,u1,u2⟩:=hsub D C hc w w1;exact ⟨u,u1,by rw [u2]⟩
 have hl:cs.length=ds.length:=by have:=congrArg List.length heads;simpa using this
 apply QH (by simpa using hl)
 intro i hi;rw [zC5] at hi;rw [zf (f:=fun w:Wd=>w.ws) hi,zf (f:=fun w:Wd=>w.ws) (show i<ds.length by omega)];obtain ⟨w1,w2,w3⟩:=C.ss _ (qM hi);obtain ⟨v1,v2,v3⟩:=D.ss _ (qM (show i<ds.length by omega));have e0:(cs.getD i default).ws.getD 0 default=(ds.getD i default).ws.getD 0 default:=by
  have:=congrArg (fun l=>l.getD i default) heads;(try simp only at this);rwa [zf (f:=fun w:Wd=>w.ws.getD 0 default) hi,zf (f:=fun w:Wd=>w.ws.getD 0 default) (show i<ds.length by omega)] at this
 refine w1.eq v1 fun x=>?_;rw [w3,v3,e0]
def Za (r:Rl):List (List UInt8):=r.us.map (·.diet)
structure DietOk (r:Rl) (ds:List Ct):Prop where
 ss:SS (ds.map (·.d))
 n:∀ c∈ds,c.n=((Za r).count c.d:Int)
 all:∀ x,x∈ds.map (·.d)↔x∈Za r
theorem DietOk.uniq {r:Rl} {a b:List Ct} (A:DietOk r a) (B:DietOk r b):a=b:=by
 have e:=A.ss.eq B.ss fun x=>(A.all x).trans (B.all x).symm;have hl:a.length=b.length:=by have:=congrArg List.length e;simpa using this
 apply QH hl
 intro i hi;have e1:(a.getD i default).d=(b.getD i default).d:=by
  have:=congrArg (fun l=>l.getD i default) e;(try simp only at this);rwa [zf (f:=fun c:Ct=>c.d) hi,zf (f:=fun c:Ct=>c.d) (show i<b.length by omega)] at this
 have e2:=A.n _ (qM hi);have e3:=B.n _ (qM (show i<b.length by omega));rw [e1,← e3] at e2;cases h1:a.getD i default with
 | mk d n=>cases h2:b.getD i default with
  | mk d' n'=>rw [h1,h2] at e1 e2;simp only at e1 e2;rw [e1,e2]
def XP (mp:List (List UInt8×Int)) (d:List UInt8):Int:=match zK mp d with|some x=>x|none=>0
theorem wB {mp:List (List UInt8×Int)} {d:List UInt8} {x:Int} (h:zK mp d=some x):XP mp d=x:=by unfold XP;rw [h]
theorem wC {mp:List (List UInt8×Int)} {d:List UInt8} (h:zK mp d=none):XP mp d=0:=by unfold XP;rw [h]
theorem Gx {mp:List (List UInt8×Int)} {k:List UInt8} {x:Int} (d:List UInt8):XP (Ql mp k x) d=if d=k then x else XP mp d:=by
 unfold XP;rw [J5];by_cases e:d=k
 ·rw [if_pos e,if_pos e]
 ·rw [if_neg e,if_neg e]
structure DP (r:Rl) (i:Nat) (mp:List (List UInt8×Int)) (out:List Ct):Prop where
 m:∀ d,XP mp d=if d∈(Za r).take i then 0 else ((Za r).count d:Int)
 nd:(out.map (·.d)).Nodup
 mem:∀ d,d∈out.map (·.d)↔d∈(Za r).take i
 n:∀ c∈out,c.n=((Za r).count c.d:Int)
 ln:out.length≤i
theorem jH {l:List (List UInt8)} {i:Nat} (hi:i<l.length) (d:List UInt8):d∈l.take (i+1)↔d∈l.take i∨d=l.getD i default:=by
 rw [qQ hi,zB8,zB5]
theorem DP.yes {r:Rl} {i:Nat} {mp:List (List UInt8×Int)} {out:List Ct} (D:DP r i mp out) (hi:i<(Za r).length) (h:0<XP mp ((Za r).getD i default)):DP r (i+1) (Ql mp ((Za r).getD i default) 0) (out ++ [⟨(Za r).getD i default,XP mp ((Za r).getD i default)⟩]):=by
 have hn:(Za r).getD i default ∉ (Za r).take i:=fun q=>by
  have:=D.m ((Za r).getD i default);rw [if_pos q] at this;omega
 have hv:=D.m ((Za r).getD i default);rw [if_neg hn] at hv;refine ⟨fun d=>?_,?_,fun d=>?_,fun c hc=>?_,by have:=D.ln;simp;omega⟩
 ·rw [Gx];by_cases e:d=(Za r).getD i default
  ·rw [if_pos e,if_pos ((jH hi d).2 (.inr e))]
  ·rw [if_neg e,D.m d];by_cases q:d∈(Za r).take i
   ·rw [if_pos q,if_pos ((jH hi d).2 (.inl q))]
   ·rw [if_neg q,if_neg (fun z=>((jH hi d).1 z).elim q e)]
 ·rw [zC9,zG5];refine ⟨D.nd,by simp,fun a ha b hb e=>?_⟩;simp only [List.map_cons,List.map_nil,zB5] at hb;subst e;subst hb;exact hn ((D.mem _).1 ha)
 ·rw [zC9,zB8,D.mem,jH hi];simp
 ·rcases zB8.1 hc with q|q
  ·exact D.n c q
  ·rw [zB5.1 q];exact hv
theorem DP.no {r:Rl} {i:Nat} {mp:List (List UInt8×Int)} {out:List Ct} (D:DP r i mp out) (hi:i<(Za r).length) (h:¬ 0<XP mp ((Za r).getD i default)):DP r (i+1) mp out:=by
 have hn:(Za r).getD i default∈(Za r).take i:=by
  apply zG9
  intro q;have hv:=D.m ((Za r).getD i default);rw [if_neg q] at hv;have:0<(Za r).count ((Za r).getD i default):=List.count_pos_iff.2 (qM hi);omega
 have key:∀ d,d∈(Za r).take (i+1)↔d∈(Za r).take i:=fun d=>by
  rw [jH hi];exact ⟨fun q=>q.elim id (fun e=>e ▸ hn),.inl⟩
 refine ⟨fun d=>?_,D.nd,fun d=>by rw [D.mem,key],D.n,by have:=D.ln;omega⟩;rw [D.m d];simp only [key]
theorem DP.fin {r:Rl} {mp:List (List UInt8×Int)} {out ds:List Ct} (D:DP r (Za r).length mp out) (s:Sw 0 out.length out ds) (h:Srt Qm 0 out.length ds):DietOk r ds:=by
 have hl:=s.len;have hp:=s.perm;have hnd:(ds.map (·.d)).Nodup:=(hp.map _).nodup_iff.2 D.nd;refine ⟨fun i j hij hj=>?_,fun c hc=>D.n c (hp.mem_iff.1 hc),fun x=>?_⟩
 ·have hj':j<ds.length:=by simpa using hj
  have h1:=h i j (zB0 _) hij (by omega);have h2:=ZI hnd hij hj;rw [zf (f:=fun c:Ct=>c.d) hj',zf (f:=fun c:Ct=>c.d) (show i<ds.length by omega)] at *;rcases Zr h1 with q|q
  ·exact absurd q h2
  ·exact q
 ·have:=D.mem x;rw [zD4] at this;rw [← this];exact (hp.map _).mem_iff
variable [Flag]
theorem qb4 {h0:AH} (w:WfH h0) {p:Nat} {r:Rl} (B:BkRd h0 p r) (H:RO r):Fn Tryz.prog Xh 51 [.pointer (some ⟨p,0,none⟩)] h0 (fun u h'=>∃ ds,Hs h0 h' [.sl u 147 2 Qw ds]∧DietOk r ds∧ds.length≤64):=by
 have S:=Hs.start w;obtain ⟨s,B⟩:=B;have hb:=B.bk;have h64:=H.l64;have hrg:=B.rg;have hgl:=B.len;have hdl:(Za r).length=r.us.length:=by simp [Za]
 have hgd:∀ i,i<s.gs.length→(s.gs.getD i default).diet=(Za r).getD i default:=fun i hi=>by
  have:=B.g hi;unfold Za;rw [zf (f:=fun g:Gu=>g.diet) (by omega),← this]
 refine qZ rfl Tryz.func51 rfl rfl ?_;all_goals (repeat' (first|refine qg ?_|(refine qc 0 ?_;refine qK ?_)|(refine qc 1 ?_;refine mv ?_)))
 (refine qx rfl rfl rfl rfl rfl ((jD S.wf (S.ext.get w hb)).mono ?_);rintro _ h ⟨rfl,x⟩)<;>(replace S:=S.qN x;clear x;refine qf ?_)
 all_goals (repeat' (first|refine qg ?_|refine qh rfl ?_|refine qj ?_))
 (repeat (refine qg ?_));refine qc 3 ?_;refine mkm (α:=Int) (.int .i64) S ?_;clear S;intro m h S;(refine qK ?_);all_goals (repeat' (first|refine qg ?_|refine qi ?_|(refine qc 4 ?_;refine Qz ?_;refine lH S ?_;refine Zx S ?_;refine qK ?_)))
 refine qH (σ:=Nat×List (List UInt8×Int)) (fun (i,mp) h'=>Hs h0 h' [.mp m (.int .i64) mp]∧i≤r.us.length∧(∀ d,XP mp d=(((Za r).take i).count d:Int))) (fun (i,mp)=>r.us.length - i) (fun (i,mp)=>[(0,.pointer (some ⟨p,0,none⟩)),(3,.map (some m)),(17,s.vg.val),(18,.int .i64 s.gs.length),(19,.int .i64 i)]) (0,[]) qo ?_ ?_
 ·exact ⟨S,zB0 _,fun d=>by simp [XP,zK,QM]⟩
 clear S;rintro ⟨i,mp⟩ h ⟨S,g1,g2⟩;all_goals (repeat' (first|refine qg ?_|refine qh rfl ?_|refine qj ?_|refine qw ?_|refine qi ?_|(refine qc 5 ?_;(first|(refine cS ?_ ?_<;>intro hc))<;>(refine qf ?_))))
 ·have hil:i<s.gs.length:=by omega
  have hd:=hgd i hil;have hnx:∀ d,XP (Ql mp ((Za r).getD i default) (XP mp ((Za r).getD i default)+1)) d=(((Za r).take (i+1)).count d:Int):=fun d=>by
   rw [Gx,qQ (by omega),List.count_append,List.count_cons,List.count_nil];by_cases e:d=(Za r).getD i default
   ·rw [if_pos e,e,g2];simp
   ·rw [if_neg e,g2];have:((Za r).getD i default == d)=false:=by simpa using fun q=>e q.symm
    simp only [this];simp
  have hbd:0≤XP mp ((Za r).getD i default)∧XP mp ((Za r).getD i default)≤64:=by
   rw [g2];have:=List.count_le_length (a:=(Za r).getD i default) (l:=(Za r).take i);rw [zA9] at this;omega
  all_goals (repeat' (first|(refine qc 6 ?_;refine QN S ?_;refine jQ S ?_;(refine al S ?_;clear S;intro b h S);(first|(refine sB S rfl rfl ?_;clear S;intro h S));refine qf ?_)|(refine qc 7 ?_;refine mv ?_;refine vl ?_;refine lB S rfl rfl ?_)))
  simp only [zA0,hd] at *;refine lk S (.there .here) (fun y hy=>?_) (fun hy=>?_)
  ·rw [wB hy] at hbd hnx;simp only [okV];(refine ad ?_);refine up (x:=y+1) (key:=(Za r).getD i default) S (.there .here) (.there .here) (fun h S=>?_) (.inl rfl);(refine qf ?_);all_goals (repeat' (first|(refine qc 8 ?_;refine jR ?_)))
   refine ⟨(i+1,Ql mp ((Za r).getD i default) (y+1)),?_,?_,qo⟩
   ·show r.us.length - (i+1)<r.us.length - i;omega
   ·exact ⟨S.tail,by (try dsimp only);omega,hnx⟩
  ·rw [wC hy] at hbd hnx;simp only [okV];(refine ad ?_);refine up (x:=(0:Int)+1) (key:=(Za r).getD i default) S (.there .here) (.there .here) (fun h S=>?_) (.inl rfl);(refine qf ?_);all_goals (repeat' (first|(refine qc 8 ?_;refine jR ?_)))
   refine ⟨(i+1,Ql mp ((Za r).getD i default) (0+1)),?_,?_,qo⟩
   ·show r.us.length - (i+1)<r.us.length - i;omega
   ·exact ⟨S.tail,by (try dsimp only);omega,hnx⟩
 ·have hi:i=r.us.length:=by omega
  rw [hi,← hdl,zD4] at g2;all_goals (repeat' (first|refine qg ?_|(refine qc 9 ?_;refine qK ?_)))
  have S:=S.Qb (e:=147) (z:=2) (enc:=Qw);all_goals (repeat' (first|refine qi ?_|(refine qc 10 ?_;refine Qz ?_;refine lH S ?_;refine Zx S ?_;refine qK ?_)))
  refine qH (σ:=Nat×List (List UInt8×Int)×Value×List Ct) (fun (i,mp,v6,out) h'=>Hs h0 h' [.sl v6 147 2 Qw out,.mp m (.int .i64) mp]∧i≤r.us.length∧DP r i mp out) (fun (i,mp,v6,out)=>r.us.length - i) (fun (i,mp,v6,out)=>[(0,.pointer (some ⟨p,0,none⟩)),(3,.map (some m)),(6,v6),(33,s.vg.val),(34,.int .i64 s.gs.length),(35,.int .i64 i)]) (0,mp,.slice none 0 0,[]) qo ?_ ?_
  ·exact ⟨S,zB0 _,⟨fun d=>by rw [List.take_zero,if_neg (by simp)];exact g2 d,by simp,by simp,by simp,zA3 _⟩⟩
  clear S g2;rintro ⟨i,mp,v6,out⟩ h ⟨S,k1,D⟩;have hln:=D.ln;all_goals (repeat' (first|refine qg ?_|refine qh rfl ?_|refine qj ?_|refine qw ?_|refine qi ?_|(refine qc 11 ?_;(first|(refine cS ?_ ?_<;>intro hc))<;>(refine qf ?_))))
  ·have hil:i<s.gs.length:=by omega
   have hd:=hgd i hil;have hmd:=D.m ((Za r).getD i default);have hyes:=D.yes (show i<(Za r).length by omega);have hnoo:=D.no (show i<(Za r).length by omega);all_goals (repeat' (first|refine qg ?_|(refine qc 12 ?_;refine QN S ?_;refine jQ S ?_;(refine al S ?_;clear S;intro b h S);(first|(refine sB S rfl rfl ?_;clear S;intro h S));refine qf ?_)|(refine qc 13 ?_;refine mv ?_;refine vl ?_;refine lB S rfl rfl ?_)))
   simp only [zA0,hd] at *;refine lk S (.there (.there .here)) (fun y hy=>?_) (fun hy=>?_)
   ·rw [wB hy] at hyes hnoo;simp only [okV];(refine qK ?_);all_goals (repeat' (first|refine qg ?_|refine qh rfl ?_|refine qj ?_|(refine qc 14 ?_;refine mv ?_;(first|(refine cS ?_ ?_<;>intro hc))<;>(refine qf ?_))))
    ·have hyes:=hyes (by omega);all_goals (repeat' (first|(refine qc 15 ?_;refine mv ?_;refine vl ?_;refine lB S rfl rfl ?_;refine mv ?_;refine vl ?_;(refine one 2 S ?_;clear S;intro u h S))))
     have hd:=hgd i hil;(try simp only [zA0] at S);(try rw [hd] at S);refine app (y0:=(⟨(Za r).getD i default,y⟩:Ct)) S rfl rfl ?_;clear S;intro v6 h S;(refine qK ?_);all_goals (repeat' (first|(refine qc 16 ?_;refine mv ?_;refine vl ?_;refine lB S rfl rfl ?_)))
     (try simp only [zA0])
     (try rw [hd])
     refine up (x:=(0:Int)) (key:=(Za r).getD i default) S (.there (.there .here)) (.there (.there .here)) (fun h S=>?_) (.inl rfl);(refine qf ?_);all_goals (repeat' (first|(refine qc 17 ?_;refine jR ?_)))
     refine ⟨(i+1,Ql mp ((Za r).getD i default) 0,v6,out ++ [⟨(Za r).getD i default,y⟩]),?_,?_,qo⟩
     ·show r.us.length - (i+1)<r.us.length - i;omega
     ·exact ⟨S.pick,by (try dsimp only);omega,hyes⟩
    ·have hnoo:=hnoo (by omega);all_goals (repeat' (first|(refine qc 17 ?_;refine jR ?_)))
     refine ⟨(i+1,mp,v6,out),?_,?_,qo⟩
     ·show r.us.length - (i+1)<r.us.length - i;omega
     ·exact ⟨S.pick,by (try dsimp only);omega,hnoo⟩
   ·rw [wC hy] at hnoo;have hnoo:=hnoo (by omega);simp only [okV];(refine qK ?_);all_goals (repeat' (first|refine qg ?_|refine qh rfl ?_|refine qj ?_|(refine qc 14 ?_;refine mv ?_;(refine cF ?_)<;>(refine qf ?_))|(refine qc 17 ?_;refine jR ?_)))
    refine ⟨(i+1,mp,v6,out),?_,?_,qo⟩
    ·show r.us.length - (i+1)<r.us.length - i;omega
    ·exact ⟨S.pick,by (try dsimp only);omega,hnoo⟩
  ·have hi:i=(Za r).length:=by omega
   rw [hi] at D;all_goals (repeat' (first|(refine qc 18 ?_;refine mv ?_)))
   (refine qx rfl rfl rfl rfl rfl ((qea S (by omega)).mono ?_);rintro _ h ⟨ds,s1,s2,S⟩)<;>(refine qf ?_)
   all_goals (repeat' (first|refine qg ?_|(refine qc 19 ?_;refine qX ?_)))
   refine qC ⟨_,rfl,?_⟩;exact ⟨ds,S.only .here,D.fin s1 s2,by rw [s1.len];omega⟩
end Go.Proofs.Xx
namespace Go.Proofs.Xx
open Go Go.Proofs
structure RP (l:List (List UInt8)) (i:Nat) (out:List Ct):Prop where
 ss:SS (out.map (·.d))
 n:∀ c∈out,c.n=((l.take i).count c.d:Int)
 all:∀ x,x∈out.map (·.d)↔x∈l.take i
 last:0<i→0<out.length∧(out.getD (out.length - 1) default).d=l.getD (i - 1) default
 ln:out.length≤i
theorem XC {l:List (List UInt8)} {i:Nat} (hi:i<l.length) (d:List UInt8):(l.take (i+1)).count d=(l.take i).count d+if d=l.getD i default then 1 else 0:=by
 rw [qQ hi,List.count_append,List.count_cons,List.count_nil];by_cases e:d=l.getD i default
 ·rw [if_pos e,e];simp
 ·rw [if_neg e];have:(l.getD i default == d)=false:=by simpa using fun q=>e q.symm
  simp only [this];simp
theorem RP.same {l:List (List UInt8)} {i:Nat} {out:List Ct} (R:RP l i out) (hi:i<l.length) (h0:0<i) (e:l.getD i default=l.getD (i - 1) default):RP l (i+1) (out.set (out.length - 1) ⟨(out.getD (out.length - 1) default).d,(out.getD (out.length - 1) default).n+1⟩):=by
 obtain ⟨k1,k2⟩:=R.last h0;rw [← e] at k2;obtain ⟨m,hm⟩:∃ m,out.length - 1=m:=⟨_,rfl⟩
 rw [hm] at k2 ⊢;have hml:m<out.length:=by omega
 have hmap:(out.set m ⟨(out.getD m default).d,(out.getD m default).n+1⟩).map (·.d)=out.map (·.d):=by
  apply QH (by simp)
  intro j hj;simp at hj;rw [zf (f:=fun c:Ct=>c.d) (by simpa using hj),zf (f:=fun c:Ct=>c.d) hj,jC _ _ hml];split
  ·rename_i q;rw [q]
  ·rfl
 refine ⟨by rw [hmap];exact R.ss,fun c hc=>?_,fun x=>?_,fun _=>⟨by simp;omega,?_⟩,by have:=R.ln;simp;omega⟩
 ·obtain ⟨j,j1,j2⟩:=qL.1 hc;simp at j1;rw [jC _ _ hml] at j2;rw [← j2,XC hi];by_cases q:j=m
  ·rw [if_pos q];show (out.getD m default).n+1=_
   have h1:=R.n _ (qM hml);show (out.getD m default).n+1=((((l.take i).count (out.getD m default).d+if (out.getD m default).d=l.getD i default then 1 else 0:Nat)):Int)
   rw [if_pos k2];omega
  ·rw [if_neg q];have hne:(out.getD j default).d≠l.getD i default:=fun z=>by
    rw [← k2] at z;have:=R.ss.inj (i:=j) (j:=m) (by simpa using j1) (by simpa using hml) (by
     rw [zf (f:=fun c:Ct=>c.d) j1,zf (f:=fun c:Ct=>c.d) hml];exact z)
    exact q this
   rw [if_neg hne,R.n _ (qM j1)];omega
 ·rw [hmap,R.all,jH hi];constructor
  ·exact .inl
  ·rintro (q|q)
   ·exact q
   ·rw [q,← k2];exact (R.all _).1 (zF2.2 ⟨_,qM hml,rfl⟩)
 ·rw [zF6,hm,jC _ _ hml,if_pos rfl];exact k2
theorem RP.new {l:List (List UInt8)} {i:Nat} {out:List Ct} (R:RP l i out) (hs:Srt zG 0 l.length l) (hi:i<l.length) (h:i=0∨l.getD i default≠l.getD (i - 1) default):RP l (i+1) (out ++ [⟨l.getD i default,1⟩]):=by
 have hlt:∀ x∈l.take i,zG x (l.getD i default):=fun x hx=>by
  obtain ⟨j,j1,j2⟩:=qL.1 hx;rw [zA9] at j1;rw [getD_take (show j<i by omega)] at j2;rcases h with h|h
  ·omega
  ·have a1:=hs (i - 1) i (zB0 _) (by omega) hi;have a2:zG (l.getD (i - 1) default) (l.getD i default):=by
    rcases Zr a1 with q|q
    ·exact absurd q.symm h
    ·exact q
   rcases Nat.eq_or_lt_of_le (show j≤i - 1 by omega) with e|e
   ·rw [← j2,e];exact a2
   ·have a3:=hs j (i - 1) (zB0 _) e (by omega);rw [← j2];exact kJ a3 a2
 have hni:l.getD i default ∉ l.take i:=fun q=>zA _ (hlt _ q);refine ⟨?_,fun c hc=>?_,fun x=>?_,fun _=>⟨by simp,?_⟩,by have:=R.ln;simp;omega⟩
 ·rw [zC9];intro a b hab hb;rw [zB2,zC5] at hb;simp at hb;rcases zA7 b out.length with q|q
  ·rw [Ym (by simp;omega),Ym (by simpa using q)];exact R.ss a b hab (by simpa using q)
  ·obtain rfl:b=out.length:=by omega
   rw [Ym (by simpa using hab),KF (by simp),zC5,zG7];exact hlt _ ((R.all _).1 (qM (by simpa using hab)))
 ·rw [XC hi];rcases zB8.1 hc with q|q
  ·have hne:c.d≠l.getD i default:=fun e=>hni (e ▸ (R.all _).1 (zF2.2 ⟨c,q,rfl⟩));rw [if_neg hne,R.n c q];omega
  ·rw [zB5.1 q];show (1:Int)=(((l.take i).count (l.getD i default)+if l.getD i default=l.getD i default then 1 else 0:Nat):Int)
   rw [if_pos rfl,List.count_eq_zero.2 hni];rfl
 ·rw [zC9,zB8,R.all,jH hi];simp
 ·rw [zB2,zD5,Nat.add_sub_cancel,Nat.add_sub_cancel,KF (zA3 _),zG7];rfl
theorem RP.fin {r:Rl} {l:List (List UInt8)} {out:List Ct} (R:RP l l.length out) (p:l.Perm (Za r)):DietOk r out:=by
 refine ⟨R.ss,fun c hc=>?_,fun x=>?_⟩
 ·rw [R.n c hc,zD4,p.count_eq]
 ·rw [R.all,zD4,p.mem_iff]
variable [Flag]
theorem qaR {h0:AH} (w:WfH h0) (v:RlV) (r:Rl) (HR:RlOk h0 v r) (H:RO r):Fn Tryz.prog Xh 101 [v.val] h0 (fun u h'=>∃ ds,Hs h0 h' [.sl u 149 2 Qw ds]∧DietOk r ds∧ds.length≤64):=by
 have S:=Hs.start w;have h64:=H.l64;have hrg:=HR.rg;have hgl:=HR.len;have hdl:(Za r).length=r.us.length:=by simp [Za]
 have hgd:∀ i,i<v.gs.length→(v.gs.getD i default).diet=(Za r).getD i default:=fun i hi=>by
  have:=HR.at_ hi;unfold Za;rw [zf (f:=fun g:Gu=>g.diet) (by omega),← this]
 unfold RlV.val;refine qZ rfl Tryz.func101 rfl rfl ?_;all_goals (repeat' (first|refine qg ?_|(refine qc 0 ?_;(refine bx S ?_;clear S;intro b h S);refine qK ?_)))
 obtain ⟨b1,hnm⟩:∃ x,x=b:=⟨_,rfl⟩;subst hnm;replace S:Hs h0 h (.blk b1 [v.vg.val,v.vt.val] 32 :: []):=S;have S:=S.Qb (e:=9) (z:=1) (enc:=eS);all_goals (repeat' (first|refine qg ?_|refine qi ?_|(refine qc 1 ?_;refine qK ?_)|(refine qc 2 ?_;refine qK ?_)))
 refine qH (σ:=Nat×Value) (fun (i,v3) h'=>Hs h0 h' [.sl v3 9 1 eS ((Za r).take i),.blk b1 [v.vg.val,v.vt.val] 32]∧i≤r.us.length) (fun (i,v3)=>r.us.length - i) (fun (i,v3)=>[(1,.pointer (some ⟨b1,0,none⟩)),(3,v3),(4,.int .i64 i)]) (0,.slice none 0 0) qo ?_ ?_
 ·exact ⟨S,zB0 _⟩
 clear S;rintro ⟨i,v3⟩ h ⟨S,g1⟩;have htl:((Za r).take i).length=i:=by simp;omega
 all_goals (repeat' (first|refine qg ?_|refine qh rfl ?_|refine qj ?_|refine qw ?_|refine qi ?_|(refine qc 3 ?_;refine mv ?_;refine vl ?_;refine lB S rfl rfl ?_;refine Zx S ?_;(first|(refine cS ?_ ?_<;>intro hc))<;>(refine qf ?_))))
 ·have hil:i<v.gs.length:=by omega
  have hd:=hgd i hil;all_goals (repeat' (first|(refine qc 5 ?_;refine mv ?_;refine vl ?_;refine lB S rfl rfl ?_;refine mv ?_;refine QN S ?_;refine fB S ?_;refine jQ S ?_;(refine one 1 S ?_;clear S;intro u h S))))
  simp only [zA0] at *;refine app (y0:=(v.gs.getD i default).diet) S rfl rfl ?_;clear S;intro v3 h S;(refine qK ?_);all_goals (repeat' (first|(refine qc 4 ?_;refine qO ?_)))
  refine ⟨(i+1,v3),?_,?_,qo⟩
  ·show r.us.length - (i+1)<r.us.length - i;omega
  ·refine ⟨?_,by (try dsimp only);omega⟩;(try dsimp only);rw [qQ (by omega),← hd];exact S.pick
 ·have hi:i=r.us.length:=by omega
  rw [hi,← hdl,zD4] at S;all_goals (repeat' (first|(refine qc 6 ?_;refine mv ?_)))
  (refine qx rfl rfl rfl rfl rfl ((KZ S.wf v3 (Za r) (Rd.jm S .here) (by omega)).mono ?_);rintro u3 h ⟨l,z1,z2,x⟩)<;>(replace S:=S.zQ x;clear x;refine qK ?_)
  have hll:l.length=r.us.length:=by rw [z1.len,hdl]
  rw [← z1.len] at z2;have S:=S.Qb (e:=149) (z:=2) (enc:=Qw);all_goals (repeat' (first|refine qg ?_|refine qi ?_|(refine qc 7 ?_;refine qK ?_)|(refine qc 8 ?_;refine qK ?_)))
  refine qH (σ:=Nat×Value×List Ct) (fun (i,v5,out) h'=>Hs h0 h' [.sl v5 149 2 Qw out,.sl u3 9 1 eS l]∧i≤l.length∧RP l i out) (fun (i,v5,out)=>l.length - i) (fun (i,v5,out)=>[(3,u3),(5,v5),(6,.int .i64 i)]) (0,.slice none 0 0,[]) qo ?_ ?_
  ·exact ⟨S.pick,zB0 _,⟨fun a b _ hb=>absurd hb (zB7 _),by simp,by simp,fun q=>absurd q (Nat.lt_irrefl _),zA3 _⟩⟩
  clear S;rintro ⟨i,v5,out⟩ h ⟨S,k1,R⟩;have hln:=R.ln;all_goals (repeat' (first|refine qg ?_|refine qh rfl ?_|refine qj ?_|refine qw ?_|refine qi ?_|(refine qc 9 ?_;refine qE ?_;refine ZJ S rfl rfl ?_;(first|(refine cS ?_ ?_<;>intro hc))<;>(refine qf ?_))))
  ·have hil:i<l.length:=by omega
   have hpr:((i:Int) - 1).toNat=i - 1:=by omega
   all_goals (repeat' (first|refine qh rfl ?_|(refine qJ 11 ?_;refine mv ?_;(first|(refine cS ?_ ?_<;>intro hc))<;>(refine mv ?_;(first|refine off ?_|refine mv ?_);(first|refine off ?_|refine mv ?_);(first|refine off ?_|(refine qy S rfl rfl ?_));(first|refine off ?_|(refine qI S rfl rfl ?_));(first|refine off ?_|refine mv ?_);(first|refine off ?_|refine mv ?_);(first|refine off ?_|(refine sb ?_));(first|refine off ?_|(refine qy S rfl rfl ?_));(first|refine off ?_|(refine qI S rfl rfl ?_));(first|refine off ?_|(refine tS ?_ ?_<;>intro hc))<;>(refine zU ?_)))))
   all_goals (try simp only [zA0,hpr] at *)
   ·have i0:0<i:=by omega
    obtain ⟨m1,m2⟩:=R.last i0;have R2:=R.same hil i0 hc;have hpo:((out.length:Int) - 1).toNat=out.length - 1:=by omega
    have hbd:0≤(out.getD ((out.length:Int) - 1).toNat default).n∧(out.getD ((out.length:Int) - 1).toNat default).n≤64:=by
     rw [hpo,R.n _ (qM (by omega))];have:=List.count_le_length (a:=(out.getD (out.length - 1) default).d) (l:=l.take i);rw [zA9] at this;omega
    (repeat (refine qg ?_));refine qc 12 ?_;refine qE ?_;refine ZJ S rfl rfl ?_;refine sb ?_;refine qy S rfl rfl ?_;refine fS S rfl rfl ?_;refine qI S rfl rfl ?_;refine ad ?_;refine qy S rfl rfl ?_;refine fS S rfl rfl ?_;refine zY (y:=(⟨(out.getD ((out.length:Int) - 1).toNat default).d,(out.getD ((out.length:Int) - 1).toNat default).n+1⟩:Ct)) S rfl rfl ?_;clear S;intro h S;(refine qf ?_);rw [hpo] at S;all_goals (repeat' (first|(refine qc 10 ?_;refine qO ?_)))
    refine ⟨(i+1,v5,out.set (out.length - 1) ⟨(out.getD (out.length - 1) default).d,(out.getD (out.length - 1) default).n+1⟩),?_,?_,qo⟩
    ·show l.length - (i+1)<l.length - i;omega
    ·exact ⟨S,by (try dsimp only);omega,R2⟩
   ·have R2:=R.new z2 hil (.inr hc);all_goals (repeat' (first|(refine qc 13 ?_;refine qE ?_;refine mv ?_;refine qy S rfl rfl ?_;refine qI S rfl rfl ?_;refine vl ?_;(refine one 2 S ?_;clear S;intro u h S))))
    simp only [zA0] at *;refine app (y0:=(⟨l.getD i default,1⟩:Ct)) S rfl rfl ?_;clear S;intro v5 h S;(refine qK ?_);all_goals (repeat' (first|(refine qc 10 ?_;refine qO ?_)))
    refine ⟨(i+1,v5,out ++ [⟨l.getD i default,1⟩]),?_,?_,qo⟩
    ·show l.length - (i+1)<l.length - i;omega
    ·exact ⟨S.pick,by (try dsimp only);omega,R2⟩
   ·have R2:=R.new z2 hil (.inl (by omega));all_goals (repeat' (first|(refine qc 13 ?_;refine qE ?_;refine mv ?_;refine qy S rfl rfl ?_;refine qI S rfl rfl ?_;refine vl ?_;(refine one 2 S ?_;clear S;intro u h S))))
    simp only [zA0] at *;refine app (y0:=(⟨l.getD i default,1⟩:Ct)) S rfl rfl ?_;clear S;intro v5 h S;(refine qK ?_);all_goals (repeat' (first|(refine qc 10 ?_;refine qO ?_)))
    refine ⟨(i+1,v5,out ++ [⟨l.getD i default,1⟩]),?_,?_,qo⟩
    ·show l.length - (i+1)<l.length - i;omega
    ·exact ⟨S.pick,by (try dsimp only);omega,R2⟩
  ·have hi:i=l.length:=by omega
   rw [hi] at R;all_goals (repeat' (first|(refine qc 14 ?_;refine qX ?_)))
   refine qC ⟨_,rfl,?_⟩;exact ⟨out,S.only .here,R.fin z1.perm,by omega⟩
end Go.Proofs.Xx
namespace Go.Proofs.Xx
open Go Go.Proofs
structure KA (r:Rl) (out:List Int):Prop where
 len:out.length=r.us.length
 rng:∀ j,j<out.length→out.getD j default = -1∨out.getD j default=0∨out.getD j default=1
 z:∀ j,j<out.length→0≤out.getD j default→out.getD j default=0∨∃ k,k<j∧Rch r 2 (Qv r k) (Qv r j)
 u:∀ cs,JP r cs→∀ j,j<out.length→0≤out.getD j default→out.getD j default=cs.getD j default
def KC (r:Rl) (out:List Int):Prop:=∀ a b,a<out.length→b<out.length→adj r 2 (Qv r a) (Qv r b)→0≤out.getD a default→0≤out.getD b default∧out.getD a default≠out.getD b default
theorem qam {r:Rl} {x:List UInt8} (h:gat r.us x≠none):∃ j,j<r.us.length∧Qv r j=x:=by
 obtain ⟨g,h1,h2⟩:=Je.1 h;obtain ⟨j,j1,j2⟩:=qL.1 h1;exact ⟨j,j1,by unfold Qv;rw [j2];exact h2⟩
theorem WU {r:Rl} (H:RO r) {i j:Nat} (hi:i<r.us.length) (hj:j<r.us.length) (e:Qv r i=Qv r j):i=j:=by
 rcases zE7 i j with q|q|q
 ·exact absurd e (H.nd i j q hj)
 ·exact q
 ·exact absurd e.symm (H.nd j i q hi)
theorem KC.rch {r:Rl} (H:RO r) {out:List Int} (hl:out.length=r.us.length) (C:KC r out) {k:Nat} (hk:k<out.length) (h0:0≤out.getD k default) {x:List UInt8} (h:Rch r 2 (Qv r k) x):∃ j,j<out.length∧Qv r j=x∧0≤out.getD j default:=by
 induction h with
 | refl=>exact ⟨k,hk,rfl,h0⟩
 | step h a ih =>
  obtain ⟨j,j1,j2,j3⟩:=ih;obtain ⟨m,m1,m2⟩:=qam (QJ H a).2.1;rw [← j2,← m2] at a;exact ⟨m,by omega,m2,(C j m j1 (by omega) a j3).1⟩
structure KP (r:Rl) (i:Nat) (out0 out:List Int):Prop where
 a:KA r out
 l0:out0.length=r.us.length
 c0:KC r out0
 m0:∀ j,j<i→0≤out0.getD j default
 i0:0≤out.getD i default
 old:∀ j,j<out.length→0≤out0.getD j default→0≤out.getD j default
 nw:∀ j,j<out.length→0≤out.getD j default→0≤out0.getD j default∨Rch r 2 (Qv r i) (Qv r j)
theorem KP.root {r:Rl} (H:RO r) {i:Nat} {out:List Int} (A:KA r out) (C:KC r out) (hm:∀ j,j<i→0≤out.getD j default) (hi:i<out.length) (hn:out.getD i default<0):KP r i out (out.set i 0):=by
 have hg:∀ j,(out.set i (0:Int)).getD j default=if j=i then 0 else out.getD j default:=fun j=>jC _ _ hi j
 refine ⟨⟨by simp;exact A.len,fun j hj=>?_,fun j hj h=>?_,fun cs hc j hj h=>?_⟩,A.len,C,hm,by rw [hg,if_pos rfl];exact Int.le_refl _,fun j hj h=>?_,fun j hj h=>?_⟩
 ·simp at hj;rw [hg];split
  ·exact .inr (.inl rfl)
  ·exact A.rng j hj
 ·simp at hj;rw [hg] at h ⊢;by_cases e:j=i
  ·rw [if_pos e];exact .inl rfl
  ·rw [if_neg e] at h ⊢;exact A.z j hj h
 ·simp at hj;rw [hg] at h ⊢;by_cases e:j=i
  ·rw [if_pos e,e];rcases hc.z i (by rw [hc.len,← A.len];exact hi) with z|⟨k,k1,k2⟩
   ·exact z.symm
   ·exfalso
    obtain ⟨m,m1,m2,m3⟩:=C.rch H A.len (by omega) (hm k k1) k2;have:=WU H (by rw [← A.len];exact m1) (by rw [← A.len];exact hi) m2;rw [this] at m3;omega
  ·rw [if_neg e] at h ⊢;exact A.u cs hc j hj h
 ·rw [hg];split
  ·exact Int.le_refl _
  ·exact h
 ·rw [hg] at h;by_cases e:j=i
  ·rw [e];exact .inr .refl
  ·rw [if_neg e] at h;exact .inl h
theorem KP.step {r:Rl} {i:Nat} {out0 out:List Int} (K:KP r i out0 out) {a b:Nat} (ha:a<out.length) (hb:b<out.length) (h:adj r 2 (Qv r a) (Qv r b)) (h1:0≤out.getD a default) (h2:out.getD b default<0):KP r i out0 (out.set b (1 - out.getD a default)):=by
 have hl:=K.a.len;have hl0:=K.l0;have hg:∀ j,(out.set b (1 - out.getD a default)).getD j default=if j=b then 1 - out.getD a default else out.getD j default:=fun j=>jC _ _ hb j
 have hra:=K.a.rng a ha;have hb0:¬ 0≤out0.getD b default:=fun q=>by have:=K.old b hb q;omega
 have hRa:Rch r 2 (Qv r i) (Qv r a):=by
  rcases K.nw a ha h1 with q|q
  ·exact absurd (K.c0 a b (by omega) (by omega) h q).1 hb0
  ·exact q
 have hib:i<b:=by
  rcases zE7 i b with q|q|q
  ·exact q
  ·have:=K.i0;rw [q] at this;omega
  ·exact absurd (K.m0 b q) hb0
 refine ⟨⟨by simp;exact hl,fun j hj=>?_,fun j hj q=>?_,fun cs hc j hj q=>?_⟩,hl0,K.c0,K.m0,?_,fun j hj q=>?_,fun j hj q=>?_⟩
 ·simp at hj;rw [hg];split
  ·omega
  ·exact K.a.rng j hj
 ·simp at hj;rw [hg] at q ⊢;by_cases e:j=b
  ·rw [e];exact .inr ⟨i,hib,hRa.step h⟩
  ·rw [if_neg e] at q ⊢;exact K.a.z j hj q
 ·simp at hj;rw [hg] at q ⊢;by_cases e:j=b
  ·rw [if_pos e,e];have e1:=K.a.u cs hc a ha h1;have e2:=hc.ne a b (by rw [hc.len];omega) (by rw [hc.len];omega) h;have e3:=hc.b b (by rw [hc.len];omega);have e4:=hc.b a (by rw [hc.len];omega);omega
  ·rw [if_neg e] at q ⊢;exact K.a.u cs hc j hj q
 ·rw [hg];split
  ·omega
  ·exact K.i0
 ·simp at hj;rw [hg];split
  ·omega
  ·exact K.old j hj q
 ·simp at hj;rw [hg] at q;by_cases e:j=b
  ·rw [e];exact .inr (hRa.step h)
  ·rw [if_neg e] at q;exact K.nw j hj q
theorem KA.no {r:Rl} {out:List Int} (A:KA r out) {a b:Nat} (ha:a<out.length) (hb:b<out.length) (h:adj r 2 (Qv r a) (Qv r b)) (h1:0≤out.getD a default) (e:out.getD a default=out.getD b default) (cs:List Int):¬ JP r cs:=fun hc=>by
 have e1:=A.u cs hc a ha h1;have e2:=A.u cs hc b hb (by omega);have hl:=A.len;exact hc.ne a b (by rw [hc.len];omega) (by rw [hc.len];omega) h (by omega)
def qct (r:Rl) (out:List Int) (t:Ti):Prop:=t.k=2→∀ a b,a<out.length→b<out.length→Qv r a=t.a→Qv r b=t.b→(0≤out.getD a default↔0≤out.getD b default)∧(0≤out.getD a default→out.getD a default≠out.getD b default)
theorem KC.of {r:Rl} {out:List Int} (h:∀ t∈r.ts,qct r out t):KC r out:=fun a b ha hb q h0=>by
 obtain ⟨t,t1,t2,t3⟩:=q;rcases t3 with ⟨q1,q2⟩|⟨q1,q2⟩
 ·obtain ⟨g1,g2⟩:=h t t1 t2 a b ha hb q1.symm q2.symm;exact ⟨g1.1 h0,g2 h0⟩
 ·obtain ⟨g1,g2⟩:=h t t1 t2 b a hb ha q2.symm q1.symm;have:=g1.2 h0;exact ⟨this,fun e=>g2 this e.symm⟩
def YH (out:List Int):Nat:=(out.map fun x=>(-x).toNat).sum
theorem Gt {out:List Int} {i:Nat} {x:Int} (hi:i<out.length) (h:out.getD i default<0) (hx:0≤x):YH (out.set i x)<YH out:=by
 unfold YH;rw [List.map_set];refine xg (by simpa using hi) ?_;rw [zf (f:=fun x:Int=>(-x).toNat) hi];omega
theorem KA.fin {r:Rl} {out:List Int} (A:KA r out) (C:KC r out) (hm:∀ j,j<out.length→0≤out.getD j default):JP r out∧∀ cs,JP r cs→cs=out:=by
 have hl:=A.len;refine ⟨⟨hl,fun i hi=>?_,fun i j hi hj a=>(C i j hi hj a (hm i hi)).2,fun j hj=>A.z j hj (hm j hj)⟩,fun cs hc=>?_⟩
 ·have:=A.rng i hi;have:=hm i hi;omega
 ·apply QH (by rw [hc.len,hl])
  intro i hi;rw [hc.len] at hi;exact (A.u cs hc i (by omega) (hm i (by omega))).symm
theorem RingOk.no {r:Rl} (H:RO r) {R:List (List UInt8)} (h:RingOk r R) (cs:List Int):¬ JP r cs:=fun hc=>by
 have h3:=h.three;have hidx:∀ i,i<R.length→∃ j,j<cs.length∧Qv r j=R.getD i default:=fun i hi=>by
  obtain ⟨j,j1,j2⟩:=qam (QJ H (h.adj i hi)).1;exact ⟨j,by rw [hc.len];exact j1,j2⟩
 have hne:∀ i j,i<R.length→Xx.adj r 2 (R.getD i default) (R.getD j default)→j<R.length→∀ a b,a<cs.length→b<cs.length→Qv r a=R.getD i default→Qv r b=R.getD j default→cs.getD a default≠cs.getD b default:=fun i j hi ha hj a b h1 h2 e1 e2=>hc.ne a b h1 h2 (by rw [e1,e2];exact ha);obtain ⟨a0,a1,a2⟩:=hidx 0 (by omega);have key:∀ i,i<R.length→∀ a,a<cs.length→Qv r a=R.getD i default→cs.getD a default=if i % 2=0 then cs.getD a0 default else 1 - cs.getD a0 default:=by
  intro i;induction i with
  | zero =>
   intro hi a h1 h2;have:a=a0:=WU H (by rw [← hc.len];exact h1) (by rw [← hc.len];exact a1) (h2.trans a2.symm);rw [this];rfl
  | succ i ih =>
   intro hi a h1 h2;obtain ⟨b,b1,b2⟩:=hidx i (by omega);have e:=ih (by omega) b b1 b2;have ha:=h.adj i (by omega);rw [Nat.mod_eq_of_lt hi] at ha;have hn:=hne i (i+1) (by omega) ha hi b a b1 h1 b2 h2;have c1:=hc.b a h1;have c2:=hc.b b b1;have c3:=hc.b a0 a1;by_cases p:i % 2=0
   ·rw [if_pos p] at e;rw [if_neg (by omega)];omega
   ·rw [if_neg p] at e;rw [if_pos (by omega)];omega
 obtain ⟨b,b1,b2⟩:=hidx (R.length - 1) (by omega);have e:=key (R.length - 1) (by omega) b b1 b2;have hodd:=h.odd;rw [if_pos (by omega)] at e;have ha:=h.adj (R.length - 1) (by omega);rw [show R.length - 1+1=R.length by omega,Nat.mod_self] at ha;exact hne (R.length - 1) 0 (by omega) ha (by omega) b a0 b1 a1 b2 a2 e
variable [Flag]
theorem vZ {h0:AH} (w:WfH h0) (v:RlV) (r:Rl) (HR:RlOk h0 v r) (H:RO r):Fn Tryz.prog Xh 102 [v.val] h0 (fun u h'=>(∃ vi cs,u = .tuple #[vi,.bool true]∧Hs h0 h' [.sl vi 3 1 eI cs]∧JP r cs∧∀ cs',JP r cs'→cs'=cs)∨(u = .tuple #[.slice none 0 0,.bool false]∧(∀ cs,¬ JP r cs)∧Hs h0 h' [])):=by
 have S:=Hs.start w;have h64:=H.l64;have h256:=H.l256;have hrg:=HR.rg;have hrt:=HR.rt;have hgl:=HR.len;unfold RlV.val;refine qZ rfl Tryz.func102 rfl rfl ?_;all_goals (repeat' (first|refine qg ?_|(refine qc 0 ?_;(refine bx S ?_;clear S;intro b h S);refine qX ?_)))
 obtain ⟨b1,hnm⟩:∃ x,x=b:=⟨_,rfl⟩;subst hnm;replace S:Hs h0 h (.blk b1 [v.vg.val,v.vt.val] 32 :: []):=S;have S:=S.Qb (e:=3) (z:=1) (enc:=eI);all_goals (repeat' (first|refine qg ?_|refine qi ?_|(refine qc 1 ?_;refine qK ?_)|(refine qc 2 ?_;refine qK ?_)))
 refine qH (σ:=Nat×Value) (fun (i,v4) h'=>Hs h0 h' [.sl v4 3 1 eI (List.replicate i (-1:Int)),.blk b1 [v.vg.val,v.vt.val] 32]∧i≤r.us.length) (fun (i,v4)=>r.us.length - i) (fun (i,v4)=>[(1,.pointer (some ⟨b1,0,none⟩)),(4,v4),(5,.int .i64 i)]) (0,.slice none 0 0) qo ?_ ?_
 ·exact ⟨S,zB0 _⟩
 clear S;rintro ⟨i,v4⟩ h ⟨S,g1⟩;have hrl:(List.replicate i (-1:Int)).length=i:=by simp
 all_goals (repeat' (first|refine qg ?_|refine qh rfl ?_|refine qj ?_|refine qw ?_|refine qi ?_|(refine qc 3 ?_;refine mv ?_;refine vl ?_;refine lB S rfl rfl ?_;refine Zx S ?_;(first|(refine cS ?_ ?_<;>intro hc))<;>(refine qf ?_))))
 ·have hil:i<r.us.length:=by omega
  all_goals (repeat' (first|(refine qc 5 ?_;refine mv ?_;(refine one 1 S ?_;clear S;intro u h S))))
  refine app (y0:=(-1:Int)) S rfl rfl ?_;clear S;intro v4 h S;(refine qK ?_);all_goals (repeat' (first|(refine qc 4 ?_;refine qO ?_)))
  refine ⟨(i+1,v4),?_,?_,qo⟩
  ·show r.us.length - (i+1)<r.us.length - i;omega
  ·refine ⟨?_,by (try dsimp only);omega⟩;(try dsimp only);rw [List.replicate_succ'];exact S.pick
 ·have hi:i=r.us.length:=by omega
  subst hi;have A0:KA r (List.replicate r.us.length (-1:Int)):=by
   have hg:∀ j,j<r.us.length→(List.replicate r.us.length (-1:Int)).getD j default = -1:=fun j hj=>by
    rw [zA2,List.getElem?_replicate,if_pos hj];rfl
   refine ⟨by simp,fun j hj=>?_,fun j hj h=>?_,fun cs hc j hj h=>?_⟩;all_goals simp only [List.length_replicate] at hj
   ·exact .inl (hg j hj)
   ·rw [hg j hj] at h;omega
   ·rw [hg j hj] at h;omega
  have C0:KC r (List.replicate r.us.length (-1:Int)):=fun a b ha hb _ h=>by
   simp only [List.length_replicate] at ha;rw [zA2,List.getElem?_replicate,if_pos ha] at h;exact absurd h (by decide)
  clear hrl;all_goals (repeat' (first|refine qi ?_|(refine qc 6 ?_;refine qK ?_)))
  refine qH (σ:=Nat×List Int) (fun (i,out) h'=>Hs h0 h' [.sl v4 3 1 eI out,.blk b1 [v.vg.val,v.vt.val] 32]∧i≤r.us.length∧KA r out∧KC r out∧(∀ j,j<i→0≤out.getD j default)) (fun (i,out)=>r.us.length - i) (fun (i,out)=>[(1,.pointer (some ⟨b1,0,none⟩)),(4,v4),(6,.int .i64 i)]) (0,List.replicate r.us.length (-1:Int)) qo ?_ ?_
  ·exact ⟨S,zB0 _,A0,C0,fun j hj=>absurd hj (zB7 _)⟩
  clear S A0 C0;rintro ⟨i,out⟩ h ⟨S,k1,A,C,M⟩;have hol:=A.len;all_goals (repeat' (first|refine qg ?_|refine qh rfl ?_|refine qj ?_|refine qw ?_|(refine qc 7 ?_;refine qE ?_;refine ZJ S rfl rfl ?_;(first|(refine cS ?_ ?_<;>intro hc))<;>(refine qf ?_))))
  ·have hil:i<r.us.length:=by omega
   (repeat (refine qg ?_));first|refine ZG (σ:=List Int) (fun out h'=>Hs h0 h' [.sl v4 3 1 eI out,.blk b1 [v.vg.val,v.vt.val] 32]∧KA r out∧KC r out∧(∀ j,j<i+1→0≤out.getD j default)) (fun out=>[(1,.pointer (some ⟨b1,0,none⟩)),(4,v4),(6,.int .i64 i)]) ?_ ?_
   ·all_goals (repeat' (first|refine qg ?_|refine qh rfl ?_|refine qj ?_|refine qw ?_|refine qi ?_|(refine qc 9 ?_;refine qE ?_;refine qy S rfl rfl ?_;refine qI S rfl rfl ?_;(first|(refine cS ?_ ?_<;>intro hc))<;>(refine qf ?_))))
    all_goals (try simp only [zA0] at *)
    ·exact ⟨out,⟨S,A,C,Ze M (by omega)⟩,(qo)⟩
    ·have K0:=KP.root H A C M (by omega) (by omega);generalize hO:out=out0 at K0 C M
     rw [hO] at S hol;all_goals (repeat' (first|refine qg ?_|refine qi ?_|(refine qc 10 ?_;refine qE ?_;refine qy S rfl rfl ?_;(first|(refine zY S rfl rfl ?_;clear S;intro h S));refine qf ?_)|(refine qc 11 ?_;refine qK ?_)))
     simp only [zA0] at S;refine qH (σ:=List Int×Bool) (fun (out,ch) h'=>Hs h0 h' [.sl v4 3 1 eI out,.blk b1 [v.vg.val,v.vt.val] 32]∧KP r i out0 out∧(ch=false→∀ t∈r.ts,qct r out t)) (fun (out,ch)=>2*YH out+(if ch then 1 else 0)) (fun (out,ch)=>[(1,.pointer (some ⟨b1,0,none⟩)),(4,v4),(6,.int .i64 i),(7,.bool ch)]) (out0.set i 0,true) qo ?_ ?_
     ·exact ⟨S,K0,fun q=>by cases q⟩
     clear S K0 A hol;rintro ⟨out,ch⟩ h ⟨S,K,Q⟩;have hol:=K.a.len;cases ch
     ·replace Q:=KC.of (Q rfl);all_goals (repeat' (first|refine qg ?_|refine qh rfl ?_|refine qw ?_|(refine qc 12 ?_;refine qK ?_)))
      refine ⟨out,⟨S,K.a,Q,fun j hj=>?_⟩,(qo)⟩;rcases zA7 j i with z|z
      ·exact K.old j (by omega) (K.m0 j z)
      ·obtain rfl:j=i:=by omega
       exact K.i0
     ·all_goals (repeat' (first|refine qg ?_|refine qh rfl ?_|refine qj ?_|refine qi ?_|(refine qc 12 ?_;refine qK ?_)|(refine qc 13 ?_;refine qK ?_)|(refine qc 14 ?_;refine qK ?_)))
      obtain ⟨s0,hs0⟩:∃ s0,YH out=s0:=⟨_,rfl⟩
      refine qH (σ:=Nat×List Int×Bool) (fun (k,out,ch) h'=>Hs h0 h' [.sl v4 3 1 eI out,.blk b1 [v.vg.val,v.vt.val] 32]∧k≤r.ts.length∧KP r i out0 out∧(ch=false→∀ k',k'<k→qct r out (r.ts.getD k' default))∧(ch=true→YH out<s0)∧YH out≤s0) (fun (k,out,ch)=>r.ts.length - k) (fun (k,out,ch)=>[(1,.pointer (some ⟨b1,0,none⟩)),(4,v4),(6,.int .i64 i),(7,.bool ch),(8,.int .i64 k)]) (0,out,false) qo ?_ ?_
      ·exact ⟨S,zB0 _,K,fun _ k' h=>absurd h (zB7 _),(fun q=>by cases q),Nat.le_of_eq hs0⟩
      clear S K Q hol;rintro ⟨k,out,ch⟩ h ⟨S,k1,K,p1,p2,p3⟩;have hol:=K.a.len;all_goals (repeat' (first|refine qg ?_|refine qh rfl ?_|refine qj ?_|refine qw ?_|(refine qc 15 ?_;refine mv ?_;refine vl ?_;refine lB S rfl rfl ?_;refine Zx S ?_;(first|(refine cS ?_ ?_<;>intro hc))<;>(refine qf ?_))))
      ·have hkl:k<r.ts.length:=by omega
       (repeat (refine qg ?_));first|refine ZG (σ:=List Int×Bool) (fun (out,ch) h'=>Hs h0 h' [.sl v4 3 1 eI out,.blk b1 [v.vg.val,v.vt.val] 32]∧KP r i out0 out∧(ch=false→∀ k',k'<k+1→qct r out (r.ts.getD k' default))∧(ch=true→YH out<s0)∧YH out≤s0) (fun (out,ch)=>[(1,.pointer (some ⟨b1,0,none⟩)),(4,v4),(6,.int .i64 i),(7,.bool ch),(8,.int .i64 k)]) ?_ ?_
       ·all_goals (repeat' (first|refine qg ?_|refine qh rfl ?_|refine qj ?_|refine qw ?_|refine qi ?_|(refine qc 17 ?_;refine vl ?_;refine lB S rfl rfl ?_;refine mv ?_;refine QN S ?_;refine fB S ?_;refine jQ S ?_;(first|(refine cS ?_ ?_<;>intro hc))<;>(refine qf ?_))))
        all_goals (try simp only [zA0] at *)
        ·exact ⟨(out,ch),⟨S,K,fun q=>Ze (p1 q) (fun e=>absurd e hc),p2,p3⟩,(qo)⟩
        ·have hk2:(r.ts.getD k default).k=2:=by omega
         obtain ⟨-,-,ga,gb⟩:=H.tt _ (qM hkl);all_goals (repeat' (first|(refine qJ 18 ?_;refine vl ?_;refine lB S rfl rfl ?_;refine vl ?_;refine lB S rfl rfl ?_;refine mv ?_;refine QN S ?_;refine fB S ?_;refine jQ S ?_)))
         simp only [zA0];(refine qx rfl rfl rfl rfl rfl ((jM S.wf v.vg.val v.gs (hrg.ext w S.ext) (by omega) (r.ts.getD k default).a).mono ?_);rintro _ h ⟨⟨a,a1,a2,rfl⟩|⟨a1,rfl⟩,x⟩)<;>(replace S:=S.qN x;clear x;refine qK ?_)
         all_goals rw [HR.us] at a1
         rotate_left
         ·exact absurd a1 ga
         all_goals (repeat' (first|refine qg ?_|(refine qJ 19 ?_;refine vl ?_;refine lB S rfl rfl ?_;refine vl ?_;refine lB S rfl rfl ?_;refine mv ?_;refine QN S ?_;refine fB S ?_;refine jQ S ?_)))
         simp only [zA0];(refine qx rfl rfl rfl rfl rfl ((jM S.wf v.vg.val v.gs (hrg.ext w S.ext) (by omega) (r.ts.getD k default).b).mono ?_);rintro _ h ⟨⟨b,b1',b2,rfl⟩|⟨b1',rfl⟩,x⟩)<;>(replace S:=S.qN x;clear x;refine qK ?_)
         all_goals rw [HR.us] at b1'
         rotate_left
         ·exact absurd b1' gb
         have na:Qv r a=(r.ts.getD k default).a:=(jo a1).2.1;have nb:Qv r b=(r.ts.getD k default).b:=(jo b1').2.1;have hadj:adj r 2 (Qv r a) (Qv r b):=⟨_,qM hkl,hk2,.inl ⟨na.symm,nb.symm⟩⟩
         all_goals (repeat' (refine qg ?_))
         (repeat (refine qg ?_));first|refine QD (σ:=List Int×Bool) (fun (out',ch') h'=>Hs h0 h' [.sl v4 3 1 eI out',.blk b1 [v.vg.val,v.vt.val] 32]∧KP r i out0 out'∧(ch'=false→ch=false∧out'=out∧¬ (0≤out.getD a default∧out.getD b default<0))∧(ch'=true→YH out'<s0)∧YH out'≤s0) (fun (out',ch')=>[(1,.pointer (some ⟨b1,0,none⟩)),(4,v4),(6,.int .i64 i),(7,.bool ch'),(8,.int .i64 k),(9,.int .i64 a),(10,.int .i64 b)]) ?_ ?_
         ·all_goals (repeat' (first|refine qg ?_|refine qh rfl ?_|refine qj ?_|(refine qc 20 ?_;refine qE ?_;refine qy S rfl rfl ?_;refine qI S rfl rfl ?_;(first|(refine cS ?_ ?_<;>intro hc))<;>(refine mv ?_;(first|refine off ?_|refine mv ?_);(first|refine off ?_|refine mv ?_);(first|refine off ?_|(refine qy S rfl rfl ?_));(first|refine off ?_|(refine qI S rfl rfl ?_));(first|refine off ?_|(first|(refine cS ?_ ?_<;>intro hc)))<;>(refine zU ?_)))))
          all_goals (try simp only [zA0] at *)
          ·have hra : -1≤out.getD (a:Int).toNat default∧out.getD (a:Int).toNat default≤1:=by
            have:=K.a.rng a (by omega);show -1≤out.getD a default∧out.getD a default≤1
            omega
           have hra2:out.getD a default≤1:=hra.2;have hs:=K.step (by omega) (by omega) hadj (by omega) (by omega);have hng:=Gt (out:=out) (i:=b) (x:=1 - out.getD a default) (by omega) (by omega) (by omega);all_goals (repeat' (first|(refine qc 21 ?_;refine qE ?_;refine qE ?_;refine qy S rfl rfl ?_;refine qI S rfl rfl ?_;refine sb ?_;refine qy S rfl rfl ?_;(first|(refine zY S rfl rfl ?_;clear S;intro h S));refine qf ?_)|(refine qc 22 ?_;refine qK ?_)))
           simp only [zA0] at S;exact ⟨(out.set b (1 - out.getD a default),true),⟨S,hs,(fun q=>by cases q),(fun _=>by (try dsimp only);omega),by (try dsimp only);omega⟩,(qo)⟩
          ·exact ⟨(out,ch),⟨S,K,fun q=>⟨q,rfl,by omega⟩,p2,p3⟩,(qo)⟩
          ·exact ⟨(out,ch),⟨S,K,fun q=>⟨q,rfl,by omega⟩,p2,p3⟩,(qo)⟩
         clear S;rintro ⟨out1,ch1⟩ h ⟨S,K1,q1,q2,q3⟩;have hol1:=K1.a.len;(repeat (refine qg ?_));first|refine QD (σ:=List Int×Bool) (fun (out',ch') h'=>Hs h0 h' [.sl v4 3 1 eI out',.blk b1 [v.vg.val,v.vt.val] 32]∧KP r i out0 out'∧(ch'=false→ch=false∧out'=out∧¬ (0≤out.getD a default∧out.getD b default<0)∧¬ (0≤out.getD b default∧out.getD a default<0))∧(ch'=true→YH out'<s0)∧YH out'≤s0) (fun (out',ch')=>[(1,.pointer (some ⟨b1,0,none⟩)),(4,v4),(6,.int .i64 i),(7,.bool ch'),(8,.int .i64 k),(9,.int .i64 a),(10,.int .i64 b)]) ?_ ?_
         ·all_goals (repeat' (first|refine qg ?_|refine qh rfl ?_|refine qj ?_|(refine qc 23 ?_;refine qE ?_;refine qy S rfl rfl ?_;refine qI S rfl rfl ?_;(first|(refine cS ?_ ?_<;>intro hc))<;>(refine mv ?_;(first|refine off ?_|refine mv ?_);(first|refine off ?_|refine mv ?_);(first|refine off ?_|(refine qy S rfl rfl ?_));(first|refine off ?_|(refine qI S rfl rfl ?_));(first|refine off ?_|(first|(refine cS ?_ ?_<;>intro hc)))<;>(refine zU ?_)))))
          all_goals (try simp only [zA0] at *)
          ·have hra : -1≤out1.getD (b:Int).toNat default∧out1.getD (b:Int).toNat default≤1:=by
            have:=K1.a.rng b (by omega);show -1≤out1.getD b default∧out1.getD b default≤1
            omega
           have hra2:out1.getD b default≤1:=hra.2;have hs:=K1.step (by omega) (by omega) hadj.symm (by omega) (by omega);have hng:=Gt (out:=out1) (i:=a) (x:=1 - out1.getD b default) (by omega) (by omega) (by omega);all_goals (repeat' (first|(refine qc 24 ?_;refine qE ?_;refine qE ?_;refine qy S rfl rfl ?_;refine qI S rfl rfl ?_;refine sb ?_;refine qy S rfl rfl ?_;(first|(refine zY S rfl rfl ?_;clear S;intro h S));refine qf ?_)|(refine qc 25 ?_;refine qK ?_)))
           simp only [zA0] at S;exact ⟨(out1.set a (1 - out1.getD b default),true),⟨S,hs,(fun q=>by cases q),(fun _=>by (try dsimp only);omega),by (try dsimp only);omega⟩,(qo)⟩
          ·exact ⟨(out1,ch1),⟨S,K1,fun q=>by
            obtain ⟨e1,e2,e3⟩:=q1 q;refine ⟨e1,e2,e3,?_⟩;rw [← e2];omega,q2,q3⟩,(qo)⟩
          ·exact ⟨(out1,ch1),⟨S,K1,fun q=>by
            obtain ⟨e1,e2,e3⟩:=q1 q;refine ⟨e1,e2,e3,?_⟩;rw [← e2];omega,q2,q3⟩,(qo)⟩
         clear S K1 q1 q2 q3 hol1;rintro ⟨out1,ch1⟩ h ⟨S,K1,q1,q2,q3⟩;have hol1:=K1.a.len;have fin:(0≤out1.getD a default→out1.getD a default≠out1.getD b default)→ch1=false→∀ k',k'<k+1→qct r out1 (r.ts.getD k' default):=fun hd q=>by
          obtain ⟨e1,e2,e3,e4⟩:=q1 q;refine Ze (fun k' hk'=>by rw [e2];exact p1 e1 k' hk') ?_;rw [← e2] at e3 e4;intro _ a' b' ha' hb' ea eb;have ha2:a'=a:=WU H (by omega) (by omega) (ea.trans na.symm);have hb2:b'=b:=WU H (by omega) (by omega) (eb.trans nb.symm);rw [ha2,hb2];exact ⟨by omega,hd⟩
         all_goals (repeat' (first|refine qg ?_|refine qh rfl ?_|refine qj ?_|(refine qJ 26 ?_;refine qE ?_;refine qy S rfl rfl ?_;refine qI S rfl rfl ?_;(first|(refine cS ?_ ?_<;>intro hc))<;>(refine mv ?_;(first|refine off ?_|refine mv ?_);(first|refine off ?_|refine mv ?_);(first|refine off ?_|(refine qy S rfl rfl ?_));(first|refine off ?_|(refine qI S rfl rfl ?_));(first|refine off ?_|refine mv ?_);(first|refine off ?_|refine mv ?_);(first|refine off ?_|(refine qy S rfl rfl ?_));(first|refine off ?_|(refine qI S rfl rfl ?_));(first|refine off ?_|(first|(refine cS ?_ ?_<;>intro hc)))<;>(refine zU ?_)))))
         all_goals (try simp only [zA0] at *)
         ·all_goals (repeat' (first|(refine qc 27 ?_;refine qX ?_)))
          refine qC ⟨_,rfl,?_⟩;exact .inr ⟨rfl,K1.a.no (by omega) (by omega) hadj (by omega) (by omega),S.drop⟩
         ·exact ⟨(out1,ch1),⟨S,K1,fin (fun _=>by omega),q2,q3⟩,(qo)⟩
         ·exact ⟨(out1,ch1),⟨S,K1,fin (fun z=>by omega),q2,q3⟩,(qo)⟩
       ·clear S K p1 p2 p3 hol;rintro ⟨out,ch⟩ h ⟨S,K,p1,p2,p3⟩;all_goals (repeat' (first|(refine qc 16 ?_;refine qO ?_)))
        refine ⟨(k+1,out,ch),?_,?_,qo⟩
        ·show r.ts.length - (k+1)<r.ts.length - k;omega
        ·exact ⟨S,by (try dsimp only);omega,K,p1,p2,p3⟩
      ·have hk:k=r.ts.length:=by omega
       subst hk;refine ⟨(out,ch),?_,?_,qo⟩
       ·show 2*YH out+(if ch then 1 else 0)<2*YH _+(if true then 1 else 0)
        rw [hs0];cases ch
        ·simp;omega
        ·have:=p2 rfl;simp;omega
       ·refine ⟨S,K,fun q t ht=>?_⟩;obtain ⟨j,j1,j2⟩:=qL.1 ht;rw [← j2];exact p1 q j j1
   ·clear S A C M hol;rintro out h ⟨S,A,C,M⟩;all_goals (repeat' (first|(refine qc 8 ?_;refine qO ?_)))
    refine ⟨(i+1,out),?_,?_,qo⟩
    ·show r.us.length - (i+1)<r.us.length - i;omega
    ·exact ⟨S,by (try dsimp only);omega,A,C,M⟩
  ·have hi:i=r.us.length:=by omega
   subst hi;obtain ⟨F1,F2⟩:=A.fin C (fun j hj=>M j (by omega));all_goals (repeat' (first|(refine qc 28 ?_;refine mv ?_;refine qX ?_)))
   refine qC ⟨_,rfl,?_⟩;exact .inl ⟨v4,out,rfl,S.only .here,F1,F2⟩
end Go.Proofs.Xx
