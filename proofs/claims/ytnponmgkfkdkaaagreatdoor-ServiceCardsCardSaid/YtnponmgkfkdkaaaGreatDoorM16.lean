/-
  The reference's seats beside and across.
-/
import Derived.Test.YtnponmgkfkdkaaaGreatDoorM8
import Derived.Test.YtnponmgkfkdkaaaGreatDoorM10
import Derived.Test.YtnponmgkfkdkaaaGreatDoorM11
import Derived.Test.YtnponmgkfkdkaaaGreatDoorM15
set_option linter.unusedSimpArgs false
set_option linter.unusedVariables false
set_option maxRecDepth 100000
set_option linter.unusedSectionVars false
set_option maxHeartbeats 4000000
namespace Go.Proofs.Xx
open Go Go.Proofs
variable {Xh:Extern} [KX Xh]
def nx (a k:Int):Int:=if k+1=a then 0 else k+1
def spX (a b k:Int):Int:=if k<a then k else if 0<b∧k=a then a else if k - a - (if 0<b then 1 else 0)<a then a - 1 - (k - a - (if 0<b then 1 else 0)) else -1
def spY (a b k:Int):Int:=if k<a then 0 else if 0<b∧k=a then 1 else if k - a - (if 0<b then 1 else 0)<a then 2 else 1
structure TabS (t:Tab):Prop where
 b:qad t
 pos:0<qP t
theorem TabS.of (t:Tab) (h:0<qP t):TabS t:=by
 refine ⟨?_,h⟩;unfold qP zZ QV ZH ZB Zt at h;unfold qad;repeat' split at h
 all_goals omega
theorem TabS.s1 {t:Tab} (h:TabS t) (q:t.shape=1):1≤t.A∧t.A≤24∧t.B=0∧qP t=t.A:=by
 have:=h.pos;unfold qP zZ QV at this ⊢;rw [if_pos q] at this ⊢;split at this<;>simp_all
theorem TabS.s2 {t:Tab} (h:TabS t) (q:t.shape=2):1≤t.A∧t.A≤11∧0≤t.B∧t.B≤2∧qP t=2*t.A+t.B:=by
 have:=h.pos;unfold qP zZ ZH at this ⊢;rw [if_neg (by omega),if_pos q] at this ⊢;split at this<;>simp_all
theorem TabS.s3 {t:Tab} (h:TabS t) (q:t.shape=3):1≤t.A∧t.A≤8∧1≤t.B∧t.B≤8∧qP t=t.A+2*t.B:=by
 have:=h.pos;unfold qP zZ ZB at this ⊢;rw [if_neg (by omega),if_neg (by omega),if_pos q] at this ⊢;split at this<;>simp_all
theorem TabS.s4 {t:Tab} (h:TabS t) (q:t.shape=4):1≤t.A∧t.A≤24∧0≤t.B∧t.B≤t.A∧qP t=t.A:=by
 have:=h.pos;unfold qP zZ Zt at this ⊢;rw [if_neg (by omega),if_neg (by omega),if_neg (by omega),if_pos q] at this ⊢;split at this<;>simp_all
theorem TabS.shape {t:Tab} (h:TabS t):t.shape=1∨t.shape=2∨t.shape=3∨t.shape=4:=by have:=h.b;unfold qad at this;omega
theorem Px {a b p q:Int} (h1:1≤a∧a≤11∧0≤b∧b≤2) (hp:0≤p∧p<2*a+b) (hq:0≤q∧q<2*a+b) (hne:p≠q) :
 (¬ (spX a b p - spX a b q≠1∧spX a b q - spX a b p≠1)∧((spY a b p=spY a b q∧spY a b p≠1)∨(spY a b p≠spY a b q∧(spY a b p=1∨spY a b q=1))))↔wY a b (min p q) (max p q):=by
 unfold spX spY wY;rcases Int.lt_trichotomy p q with h|h|h
 ·rw [Int.min_eq_left (by omega),Int.max_eq_right (by omega)];repeat' split
  all_goals omega
 ·exact absurd h hne
 ·rw [Int.min_eq_right (by omega),Int.max_eq_left (by omega)];repeat' split
  all_goals omega
theorem qbA {h0:AH} (w:WfH h0) (t:Tab) (k:Int) (hk:0≤k∧k≤1000):Fn Tryz.prog Xh 238 [QG t,.int .i64 k] h0 (fun v h'=>v = .int .i64 (nx t.A k)∧Hs h0 h' []):=by
 have S:=Hs.start w;refine qA (by first|exact KX.no _ _ _ (by decide) rfl) Tryz.func238 rfl rfl ?_;all_goals (repeat' (first|refine qg ?_|refine qh rfl ?_|refine qi ?_|(refine qc 0 ?_;(refine bx S ?_;clear S;intro b h S);refine mv ?_;refine qf ?_)|(refine qc 1 ?_;refine mv ?_;refine ad ?_;refine vl ?_;refine lB S rfl rfl ?_;(first|(refine cS ?_ ?_<;>intro hc))<;>(refine qf ?_))|(refine qc 2 ?_;refine mv ?_;refine qf ?_)|(refine qc 3 ?_;refine mv ?_;refine ad ?_;refine mv ?_;refine qf ?_)))
 all_goals (refine qj ⟨_,rfl,?_⟩)
 ·exact ⟨by unfold nx;rw [if_pos hc];rfl,S.drop⟩
 ·exact ⟨by unfold nx;rw [if_neg hc];rfl,S.drop⟩
theorem wG {h0:AH} (w:WfH h0) (t:Tab) (k:Int) (hb:qad t) (hk:0≤k∧k≤1000):Fn Tryz.prog Xh 239 [QG t,.int .i64 k] h0 (fun v h'=>v = .agg #[.int .i64 (spX t.A t.B k),.int .i64 (spY t.A t.B k)]∧Hs h0 h' []):=by
 have S:=Hs.start w;obtain ⟨-,-,ha1,ha2,hb1,hb2⟩:=hb;refine qA (by first|exact KX.no _ _ _ (by decide) rfl) Tryz.func239 rfl rfl ?_;all_goals (repeat' (first|refine qg ?_|refine qh rfl ?_|refine qi ?_|(refine qc 0 ?_;(refine bx S ?_;clear S;intro b h S);(refine al S ?_;clear S;intro b h S);refine qf ?_)|(refine qc 1 ?_;refine mv ?_;refine vl ?_;refine lB S rfl rfl ?_;(first|(refine cS ?_ ?_<;>intro hc))<;>(refine qf ?_))|(refine qc 2 ?_;refine mv ?_;refine vl ?_;(first|(refine sB S rfl rfl ?_;clear S;intro h S));refine qf ?_)|(refine qc 3 ?_;refine mv ?_;refine vl ?_;refine lB S rfl rfl ?_;refine sb ?_;refine mv ?_;refine qf ?_)|(refine qc 4 ?_;refine vl ?_;refine lB S rfl rfl ?_;(first|(refine cS ?_ ?_<;>intro hc))<;>(refine qf ?_))|(refine qc 5 ?_;refine mv ?_;(first|(refine cS ?_ ?_<;>intro hc))<;>(refine qf ?_))|(refine qc 6 ?_;refine vl ?_;refine lB S rfl rfl ?_;refine vl ?_;(first|(refine sB S rfl rfl ?_;clear S;intro h S));refine qf ?_)|(refine qc 7 ?_;refine mv ?_;refine sb ?_;refine mv ?_;refine qf ?_)|(refine qc 8 ?_;refine mv ?_;refine vl ?_;refine lB S rfl rfl ?_;(first|(refine cS ?_ ?_<;>intro hc))<;>(refine qf ?_))|(refine qc 9 ?_;refine vl ?_;refine lB S rfl rfl ?_;refine sb ?_;refine mv ?_;refine sb ?_;refine vl ?_;(first|(refine sB S rfl rfl ?_;clear S;intro h S));refine qf ?_)|(refine qc 10 ?_;refine vl ?_;(first|(refine sB S rfl rfl ?_;clear S;intro h S));refine qf ?_)))
 all_goals (refine qj ⟨_,jQ S rfl (by first|exact .here) (by exact rfl) (by exact rfl),?_⟩)
 all_goals (refine ⟨?_,S.drop⟩;unfold spX spY)
 all_goals (repeat' split)
 all_goals (first|(exfalso;omega)|rfl|(simp only [Int.sub_zero];rfl))
theorem qeD {h0:AH} (w:WfH h0) (t:Tab) (k:Int) (hb:qad t) (hk:0<k∧k<t.A):Fn Tryz.prog Xh 240 [QG t,.int .i64 k] h0 (fun v h'=>qI v (t.B≠0∧t.B ∣ k)∧Hs h0 h' []):=by
 have S:=Hs.start w;obtain ⟨-,-,ha1,ha2,hb1,hb2⟩:=hb;refine qA (by first|exact KX.no _ _ _ (by decide) rfl) Tryz.func240 rfl rfl ?_;all_goals (repeat' (first|refine qg ?_|refine qh rfl ?_|refine qi ?_|refine ql ?_|(refine qc 0 ?_;(refine bx S ?_;clear S;intro b h S);refine mv ?_;refine qf ?_)|(refine qc 1 ?_;refine vl ?_;refine lB S rfl rfl ?_;(first|(refine cS ?_ ?_<;>intro hc))<;>(refine qf ?_))|(refine qc 2 ?_;refine mv ?_;refine qf ?_)|(refine qc 3 ?_;refine vl ?_;refine lB S rfl rfl ?_;refine mv ?_;refine qf ?_)))
 ·refine qj ⟨_,rfl,?_⟩;exact ⟨.inr ⟨rfl,fun q=>q.1 hc⟩,S.drop⟩
 ·refine qB (σ:=Int) (fun at_ h'=>Hs h0 h' [.blk b (eT t) 93]∧0<at_∧at_≤200∧t.B ∣ at_∧∀ m,0<m→m<at_→t.B ∣ m→m≠k) (fun at_=>(t.A - at_).toNat) (fun at_=>[(1,.int .i64 k),(2,.pointer (some ⟨b,0,none⟩)),(5,.int .i64 at_)]) t.B qw ?_ ?_
  ·refine ⟨S,by omega,by omega,Int.dvd_refl _,fun m h1 h2 h3=>?_⟩;have:=Int.le_of_dvd h1 h3;omega
  clear S;rintro at_ h ⟨S,h1,h2,h3,h4⟩;all_goals (repeat' (first|refine qg ?_|refine qh rfl ?_|refine qi ?_|refine qy ?_|refine ql ?_|(refine qc 4 ?_;refine mv ?_;refine vl ?_;refine lB S rfl rfl ?_;(first|(refine cS ?_ ?_<;>intro hc))<;>(refine qf ?_))|(refine qc 5 ?_;refine mv ?_;refine vl ?_;refine lB S rfl rfl ?_;refine ad ?_;refine mv ?_;refine qf ?_)|(refine qc 6 ?_;refine mv ?_;refine mv ?_;(first|(refine cS ?_ ?_<;>intro hc))<;>(refine qf ?_))|(refine qc 7 ?_;refine mv ?_;refine qf ?_)|(refine qc 8 ?_;refine mv ?_;refine qf ?_)))
  ·refine qj ⟨_,rfl,?_⟩;exact ⟨.inl ⟨rfl,by omega,by rw [← hc];exact h3⟩,S.drop⟩
  ·refine ⟨at_+t.B,?_,?_,qw⟩
   ·show (t.A - (at_+t.B)).toNat<(t.A - at_).toNat;omega
   ·refine ⟨S,by omega,by omega,Int.dvd_add h3 (Int.dvd_refl _),fun m g1 g2 g3=>?_⟩;rcases Int.lt_trichotomy m at_ with q|q|q
    ·exact h4 m g1 q g3
    ·rw [q];assumption
    ·have:=Int.le_of_dvd (show 0<m - at_ by omega) (Int.dvd_sub g3 h3);omega
  ·refine qj ⟨_,rfl,?_⟩;refine ⟨.inr ⟨rfl,fun q=>?_⟩,S.drop⟩;exact h4 k hk.1 (by omega) q.2 rfl
theorem Y8 (t:Tab) (p q:Int):zB t p q↔zB t q p:=by
 unfold zB;rw [Int.min_comm,Int.max_comm];exact ⟨fun h=>⟨fun e=>h.1 e.symm,h.2⟩,fun h=>⟨fun e=>h.1 e.symm,h.2⟩⟩
section
variable {t:Tab} {p q:Int}
theorem qcT (hs:TabS t) (h:t.shape=1) (hp:0≤p∧p<qP t) (hq:0≤q∧q<qP t) (hne:p≠q):zB t p q↔nx t.A p=q∨nx t.A q=p:=by
 have k:=hs.s1 h;have e:zB t p q↔xI t.A t.B (min p q) (max p q):=by
  unfold zB;constructor
  ·rintro ⟨-,⟨-,g⟩|⟨g,-⟩|⟨g,-⟩|⟨g,-⟩⟩
   ·exact g
   all_goals omega
  ·exact fun g=>⟨hne,.inl ⟨h,g⟩⟩
 rw [e];unfold xI nx;rcases Int.lt_trichotomy p q with g|g|g
 ·rw [Int.min_eq_left (by omega),Int.max_eq_right (by omega)];repeat' split
  all_goals omega
 ·exact absurd g hne
 ·rw [Int.min_eq_right (by omega),Int.max_eq_left (by omega)];repeat' split
  all_goals omega
theorem qcS (h:t.shape=2) (hne:p≠q):zB t p q↔wY t.A t.B (min p q) (max p q):=by
 unfold zB;constructor
 ·rintro ⟨-,⟨g,-⟩|⟨-,g⟩|⟨g,-⟩|⟨g,-⟩⟩
  ·omega
  ·exact g
  all_goals omega
 ·exact fun g=>⟨hne,.inr (.inl ⟨h,g⟩)⟩
theorem VM (h:t.shape=3) (hne:p≠q):zB t p q↔p+1=q∨q+1=p:=by
 unfold zB qbu;constructor
 ·rintro ⟨-,⟨g,-⟩|⟨g,-⟩|⟨-,g⟩|⟨g,-⟩⟩<;>omega
 ·exact fun g=>⟨hne,.inr (.inr (.inl ⟨h,by omega⟩))⟩
theorem kS (h:t.shape=4) (hlt:p<q):zB t p q↔p+1=q∧¬ (t.B≠0∧t.B ∣ q):=by
 unfold zB rowB;rw [Int.min_eq_left (by omega),Int.max_eq_right (by omega)];constructor
 ·rintro ⟨-,⟨g,-⟩|⟨g,-⟩|⟨g,-⟩|⟨-,g1,g2⟩⟩
  ·omega
  ·omega
  ·omega
  ·exact ⟨by omega,fun k=>g2.elim k.1 fun g=>g (Int.emod_eq_zero_of_dvd k.2)⟩
 ·refine fun g=>⟨by omega,.inr (.inr (.inr ⟨h,by omega,?_⟩))⟩
  by_cases k:t.B=0
  ·exact .inl k
  ·exact .inr fun k2=>g.2 ⟨k,Int.dvd_of_emod_eq_zero k2⟩
end
theorem Y9 {h0:AH} (w:WfH h0) (t:Tab) (p q:Int) (hs:TabS t) (hp:0≤p∧p<qP t) (hq:0≤q∧q<qP t)
 (hrec:∀ h,WfH h→q<p→Fn Tryz.prog Xh 164 [QG t,.int .i64 q,.int .i64 p] h (fun v h'=>qI v (zB t q p)∧Hs h h' [])) :
 Fn Tryz.prog Xh 164 [QG t,.int .i64 p,.int .i64 q] h0 (fun v h'=>qI v (zB t p q)∧Hs h0 h' []):=by
 have S:=Hs.start w;have hsz:=zO t;have hB:=hs.b;have hb:=hs.b;obtain ⟨-,-,ha1,ha2,hb1,hb2⟩:=hb;have hsp:=hs.shape;refine qA (by first|exact KX.no _ _ _ (by decide) rfl) Tryz.func164 rfl rfl ?_;all_goals (repeat' (first|refine qg ?_|refine qh rfl ?_|refine qi ?_|refine ql ?_|(refine qc 0 ?_;(refine bx S ?_;clear S;intro b h S);refine mv ?_;refine qf ?_)|(refine qc 1 ?_;refine mv ?_;refine mv ?_;(first|(refine cS ?_ ?_<;>intro hc))<;>(refine qf ?_))|(refine qc 2 ?_;refine mv ?_;refine qf ?_)|(refine qc 3 ?_;refine vl ?_;refine lB S rfl rfl ?_;refine qf ?_)|(refine qc 4 ?_;(first|(refine cS ?_ ?_<;>intro hc))<;>(refine mv ?_;refine qf ?_))|(refine qc 5 ?_;refine lB S rfl rfl ?_;refine mv ?_)|(refine qc 6 ?_;(first|(refine cS ?_ ?_<;>intro hc))<;>(refine mv ?_;refine qf ?_))|(refine qc 11 ?_;(first|(refine cS ?_ ?_<;>intro hc))<;>(refine mv ?_;refine qf ?_))|(refine qc 12 ?_;refine mv ?_;refine ad ?_;refine mv ?_;(first|(refine cS ?_ ?_<;>intro hc))<;>(refine mv ?_;(first|refine off ?_|refine mv ?_);(first|refine off ?_|(refine ad ?_));(first|refine off ?_|refine mv ?_);(first|refine off ?_|(first|(refine cS ?_ ?_<;>intro hc)))<;>(refine vl ?_;refine mv ?_;refine qf ?_)))|(refine qc 13 ?_;refine mv ?_;refine mv ?_;(first|(refine cS ?_ ?_<;>intro hc))<;>(refine qf ?_))|(refine qc 14 ?_;refine lB S rfl rfl ?_;refine mv ?_;refine mv ?_)|(refine qc 15 ?_;refine mv ?_;refine ad ?_;refine mv ?_;(first|(refine cS ?_ ?_<;>intro hc))<;>(refine mv ?_;(first|refine off ?_|(refine lB S rfl rfl ?_));(first|refine off ?_|refine mv ?_);(first|(refine off ?_;refine off ?_;refine vl ?_;refine mv ?_;refine qf ?_)|skip)))))
 ·refine qj ⟨_,rfl,?_⟩;exact ⟨.inr ⟨rfl,fun g=>g.1 hc⟩,S.drop⟩
 ·have hsh:=hc;have hne:p≠q:=by assumption
  have e:=qcT hs hsh hp hq hne;(refine qm rfl rfl rfl rfl rfl ((qbA S.wf t p (by omega)).mono ?_);rintro _ h ⟨rfl,x⟩)<;>(replace S:=S.qx x;clear x;refine mv ?_;(first|(refine cS ?_ ?_<;>intro hc))<;>(refine mv ?_;(first|refine off ?_|(refine lB S rfl rfl ?_));(first|refine off ?_|refine mv ?_);(first|(refine off ?_;refine off ?_;(refine off ?_)<;>(refine vl ?_;refine mv ?_;refine qf ?_))|skip)))
  ·all_goals (repeat' (fail))
   refine qj ⟨_,rfl,?_⟩;exact ⟨.inl ⟨rfl,e.2 (.inl (by assumption))⟩,S.drop⟩
  ·(refine qm rfl rfl rfl rfl rfl ((qbA S.wf t q (by omega)).mono ?_);rintro _ h ⟨rfl,x⟩)<;>(replace S:=S.qx x;clear x;refine mv ?_;(first|(first|(refine cS ?_ ?_<;>intro hc)))<;>(refine vl ?_;refine mv ?_;refine qf ?_))
   all_goals (repeat' (fail))
   all_goals (refine qj ⟨_,rfl,?_⟩)
   ·exact ⟨.inl ⟨rfl,e.2 (.inr (by assumption))⟩,S.drop⟩
   ·exact ⟨.inr ⟨rfl,fun g=>by have:=e.1 g;omega⟩,S.drop⟩
 ·have hsh:=hc;have hne:p≠q:=by assumption
  have k:=hs.s2 hsh;have e:=qcS hsh hne;have lb:=Px (a:=t.A) (b:=t.B) (p:=p) (q:=q) (by omega) (by omega) (by omega) hne;have hP:=fun g=>e.2 (lb.1 g);have hN:=fun (g:¬ _) (g2:zB t p q)=>g (lb.2 (e.1 g2));have bx1 : -1≤spX t.A t.B p∧spX t.A t.B p≤1000:=by unfold spX;repeat' split<;>omega
  have bx2 : -1≤spX t.A t.B q∧spX t.A t.B q≤1000:=by unfold spX;repeat' split<;>omega
  clear lb e;(repeat (refine qg ?_));refine qeO (id:=7) (j1:=6) (j2:=7) (rd:=[(3,(0,1)),(6,(0,2)),(7,(0,2))]) (fun b1 b2=>[some (b),some b1,some b2]) S (HintOk.direct) (HintOk.direct) ?_;clear S;intro b1 b2 h S;refine qp ?_;(first|(refine lB S rfl rfl ?_<;>refine qf ⟨⟨by (first|exact True.intro),rfl⟩,?_⟩));refine qp ?_;(first|(refine mv ?_<;>refine qf ⟨⟨by (first|exact True.intro),rfl⟩,?_⟩));((refine qp ?_;first|refine qm rfl rfl rfl rfl rfl ((wG S.wf t p hB (by omega)).mono ?_));rintro _ h ⟨rfl,x⟩)<;>((refine qf ⟨⟨True.intro,?_⟩,?_⟩;(focus ((show keepsX _ _ _ _ _;simp only [keepsX];(repeat' (first|exact True.intro|refine And.intro ?_ ?_));all_goals (intro hw;first|exact x.ext.old _ S.bB)))));replace S:=S.qx x;clear x;refine qp ?_;(first|(refine lB S rfl rfl ?_<;>refine qf ⟨⟨by (first|exact Or.inr rfl),rfl⟩,?_⟩));refine qp ?_;(first|(refine mv ?_<;>refine qf ⟨⟨by (first|exact True.intro),rfl⟩,?_⟩)))
  ((refine qp ?_;first|refine qm rfl rfl rfl rfl rfl ((wG S.wf t q hB (by omega)).mono ?_));rintro _ h ⟨rfl,x⟩)<;>((refine qf ⟨⟨True.intro,?_⟩,?_⟩;(focus ((show keepsX _ _ _ _ _;simp only [keepsX];(repeat' (first|exact True.intro|refine And.intro ?_ ?_));all_goals (intro hw;first|exact absurd hw (by decide +kernel)|exact x.ext.old _ S.bB)))));replace S:=S.qx x;clear x;refine fl S rfl rfl S.gB ?_;refine fl S rfl rfl S.gB ?_;refine qp ?_;(first|((refine sB S rfl rfl ?_;have S0:=S;clear S;intro h S);refine qf ⟨⟨True.intro,?_⟩,?_⟩;(focus ((show keepsX _ _ _ _ _;simp only [keepsX];(repeat' (first|exact True.intro|refine And.intro ?_ ?_));all_goals (intro hw;first|exact absurd hw (by decide +kernel)))));clear S0));refine qp ?_;(first|((refine sB S rfl rfl ?_;have S0:=S;clear S;intro h S);refine qf ⟨⟨True.intro,?_⟩,?_⟩;(focus ((show keepsX _ _ _ _ _;simp only [keepsX];(repeat' (first|exact True.intro|refine And.intro ?_ ?_));all_goals (intro hw;first|exact absurd hw (by decide +kernel)))));clear S0));refine Zm ?_)
  generalize hx1:spX t.A t.B p=x1 at *
  generalize hx2:spX t.A t.B q=x2 at *
  generalize hy1:spY t.A t.B p=y1 at *
  generalize hy2:spY t.A t.B q=y2 at *
  all_goals (repeat' (first|refine qg ?_|refine qh rfl ?_|refine qi ?_|(refine qc 8 ?_;refine vl ?_;refine lB S rfl rfl ?_;refine vl ?_;refine lB S rfl rfl ?_;refine sb ?_;(first|(refine cS ?_ ?_<;>intro hc))<;>(refine mv ?_;(first|refine off ?_|(refine vl ?_));(first|refine off ?_|(refine lB S rfl rfl ?_));(first|refine off ?_|(refine vl ?_));(first|refine off ?_|(refine lB S rfl rfl ?_));(first|refine off ?_|(refine sb ?_));(first|refine off ?_|(first|(refine cS ?_ ?_<;>intro hc)))<;>(refine vl ?_;refine qf ?_)))|(refine qc 9 ?_;refine mv ?_;refine qf ?_)|(refine qc 10 ?_;refine vl ?_;refine lB S rfl rfl ?_;refine vl ?_;refine lB S rfl rfl ?_;(first|(refine cS ?_ ?_<;>intro hc))<;>(refine mv ?_;(first|refine off ?_|(refine vl ?_));(first|refine off ?_|(refine lB S rfl rfl ?_));(first|refine off ?_|(first|(refine cS ?_ ?_<;>intro hc)))<;>(refine vl ?_;refine mv ?_;(first|refine off ?_|(refine vl ?_));(first|refine off ?_|(refine lB S rfl rfl ?_));(first|refine off ?_|(refine vl ?_));(first|refine off ?_|(refine lB S rfl rfl ?_));(first|refine off ?_|(first|refine cT ?_|refine cF ?_))<;>((first|refine off ?_|refine mv ?_);(first|refine off ?_|(refine vl ?_));(first|refine off ?_|(refine lB S rfl rfl ?_));(first|refine off ?_|(first|(refine cS ?_ ?_<;>intro hc)))<;>((first|refine off ?_|refine mv ?_);(first|refine off ?_|(refine vl ?_));(first|refine off ?_|(refine lB S rfl rfl ?_));(first|refine off ?_|(first|(refine cS ?_ ?_<;>intro hc)))<;>((first|refine off ?_|refine vl ?_);(first|refine off ?_|refine vl ?_);refine vl ?_;refine mv ?_;refine qf ?_))))))))
  all_goals (refine qj ⟨_,rfl,?_⟩)
  all_goals (refine ⟨?_,S.drop⟩)
  all_goals (first|exact .inl ⟨rfl,hP (by omega)⟩|exact .inr ⟨rfl,hN (by omega)⟩)
 ·have e:=VM (by assumption) (show p≠q by assumption);refine qj ⟨_,rfl,?_⟩;exact ⟨.inl ⟨rfl,e.2 (by omega)⟩,S.drop⟩
 ·have e:=VM (by assumption) (show p≠q by assumption);refine qj ⟨_,rfl,?_⟩;exact ⟨.inl ⟨rfl,e.2 (by omega)⟩,S.drop⟩
 ·have e:=VM (by assumption) (show p≠q by assumption);refine qj ⟨_,rfl,?_⟩;exact ⟨.inr ⟨rfl,fun g=>by have:=e.1 g;omega⟩,S.drop⟩
 ·(refine qm rfl rfl rfl rfl rfl ((hrec _ S.wf (by assumption)).mono ?_);rintro _ h ⟨hv,x⟩)<;>(replace S:=S.qx x;clear x;refine mv ?_;refine qf ?_)
  all_goals (repeat' (fail))
  refine qj ⟨_,rfl,?_⟩;rcases hv with ⟨rfl,hv⟩|⟨rfl,hv⟩
  ·exact ⟨.inl ⟨rfl,(Y8 t q p).1 hv⟩,S.drop⟩
  ·exact ⟨.inr ⟨rfl,fun g=>hv ((Y8 t q p).2 g)⟩,S.drop⟩
 ·have h4:t.shape=4:=by omega
  have k:=hs.s4 h4;have e:=kS h4 (show p<q by omega);(refine qm rfl rfl rfl rfl rfl ((qeD S.wf t q hB (by omega)).mono ?_);rintro _ h ⟨⟨rfl,hv⟩|⟨rfl,hv⟩,x⟩)<;>(replace S:=S.qx x;clear x;refine vl ?_;refine vl ?_;refine mv ?_;refine qf ?_)
  all_goals (repeat' (fail))
  all_goals (refine qj ⟨_,rfl,?_⟩)
  ·exact ⟨.inr ⟨rfl,fun g=>(e.1 g).2 hv⟩,S.drop⟩
  ·exact ⟨.inl ⟨rfl,e.2 ⟨by assumption,hv⟩⟩,S.drop⟩
 ·have h4:t.shape=4:=by omega
  have e:=kS h4 (show p<q by omega);refine qj ⟨_,rfl,?_⟩;exact ⟨.inr ⟨rfl,fun g=>by have:=(e.1 g).1;omega⟩,S.drop⟩
theorem P8 {h0:AH} (w:WfH h0) (t:Tab) (p q:Int) (hs:TabS t) (hp:0≤p∧p<qP t) (hq:0≤q∧q<qP t):Fn Tryz.prog Xh 164 [QG t,.int .i64 p,.int .i64 q] h0 (fun v h'=>qI v (zB t p q)∧Hs h0 h' []) :=
 Y9 w t p q hs hp hq fun h wh g=>Y9 wh t q p hs hq hp fun h2 wh2 g2=>by omega
end Go.Proofs.Xx
namespace Go.Proofs.Xx
open Go Go.Proofs
theorem WhereI.sz {l:List Tab} {s:Int} {i k:Nat} (h:WhereI l s i k):TabS (tb l i):=TabS.of _ (by have:=h.2.2.1;omega)
def qi0 (l:List Tab) (a b:Int) (t:Tab) (x y:Int) (f:Bool):Prop:=(f=true∧∃ i k m:Nat,t=tb l i∧x=k∧y=m∧WhereI l a i k∧WhereI l b i m)∨(f=false∧t=default∧x=0∧y=0∧∀ i k m,WhereI l a i k→¬ WhereI l b i m)
theorem qd9 {h0:AH} (w:WfH h0) (v:Value) (l:List Tab) (H:HallR h0 v l) (a b:Int) (ha:a≤9223372036854775807) (hb:b≤9223372036854775807) :
 Fn Tryz.prog Xh 170 [v,.int .i64 a,.int .i64 b] h0 (fun r h'=>∃ t x y f,r = .tuple #[QG t,.int .i64 x,.int .i64 y,.bool f]∧qi0 l a b t x y f∧Hs h0 h' []):=by
 have S:=Hs.start w;have hl:=H.len;have hr:=H.rd;refine qA (by first|rfl) Tryz.func170 rfl rfl ?_;all_goals (repeat' (first|refine qg ?_|(refine qc 0 ?_;(refine al S ?_;clear S;intro b h S);(iterate 3 refine mv ?_);refine qf ?_)|(refine qc 1 ?_;refine mv ?_;refine mv ?_)))
 obtain ⟨bt,hnm⟩:∃ x,x=b:=⟨_,rfl⟩;subst hnm;(refine qm rfl rfl rfl rfl rfl ((YE S.wf v l (H.ext w S.ext) a ha).mono ?_);rintro _ h ⟨_,_,_,rfl,⟨rfl,i,k,rfl,rfl,w1⟩|⟨rfl,rfl,rfl,w1⟩,x⟩)<;>(replace S:=S.qx x;clear x;refine mv ?_;refine vl ?_;refine vl ?_;refine vl ?_;(iterate 3 refine mv ?_);refine qf ?_)
 all_goals (all_goals (repeat' (first|refine qg ?_|(refine qc 2 ?_;refine mv ?_;refine mv ?_))))
 all_goals ((refine qm rfl rfl rfl rfl rfl ((YE S.wf v l (H.ext w S.ext) b hb).mono ?_);rintro _ h ⟨_,_,_,rfl,⟨rfl,j,m,rfl,rfl,w2⟩|⟨rfl,rfl,rfl,w2⟩,x⟩)<;>(replace S:=S.qx x;clear x;refine mv ?_;refine vl ?_;refine vl ?_;refine vl ?_;(iterate 3 refine mv ?_);refine qf ?_))
 ·have hi:=w1.2.1;all_goals (repeat' (first|refine qg ?_|refine qh rfl ?_|refine qi ?_|(refine qc 3 ?_;refine mv ?_;refine vl ?_;refine mv ?_;refine mv ?_;refine vl ?_;refine vl ?_;(iterate 3 refine mv ?_);(first|(first|(refine cS ?_ ?_<;>intro hc)))<;>(refine vl ?_;refine qf ?_))|(refine qc 4 ?_;refine vl ?_;(first|(refine sB S rfl rfl ?_;clear S;intro h S));(iterate 3 refine mv ?_);refine qf ?_)|(refine qc 5 ?_;refine mv ?_;refine mv ?_;refine zT S ?_;refine zQ S ?_;refine mv ?_;refine mv ?_;(first|(refine sB S rfl rfl ?_;clear S;intro h S));(iterate 3 refine mv ?_);refine qf ?_)))
  ·refine qj ⟨_,jQ S rfl (by first|exact .here) (by exact rfl) (by exact rfl),?_⟩;refine ⟨default,0,0,false,rfl,.inr ⟨rfl,rfl,rfl,rfl,fun i' k' m' q1 q2=>?_⟩,S.drop⟩;obtain ⟨rfl,rfl⟩:=w1.unique q1;obtain ⟨rfl,rfl⟩:=w2.unique q2;exact hc rfl
  ·have hij:i=j:=by omega
   subst hij;refine qj ⟨_,jQ S rfl (by first|exact .here) (by exact rfl) (by exact rfl),?_⟩;exact ⟨tb l i,k,m,true,rfl,.inl ⟨rfl,i,k,m,rfl,rfl,rfl,w1,w2⟩,S.drop⟩
 ·all_goals (repeat' (first|refine qg ?_|refine qh rfl ?_|(refine qc 3 ?_;refine mv ?_;refine vl ?_;refine mv ?_;refine mv ?_;refine vl ?_;refine vl ?_;refine mv ?_;refine off ?_;refine off ?_;(refine off ?_)<;>(refine vl ?_;refine qf ?_))|(refine qc 4 ?_;refine vl ?_;(first|(refine sB S rfl rfl ?_;clear S;intro h S));(iterate 3 refine mv ?_);refine qf ?_)))
  refine qj ⟨_,jQ S rfl (by first|exact .here) (by exact rfl) (by exact rfl),?_⟩;exact ⟨default,0,0,false,rfl,.inr ⟨rfl,rfl,rfl,rfl,fun i' k' m' q1 q2=>w2 _ _ q2⟩,S.drop⟩
 ·all_goals (repeat' (first|refine qg ?_|refine qh rfl ?_|(refine qc 3 ?_;refine mv ?_;refine vl ?_;refine mv ?_;refine off ?_;refine off ?_;refine vl ?_;refine mv ?_;refine off ?_;refine off ?_;(refine off ?_)<;>(refine vl ?_;refine qf ?_))|(refine qc 4 ?_;refine vl ?_;(first|(refine sB S rfl rfl ?_;clear S;intro h S));(iterate 3 refine mv ?_);refine qf ?_)))
  refine qj ⟨_,jQ S rfl (by first|exact .here) (by exact rfl) (by exact rfl),?_⟩;exact ⟨default,0,0,false,rfl,.inr ⟨rfl,rfl,rfl,rfl,fun i' k' m' q1 q2=>w1 _ _ q1⟩,S.drop⟩
 ·all_goals (repeat' (first|refine qg ?_|refine qh rfl ?_|(refine qc 3 ?_;refine mv ?_;refine vl ?_;refine mv ?_;refine off ?_;refine off ?_;refine vl ?_;refine mv ?_;refine off ?_;refine off ?_;(refine off ?_)<;>(refine vl ?_;refine qf ?_))|(refine qc 4 ?_;refine vl ?_;(first|(refine sB S rfl rfl ?_;clear S;intro h S));(iterate 3 refine mv ?_);refine qf ?_)))
  refine qj ⟨_,jQ S rfl (by first|exact .here) (by exact rfl) (by exact rfl),?_⟩;exact ⟨default,0,0,false,rfl,.inr ⟨rfl,rfl,rfl,rfl,fun i' k' m' q1 q2=>w1 _ _ q1⟩,S.drop⟩
def ve (P:Tab→Int→Int→Prop) (l:List Tab) (a b:Int):Prop:=∃ i k m:Nat,WhereI l a i k∧WhereI l b i m∧P (tb l i) k m
theorem vV {h0:AH} (w:WfH h0) (v:Value) (l:List Tab) (H:HallR h0 v l) (a b:Int) (ha:a≤9223372036854775807) (hb:b≤9223372036854775807) :
 Fn Tryz.prog Xh 122 [v,.int .i64 a,.int .i64 b] h0 (fun r h'=>qI r (ve zB l a b)∧Hs h0 h' []):=by
 have S:=Hs.start w;refine qA (by first|rfl) Tryz.func122 rfl rfl ?_;all_goals (repeat' (first|refine qg ?_|(refine qc 0 ?_;refine mv ?_;refine qf ?_)|(refine qc 1 ?_;(iterate 3 refine mv ?_);skip)))
 (refine qm rfl rfl rfl rfl rfl ((qd9 S.wf v l H a b ha hb).mono ?_);rintro _ h ⟨_,_,_,_,rfl,⟨rfl,i,k,m,rfl,rfl,rfl,w1,w2⟩|⟨rfl,rfl,rfl,rfl,w1⟩,x⟩)<;>(replace S:=S.qx x;clear x;refine mv ?_;refine vl ?_;refine vl ?_;refine vl ?_;refine vl ?_;(refine al S ?_;clear S;intro b h S);(first|(refine sB S rfl rfl ?_;clear S;intro h S));(iterate 3 refine mv ?_);refine qf ?_)
 ·all_goals (repeat' (first|refine qg ?_|(refine qc 2 ?_;refine mv ?_;refine mv ?_;(first|(refine lB S rfl rfl ?_));refine mv ?_;refine mv ?_;(skip))))
  have t1:=zO (tb l i);have k1:=w1.2.2.1;have k2:=w2.2.2.1;(refine qm rfl rfl rfl rfl rfl ((kR S.wf (tb l i) k m w1.sz.b (by omega) (by omega)).mono ?_);rintro _ h ⟨⟨rfl,hq⟩|⟨rfl,hq⟩,x⟩)<;>(replace S:=S.qx x;clear x;refine vl ?_;refine mv ?_;refine qf ?_)
  all_goals (repeat' (fail))
  all_goals (refine qj ⟨_,rfl,?_⟩)
  ·exact ⟨.inl ⟨rfl,i,k,m,w1,w2,hq⟩,S.drop⟩
  ·refine ⟨.inr ⟨rfl,fun ⟨i',k',m',q1,q2,q3⟩=>?_⟩,S.drop⟩;obtain ⟨rfl,rfl⟩:=w1.unique q1;obtain ⟨-,rfl⟩:=w2.unique q2;exact hq q3
 ·all_goals (repeat' (first|refine qg ?_|(refine qc 2 ?_;refine mv ?_;refine mv ?_;refine off ?_;refine off ?_;refine off ?_;(first|(refine off ?_;refine vl ?_;refine mv ?_;refine qf ?_)))))
  refine qj ⟨_,rfl,?_⟩;exact ⟨.inr ⟨rfl,fun ⟨i',k',m',q1,q2,q3⟩=>w1 _ _ _ q1 q2⟩,S.drop⟩
open Classical in
noncomputable def Yo (N:Int→Int→Prop) (k a:Int):Nat→List Int
 | 0=>[]
 | m+1=>if N k m then Yo N k a m ++ [a - k+m] else Yo N k a m
theorem yc (N:Int→Int→Prop) (k a:Int):∀ m,(Yo N k a m).length≤m
 | 0=>zA3 _
 | m+1=>by
  have:=yc N k a m;unfold Yo;split
  ·simp;omega
  ·omega
def NbR (l:List Tab) (a:Int) (out:List Int):Prop:=(∃ i k:Nat,WhereI l a i k∧out=Yo (JY (tb l i)) k a (qP (tb l i)).toNat)∨(out=[]∧∀ i k,¬ WhereI l a i k)
theorem YY {h0:AH} (w:WfH h0) (v:Value) (l:List Tab) (H:HallR h0 v l) (a:Int) (ha:a≤9223372036854775807) :
 Fn Tryz.prog Xh 120 [v,.int .i64 a] h0 (fun r h'=>∃ out,NbR l a out∧out.length≤1000∧Hs h0 h' [.sl r 3 1 eI out]):=by
 have S:=Hs.start w;have hr:=H.rd;have hl:=H.len;refine qA (by first|rfl) Tryz.func120 rfl rfl ?_;all_goals (repeat' (first|refine qg ?_|(refine qc 0 ?_;refine mv ?_;refine qf ?_)|(refine qc 1 ?_;refine mv ?_;refine mv ?_)))
 (refine qm rfl rfl rfl rfl rfl ((YE S.wf v l H a ha).mono ?_);rintro _ h ⟨_,_,_,rfl,⟨rfl,i,k,rfl,rfl,w1⟩|⟨rfl,rfl,rfl,w1⟩,x⟩)<;>(replace S:=S.qx x;clear x;refine mv ?_;refine vl ?_;refine vl ?_;refine vl ?_;(iterate 3 refine mv ?_);refine qf ?_)
 ·have hi:=w1.2.1;have t1:=zO (tb l i);have k1:=w1.2.2.1;have a1:=w1.2.2.2;have b1:=zD l i;obtain ⟨n,hn⟩:=zH3 t1.1;have hnn:(qP (tb l i)).toNat=n:=by omega
  all_goals (repeat' (first|refine qg ?_|refine qh rfl ?_|refine qi ?_|(refine qc 2 ?_;refine mv ?_;refine vl ?_;refine qf ?_)|(refine qc 4 ?_;refine mv ?_;refine qf ?_)|(refine qc 5 ?_;refine mv ?_;refine mv ?_;refine zT S ?_;refine zQ S ?_)))
  (try simp only [zA0] at *)
  (refine qm rfl rfl rfl rfl rfl ((JE S.wf (tb l i)).mono ?_);rintro _ h ⟨rfl,x⟩)<;>(replace S:=S.qx x;clear x;rw [hn];refine mv ?_;refine qf ?_)
  all_goals (repeat' (refine ql ?_))
  refine qB (σ:=Nat×Value) (fun (m,vo) h'=>Hs h0 h' [.sl vo 3 1 eI (Yo (JY (tb l i)) k a m)]∧m≤n) (fun (m,vo)=>n - m) (fun (m,vo)=>[(0,v),(1,.int .i64 a),(5,.int .i64 i),(6,.int .i64 k),(8,vo),(23,.int .i64 n),(24,.int .i64 m)]) (0,.slice none 0 0) qw ?_ ?_
  ·exact ⟨S.ZF,zB0 _⟩
  clear S;rintro ⟨m,vo⟩ h ⟨S,h1⟩;have hnl:=yc (JY (tb l i)) k a m;all_goals (repeat' (first|refine qg ?_|refine qh rfl ?_|refine qi ?_|refine qy ?_|refine ql ?_|(refine qc 6 ?_;(first|(refine cS ?_ ?_<;>intro hc))<;>(refine qf ?_))|(refine qc 7 ?_;refine mv ?_;refine mv ?_;refine qf ?_)|(refine qc 8 ?_;refine mv ?_;refine mv ?_;refine zT S ?_;refine zQ S ?_;refine mv ?_;refine mv ?_)|(refine qc 11 ?_;refine mv ?_;refine mv ?_;refine qf ?_)))
  ·(try simp only [zA0] at *)
   (refine qm rfl rfl rfl rfl rfl ((qe8 S.wf (tb l i) k m w1.sz.b (by omega) (by omega)).mono ?_);rintro _ h ⟨⟨rfl,hq⟩|⟨rfl,hq⟩,x⟩)<;>(replace S:=S.qx x;clear x;refine qf ?_)
   ·all_goals (repeat' (first|refine qh rfl ?_|(refine qc 9 ?_;(iterate 3 refine mv ?_);refine sb ?_;refine mv ?_;refine ad ?_;(refine one 1 S ?_;clear S;intro u h S))))
    refine app (y0:=(a - k+m)) S rfl rfl ?_;clear S;intro v h S;refine mv ?_;refine qf ?_;all_goals (repeat' (first|(refine qc 10 ?_;refine ad ?_;refine mv ?_;refine qf ?_)))
    refine ⟨(m+1,v),?_,?_,qw⟩
    ·show n - (m+1)<n - m;omega
    ·refine ⟨?_,by omega⟩;have e:Yo (JY (tb l i)) k a (m+1)=Yo (JY (tb l i)) k a m ++ [a - k+m]:=by rw [Yo,if_pos hq]
     rw [e];exact S
   ·all_goals (repeat' (first|refine qh rfl ?_|refine qi ?_|(refine qc 10 ?_;refine ad ?_;refine mv ?_;refine qf ?_)))
    refine ⟨(m+1,vo),?_,?_,qw⟩
    ·show n - (m+1)<n - m;omega
    ·refine ⟨?_,by omega⟩;have e:Yo (JY (tb l i)) k a (m+1)=Yo (JY (tb l i)) k a m:=by rw [Yo,if_neg hq]
     rw [e];exact S
  ·refine qj ⟨_,rfl,?_⟩;have hmn:m=n:=by omega
   subst hmn;exact ⟨_,.inl ⟨i,k,w1,by rw [hnn]⟩,by omega,S⟩
 ·all_goals (repeat' (first|refine qg ?_|refine qh rfl ?_|(refine qc 2 ?_;refine mv ?_;refine vl ?_;refine qf ?_)|(refine qc 3 ?_;refine mv ?_;refine qf ?_)))
  refine qj ⟨_,rfl,?_⟩;exact ⟨[],.inr ⟨rfl,w1⟩,by simp,S.ZF⟩
def zW (l:List Tab) (i k:Nat):List UInt8:=(tb l i).name ++ [32] ++ Zo k
theorem WhereI.szb {l:List Tab} {s:Int} {i k:Nat} (h:WhereI l s i k):k<1000:=by
 have h1:=h.sz;have h2:=h.2.2.1;have h3:=h1.shape;rcases h3 with q|q|q|q
 ·have:=h1.s1 q;omega
 ·have:=h1.s2 q;omega
 ·have:=h1.s3 q;omega
 ·have:=h1.s4 q;omega
variable [Flag]
theorem wI {h0:AH} (w:WfH h0) (hf:Flag.b=true) (pv:PbV) (p:Pb) (H:PbOk h0 pv p) (s:Int) (hs:s≤1000000) (i k:Nat) (hw:WhereI p.tabs s i k) :
 Fn Tryz.prog Xh 70 [pv.val,.int .i64 s] h0 (fun u h'=>u=str (zW p.tabs i k)∧Hs h0 h' []):=by
 have S:=Hs.start w;have hr:=H.tab.rd;have hl:=H.tab.len;have hi:=hw.2.1;have hk:=hw.szb;have hn:=(hw.1.nm hi).2.1;have hn2:(p.tabs.getD (i:Int).toNat default).name.length≤12:=hn;have hd:=Zj 8 k (by omega);unfold PbV.val;refine qA (by first|rfl) Tryz.func70 rfl rfl ?_;all_goals (repeat' (first|refine qg ?_|(refine qc 0 ?_;(refine bx S ?_;clear S;intro b h S);refine mv ?_;refine qf ?_)))
 obtain ⟨b2,hnm⟩:∃ x,x=b:=⟨_,rfl⟩;subst hnm;all_goals (repeat' (first|(refine qc 1 ?_;refine vl ?_;refine lB S rfl rfl ?_;refine mv ?_)))
 (refine qm rfl rfl rfl rfl rfl ((YE S.wf pv.vt.val p.tabs (H.tab.ext w S.ext) s (by omega)).mono ?_);rintro _ h ⟨a,b,f,rfl,hw2,x⟩)<;>(replace S:=S.qx x;clear x;refine mv ?_;refine vl ?_;refine vl ?_;refine vl ?_;(iterate 3 refine mv ?_);refine qf ?_)
 rcases hw2 with ⟨rfl,i',k',rfl,rfl,hw2⟩|⟨rfl,rfl,rfl,hno⟩
 rotate_left
 ·exact absurd hw (hno i k)
 obtain ⟨rfl,rfl⟩:=hw.unique hw2;all_goals (repeat' (refine qg ?_))
 (repeat (refine qg ?_));refine Zy (id:=2) [(1,(0,1)),(5,(0,1))] [some (b2),some (P7 pv.vt.val)] ?_;refine qp ?_;(first|(refine vl ?_<;>refine qf ⟨⟨by (first|exact True.intro),rfl⟩,?_⟩));refine qp ?_;(first|(refine lB S rfl rfl ?_<;>refine qf ⟨⟨by (first|exact Or.inr rfl),rfl⟩,?_⟩));refine qp ?_;(first|(refine mv ?_<;>refine qf ⟨⟨by (first|exact True.intro),rfl⟩,?_⟩));refine qp ?_;(first|(refine zT S ?_<;>refine qf ⟨⟨by (first|exact True.intro),rfl⟩,?_⟩));refine qp ?_;(first|(refine fB S ?_<;>refine qf ⟨⟨by (first|exact True.intro),rfl⟩,?_⟩));refine qp ?_;(first|(refine zQ S ?_<;>refine qf ⟨⟨by (first|exact Or.inr (congrArg some (kQ _ _ _ _))),rfl⟩,?_⟩));refine qp ?_;(first|(refine tc ?_<;>refine qf ⟨⟨by (first|exact True.intro),rfl⟩,?_⟩));refine qp ?_;(first|(refine mv ?_<;>refine qf ⟨⟨by (first|exact True.intro),rfl⟩,?_⟩));((refine qp ?_;first|refine qm rfl rfl rfl rfl rfl ((PH S.wf hf (k:Int) (by omega)).mono ?_));rintro _ h ⟨rfl,x⟩)<;>((refine qf ⟨⟨True.intro,?_⟩,?_⟩;(focus ((show keepsX _ _ _ _ _;simp only [keepsX];(repeat' (first|exact True.intro|refine And.intro ?_ ?_));all_goals (intro hw;first|exact x.ext.old _ S.bB|exact x.ext.old _ (S.bX (by assumption) (by assumption) (by first|omega)))))));replace S:=S.qx x;clear x;refine qp ?_;(first|(refine tc ?_<;>refine qf ⟨⟨by (first|exact True.intro),rfl⟩,?_⟩));refine qp ?_;(first|(refine mv ?_<;>refine qf ⟨⟨by (first|exact True.intro),rfl⟩,?_⟩));refine Zm ?_)
 all_goals (repeat' (fail))
 refine qj ⟨_,rfl,?_⟩;exact ⟨rfl,S.drop⟩
end Go.Proofs.Xx
namespace Go.Proofs.Xx
open Go Go.Proofs
variable [Flag]
theorem Kt {h0:AH} (w:WfH h0) (vq:Value) (q:List Int) (rq:zl h0 vq 1 eI q) (hq:q.length≤1000000) (y:Int):Fn Tryz.prog Xh 110 [vq,.int .i64 y] h0 (fun u h'=>y9 u (fun i=>q.getD i default=y) q.length∧Hs h0 h' []):=by
 have S:=Hs.start w;refine qA (by first|rfl) Tryz.func110 rfl rfl ?_;all_goals (repeat' (first|refine qg ?_|refine ql ?_|(refine qc 0 ?_;refine mv ?_;refine qf ?_)|(refine qc 1 ?_;refine mv ?_;refine qf ?_)))
 refine qB (σ:=Nat) (fun i h'=>Hs h0 h' []∧i≤q.length∧∀ j,j<i→¬ q.getD j default=y) (fun i=>q.length - i) (fun i=>[(0,vq),(1,.int .i64 y),(5,.int .i64 i)]) 0 qw ?_ ?_
 ·exact ⟨S,zB0 _,fun j hj=>absurd hj (zB7 _)⟩
 clear S;rintro i h ⟨S,g1,g2⟩;all_goals (repeat' (first|refine qg ?_|refine qh rfl ?_|refine qi ?_|refine qy ?_|refine ql ?_|(refine qc 2 ?_;refine mv ?_;refine mv ?_;refine jc S ?_;(first|(refine cS ?_ ?_<;>intro hc))<;>(refine qf ?_))))
 ·have hi:i<q.length:=by omega
  have hx0:q.getD (i:Int).toNat default=q.getD i default:=rfl;all_goals (repeat' (first|refine qg ?_|refine qh rfl ?_|refine qi ?_|(refine qc 4 ?_;refine mv ?_;refine mv ?_;refine zT S ?_;refine zQ S ?_;refine mv ?_;(first|(refine cS ?_ ?_<;>intro hc))<;>(refine qf ?_))))
  ·all_goals (repeat' (first|(refine qc 5 ?_;refine mv ?_;refine mv ?_;refine qf ?_)))
   refine qj ⟨_,rfl,?_⟩;exact ⟨.inl ⟨i,hi,rfl,by assumption,g2⟩,S⟩
  ·all_goals (repeat' (first|(refine qc 3 ?_;refine mv ?_;refine ad ?_;refine mv ?_;refine qf ?_)))
   refine ⟨i+1,?_,?_,qw⟩
   ·show q.length - (i+1)<q.length - i;omega
   ·exact ⟨S,by omega,Qb g2 (by assumption)⟩
 ·all_goals (repeat' (first|(refine qc 6 ?_;refine mv ?_;refine qf ?_)))
  refine qj ⟨_,rfl,?_⟩;exact ⟨.inr ⟨rfl,fun j hj=>g2 j (by omega)⟩,S⟩
theorem pJ {h0:AH} (w:WfH h0) (pv:PbV) (p:Pb) (H:PbOk h0 pv p) (hv:ValidL p.tabs) (s:Int) (hs:0≤s∧s≤1000000) (i k:Nat) (hw:WhereI p.tabs s i k) :
 Fn Tryz.prog Xh 111 [pv.val,.int .i64 s] h0 (fun u h'=>Hs h0 h' [.sl u 9 1 eS [(tb p.tabs i).name,Zo k]]):=by
 have S:=Hs.start w;have hr:=H.tab.rd;have hl:=H.tab.len;have hi:=hw.2.1;have hk:=hw.szb;have hd:=Zj 8 k (by omega);unfold PbV.val;refine qA (by first|rfl) Tryz.func111 rfl rfl ?_;all_goals (repeat' (first|refine qg ?_|(refine qc 0 ?_;(refine bx S ?_;clear S;intro b h S);refine mv ?_;refine qf ?_)))
 obtain ⟨b2,hnm⟩:∃ x,x=b:=⟨_,rfl⟩;subst hnm;all_goals (repeat' (first|(refine qc 1 ?_;refine vl ?_;refine lB S rfl rfl ?_;refine mv ?_)))
 (refine qm rfl rfl rfl rfl rfl ((Vt S.wf pv.vt.val p.tabs (hr.ext w S.ext) hl hv s (by omega)).mono ?_);rintro _ h ⟨k',rfl,hk',x⟩)<;>(replace S:=S.qx x;clear x;refine mv ?_;refine vl ?_;refine vl ?_;refine mv ?_;refine mv ?_;refine qf ?_)
 obtain rfl:=hk' i k hw;have ht:tOf p.tabs s=i:=Vl hw;rw [ht];all_goals (repeat' (refine qg ?_))
 (repeat (refine qg ?_));refine Zy (id:=2) [(1,(0,1)),(5,(0,1))] [some (b2),some (P7 pv.vt.val)] ?_;refine qp ?_;(first|(refine vl ?_<;>refine qf ⟨⟨by (first|exact True.intro),rfl⟩,?_⟩));refine qp ?_;(first|(refine lB S rfl rfl ?_<;>refine qf ⟨⟨by (first|exact Or.inr rfl),rfl⟩,?_⟩));refine qp ?_;(first|(refine mv ?_<;>refine qf ⟨⟨by (first|exact True.intro),rfl⟩,?_⟩));refine qp ?_;(first|(refine zT S ?_<;>refine qf ⟨⟨by (first|exact True.intro),rfl⟩,?_⟩));refine qp ?_;(first|(refine fB S ?_<;>refine qf ⟨⟨by (first|exact True.intro),rfl⟩,?_⟩));refine qp ?_;(first|(refine zQ S ?_<;>refine qf ⟨⟨by (first|exact Or.inr (congrArg some (kQ _ _ _ _))),rfl⟩,?_⟩));refine qp ?_;(first|(refine mv ?_<;>refine qf ⟨⟨by (first|exact True.intro),rfl⟩,?_⟩));((refine qp ?_;first|refine qm rfl rfl rfl rfl rfl ((yJ S.wf (z:=(k:Int)) k rfl (by omega)).mono ?_));rintro _ h ⟨rfl,x⟩)<;>((refine qf ⟨⟨True.intro,?_⟩,?_⟩;(focus ((show keepsX _ _ _ _ _;simp only [keepsX];(repeat' (first|exact True.intro|refine And.intro ?_ ?_));all_goals (intro hw;first|exact x.ext.old _ S.bB|exact x.ext.old _ (S.bX (by assumption) (by assumption) (by first|omega)))))));replace S:=S.qx x;clear x)
 refine qp ?_;refine bsn (α:=List UInt8) (z:=1) eS [(tb p.tabs i).name,Zo k] S ?_;have S0:=S;clear S;intro u h S;refine qf ⟨⟨True.intro,?_⟩,?_⟩;(focus ((show keepsX _ _ _ _ _;simp only [keepsX];(repeat' (first|exact True.intro|refine And.intro ?_ ?_));all_goals (intro hw;first|exact absurd hw (by decide +kernel)))));clear S0;(refine qp ?_;(first|(refine mv ?_<;>refine qf ⟨⟨by (first|exact True.intro),rfl⟩,?_⟩));refine Zm ?_);all_goals (repeat' (fail))
 refine qj ⟨_,rfl,?_⟩;exact S.only .here
end Go.Proofs.Xx
namespace Go.Proofs.Xx
open Go Go.Proofs
variable [Flag]
theorem qe3 {h0:AH} (w:WfH h0) (v:Value) (l:List Tab) (hr:zl h0 v 7 eT l) (hl:l.length≤1000) (a c:Int) (ha:0≤a∧a≤1000000) (hc:0≤c∧c≤1000000) (i k j m:Nat) (w1:WhereI l a i k) (w2:WhereI l c j m) :
 Fn Tryz.prog Xh 163 [v,.int .i64 a,.int .i64 c] h0 (fun u h'=>u = .tuple #[.int .i64 (if i=j then (i:Int) else -1),.int .i64 k,.int .i64 m]∧Hs h0 h' []):=by
 have S:=Hs.start w;refine qA (by first|rfl) Tryz.func163 rfl rfl ?_;all_goals (repeat' (first|refine qg ?_|(refine qc 0 ?_;(iterate 3 refine mv ?_);refine qf ?_)|(refine qc 1 ?_;refine mv ?_;refine mv ?_)))
 (refine qm rfl rfl rfl rfl rfl ((Vt S.wf v l (hr.ext w S.ext) hl w1.1 a (by omega)).mono ?_);rintro _ h ⟨k',rfl,hk',x⟩)<;>(replace S:=S.qx x;clear x;refine mv ?_;refine vl ?_;refine vl ?_;refine mv ?_;refine mv ?_;refine qf ?_)
 obtain rfl:=hk' i k w1;rw [Vl w1];all_goals (repeat' (first|refine qg ?_|(refine qc 2 ?_;refine mv ?_;refine mv ?_)))
 (refine qm rfl rfl rfl rfl rfl ((Vt S.wf v l (hr.ext w S.ext) hl w1.1 c (by omega)).mono ?_);rintro _ h ⟨m',rfl,hm',x⟩)<;>(replace S:=S.qx x;clear x;refine mv ?_;refine vl ?_;refine vl ?_;refine mv ?_;refine mv ?_;refine qf ?_)
 obtain rfl:=hm' j m w2;rw [Vl w2];all_goals (repeat' (first|refine qg ?_|refine qh rfl ?_|refine qi ?_|(refine qc 3 ?_;refine mv ?_;refine mv ?_;(first|(refine cS ?_ ?_<;>intro hc))<;>(refine qf ?_))|(refine qc 4 ?_;refine mv ?_;refine qf ?_)|(refine qc 5 ?_;(iterate 6 refine mv ?_);refine qf ?_)))
 all_goals (refine qj ⟨_,rfl,?_⟩)
 ·refine ⟨?_,S⟩;rw [if_neg (by omega)];rfl
 ·refine ⟨?_,S⟩;rw [if_pos (by omega)];rfl
theorem pU {h0:AH} (w:WfH h0) (v:Value) (l:List Tab) (hr:zl h0 v 7 eT l) (hl:l.length≤1000) (a c:Int) (ha:0≤a∧a≤1000000) (hc:0≤c∧c≤1000000) (i k j m:Nat) (w1:WhereI l a i k) (w2:WhereI l c j m) :
 Fn Tryz.prog Xh 113 [v,.int .i64 a,.int .i64 c] h0 (fun u h'=>qI u (ve zB l a c)∧Hs h0 h' []):=by
 have S:=Hs.start w;have hi:=w1.2.1;refine qA (by first|rfl) Tryz.func113 rfl rfl ?_;all_goals (repeat' (first|refine qg ?_|(refine qc 0 ?_;refine mv ?_;refine qf ?_)|(refine qc 1 ?_;(iterate 3 refine mv ?_);skip)))
 (refine qm rfl rfl rfl rfl rfl ((qe3 S.wf v l (hr.ext w S.ext) hl a c ha hc i k j m w1 w2).mono ?_);rintro _ h ⟨rfl,x⟩)<;>(replace S:=S.qx x;clear x;refine mv ?_;refine vl ?_;refine vl ?_;refine vl ?_;(iterate 3 refine mv ?_);refine qf ?_)
 by_cases e:i=j
 ·subst e;rw [if_pos rfl];have k1:=w1.2.2.1;have k2:=w2.2.2.1;have hx0:l.getD (i:Int).toNat default=tb l i:=rfl;all_goals (repeat' (first|refine qg ?_|(refine qc 2 ?_;refine mv ?_;(refine cT ?_)<;>((iterate 3 refine mv ?_);(first|(refine zT S ?_));(first|(refine zQ S ?_));refine mv ?_;refine mv ?_;(skip)))))
  (refine qm rfl rfl rfl rfl rfl ((P8 S.wf (tb l i) k m w1.sz ⟨by omega,k1⟩ ⟨by omega,k2⟩).mono ?_);rintro _ h ⟨⟨rfl,z⟩|⟨rfl,z⟩,x⟩)<;>(replace S:=S.qx x;clear x;refine vl ?_;refine mv ?_;refine qf ?_)
  all_goals (all_goals (repeat' (fail)))
  all_goals (refine qj ⟨_,rfl,?_⟩)
  ·exact ⟨.inl ⟨rfl,i,k,m,w1,w2,z⟩,S⟩
  ·refine ⟨.inr ⟨rfl,fun ⟨i',k',m',q1,q2,q3⟩=>z ?_⟩,S⟩;obtain ⟨rfl,rfl⟩:=w1.unique q1;obtain ⟨-,rfl⟩:=w2.unique q2;exact q3
 ·rw [if_neg e];all_goals (repeat' (first|refine qg ?_|(refine qc 2 ?_;refine mv ?_;(refine cF ?_)<;>(refine mv ?_;refine off ?_;refine off ?_;refine off ?_;refine off ?_;refine off ?_;refine off ?_;(first|(refine off ?_;refine vl ?_;refine mv ?_;refine qf ?_))))))
  refine qj ⟨_,rfl,?_⟩;refine ⟨.inr ⟨rfl,fun ⟨i',k',m',q1,q2,q3⟩=>e ?_⟩,S⟩;rw [(w1.unique q1).1,(w2.unique q2).1]
end Go.Proofs.Xx
namespace Go.Proofs.Xx
open Go Go.Proofs
variable [Flag]
theorem qec {h0 h:AH} {rs:List Rs} {bb:Nat} {q:Value} (S:Hs h0 h (bst bb q (.slice none 0 0) :: rs)) (n:Nat) (hn:n≤1000000):Fn Tryz.prog Xh 243 [.pointer (some ⟨bb,0,none⟩),.int .i64 n] h (fun r h'=>∃ v',Hs h0 h' (bst bb q v' :: wo v' [] :: rs)):=by
 have hb:h.get bb=some (.cells [q,.slice none 0 0] 104 none false):=S.gB;have S1:Hs h0 (h.add (.cells [] 5 (some 1) false)) (wo (.slice (some ⟨h.next,0,none⟩) 0 0) [] :: bst bb q (.slice none 0 0) :: rs):=S.grow (fp:=fun b=>b=h.next) ((Ext.refl S.wf).add _) (.inr ⟨h.next,0,[],some 1,0,rfl,by rw [AH.qW,if_pos rfl],rfl,rfl,⟨zA3 _,zA3 _⟩,.inr rfl⟩) fun b hb=>by subst hb;exact ⟨zA3 _,zG0 _⟩
 have S2:=(S1.front (.there .here)).put (c':=[q,.slice (some ⟨h.next,0,none⟩) 0 0]) .here;have hk:Nat.ble n 281474976710656=true:=zB3 (by omega);refine Jt (v:=.tuple #[]) (h':=(h.add (.cells [] 5 (some 1) false)).put bb (.cells [q,.slice (some ⟨h.next,0,none⟩) 0 0] 104 none false)) ?_ ⟨_,S2⟩;show @Xa flagOn 243 [.pointer (some ⟨bb,0,none⟩),.int .i64 (Int.ofNat n)] h=_
 unfold Xa J9;rw [show Nat.beq 243 243=true from rfl];simp only [hb,hk]
theorem qfV {h0 h:AH} {rs:List Rs} {bb:Nat} (S:Hs h0 h (bst bb (.pointer none) (.slice none 0 0) :: rs)) (n:Nat) (hn:1≤n∧n≤1000000):Fn Tryz.prog Xh 172 [.pointer (some ⟨bb,0,none⟩),.int .i64 n] h (fun r h'=>∃ v',Hs h0 h' (bst bb (.pointer (some ⟨bb,0,none⟩)) v' :: wo v' [] :: rs)):=by
 refine qA (by first|rfl) Tryz.func172 rfl rfl ?_;all_goals (repeat' (first|refine qg ?_|(refine qc 0 ?_;refine mv ?_)))
 (refine qm rfl rfl rfl rfl rfl ((kP S (.inl rfl)).mono ?_);rintro _ h S2)<;>(replace S:=S2;clear S2;refine qf ?_)
 all_goals (repeat' (first|refine qg ?_|refine qh rfl ?_|refine qi ?_|(refine qc 1 ?_;refine mv ?_;(refine cF ?_)<;>(refine qf ?_))))
 refine qF 3 ?_;refine mv ?_;refine vl ?_;refine vl ?_;refine lB S rfl rfl ?_;refine vl ?_;refine mv ?_;refine vl ?_;refine vl ?_;refine lB S rfl rfl ?_;refine vl ?_;(refine sb ?_);refine mv ?_;(refine cT ?_)<;>(refine qf ?_)
 all_goals (repeat' (first|refine qh rfl ?_|(refine qc 4 ?_;refine mv ?_;refine mv ?_)))
 (refine qm rfl rfl rfl rfl rfl ((qec S n (by omega)).mono ?_);rintro _ h ⟨v',S2⟩)<;>(replace S:=S2;clear S2;refine qf ?_)
 all_goals (repeat' (fail))
 refine ⟨_,rfl,?_⟩;exact ⟨_,S⟩
theorem qdu {h0:AH} (w:WfH h0) {v:Value} {l:List (List UInt8)} (r:zl h0 v 1 eS l) (hcp:Qn v) (hl:2≤l.length∧l.length≤30) (hw:∀ u∈l,u.length≤1000):Fn Tryz.prog Xh 123 [v,str [32]] h0 (fun u h'=>u=str (Zz l)∧Hs h0 h' []):=by
 have S:=Hs.start w;have hwi:∀ i,i<l.length→(l.getD i default).length≤1000:=fun i hi=>hw _ (qK hi);have hq:(1:Int)<9223372036854775807 / ((l.length:Int) - 1):=by
  have:(2:Int)≤9223372036854775807 / ((l.length:Int) - 1):=Int.le_ediv_of_mul_le (by omega) (by omega);omega
 refine qA (by first|rfl) Tryz.func123 rfl rfl ?_;all_goals (repeat' (first|refine qg ?_|refine qh rfl ?_|refine qi ?_|refine ql ?_|(refine qc 0 ?_;refine mv ?_;refine qf ?_)|(refine qc 1 ?_;refine mv ?_;refine jc S ?_;refine qf ?_)|(refine qc 2 ?_;(refine cF ?_)<;>(refine mv ?_;refine qf ?_))|(refine qc 4 ?_;(refine cF ?_)<;>(refine mv ?_;refine qf ?_))|(refine qc 6 ?_;refine mv ?_;refine qf ?_)|(refine qc 7 ?_;refine mv ?_;refine tl ?_;(first|(refine cS ?_ ?_<;>intro hc))<;>(refine qf ?_))|(refine qc 8 ?_;refine mv ?_;refine tl ?_;refine mv ?_;refine jc S ?_;refine sb ?_;refine qu ?_;(first|(refine cS ?_ ?_<;>intro hc))<;>(refine qf ?_))|(refine qc 10 ?_;refine mv ?_;refine mv ?_;refine tl ?_;refine mv ?_;refine jc S ?_;refine sb ?_;refine ml ?_;refine ad ?_;refine mv ?_;refine qf ?_)|(refine qc 11 ?_;refine mv ?_;refine jc S ?_;refine mv ?_;refine qf ?_)))
 all_goals rw [show ((([32]:List UInt8).length:Nat):Int)=1 from rfl] at *
 all_goals (first|(exfalso;omega)|skip)
 refine qB (σ:=Nat×Nat) (fun (i,s) h'=>Hs h0 h' []∧i≤l.length∧1≤s∧s≤30+1000*i) (fun (i,s)=>l.length - i) (fun (i,s)=>[(0,v),(1,str [32]),(5,.int .i64 s),(39,v),(40,.int .i64 l.length),(41,.int .i64 i)]) (0,l.length - 1) qw ?_ ?_
 ·exact ⟨S,zB0 _,by omega,by omega⟩
 clear S;rintro ⟨i,s⟩ h ⟨S,i1,i2,i3⟩;all_goals (repeat' (first|refine qg ?_|refine qh rfl ?_|refine qi ?_|refine qy ?_|refine ql ?_|(refine qc 12 ?_;(first|(refine cS ?_ ?_<;>intro hc))<;>(refine qf ?_))))
 ·have hwq:=hwi i (by omega);all_goals (repeat' (first|refine qg ?_|refine qh rfl ?_|refine qi ?_|(refine qc 13 ?_;refine zT S ?_;refine zQ S ?_;refine mv ?_;refine qf ?_)|(refine qc 14 ?_;refine mv ?_;refine tl ?_;refine mv ?_;refine sb ?_;(first|(refine cS ?_ ?_<;>intro hc))<;>(refine qf ?_))))
  all_goals (try simp only [zA0] at *)
  all_goals (first|(exfalso;omega)|skip)
  all_goals (repeat' (first|(refine qc 16 ?_;refine mv ?_;refine mv ?_;refine tl ?_;refine ad ?_;refine mv ?_;refine qf ?_)|(refine qc 17 ?_;refine ad ?_;refine mv ?_;refine qf ?_)))
  refine ⟨(i+1,s+(l.getD i default).length),?_,?_,qw⟩
  ·show l.length - (i+1)<l.length - i;omega
  ·exact ⟨S,by omega,by omega,by omega⟩
 ·skip
  all_goals (repeat' (first|refine qg ?_|(refine qc 18 ?_;(refine al S ?_;clear S;intro b h S);refine qf ?_)))
  obtain ⟨bb,hnm⟩:∃ x,x=b:=⟨_,rfl⟩;subst hnm;all_goals (repeat' (first|(refine qc 19 ?_;refine mv ?_)))
  (refine qm rfl rfl rfl rfl rfl ((qfV S s (by omega)).mono ?_);rintro _ h ⟨v1,S2⟩)<;>(replace S:=S2;clear S2;refine qf ?_)
  all_goals (repeat' (first|refine qg ?_|(refine qc 20 ?_;refine mv ?_;refine zT S ?_;refine zQ S ?_)))
  have hb1:([]:List UInt8).length+(l.getD 0 default).length≤1000000:=by have:=hwi 0 (by omega);simp only [List.length_nil];omega
  (refine qm rfl rfl rfl rfl rfl ((jH (l.getD 0 default) S (.inr rfl) hb1).mono ?_);rintro _ h ⟨v2,S2⟩)<;>(replace S:=S2;clear S2;refine qf ?_)
  rw [zC0] at S;(repeat (refine qg ?_));refine qc 21 ?_;refine mv ?_;refine su0 1 l.length S w r hcp ?_;intro vq rq cq;have hlq:((l.drop 1).take (l.length - 1)).length=l.length - 1:=by simp
  (refine jc S ?_);refine mv ?_;refine qf ?_;all_goals (repeat' (refine ql ?_))
  rw [hlq];obtain ⟨q,hqd⟩:∃ q,q=(l.drop 1).take (l.length - 1):=⟨_,rfl⟩
  rw [← hqd] at rq hlq;have hqw:∀ u∈q,u.length≤1000:=fun u hu=>hw u (List.mem_of_mem_drop (List.mem_of_mem_take (hqd ▸ hu)));have hql:q=l.drop 1:=by rw [hqd];exact zF8 (by simp)
  have hl0:l=l.getD 0 default :: q:=by
   rw [hql];match l,hl with
   | a :: t,_=>rfl
  refine qB (σ:=Nat×Value) (fun (i,v3) h'=>Hs h0 h' [bst bb (.pointer (some ⟨bb,0,none⟩)) v3,wo v3 (l.getD 0 default ++ tlW (q.take i))]∧i≤q.length) (fun (i,v3)=>q.length - i) (fun (i,v3)=>[(1,str [32]),(8,.pointer (some ⟨bb,0,none⟩)),(63,vq),(64,.int .i64 ((l.length - 1:Nat):Int)),(65,.int .i64 i)]) (0,v2) qw ?_ ?_
  ·exact ⟨by rw [List.take_zero];simpa [tlW] using S,zB0 _⟩
  clear S;rintro ⟨i,v3⟩ h ⟨S,i1⟩;have hT:=qdf (r:=q.take i) fun u hu=>hqw u (List.mem_of_mem_take hu);have hT2:(q.take i).length≤30:=by simp;omega
  have h0w:=hwi 0 (by omega);all_goals (repeat' (first|refine qg ?_|refine qh rfl ?_|refine qi ?_|refine qy ?_|refine ql ?_|(refine qc 22 ?_;(first|(refine cS ?_ ?_<;>intro hc))<;>(refine qf ?_))))
  ·have hiq:i<q.length:=by omega
   have hwq:=hqw _ (qK hiq);all_goals (repeat' (first|refine qg ?_|(refine qc 23 ?_;refine zT S ?_;refine zQ S ?_;refine mv ?_;refine qf ?_)|(refine qc 24 ?_;refine mv ?_)))
   have hb2:(l.getD 0 default ++ tlW (q.take i)).length+([32]:List UInt8).length≤1000000:=by rw [zB2];simp only [zC4,List.length_nil];omega
   have hb3:(l.getD 0 default ++ tlW (q.take i) ++ [32]).length+(q.getD i default).length≤1000000:=by simp only [zB2,zC4,List.length_nil];omega
   (refine qm rfl rfl rfl rfl rfl ((jH [32] S (.inr rfl) hb2).mono ?_);rintro _ h ⟨v4,S2⟩)<;>(replace S:=S2;clear S2;refine qf ?_)
   all_goals (repeat' (first|(refine qc 25 ?_;refine mv ?_)))
   (refine qm rfl rfl rfl rfl rfl ((jH (q.getD i default) S (.inr rfl) hb3).mono ?_);rintro _ h ⟨v5,S2⟩)<;>(replace S:=S2;clear S2;refine qf ?_)
   all_goals (repeat' (first|(refine qc 26 ?_;refine ad ?_;refine mv ?_;refine qf ?_)))
   refine ⟨(i+1,v5),?_,?_,qw⟩
   ·show q.length - (i+1)<q.length - i;omega
   ·refine ⟨?_,by omega⟩;rw [qY hiq,GY,← zF2,← zF2];exact S
  ·obtain rfl:i=q.length:=by omega
   rw [zD4,← VE,← hl0] at S;have hjl:0<(Zz l).length:=by
    rw [hl0,VE];cases q with
    | nil=>exfalso;simp only [List.length_nil] at hlq;omega
    | cons a t=>simp only [tlW,zG2,zB2,zC4];omega
   have hjm:(Zz l).length≤1000000:=by rw [hl0,VE,zB2];rw [zD4] at hT hT2;omega
   all_goals (repeat' (first|(refine qc 27 ?_;skip)))
   (refine qm rfl rfl rfl rfl rfl ((xe S ⟨hjl,hjm⟩).mono ?_);rintro _ h ⟨rfl,S2⟩)<;>(replace S:=S2;clear S2;refine mv ?_;refine qf ?_)
   all_goals (repeat' (fail))
   refine qj ⟨_,rfl,?_⟩;exact ⟨rfl,S.drop⟩
theorem qcc {h0:AH} (w:WfH h0) {v:Value} {u:List UInt8} (r:zl h0 v 1 eS [u]):Fn Tryz.prog Xh 123 [v,str [32]] h0 (fun x h'=>x=str u∧Hs h0 h' []):=by
 have S:=Hs.start w;refine qA (by first|rfl) Tryz.func123 rfl rfl ?_;all_goals (repeat' (first|refine qg ?_|refine qh rfl ?_|refine ql ?_|(refine qc 0 ?_;refine mv ?_;refine qf ?_)|(refine qc 1 ?_;refine mv ?_;refine jc S ?_;refine qf ?_)|(refine qc 2 ?_;(first|(refine cS ?_ ?_<;>intro hc))<;>(refine mv ?_;refine qf ?_))|(refine qc 3 ?_;refine mv ?_;refine qf ?_)))
 ·exact absurd (by assumption:((([u]:List (List UInt8)).length:Nat):Int)=0) (by simp)
 all_goals (repeat' (first|refine qg ?_|refine qh rfl ?_|refine qi ?_|(refine qc 4 ?_;(first|(refine cS ?_ ?_<;>intro hc))<;>(refine mv ?_;refine qf ?_))|(refine qc 5 ?_;refine mv ?_;refine zT S ?_;refine zQ S ?_;refine mv ?_;refine qf ?_)))
 ·refine qj ⟨_,rfl,?_⟩;exact ⟨rfl,S⟩
 ·exact absurd (show ((([u]:List (List UInt8)).length:Nat):Int)=1 from rfl) (by assumption)
end Go.Proofs.Xx
namespace Go.Proofs.Xx
open Go Go.Proofs
variable [Flag]
theorem qfk {h0 h:AH} {rs:List Rs} {v c:Value} (S:Hs h0 h rs):Fn Tryz.prog Xh 187 [v,.int .i64 0,.int .i64 0,c] h (fun _ h'=>Hs h0 h' rs):=by
 refine qA (by first|rfl) Tryz.func187 rfl rfl ?_;all_goals (repeat' (first|refine qg ?_|refine ql ?_|(refine qc 0 ?_;refine mv ?_;refine ad ?_;refine mv ?_;refine qf ?_)))
 refine qB (σ:=Unit) (fun _ h'=>Hs h0 h' rs) (fun _=>0) (fun _=>[(0,v),(1,.int .i64 0),(2,.int .i64 0),(3,c),(8,.int .i64 1)]) () qw ?_ ?_
 ·exact S
 clear S;rintro _ h S;all_goals (repeat' (first|refine qg ?_|refine qh rfl ?_|refine qy ?_|(refine qc 1 ?_;refine mv ?_;refine mv ?_;(refine cF ?_)<;>(refine qf ?_))))
 all_goals first|skip
 refine ⟨_,rfl,?_⟩;exact S
theorem qdr {h0 h:AH} {rs:List Rs} {c:Value} (S:Hs h0 h rs):Fn Tryz.prog Xh 128 [.slice none 0 0,c] h (fun _ h'=>Hs h0 h' rs):=by
 have key:∀ (lim:Nat) (h:AH),Hs h0 h rs→Fn Tryz.prog Xh 185 [.slice none 0 0,.int .i64 0,.int .i64 0,.int .i64 lim,c] h (fun _ h'=>Hs h0 h' rs):=fun lim h S=>by
  refine qA (by first|rfl) Tryz.func185 rfl rfl ?_;all_goals (repeat' (first|refine qg ?_|refine ql ?_|(refine qc 0 ?_;refine mv ?_;refine qf ?_)|(refine qc 1 ?_;refine mv ?_;refine qf ?_)))
  refine qB (σ:=Unit) (fun _ h'=>Hs h0 h' rs) (fun _=>0) (fun _=>[(0,.slice none 0 0),(1,.int .i64 0),(2,.int .i64 0),(3,.int .i64 lim),(4,c)]) () qw ?_ ?_
  ·exact S
  clear S;rintro _ h S;all_goals (repeat' (first|refine qg ?_|refine qh rfl ?_|refine ql ?_|(refine qc 2 ?_;refine mv ?_;refine mv ?_;refine sb ?_;refine mv ?_;refine qf ?_)|(refine qc 3 ?_;refine mv ?_;(refine cT ?_)<;>(refine qf ?_))))
  all_goals first|skip
  all_goals (repeat' (first|(refine qc 4 ?_;(iterate 4 refine mv ?_);skip)))
  (refine qm rfl rfl rfl rfl rfl ((qfk S).mono ?_);rintro _ h S2)<;>(replace S:=S2;clear S2;refine qf ?_)
  all_goals (repeat' (fail))
  refine qj ⟨_,rfl,?_⟩;exact S
 have S:=S.ZF (e:=3) (z:=1) (enc:=eI);refine qA (by first|rfl) Tryz.func128 rfl rfl ?_;all_goals (repeat' (first|refine qg ?_|(refine qc 0 ?_;refine mv ?_;refine Py S rfl rfl ?_;refine mv ?_;refine qf ?_)|(refine qc 1 ?_;(iterate 3 refine mv ?_);refine cW ?_)))
 (refine qm rfl rfl rfl rfl rfl ((KG S.wf 0 (by omega)).mono ?_);rintro _ h ⟨rfl,x⟩)<;>(replace S:=S.qx x;clear x;refine mv ?_)
 (refine qm rfl rfl rfl rfl rfl ((key (WH 0) _ S.tail).mono ?_);rintro _ h S2)<;>(replace S:=S2;clear S2;refine qf ?_)
 all_goals (repeat' (fail))
 refine ⟨_,rfl,?_⟩;exact S
theorem xA {h0:AH} (w:WfH h0) (pv:PbV) (p:Pb) (H:PbOk h0 pv p) (hn:p.us.length=0) {c:Value} :
 Fn Tryz.prog Xh 67 [pv.val,c] h0 (fun u h'=>Hs h0 h' [.sl u 3 1 eI []]):=by
 have S:=Hs.start w;have h2:=H.rol.rg;have e2:pv.rl.gs.length=p.us.length:=H.rol.len;have e3:pv.gs.length=p.us.length:=H.rol.len;unfold PbV.val;refine qA (by first|rfl) Tryz.func67 rfl rfl ?_;all_goals (repeat' (first|refine qg ?_|refine ql ?_|(refine qc 0 ?_;(refine bx S ?_;clear S;intro b h S);refine mv ?_;refine qf ?_)|(refine qc 1 ?_;refine mv ?_;refine qf ?_)|(refine qc 2 ?_;refine vl ?_;refine lB S rfl rfl ?_;refine jc S ?_;refine mv ?_;refine qf ?_)))
 obtain ⟨b2,hnm⟩:∃ x,x=b:=⟨_,rfl⟩;subst hnm;refine qB (σ:=Unit) (fun _ h'=>Hs h0 h' [.blk b2 pv.cs 28]) (fun _=>0) (fun _=>[(1,c),(2,.pointer (some ⟨b2,0,none⟩)),(5,.slice none 0 0),(9,.int .i64 p.us.length),(10,.int .i64 0)]) () qw ?_ ?_
 ·exact S
 clear S;rintro _ h S;all_goals (repeat' (first|refine qg ?_|refine qh rfl ?_|refine qy ?_|(refine qc 3 ?_;(refine cF ?_)<;>(refine qf ?_))))
 all_goals first|skip
 all_goals (repeat' (first|(refine qc 7 ?_;refine mv ?_;refine mv ?_)))
 (refine qm rfl rfl rfl rfl rfl ((qdr S).mono ?_);rintro _ h S2)<;>(replace S:=S2;clear S2;refine qf ?_)
 all_goals (repeat' (first|refine qg ?_|(refine qc 8 ?_;refine mv ?_;refine mv ?_;refine qf ?_)))
 refine qj ⟨_,rfl,?_⟩;exact Hs.ZF S.drop
end Go.Proofs.Xx
namespace Go.Proofs.Xx
open Go Go.Proofs
open Classical in
theorem Wl {N:Int→Int→Prop} {k a:Int} {P:Int→Prop} (h:∀ m:Nat,P (a - k+m)→N k m):∀ m:Nat,(Yo N k a m).filter (fun y=>decide (P y))=(((List.range m).map fun j:Nat=>a - k+(j:Int)).filter fun y=>decide (P y))
 | 0=>rfl
 | m+1=>by
  have ih:=Wl (N:=N) (k:=k) (a:=a) (P:=P) h m;rw [List.range_succ,zC9,zD1,← ih,Yo];by_cases q:N k m
  ·rw [if_pos q,zD1];rfl
  ·rw [if_neg q];have:¬ P (a - k+m):=fun z=>q (h m z);simp [this]
open Classical in
theorem qan {P:Int→Prop} {lo sz n:Nat} (hn:lo+sz≤n) (h:∀ y:Int,P y→(lo:Int)≤y∧y<lo+sz):(Ju n).filter (fun y=>decide (P y))=(((List.range sz).map fun j:Nat=>(lo:Int)+(j:Int)).filter fun y=>decide (P y)):=by
 have e:Ju n=Ju lo ++ ((List.range sz).map fun j:Nat=>(lo:Int)+(j:Int)) ++ ((List.range (n - (lo+sz))).map fun j:Nat=>((lo+sz:Nat):Int)+(j:Int)):=by
  unfold Ju;have e1:List.range n=List.range (lo+sz) ++ (List.range (n - (lo+sz))).map (fun j=>(lo+sz)+j):=by
   rw [← List.range_add];congr 1;omega
  rw [e1,List.range_add,zC9,zC9,List.map_map,List.map_map];rfl
 rw [e,zD1,zD1];have z1:(Ju lo).filter (fun y=>decide (P y))=[]:=List.filter_eq_nil_iff.2 fun y hy q=>by
  have:=Yh hy;have:=h y (by simpa using q);omega
 have z2:((List.range (n - (lo+sz))).map fun j:Nat=>((lo+sz:Nat):Int)+(j:Int)).filter (fun y=>decide (P y))=[]:=List.filter_eq_nil_iff.2 fun y hy q=>by
  obtain ⟨j,hj,rfl⟩:=zF1.1 hy;have:=h _ (by simpa using q);omega
 rw [z1,z2,zC0,zD7]
open Classical in
theorem qcz {l:List Tab} {s:Int} {out:List Int} {i k:Nat} (h:NbR l s out) (w:WhereI l s i k) {P:Int→Prop} (hQ:∀ y,P y→ve zB l s y) :
 out.filter (fun y=>decide (P y))=(Ju (sumT l l.length).toNat).filter fun y=>decide (P y):=by
 rcases h with ⟨i',k',w',rfl⟩|⟨-,h⟩
 ·obtain ⟨rfl,rfl⟩:=w.unique w';have hs:=w.2.2.2;have h0:0≤sumT l i:=(zD l i).1;have hm:=Jh l (show i+1≤l.length from w.2.1);have e1:sumT l (i+1)=sumT l i+qP (tb l i):=rfl;have hz:0≤qP (tb l i):=by have:=w.2.2.1;omega
  have hP:∀ y:Int,P y→∃ m:Nat,y=s - k+m∧(m:Int)<qP (tb l i)∧zB (tb l i) k m:=fun y q=>by
   obtain ⟨i',k',m,q1,q2,q3⟩:=hQ y q;obtain ⟨rfl,rfl⟩:=w.unique q1;exact ⟨m,by have:=q2.2.2.2;omega,q2.2.2.1,q3⟩
  have hN:∀ m:Nat,P (s - k+m)→JY (tb l i) k m:=fun m q=>by
   obtain ⟨m',e,-,b⟩:=hP _ q;obtain rfl:m=m':=by omega
   exact .inl b
  rw [Wl hN];rw [qan (P:=P) (lo:=(sumT l i).toNat) (sz:=(qP (tb l i)).toNat) (by omega) fun y q=>by
   obtain ⟨m,e,b,-⟩:=hP _ q;omega]
  have e2:s - (k:Int)=((sumT l i).toNat:Int):=by omega
  rw [e2]
 ·exact absurd w (h i k)
def wRank:List UInt8:=[114,97,110,107]
def wTable:List UInt8:=[116,97,98,108,101]
def wDiet:List UInt8:=[100,105,101,116]
def wBeside:List UInt8:=[98,101,115,105,100,101]
def J5 (q:List Int) (y:Int):Nat:=q.findIdx fun x=>decide (x=y)
theorem YD {q:List Int} {y:Int} {k:Nat} (hk:k<q.length) (h1:q.getD k default=y) (h2:∀ j,j<k→¬ q.getD j default=y):J5 q y=k:=by
 unfold J5;rw [List.findIdx_eq hk];refine ⟨?_,fun j hj=>?_⟩
 ·rw [zA2,zA4 hk] at h1;simpa using h1
 ·have:=h2 j hj;rw [zA2,zA4 (by omega)] at this;simpa using this
def jF (q:List Int) (y:Int):Prop:=∃ i,i<q.length∧q.getD i default=y
def Yw (l:List Tab) (q:List Int) (s y:Int):Prop:=jF q y∧ve zB l s y
open Classical in
noncomputable def Vh (P:Int→Prop) (l:List Int):List Int:=l.filter fun y=>decide (P y)
theorem WZ {P:Int→Prop} {l:List Int} {y:Int} (h:P y):Vh P (l ++ [y])=Vh P l ++ [y]:=by unfold Vh;simp [h]
theorem XQ {P:Int→Prop} {l:List Int} {y:Int} (h:¬ P y):Vh P (l ++ [y])=Vh P l:=by unfold Vh;simp [h]
theorem W9 {P:Int→Prop}:Vh P []=[]:=rfl
theorem KW {P:Int→Prop} {l:List Int}:(Vh P l).length≤l.length:=List.length_filter_le _ _
theorem XR {P:Int→Prop} {l:List Int} {y:Int} (h:y∈Vh P l):y∈l∧P y:=by
 unfold Vh at h;obtain ⟨h1,h2⟩:=zE0.1 h;exact ⟨h1,by simpa using h2⟩
noncomputable def P9 (l:List Tab) (q:List Int) (s:Int):List Int:=Vh (Yw l q s) (Ju (sumT l l.length).toNat)
theorem qbH {l:List Tab} {q:List Int} {s:Int} {out:List Int} {i k:Nat} (h:NbR l s out) (hw:WhereI l s i k):Vh (Yw l q s) out=P9 l q s:=qcz h hw fun y z=>z.2
def nmS (us:List Gu) (q:List Int) (y:Int):List UInt8:=(us.getD (J5 q y) default).name
noncomputable def ZJ (p:Pb) (q:List Int) (s:Int):List (List UInt8):=(P9 p.tabs q s).map (nmS p.us q)
noncomputable def YQ (l:List Tab) (s:Int):Nat:=(tOf l s).toNat
noncomputable def xC (l:List Tab) (s:Int):Nat:=(s - sumT l (YQ l s)).toNat
theorem XJ {l:List Tab} {s:Int} {i k:Nat} (h:WhereI l s i k):YQ l s=i∧xC l s=k:=by
 have e:YQ l s=i:=by unfold YQ;rw [Vl h];rfl
 refine ⟨e,?_⟩;unfold xC;rw [e];have:=h.2.2.2;omega
theorem V6 {l:List Tab} (hv:ValidL l) {s:Int} (h0:0≤s):∀ n,n≤l.length→s<sumT l n→∃ i k,WhereI l s i k
 | 0,_,h=>by simp only [sumT] at h;omega
 | n+1,hn,h=>by
  by_cases q:s<sumT l n
  ·exact V6 hv h0 n (by omega) q
  ·have e:sumT l (n+1)=sumT l n+qP (tb l n):=rfl;obtain ⟨k,hk⟩:=zH3 (show 0≤s - sumT l n by omega);exact ⟨n,k,hv,by omega,by omega,by omega⟩
noncomputable def Y6 (p:Pb) (q:List Int) (g:Nat):List UInt8 :=
 (wGuest ++ [32] ++ (p.us.getD g default).name ++ [10]) ++ (if (p.us.getD g default).rank=[] then [] else wRank ++ [32] ++ (p.us.getD g default).rank ++ [10]) ++
 (wTable ++ [32] ++ zW p.tabs (YQ p.tabs (q.getD g default)) (xC p.tabs (q.getD g default)) ++ [10]) ++ (if (p.us.getD g default).diet=[] then [] else wDiet ++ [32] ++ (p.us.getD g default).diet ++ [10])
noncomputable def jl (p:Pb) (q:List Int) (g:Nat):List UInt8 :=
 Y6 p q g ++ (if ZJ p q (q.getD g default)=[] then [] else wBeside ++ [32] ++ Zz (ZJ p q (q.getD g default)) ++ [10])
theorem PO.gst {pv:PbV} {p:Pb} {h:AH} (hP:PO p) (H:PbOk h pv p) {g:Nat} (hg:g<p.us.length):(pv.gs.getD g default).toGu=p.us.getD g default∧Qq (p.us.getD g default).name∧(p.us.getD g default).rank.length≤12∧(p.us.getD g default).diet.length≤12:=by
 have e:pv.gs.map (·.toGu)=p.us:=H.rol.us;have hl:pv.gs.length=p.us.length:=H.rol.len;have c:=qbN (hP.rl.chk _ (qK hg));have sm:∀ {s:List UInt8},X7 s→s.length≤12:=fun {s} z=>by
  rcases z with rfl|z
  ·exact zB0 _
  ·exact z.2.1
 refine ⟨?_,c.1.1,sm c.1.2.1,sm c.1.2.2.2⟩;have:(pv.gs.map (·.toGu)).getD g default=(pv.gs.getD g default).toGu:=ji (f:=fun x:ZL=>x.toGu) (show g<pv.gs.length by omega);rw [← this,e]
theorem qbB {l:List Tab} {a:Int} {out:List Int} (h:NbR l a out):out.length≤24:=by
 rcases h with ⟨i,k,-,rfl⟩|⟨rfl,-⟩
 ·have h1:=yc (JY (tb l i)) k a (qP (tb l i)).toNat;have h2:=zO (tb l i);omega
 ·simp
theorem qaT {p:Pb} (hP:PO p) {pv:PbV} {h:AH} (H:PbOk h pv p) {q:List Int} (hq:q.length=p.us.length) {y:Int} (hs:jF q y):(nmS p.us q y).length≤12:=by
 obtain ⟨i,hi,e⟩:=hs;have hw:J5 q y<q.length:=by
  unfold J5;rw [List.findIdx_lt_length];exact ⟨y,by rw [← e];exact qK hi,by simp⟩
 exact (hP.gst H (show J5 q y<p.us.length by omega)).2.1.2.1
theorem yO {l:List Tab} {q:List Int} {s:Int} {i k:Nat} (hw:WhereI l s i k):(P9 l q s).length≤24:=by
 rw [← qbH (q:=q) (out:=Yo (JY (tb l i)) k s (qP (tb l i)).toNat) (.inl ⟨i,k,hw,rfl⟩) hw];exact zD0 KW (qbB (l:=l) (a:=s) (.inl ⟨i,k,hw,rfl⟩))
variable [Flag]
theorem pg {h0:AH} (w:WfH h0) (hf:Flag.b=true) (pv:PbV) (p:Pb) (H:PbOk h0 pv p) (hP:PO p) (vq:Value) (q:List Int) (rq:zl h0 vq 1 eI q) (hQ:PartOk p q) (g:Nat) (hg:g<q.length) (hs:0≤q.getD g default) :
 Fn Tryz.prog Xh 56 [pv.val,vq,.int .i64 g] h0 (fun u h'=>u=str (jl p q g)∧Hs h0 h' []):=by
 have S:=Hs.start w;have hql:=hQ.len;have h64:p.us.length≤64:=hP.rl.l64;have hgl:pv.gs.length=p.us.length:=H.rol.len;have rg:zl h0 pv.vg.val 9 eG pv.gs:=H.rol.rg;have hrg:=hQ.rng _ (qK hg);obtain ⟨i,k,hw⟩:=V6 hP.tabs hs p.tabs.length (zA3 _) hrg.2;have hsm:q.getD g default≤1000000:=by
  have:=zD p.tabs p.tabs.length;have:=hP.tabs.1;omega
 obtain ⟨e1,e2,e3,e4⟩:=hP.gst H (show g<p.us.length by omega);have hx0:q.getD (g:Int).toNat default=q.getD g default:=rfl;have hx1:pv.gs.getD (g:Int).toNat default=pv.gs.getD g default:=rfl;have e2l:=e2.2.1;obtain ⟨s1,s2⟩:=XJ hw;have hkb:=hw.szb;have hdg:=Zj 8 k (by omega);have hnt:=(hw.1.nm hw.2.1).2.1;have hplT:(zW p.tabs i k).length≤30:=by unfold zW;simp only [zB2,zC4,List.length_nil];omega
 have hbl:=yO (q:=q) hw;have hA:Y6 p q g=(wGuest ++ [32] ++ (p.us.getD g default).name ++ [10]) ++ (if (p.us.getD g default).rank=[] then [] else wRank ++ [32] ++ (p.us.getD g default).rank ++ [10]) ++ (wTable ++ [32] ++ zW p.tabs i k ++ [10]) ++ (if (p.us.getD g default).diet=[] then [] else wDiet ++ [32] ++ (p.us.getD g default).diet ++ [10]):=by
  unfold Y6;rw [s1,s2]
 unfold PbV.val;refine qA (by first|rfl) Tryz.func56 rfl rfl ?_;all_goals (repeat' (first|refine qg ?_|(refine qc 0 ?_;(refine bx S ?_;clear S;intro b h S);refine mv ?_;refine qf ?_)))
 obtain ⟨b3,hnm⟩:∃ x,x=b:=⟨_,rfl⟩;subst hnm;all_goals (repeat' (first|refine qg ?_|(refine qc 1 ?_;refine vl ?_;refine lB S rfl rfl ?_;refine mv ?_;refine zT S ?_;refine zQ S ?_;(refine al S ?_;clear S;intro b h S);(first|(refine sB S rfl rfl ?_;clear S;intro h S));refine qf ?_)))
 obtain ⟨b7,hnm⟩:∃ x,x=b:=⟨_,rfl⟩;subst hnm;rw [hx1] at S;generalize hxx:pv.gs.getD g default=x0 at *
 generalize hyy:p.us.getD g default=y0 at *
 subst e1;all_goals (repeat' (first|refine qg ?_|(refine qc 2 ?_;refine vl ?_;refine lB S rfl rfl ?_;refine tcL ?_;refine tcL ?_;refine mv ?_;refine qf ?_)))
 (repeat (refine qg ?_));first|refine zL (σ:=List UInt8) (fun s h'=>Hs h0 h' [.blk b7 (eG x0) 45,.blk b3 pv.cs 28]∧s=([103,117,101,115,116,32] ++ x0.name ++ [10]) ++ (if x0.rank=[] then [] else [114,97,110,107,32] ++ x0.rank ++ [10])) (fun s=>[(1,vq),(2,.int .i64 g),(3,.pointer (some ⟨b3,0,none⟩)),(7,.pointer (some ⟨b7,0,none⟩)),(8,str s)]) ?_ ?_
 ·all_goals (repeat' (first|refine qh rfl ?_|refine qi ?_|(refine qc 3 ?_;refine vl ?_;refine lB S rfl rfl ?_;(refine tS ?_ ?_<;>intro hc)<;>(refine qf ?_))|(refine qc 4 ?_;refine mv ?_;refine vl ?_;refine lB S rfl rfl ?_;refine tcL ?_;refine tcL ?_;refine tcL ?_;refine mv ?_;refine qf ?_)))
  ·exact ⟨[103,117,101,115,116,32] ++ x0.name ++ [10],⟨S,by rw [if_pos (by assumption),zD7]⟩,(qw)⟩
  ·exact ⟨_,⟨S,by rw [if_neg (by assumption)]⟩,(qw)⟩
 clear S;rintro s h ⟨S,es⟩;have hsl:s.length≤100:=by
  rw [es];split<;>simp only [zB2,zC4,List.length_nil]<;>omega
 all_goals (repeat' (first|refine qg ?_|(refine qF 5 ?_;refine mv ?_;refine lB S rfl rfl ?_;refine mv ?_;refine mv ?_;refine zT S ?_;refine zQ S ?_)))
 (refine qm rfl rfl rfl rfl rfl ((wI S.wf hf pv p (H.ext w S.ext) (q.getD g default) hsm i k hw).mono ?_);rintro _ h ⟨rfl,x⟩)<;>(replace S:=S.qx x;clear x;refine tcL ?_;refine tcL ?_;refine tcL ?_;refine mv ?_;refine qf ?_)
 all_goals (repeat' (refine qg ?_))
 (repeat (refine qg ?_));first|refine zL (σ:=List UInt8) (fun s' h'=>Hs h0 h' [.blk b7 (eG x0) 45,.blk b3 pv.cs 28]∧s'=s ++ ([116,97,98,108,101,32] ++ zW p.tabs i k ++ [10]) ++ (if x0.diet=[] then [] else [100,105,101,116,32] ++ x0.diet ++ [10])) (fun s=>[(1,vq),(2,.int .i64 g),(3,.pointer (some ⟨b3,0,none⟩)),(8,str s)]) ?_ ?_
 ·all_goals (repeat' (first|refine qh rfl ?_|refine qi ?_|(refine qc 6 ?_;refine vl ?_;refine lB S rfl rfl ?_;(refine tS ?_ ?_<;>intro hc)<;>(refine qf ?_))|(refine qc 7 ?_;refine mv ?_;refine vl ?_;refine lB S rfl rfl ?_;refine tcL ?_;refine tcL ?_;refine tcL ?_;refine mv ?_;refine qf ?_)))
  ·exact ⟨s ++ ([116,97,98,108,101,32] ++ zW p.tabs i k ++ [10]),⟨S,by rw [if_pos (by assumption),zD7]⟩,(qw)⟩
  ·exact ⟨_,⟨S,by rw [if_neg (by assumption)]⟩,(qw)⟩
 clear S;rintro s' h ⟨S,es'⟩;have hsl':s'.length≤200:=by
  rw [es'];split<;>simp only [zB2,zC4,List.length_nil]<;>omega
 have hcA:s'=Y6 p q g:=by
  rw [hA,es',es];unfold wGuest wRank wTable wDiet;simp
 clear es es';replace S:Hs h0 h [.sl (.slice none 0 0) 9 1 eS [],.blk b7 (eG x0) 45,.blk b3 pv.cs 28]:=S.ZF;all_goals (repeat' (first|refine qg ?_|(refine qc 8 ?_;refine mv ?_;refine qf ?_)|(refine qF 9 ?_;refine vl ?_;refine lB S rfl rfl ?_;refine mv ?_;refine mv ?_;refine zT S ?_;refine zQ S ?_)))
 (refine qm rfl rfl rfl rfl rfl ((YY S.wf pv.vt.val p.tabs (H.tab.ext w S.ext) (q.getD g default) (by omega)).mono ?_);rintro vn h ⟨out,hnb,hol,x⟩)<;>(replace S:=S.QD x;clear x;refine Py S rfl rfl ?_;refine mv ?_;refine qf ?_)
 have hol:=qbB hnb;have hbes:=qbH (q:=q) hnb hw;all_goals (repeat' (refine ql ?_))
 replace S:Hs h0 h [.sl (.slice none 0 0) 9 1 eS [],.sl vn 3 1 eI out,.blk b7 (eG x0) 45,.blk b3 pv.cs 28]:=S.pick;refine qB (σ:=Nat×Value) (fun (j,vo) h'=>Hs h0 h' [.sl vo 9 1 eS ((Vh (Yw p.tabs q (q.getD g default)) (out.take j)).map (nmS p.us q)),.sl vn 3 1 eI out,.blk b7 (eG x0) 45,.blk b3 pv.cs 28]∧j≤out.length) (fun (j,vo)=>out.length - j) (fun (j,vo)=>[(1,vq),(2,.int .i64 g),(3,.pointer (some ⟨b3,0,none⟩)),(8,str s'),(9,vo),(56,vn),(57,.int .i64 out.length),(58,.int .i64 j)]) (0,.slice none 0 0) qw ?_ ?_
 ·exact ⟨S,zB0 _⟩
 clear S;rintro ⟨j,vo⟩ h ⟨S,g1⟩;all_goals (repeat' (first|refine qg ?_|refine qh rfl ?_|refine qi ?_|refine qy ?_|refine ql ?_|(refine qc 10 ?_;(first|(refine cS ?_ ?_<;>intro hc))<;>(refine qf ?_))))
 ·have hj:j<out.length:=by omega
  have hxj:out.getD (j:Int).toNat default=out.getD j default:=rfl;have htk:=qY hj;have hfl:((Vh (Yw p.tabs q (q.getD g default)) (out.take j)).map (nmS p.us q)).length≤24:=by
   rw [zC5];exact zD0 KW (by rw [zA9];omega)
  all_goals (repeat' (first|refine qg ?_|(refine qc 11 ?_;refine qR S rfl rfl ?_;refine zu S rfl rfl ?_;refine mv ?_;refine qf ?_)|(refine qc 12 ?_;refine mv ?_;refine mv ?_)))
  rw [hxj];generalize out.getD j default=y at *
  (refine qm rfl rfl rfl rfl rfl ((kz S.wf vq q (rq.ext w S.ext) (by omega) y).mono ?_);rintro _ h ⟨⟨hh,h1,rfl,h2,h3⟩|⟨rfl,h2⟩,x⟩)<;>(replace S:=S.qx x;clear x;refine mv ?_;refine qf ?_)
  ·have hya:jF q y:=⟨hh,h1,h2⟩
   have hyw:J5 q y=hh:=YD h1 h2 h3;have hy0:y≤1000000:=by
    rw [← h2];have:=(hQ.rng _ (qK h1)).2;have:=zD p.tabs p.tabs.length;have:=hP.tabs.1;omega
   have hx2:pv.gs.getD (hh:Int).toNat default=pv.gs.getD hh default:=rfl;have hnm:(pv.gs.getD hh default).name=nmS p.us q y:=by
    unfold nmS;rw [hyw,← (hP.gst H (show hh<p.us.length by omega)).1]
   all_goals (repeat' (first|refine qg ?_|(refine qF 13 ?_;refine mv ?_;(refine cT ?_)<;>(refine mv ?_;(first|(refine vl ?_));(first|(refine lB S rfl rfl ?_));refine mv ?_;refine mv ?_;(first|(refine zT S ?_));(first|(refine zQ S ?_));refine mv ?_;(skip)))))
   (refine qm rfl rfl rfl rfl rfl ((vV S.wf pv.vt.val p.tabs (H.tab.ext w S.ext) (q.getD g default) y (by omega) (by omega)).mono ?_);rintro _ h ⟨⟨rfl,z⟩|⟨rfl,z⟩,x⟩)<;>(replace S:=S.qx x;clear x;refine vl ?_;refine qf ?_)
   all_goals (all_goals (repeat' (first|refine qh rfl ?_|refine qi ?_|(refine qc 14 ?_;refine mv ?_;refine vl ?_;refine lB S rfl rfl ?_;refine mv ?_;refine zT S ?_;refine fB S ?_;refine zQ S ?_;(refine one 1 S ?_;clear S;intro u h S)))))
   ·rw [hx2,hnm] at S;refine app (y0:=(nmS p.us q y)) S rfl rfl ?_;clear S;intro v h S;rw [← List.map_singleton,← zC9,← WZ (show Yw p.tabs q (q.getD g default) y from ⟨hya,z⟩),← htk] at S;refine mv ?_;refine qf ?_;all_goals (repeat' (first|(refine qc 15 ?_;refine ad ?_;refine mv ?_;refine qf ?_)))
    refine ⟨(j+1,v),?_,?_,qw⟩
    ·show out.length - (j+1)<out.length - j;omega
    ·exact ⟨S,by (try dsimp only);omega⟩
   ·rw [← XQ (P:=Yw p.tabs q (q.getD g default)) (l:=out.take j) (y:=y) (fun c=>z c.2),← htk] at S;all_goals (repeat' (first|(refine qc 15 ?_;refine ad ?_;refine mv ?_;refine qf ?_)))
    refine ⟨(j+1,vo),?_,?_,qw⟩
    ·show out.length - (j+1)<out.length - j;omega
    ·exact ⟨S,by (try dsimp only);omega⟩
  ·rw [← XQ (P:=Yw p.tabs q (q.getD g default)) (l:=out.take j) (y:=y) (fun c=>by obtain ⟨⟨a,b,c⟩,-⟩:=c;exact h2 a b c),← htk] at S;all_goals (repeat' (first|refine qg ?_|refine qh rfl ?_|refine qi ?_|(refine qF 13 ?_;refine mv ?_;(refine cF ?_)<;>(refine mv ?_;refine off ?_;refine off ?_;refine off ?_;refine off ?_;refine off ?_;refine off ?_;refine off ?_;(first|(refine off ?_;refine vl ?_;refine qf ?_))))))
   all_goals (repeat' (first|(refine qc 15 ?_;refine ad ?_;refine mv ?_;refine qf ?_)))
   refine ⟨(j+1,vo),?_,?_,qw⟩
   ·show out.length - (j+1)<out.length - j;omega
   ·exact ⟨S,by (try dsimp only);omega⟩
 ·obtain rfl:j=out.length:=by omega
  rw [zD4,hbes] at S;replace S:Hs h0 h [.sl vo 9 1 eS (ZJ p q (q.getD g default)),.sl vn 3 1 eI out,.blk b7 (eG x0) 45,.blk b3 pv.cs 28]:=S;have hbn:(ZJ p q (q.getD g default)).length≤24:=by unfold ZJ;rw [zC5];exact hbl
  have hw12:∀ u∈ZJ p q (q.getD g default),u.length≤12:=fun u hu=>by
   obtain ⟨y,hy,rfl⟩:=zF1.1 hu;exact qaT hP H hql (XR hy).2.1
  have hjn:=PG hw12;have hcp:Qn vo:=S.qhb .here;have hcT:jl p q g=s' ++ (if ZJ p q (q.getD g default)=[] then [] else [98,101,115,105,100,101,32] ++ Zz (ZJ p q (q.getD g default)) ++ [10]):=by
   unfold jl wBeside;rw [hcA];simp
  have rdo:=Rd.jZ S .here;generalize ZJ p q (q.getD g default)=bn at *
  all_goals (repeat' (first|refine qg ?_|refine qh rfl ?_|refine qi ?_|(refine qc 16 ?_;refine mv ?_;refine Py S rfl rfl ?_;(first|(refine cS ?_ ?_<;>intro hc))<;>(refine qf ?_))|(refine qc 17 ?_;refine mv ?_;refine mv ?_)))
  ·have hjoin:∀ {h':AH},Hs h0 h' [.sl vo 9 1 eS bn,.sl vn 3 1 eI out,.blk b7 (eG x0) 45,.blk b3 pv.cs 28]→h'=h→Fn Tryz.prog Xh 123 [vo,str [32]] h' (fun u h'=>u=str (Zz bn)∧Hs h h' []):=fun S' e=>by
    subst e;match bn,hbn,hw12,rdo with
    | [],_,_,_=>exfalso;simp at *
    | [a],_,_,rdo=>exact (qcc S'.wf rdo).mono fun _ _ z=>z
    | a :: b :: r,hbn,hw12,rdo=>exact qdu S'.wf rdo hcp ⟨by simp,by omega⟩ fun u hu=>by have:=hw12 u hu;omega
   (refine qm rfl rfl rfl rfl rfl ((hjoin S rfl).mono ?_);rintro _ h ⟨rfl,x⟩)<;>(replace S:=S.qx x;clear x;refine tcL ?_;refine tcL ?_;refine tcL ?_;refine mv ?_;refine qf ?_)
   all_goals (repeat' (refine qg ?_))
   all_goals (repeat' (first|(refine qc 18 ?_;refine mv ?_;refine mv ?_;refine qf ?_)))
   refine qj ⟨_,rfl,?_⟩;refine ⟨?_,S.drop⟩;rw [hcT,if_neg (fun q=>absurd (show 0<bn.length by omega) (by rw [q];simp))];rfl
  ·all_goals (repeat' (first|(refine qc 18 ?_;refine mv ?_;refine mv ?_;refine qf ?_)))
   refine qj ⟨_,rfl,?_⟩;refine ⟨?_,S.drop⟩;rw [hcT,if_pos (List.eq_nil_of_length_eq_zero (by omega)),zD7];rfl
end Go.Proofs.Xx
