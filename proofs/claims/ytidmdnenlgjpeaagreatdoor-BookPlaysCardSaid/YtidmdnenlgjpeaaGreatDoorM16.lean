/-
  BookCircles.
-/
import Derived.Test.YtidmdnenlgjpeaaGreatDoorM15
import Derived.Test.YtidmdnenlgjpeaaGreatDoorM12
import Derived.Test.YtidmdnenlgjpeaaGreatDoorM13
import Derived.Test.YtidmdnenlgjpeaaGreatDoorM14
set_option linter.unusedSimpArgs false
set_option linter.unusedVariables false
set_option linter.unusedSectionVars false
set_option maxRecDepth 100000
set_option maxHeartbeats 4000000
namespace Go.Proofs.Xx
open Go Go.Proofs
theorem CirOk.same {r:Rl} (H:RO r) {cs:List Wd} (C:CirOk r cs) {i j:Nat} (hi:i<cs.length) (hj:j<cs.length) {x:List UInt8} (h1:x∈(cs.getD i default).ws) (h2:x∈(cs.getD j default).ws):i=j:=by
 have key:∀ i j,i<cs.length→j<cs.length→x∈(cs.getD i default).ws→x∈(cs.getD j default).ws→¬ zG ((cs.getD j default).ws.getD 0 default) ((cs.getD i default).ws.getD 0 default):=fun i j hi hj h1 h2=>by
  obtain ⟨a1,a2,a3⟩:=C.ss _ (qM hi);obtain ⟨b1,b2,b3⟩:=C.ss _ (qM hj);obtain ⟨k1,r1⟩:=(a3 x).1 h1;obtain ⟨k2,r2⟩:=(b3 x).1 h2;have hm:(cs.getD j default).ws.getD 0 default∈(cs.getD i default).ws:=(a3 _).2 ⟨k1,r1.trans r2.symm⟩;obtain ⟨z,z1,z2⟩:=qL.1 hm;have:=a1.le (zB0 z) z1;rwa [z2] at this
 rcases zE7 i j with q|q|q
 ·exact absurd (C.hd i j q hj) (key j i hj hi h2 h1)
 ·exact q
 ·exact absurd (C.hd j i q hi) (key i j hi hj h1 h2)
theorem Rch.alone {r:Rl} {k:Int} {n x:List UInt8} (h:Rch r k n x) (hno:∀ y,¬ adj r k n y):x=n:=by
 induction h with
 | refl=>rfl
 | step h a ih=>rw [ih] at a;exact absurd a (hno _)
def tot (cs:List Wd) (i:Nat):Nat:=((cs.take i).flatMap (·.ws)).length
theorem CirOk.nodup {r:Rl} (H:RO r) {cs:List Wd} (C:CirOk r cs) (i:Nat):((cs.take i).flatMap (·.ws)).Nodup:=by
 rw [List.Nodup,List.pairwise_flatMap];refine ⟨fun w hw=>(C.ss w (List.mem_of_mem_take hw)).1.nodup,?_⟩;rw [zD2];intro a b ha hb hab x hx y hy e;subst e;simp only [zA9] at ha hb;have ea:(cs.take i)[a]=cs.getD a default:=by rw [List.getElem_take,zA2,zA4 (show a<cs.length by omega)];rfl
 have eb:(cs.take i)[b]=cs.getD b default:=by rw [List.getElem_take,zA2,zA4 (show b<cs.length by omega)];rfl
 rw [ea] at hx;rw [eb] at hy;have:=C.same H (show a<cs.length by omega) (show b<cs.length by omega) hx hy;omega
theorem CirOk.qd4 {r:Rl} (H:RO r) {cs:List Wd} (C:CirOk r cs) (i:Nat):tot cs i≤r.us.length:=by
 have:=jw (C.nodup H i) (m:=r.us.map (·.name)) fun x hx=>by
  obtain ⟨w,w1,w2⟩:=zH1.1 hx;obtain ⟨-,-,w3⟩:=C.ss w (List.mem_of_mem_take w1);obtain ⟨k,rc⟩:=(w3 x).1 w2;exact ZL (rc.known H k)
 rwa [zC5] at this
theorem CirOk.tot {r:Rl} (H:RO r) {cs:List Wd} (C:CirOk r cs) (hall:∀ x,gat r.us x≠none→∃ w∈cs,x∈w.ws):Xx.tot cs cs.length=r.us.length:=by
 have h1:=C.qd4 H cs.length;have hn:(r.us.map (·.name)).Nodup:=by
  rw [List.Nodup,zD2];intro i j hi hj hij;simp only [zC5] at hi hj;have:=H.nd i j hij hj;rw [zA2,zA2,zA4 hj,zA4 hi] at this;simpa using this
 have h2:=jw hn (m:=(cs.take cs.length).flatMap (·.ws)) fun x hx=>by
  obtain ⟨g,g1,g2⟩:=zF2.1 hx;obtain ⟨w,w1,w2⟩:=hall x (Je.2 ⟨g,g1,g2⟩);rw [zD4];exact zH1.2 ⟨w,w1,w2⟩
 rw [zC5] at h2;unfold Xx.tot at *;omega
variable [Flag]
end Go.Proofs.Xx
namespace Go.Proofs.Xx
open Go Go.Proofs
variable [Flag]
end Go.Proofs.Xx
namespace Go.Proofs.Xx
open Go Go.Proofs
variable [Flag]
end Go.Proofs.Xx
namespace Go.Proofs.Xx
open Go Go.Proofs
def Q9:List Ti→Ti→List Ti
 | [],t=>[t]
 | x :: r,t=>if zW t x then t :: x :: r else x :: Q9 r t
theorem ww {t:Ti}:∀ {l:List Ti},(∀ x∈l,¬ zW t x)→Q9 l t=l ++ [t]
 | [],_=>rfl
 | x :: r,h=>by
  show (if zW t x then _ else _)=_
  rw [if_neg (h x (by simp)),ww fun y hy=>h y (by simp [hy])];rfl
theorem xI {t y:Ti}:∀ {l:List Ti},(∀ x∈l,¬ zW t x)→zW t y→Q9 (l ++ [y]) t=l ++ [t,y]
 | [],_,hy=>if_pos hy
 | x :: r,h,hy=>by
  show (if zW t x then _ else _)=_
  rw [if_neg (h x (by simp)),show r.append [y]=r ++ [y] from rfl,xI (fun y hy=>h y (by simp [hy])) hy];rfl
theorem wo {t y:Ti}:∀ {l:List Ti},(∃ x∈l,zW t x)→Q9 (l ++ [y]) t=Q9 l t ++ [y]
 | [],⟨x,hx,_⟩=>by cases hx
 | x :: r,⟨z,hz,hb⟩=>by
  show (if zW t x then _ else _)=(if zW t x then _ else _) ++ _
  split
  ·rfl
  ·rename_i hn
   rcases zE8.1 hz with q|q
   ·rw [q] at hb;exact absurd hb hn
   ·rw [List.append_eq,wo ⟨z,q,hb⟩];rfl
theorem xH (t:Ti):∀ (l:List Ti),(Q9 l t).length=l.length+1
 | []=>rfl
 | x :: r=>by
  show (if zW t x then _ else _:List Ti).length=_
  split
  ·rfl
  ·simp [xH t r]
theorem wu {t:Ti}:∀ {l:List Ti},(∀ x∈l,¬ (x.a=t.a∧x.b=t.b))→Q9 l t=kL l t
 | [],_=>rfl
 | x :: r,h=>by
  show (if zW t x then _ else _)=(if zW x t then _ else _)
  rcases Ye x t with q|q|q
  ·rw [if_pos q,if_neg (fun q2=>WX _ (Qg q q2)),wu fun y hy=>h y (by simp [hy])]
  ·exact absurd q (h x (by simp))
  ·rw [if_pos q,if_neg (fun q2=>WX _ (Qg q q2))]
theorem Vz (t:Ti):∀ (l:List Ti),(Q9 l t).Perm (t :: l)
 | []=>.refl _
 | x :: r=>by
  show (if zW t x then _ else _:List Ti).Perm _
  split
  ·exact .refl _
  ·exact ((Vz t r).cons x).trans (.swap _ _ _)
theorem qcE {ts:List Ti} {a b:List UInt8} (k:Int) (h:¬ tied ts a b):∀ x∈ts,¬ (x.a=(jW a b k).a∧x.b=(jW a b k).b):=fun x hx q=>h ⟨x,hx,q⟩
variable [Flag]
theorem Gf {h0:AH} (w:WfH h0) (na nb:List UInt8) (k:Int):Fn Tryz.prog Xh 141 [str na,str nb,.int .u8 k] h0 (fun u h'=>u=pq (jW na nb k)∧Hs h0 h' []):=by
 have S:=Hs.start w;refine qZ rfl Tryz.func141 rfl rfl ?_;all_goals (repeat' (first|refine qg ?_|refine qh rfl ?_|refine qj ?_|(refine qc 0 ?_;(refine al S ?_;clear S;intro b h S);refine qf ?_)|(refine qc 1 ?_;refine qE ?_;(refine tO ?_ ?_<;>intro hc)<;>(refine qf ?_))|(refine qc 2 ?_;refine qE ?_;refine mv ?_;refine vl ?_;(first|(refine sB S rfl rfl ?_;clear S;intro h S));refine qf ?_)|(refine qc 3 ?_;refine qE ?_;refine mv ?_;refine vl ?_;(first|(refine sB S rfl rfl ?_;clear S;intro h S));refine qf ?_)))
 ·refine qC ⟨_,zD S rfl (by first|exact .here) (by exact rfl) (by exact rfl),?_⟩;have e:jW na nb k=⟨nb,na,k⟩:=by unfold jW jY jZ;rw [if_pos hc,if_neg (zZ hc)]
  rw [e];exact ⟨rfl,S.drop⟩
 ·refine qC ⟨_,zD S rfl (by first|exact .here) (by exact rfl) (by exact rfl),?_⟩;have e:jW na nb k=⟨na,nb,k⟩:=by
   unfold jW jY jZ;rw [if_neg hc];split
   ·rfl
   ·rename_i q
    rcases Zr hc with e|e
    ·rw [e]
    ·exact absurd e q
  rw [e];exact ⟨rfl,S.drop⟩
theorem qad {h0:AH} (w:WfH h0) (v:Value) (l:List Ti) (hr:Qh h0 v 3 zh l) (hl:l.length≤1000000) (t:Ti):Fn Tryz.prog Xh 140 [v,pq t] h0 (fun u h'=>Hs h0 h' [.sl u 111 3 zh (Q9 l t)]):=by
 have S:=Hs.start w;unfold pq;refine qZ rfl Tryz.func140 rfl rfl ?_;all_goals (repeat' (first|refine qg ?_|refine qi ?_|(refine qc 0 ?_;(refine bx S ?_;clear S;intro b h S);refine qK ?_)|(refine qc 1 ?_;refine qK ?_)|(refine qc 2 ?_;refine qK ?_)|(refine qc 3 ?_;refine qK ?_)))
 obtain ⟨b3,hnm⟩:∃ x,x=b:=⟨_,rfl⟩;subst hnm;have S:=S.Qb (e:=111) (z:=3) (enc:=zh);replace S:Hs h0 h [.sl (.slice none 0 0) 111 3 zh [],.blk b3 (zh t) 111]:=S;refine qH (σ:=Nat×Bool×Value) (fun (i,dn,v5) h'=>Hs h0 h' [.sl v5 111 3 zh (if dn then Q9 (l.take i) t else l.take i),.blk b3 (zh t) 111]∧i≤l.length∧(dn=false→∀ x∈l.take i,¬ zW t x)∧(dn=true→∃ x∈l.take i,zW t x)) (fun (i,dn,v5)=>l.length - i) (fun (i,dn,v5)=>[(0,v),(3,.pointer (some ⟨b3,0,none⟩)),(5,v5),(6,.bool dn),(7,.int .i64 i)]) (0,false,.slice none 0 0) qo ?_ ?_
 ·exact ⟨S,zB0 _,fun _ x hx=>(by cases hx),fun q=>(by cases q)⟩
 clear S;rintro ⟨i,dn,v5⟩ h ⟨S,g1,g2,g3⟩;all_goals (repeat' (first|refine qg ?_|refine qh rfl ?_|refine qj ?_|refine qw ?_|(refine qc 4 ?_;refine qE ?_;refine Zx S ?_;(first|(refine cS ?_ ?_<;>intro hc))<;>(refine qf ?_))))
 ·have hil:i<l.length:=by omega
  have et:=qQ hil;have hm:∀ x,x∈l.take (i+1)↔x∈l.take i∨x=l.getD i default:=fun x=>by rw [et];simp
  cases dn with
  | true =>
   replace S:Hs h0 h [.sl v5 111 3 zh (Q9 (l.take i) t),.blk b3 (zh t) 111]:=S;have hpl:=xH t (l.take i);simp only [zA9] at hpl;all_goals (repeat' (first|refine qg ?_|refine qh rfl ?_|refine qj ?_|refine qi ?_|(refine qJ 6 ?_;refine mv ?_;refine vl ?_;refine mv ?_;refine off ?_;refine off ?_;refine off ?_;refine off ?_;refine off ?_;(first|(refine off ?_;refine zU ?_)))))
   all_goals (repeat' (first|(refine qc 9 ?_;refine qE ?_;refine mv ?_;refine QN S ?_;refine jQ S ?_;(refine one 3 S ?_;clear S;intro u h S))))
   simp only [zA0];refine app (y0:=l.getD i default) S rfl rfl ?_;clear S;intro v5 h S;(refine qK ?_);all_goals (repeat' (first|(refine qc 5 ?_;refine qO ?_)))
   refine ⟨(i+1,true,v5),?_,?_,qo⟩
   ·show l.length - (i+1)<l.length - i;omega
   ·refine ⟨?_,by (try dsimp only);omega,fun q=>(by cases q),fun _=>?_⟩
    ·show Hs h0 h [.sl v5 111 3 zh (Q9 (l.take (i+1)) t),.blk b3 (zh t) 111]
     rw [et,wo (g3 rfl)];exact S
    ·obtain ⟨x,hx,hb⟩:=g3 rfl;exact ⟨x,(hm x).2 (.inl hx),hb⟩
  | false =>
   replace S:Hs h0 h [.sl v5 111 3 zh (l.take i),.blk b3 (zh t) 111]:=S;all_goals (repeat' (first|refine qg ?_|refine qi ?_|(refine qJ 6 ?_;refine mv ?_;refine vl ?_;refine mv ?_;(first|(refine lB S rfl rfl ?_));refine qE ?_;(first|(refine QN S ?_));(first|(refine jQ S ?_));(skip))))
   simp only [zA0];(refine qx rfl rfl rfl rfl rfl ((qa8 S.wf t (l.getD i default)).mono ?_);rintro _ h ⟨⟨rfl,hb⟩|⟨rfl,hb⟩,x⟩)<;>(replace S:=S.qN x;clear x;refine zU ?_)
   ·all_goals (repeat' (first|refine qg ?_|refine qh rfl ?_|(refine qc 7 ?_;refine mv ?_;refine lB S rfl rfl ?_;(refine one 3 S ?_;clear S;intro u h S))))
    refine app (y0:=t) S rfl rfl ?_;clear S;intro v5 h S;(refine qK ?_);all_goals (repeat' (first|(refine qc 8 ?_;refine qK ?_)|(refine qc 9 ?_;refine qE ?_;refine mv ?_;refine QN S ?_;refine jQ S ?_;(refine one 3 S ?_;clear S;intro u h S))))
    simp only [zA0];refine app (y0:=l.getD i default) S rfl rfl ?_;clear S;intro v5 h S;(refine qK ?_);all_goals (repeat' (first|(refine qc 5 ?_;refine qO ?_)))
    refine ⟨(i+1,true,v5),?_,?_,qo⟩
    ·show l.length - (i+1)<l.length - i;omega
    ·refine ⟨?_,by (try dsimp only);omega,fun q=>(by cases q),fun _=>⟨_,(hm _).2 (.inr rfl),hb⟩⟩;show Hs h0 h [.sl v5 111 3 zh (Q9 (l.take (i+1)) t),.blk b3 (zh t) 111]
     rw [et,xI (g2 rfl) hb];simpa using S
   ·all_goals (repeat' (first|refine qh rfl ?_|refine qj ?_|(refine qc 9 ?_;refine qE ?_;refine mv ?_;refine QN S ?_;refine jQ S ?_;(refine one 3 S ?_;clear S;intro u h S))))
    simp only [zA0];refine app (y0:=l.getD i default) S rfl rfl ?_;clear S;intro v5 h S;(refine qK ?_);all_goals (repeat' (first|(refine qc 5 ?_;refine qO ?_)))
    refine ⟨(i+1,false,v5),?_,?_,qo⟩
    ·show l.length - (i+1)<l.length - i;omega
    ·refine ⟨?_,by (try dsimp only);omega,fun _ x hx=>?_,fun q=>by cases q⟩
     ·show Hs h0 h [.sl v5 111 3 zh (l.take (i+1)),.blk b3 (zh t) 111]
      rw [et];exact S
     ·rcases (hm x).1 hx with q|q
      ·exact g2 rfl x q
      ·rw [q];exact hb
 ·obtain rfl:i=l.length:=by omega
  rw [zD4] at S g2 g3;cases dn with
  | true =>
   all_goals (repeat' (first|refine qg ?_|refine qh rfl ?_|refine qj ?_|(refine qc 10 ?_;refine ZU ?_)|(refine qc 12 ?_;refine qX ?_)))
   refine qC ⟨_,rfl,?_⟩;exact S.only .here
  | false =>
   all_goals (repeat' (first|refine qh rfl ?_|(refine qc 10 ?_;refine ZU ?_)|(refine qc 11 ?_;refine mv ?_;refine lB S rfl rfl ?_;(refine one 3 S ?_;clear S;intro u h S))))
   refine app (y0:=t) S rfl rfl ?_;clear S;intro v5 h S;(refine qK ?_);all_goals (repeat' (first|refine qg ?_|(refine qc 12 ?_;refine qX ?_)))
   refine qC ⟨_,rfl,?_⟩;rw [ww (g2 rfl)];exact S.only .here
def RRes (h0:AH) (v:RlV) (q:Rl×Int) (u:Value) (h':AH):Prop:=(q.2≠0∧u = .tuple #[v.val,.int .i64 q.2]∧Hs h0 h' [])∨(q.2=0∧∃ v':RlV,u = .tuple #[v'.val,.int .i64 0]∧v'.gs.map (·.toGu)=q.1.us∧Hs h0 h' (XF v' q.1.ts))
theorem RRes.err {h0 h':AH} {v:RlV} {q:Rl×Int} {r:Rl} {e:Int} {u:Value} (hq:q=(r,e)) (he:e≠0) (hu:u = .tuple #[v.val,.int .i64 e]) (S:Hs h0 h' []):RRes h0 v q u h':=by subst hq;exact .inl ⟨he,hu,S⟩
theorem RO.t4 {r:Rl} (H:RO r):∀ g∈r.us,g.tg.length≤4:=fun g hg=>(QI (H.chk g hg)).2.2.2.1
theorem RlOk.t4 {h:AH} {v:RlV} {r:Rl} (HR:RlOk h v r) (H:RO r) {i:Nat} (hi:i<v.gs.length):(v.gs.getD i default).tg.length≤4:=by
 have:=H.t4 _ (qM (show i<r.us.length by rw [← HR.len];exact hi));rwa [← HR.at_ hi] at this
theorem RlOk.fit {h:AH} {v:RlV} {r:Rl} (HR:RlOk h v r) (H:RO r):RlFit h v r:=by
 have h64:=H.l64;have h256:=H.l256;exact ⟨HR,fun i hi=>by have:=HR.t4 H hi;omega,by omega,by omega⟩
theorem Hs.yS {h0 h:AH} {rs:List Rs} {v:RlV} {r:Rl} (S:Hs h0 h rs) (hu:v.gs.map (·.toGu)=r.us) (H:RO r) [i:SelR rs (XF v r.ts)]:RlOk h v r:=by
 have h64:=H.l64;have h256:=H.l256;exact Hs.qee (rs:=[]) (show Hs h0 h (XF v r.ts) from S.pick) hu (by omega) (by omega) fun g hg=>by have:=H.t4 g hg;omega
theorem qcR {h0:AH} (w:WfH h0) (v:RlV) (r:Rl) (HR:RlOk h0 v r) (H:RO r) (g:Qi) (rg:qdK h0 g):Fn Tryz.prog Xh 108 [v.val,gV g] h0 (RRes h0 v (ZP r g.toGu)):=by
 have S:=Hs.start w;have HF:=HR.fit H;have h64:=H.l64;have hus:=HR.us;have hgl:=HR.len;have hrg:=HR.rg;unfold RlV.val;unfold gV;refine qZ rfl Tryz.func108 rfl rfl ?_;all_goals (repeat' (first|refine qg ?_|(refine qc 0 ?_;(refine bx S ?_;clear S;intro b h S);(refine bx S ?_;clear S;intro b h S);(refine al S ?_;clear S;intro b h S);refine qK ?_)))
 obtain ⟨b4,hnm⟩:∃ x,x=b:=⟨_,rfl⟩;subst hnm;obtain ⟨b3,hnm⟩:∃ x,x=b:=⟨_,rfl⟩;subst hnm;obtain ⟨b2,hnm⟩:∃ x,x=b:=⟨_,rfl⟩;subst hnm;replace S:Hs h0 h (.blk b4 [.slice none 0 0,.slice none 0 0] 32 :: .blk b3 (eG g) 24 :: .blk b2 [v.vg.val,v.vt.val] 32 :: []):=S;all_goals (repeat' (first|(refine qc 1 ?_;refine lB S rfl rfl ?_)))
 (refine qx rfl rfl rfl rfl rfl ((Gg S.wf g ⟨rg.1.ext w S.ext,rg.2⟩).mono ?_);rintro _ h ⟨rfl,x⟩)<;>(replace S:=S.qN x;clear x;refine qK ?_)
 all_goals (repeat' (first|refine qg ?_|refine qh rfl ?_|refine qj ?_|(refine qc 2 ?_;refine mv ?_;(first|(refine cS ?_ ?_<;>intro hc))<;>(refine qf ?_))|(refine qc 3 ?_;refine lB S rfl rfl ?_;refine mv ?_;(first|(refine sB S rfl rfl ?_;clear S;intro h S));refine qK ?_)))
 ·refine qC ⟨_,zD S rfl (by first|exact .here) (by exact rfl) (by exact rfl),?_⟩;exact .err (PR hc) hc rfl S.drop
 ·have hc0:Zj g.toGu=0:=by simpa using hc
  all_goals (repeat' (first|(refine qc 4 ?_;refine vl ?_;refine lB S rfl rfl ?_;refine vl ?_;refine lB S rfl rfl ?_)))
  (refine qx rfl rfl rfl rfl rfl ((jM S.wf v.vg.val v.gs (hrg.ext w S.ext) (by omega) g.name).mono ?_);rintro _ h ⟨⟨i,hi,hil,rfl⟩|⟨hi,rfl⟩,x⟩)<;>(replace S:=S.qN x;clear x;(first|refine cT ?_|refine cF ?_)<;>(refine qf ?_))
  ·rw [hus] at hi;all_goals (repeat' (first|refine qg ?_|refine qh rfl ?_|(refine qc 5 ?_;refine lB S rfl rfl ?_;(first|(refine sB S rfl rfl ?_;clear S;intro h S));refine qK ?_)))
   refine qC ⟨_,zD S rfl (by first|exact .here) (by exact rfl) (by exact rfl),?_⟩;exact .err (PT hc0 (by rw [hi];simp)) (by decide) rfl S.drop
  ·rw [hus] at hi;all_goals (repeat' (first|refine qg ?_|refine qh rfl ?_|refine qj ?_|(refine qc 6 ?_;refine vl ?_;refine lB S rfl rfl ?_;refine Zx S ?_;(first|(refine cS ?_ ?_<;>intro hc))<;>(refine qf ?_))|(refine qc 7 ?_;refine lB S rfl rfl ?_;(first|(refine sB S rfl rfl ?_;clear S;intro h S));refine qK ?_)))
   ·refine qC ⟨_,zD S rfl (by first|exact .here) (by exact rfl) (by exact rfl),?_⟩;exact .err (PS hc0 hi (by omega)) (by decide) rfl S.drop
   ·have hn64:¬ 64≤r.us.length:=by omega
    have ht4:=(QI hc0).2.2.2.1;all_goals (repeat' (first|(refine qc 8 ?_;refine lB S rfl rfl ?_)))
    (refine qx rfl rfl rfl rfl rfl ((qb8 S.wf v r (HF.ext w S.ext)).mono ?_);rintro _ h ⟨⟨vg,vt,gs⟩,rfl,q2,x⟩)<;>(replace S:=S.join x;clear x;dsimp only [XF,List.cons_append,List.nil_append] at S;unfold RlV.val;dsimp only;(refine al S ?_;clear S;intro b h S);(first|(refine sB S rfl rfl ?_;clear S;intro h S));refine qf ?_)
    obtain ⟨b7,hnm⟩:∃ x,x=b:=⟨_,rfl⟩;subst hnm;dsimp only at q2;replace S:Hs h0 h (.blk b7 [vg.val,vt.val] 32 :: .sl vg.val 24 9 eG gs :: .sl vt.val 111 3 zh r.ts :: jX gs :: .blk b4 [.slice none 0 0,.slice none 0 0] 32 :: .blk b3 (eG g) 24 :: .blk b2 [v.vg.val,v.vt.val] 32 :: []):=S;have R1:RlOk h ⟨vg,vt,gs⟩ r:=S.yS q2 H;have hgs:=R1.len;dsimp only at hgs;have R1t:∀ i,i<gs.length→Qh h (gs.getD i default).tv.val 1 eS (gs.getD i default).tg∧(gs.getD i default).tg.length≤8796093021952:=fun i hi=>⟨(R1.tg i hi).1,by have:=R1.t4 H hi;dsimp only at this;omega⟩
    have R1g:=R1.rg;dsimp only at R1g;(repeat (refine qg ?_));refine Qu (id:=9) [(3,(0,1))] [some (b3)] ?_;refine qp ?_;(first|(refine vl ?_<;>refine qf ⟨⟨by (first|exact True.intro),rfl⟩,?_⟩));refine qp ?_;(first|(refine lB S rfl rfl ?_<;>refine qf ⟨⟨by (first|exact True.intro),rfl⟩,?_⟩));((refine qp ?_;first|refine qx rfl rfl rfl rfl rfl ((WW S.wf vg.val gs R1g R1t (by omega)).mono ?_));rintro _ h ⟨vg2,gs2,rfl,g2,x⟩)<;>((refine qf ⟨⟨True.intro,?_⟩,?_⟩;(focus ((show keepsX _ _ _ _ _;simp only [keepsX];(repeat' (first|exact True.intro|refine And.intro ?_ ?_));all_goals (intro hw;first|exact x.ext.old _ S.bB)))));replace S:=S.wH x;clear x;refine qp ?_;(first|(refine lB S rfl rfl ?_<;>refine qf ⟨⟨by (first|exact Or.inr rfl),rfl⟩,?_⟩)))
    ((refine qp ?_;first|refine qx rfl rfl rfl rfl rfl ((gJ S.wf g (rg.1.ext w S.ext) (by omega)).mono ?_));rintro _ h ⟨tv,rfl,x⟩)<;>((refine qf ⟨⟨True.intro,?_⟩,?_⟩;(focus ((show keepsX _ _ _ _ _;simp only [keepsX];(repeat' (first|exact True.intro|refine And.intro ?_ ?_));all_goals (intro hw;first|exact x.ext.old _ S.bB)))));replace S:=S.zQ x;clear x;refine qp ?_;(first|((refine one 9 S ?_;have S0:=S;clear S;intro u h S);refine qf ⟨⟨True.intro,?_⟩,?_⟩;(focus ((show keepsX _ _ _ _ _;simp only [keepsX];(repeat' (first|exact True.intro|refine And.intro ?_ ?_));all_goals (intro hw;first|exact (S.gB).trans (S0.gB).symm))));clear S0)))
    have hg2:gs2.length=gs.length:=by have:=congrArg List.length g2;simpa using this
    refine qp ?_;refine app (y0:={ g with tv:=tv }) S rfl rfl ?_;have S0:=S;clear S;intro v3 h S;obtain ⟨vg',rfl⟩:=S.sV v3;refine qf ⟨⟨True.intro,?_⟩,?_⟩;(focus ((show keepsX _ _ _ _ _;simp only [keepsX];(repeat' (first|exact True.intro|refine And.intro ?_ ?_));all_goals (intro hw;first|exact (S.gB).trans (S0.gB).symm))));clear S0;(refine qp ?_;(first|(refine vl ?_<;>refine qf ⟨⟨by (first|exact True.intro),rfl⟩,?_⟩));refine qp ?_;(first|((refine sB S rfl rfl ?_;have S0:=S;clear S;intro h S);refine qf ⟨⟨True.intro,?_⟩,?_⟩;(focus ((show keepsX _ _ _ _ _;simp only [keepsX];(repeat' (first|exact True.intro|refine And.intro ?_ ?_));all_goals (intro hw;first|exact (S.gB).trans (S0.gB).symm))));clear S0));refine QL ?_);all_goals (repeat' (first|refine qg ?_|(refine qc 10 ?_;refine lB S rfl rfl ?_;(first|(refine sB S rfl rfl ?_;clear S;intro h S));refine qK ?_)))
    refine qC ⟨_,zD S rfl (by first|exact .there (.there (.there (.there (.there (.there (.there .here))))))) (by exact rfl) (by exact rfl),?_⟩;rw [PU hc0 hi hn64];refine .inr ⟨rfl,⟨vg',vt,gs2 ++ [{ g with tv:=tv }]⟩,rfl,?_,?_⟩
    ·simp [g2,q2]
    ·have S:=(show Hs h0 h (.sl tv.val 9 1 eS g.tg :: jX gs2 :: .sl vg'.val 24 9 eG (gs2 ++ [{ g with tv:=tv }]) :: .sl vt.val 111 3 zh r.ts :: []) from S.pick)
     have S:=Hs.kC (g:={ g with tv:=tv }) S;exact S.pick
theorem qcO {h0:AH} (w:WfH h0) (v:RlV) (r:Rl) (HR:RlOk h0 v r) (H:RO r) (na nb:List UInt8) (k:Int):Fn Tryz.prog Xh 106 [v.val,str na,str nb,.int .u8 k] h0 (RRes h0 v (ZH r na nb k)):=by
 have S:=Hs.start w;have HF:=HR.fit H;have h64:=H.l64;have h256:=H.l256;have hus:=HR.us;have hgl:=HR.len;have hrg:=HR.rg;have hrt:=HR.rt;unfold RlV.val;refine qZ rfl Tryz.func106 rfl rfl ?_;all_goals (repeat' (first|refine qg ?_|(refine qc 0 ?_;(refine bx S ?_;clear S;intro b h S);(refine al S ?_;clear S;intro b h S);refine qK ?_)))
 obtain ⟨b8,hnm⟩:∃ x,x=b:=⟨_,rfl⟩;subst hnm;obtain ⟨b4,hnm⟩:∃ x,x=b:=⟨_,rfl⟩;subst hnm;replace S:Hs h0 h (.blk b8 [.slice none 0 0,.slice none 0 0] 32 :: .blk b4 [v.vg.val,v.vt.val] 32 :: []):=S;(repeat (refine qg ?_));first|refine QD (σ:=Unit) (fun _ h'=>¬ ((k≠1∧k≠2)∨na=nb)∧Hs h0 h' (.blk b8 [.slice none 0 0,.slice none 0 0] 32 :: .blk b4 [v.vg.val,v.vt.val] 32 :: [])) (fun _=>[(1,str na),(2,str nb),(3,.int .u8 k),(4,.pointer (some ⟨b4,0,none⟩)),(8,.pointer (some ⟨b8,0,none⟩))]) ?_ ?_
 ·all_goals (repeat' (first|refine qg ?_|refine qh rfl ?_|refine qj ?_|(refine qc 1 ?_;refine mv ?_;(first|(refine cS ?_ ?_<;>intro hc))<;>(refine mv ?_;(first|refine off ?_|refine mv ?_);(first|refine off ?_|(first|(refine cS ?_ ?_<;>intro hc)))<;>(refine vl ?_;refine mv ?_;(first|refine off ?_|refine mv ?_);(first|refine off ?_|refine mv ?_);(first|refine off ?_|(refine tS ?_ ?_<;>intro hc))<;>(refine zU ?_))))|(refine qc 2 ?_;refine lB S rfl rfl ?_;(first|(refine sB S rfl rfl ?_;clear S;intro h S));refine qK ?_)))
  all_goals first
   | exact ⟨(),⟨by omega,S⟩,((by repeat (fail)))⟩
   | exact ⟨(),⟨by grind,S⟩,(qo)⟩
   | ((refine qC ⟨_,zD S rfl (by first|exact .here) (by exact rfl) (by exact rfl),?_⟩);exact .err (kw (by first|omega|grind)) (by decide) rfl S.drop)
 clear S;rintro - h ⟨hk,S⟩;(repeat (refine qg ?_));first|refine QD (σ:=Unit) (fun _ h'=>¬ (gat r.us na=none∨gat r.us nb=none)∧Hs h0 h' (.blk b8 [.slice none 0 0,.slice none 0 0] 32 :: .blk b4 [v.vg.val,v.vt.val] 32 :: [])) (fun _=>[(1,str na),(2,str nb),(3,.int .u8 k),(4,.pointer (some ⟨b4,0,none⟩)),(8,.pointer (some ⟨b8,0,none⟩))]) ?_ ?_
 ·all_goals (repeat' (first|(refine qc 3 ?_;refine vl ?_;refine lB S rfl rfl ?_;refine mv ?_)))
  (refine qx rfl rfl rfl rfl rfl ((jM S.wf v.vg.val v.gs (hrg.ext w S.ext) (by omega) na).mono ?_);rintro _ h ⟨⟨i,hi,hil,rfl⟩|⟨hi,rfl⟩,x⟩)<;>(replace S:=S.qN x;clear x;(first|refine cT ?_|refine cF ?_)<;>(refine mv ?_;(first|refine off ?_|(refine vl ?_));(first|refine off ?_|(refine lB S rfl rfl ?_));(first|refine off ?_|refine mv ?_);(first|(refine off ?_;(refine off ?_)<;>(refine zU ?_))|skip)))
  all_goals rw [hus] at hi
  ·all_goals (repeat' (fail))
   (refine qx rfl rfl rfl rfl rfl ((jM S.wf v.vg.val v.gs (hrg.ext w S.ext) (by omega) nb).mono ?_);rintro _ h ⟨⟨j,hj,hjl,rfl⟩|⟨hj,rfl⟩,x⟩)<;>(replace S:=S.qN x;clear x;(first|(first|refine cT ?_|refine cF ?_))<;>(refine zU ?_))
   all_goals rw [hus] at hj
   ·all_goals (repeat' (first|refine qh rfl ?_|refine qj ?_))
    exact ⟨(),⟨by rw [hi,hj];simp,S⟩,(qo)⟩
   ·all_goals (repeat' (first|refine qg ?_|refine qh rfl ?_|(refine qc 4 ?_;refine lB S rfl rfl ?_;(first|(refine sB S rfl rfl ?_;clear S;intro h S));refine qK ?_)))
    refine qC ⟨_,zD S rfl (by first|exact .here) (by exact rfl) (by exact rfl),?_⟩;exact .err (W9 hk (.inr hj)) (by decide) rfl S.drop
  ·all_goals (repeat' (first|refine qg ?_|refine qh rfl ?_|(refine qc 4 ?_;refine lB S rfl rfl ?_;(first|(refine sB S rfl rfl ?_;clear S;intro h S));refine qK ?_)))
   refine qC ⟨_,zD S rfl (by first|exact .here) (by exact rfl) (by exact rfl),?_⟩;exact .err (W9 hk (.inl hi)) (by decide) rfl S.drop
 clear S;rintro - h ⟨hk2,S⟩;all_goals (repeat' (first|refine qg ?_|(refine qc 5 ?_;refine vl ?_;refine lB S rfl rfl ?_;refine qE ?_)))
 (refine qx rfl rfl rfl rfl rfl ((gQ S.wf v.vt.val r.ts (hrt.ext w S.ext) (by omega) na nb).mono ?_);rintro _ h ⟨⟨i,i1,i2,i3,rfl⟩|⟨i1,rfl⟩,x⟩)<;>(replace S:=S.qN x;clear x;(first|refine cT ?_|refine cF ?_)<;>(refine qf ?_))
 ·all_goals (repeat' (first|refine qg ?_|refine qh rfl ?_|(refine qc 6 ?_;refine lB S rfl rfl ?_;(first|(refine sB S rfl rfl ?_;clear S;intro h S));refine qK ?_)))
  refine qC ⟨_,zD S rfl (by first|exact .here) (by exact rfl) (by exact rfl),?_⟩;refine .err (ku hk hk2 ?_) (by decide) rfl S.drop;obtain ⟨-,e2,e3⟩:=QU (VO H (qM i1) i2);exact ⟨_,qM i1,e2,e3⟩
 ·have hk3:¬ tied r.ts na nb:=by
   rintro ⟨t,ht,e1,e2⟩;obtain ⟨j,hj,rfl⟩:=qL.1 ht;refine i1 j hj ?_;exact Vp (Jh H.ts ht e1 e2)
  all_goals (repeat' (first|refine qg ?_|refine qh rfl ?_|refine qj ?_|(refine qc 7 ?_;refine vl ?_;refine lB S rfl rfl ?_;refine Zx S ?_;(first|(refine cS ?_ ?_<;>intro hc))<;>(refine qf ?_))|(refine qc 8 ?_;refine lB S rfl rfl ?_;(first|(refine sB S rfl rfl ?_;clear S;intro h S));refine qK ?_)))
  ·refine qC ⟨_,zD S rfl (by first|exact .here) (by exact rfl) (by exact rfl),?_⟩;exact .err (wZ hk hk2 hk3 (by omega)) (by decide) rfl S.drop
  ·have hk4:¬ 256≤r.ts.length:=by omega
   all_goals (repeat' (first|(refine qc 9 ?_;refine lB S rfl rfl ?_)))
   (refine qx rfl rfl rfl rfl rfl ((qb8 S.wf v r (HF.ext w S.ext)).mono ?_);rintro _ h ⟨⟨vg,vt,gs⟩,rfl,q2,x⟩)<;>(replace S:=S.join x;clear x;dsimp only [XF,List.cons_append,List.nil_append] at S;unfold RlV.val;dsimp only;(refine al S ?_;clear S;intro b h S);(first|(refine sB S rfl rfl ?_;clear S;intro h S));refine qf ?_)
   obtain ⟨b10,hnm⟩:∃ x,x=b:=⟨_,rfl⟩;subst hnm;dsimp only at q2;replace S:Hs h0 h (.blk b10 [vg.val,vt.val] 32 :: .sl vg.val 24 9 eG gs :: .sl vt.val 111 3 zh r.ts :: jX gs :: .blk b8 [.slice none 0 0,.slice none 0 0] 32 :: .blk b4 [v.vg.val,v.vt.val] 32 :: []):=S;have hrt2:=Rd.jm S (.there (.there .here));(repeat (refine qg ?_));refine Qu (id:=10) [(1,(0,1))] [some (b10)] ?_;refine qp ?_;(first|(refine vl ?_<;>refine qf ⟨⟨by (first|exact True.intro),rfl⟩,?_⟩));refine qp ?_;(first|(refine lB S rfl rfl ?_<;>refine qf ⟨⟨by (first|exact Or.inr rfl),rfl⟩,?_⟩));refine qp ?_;(first|(refine mv ?_<;>refine qf ⟨⟨by (first|exact True.intro),rfl⟩,?_⟩));refine qp ?_;(first|(refine mv ?_<;>refine qf ⟨⟨by (first|exact True.intro),rfl⟩,?_⟩));refine qp ?_;(first|(refine mv ?_<;>refine qf ⟨⟨by (first|exact True.intro),rfl⟩,?_⟩));((refine qp ?_;first|refine qx rfl rfl rfl rfl rfl ((Gf S.wf na nb k).mono ?_));rintro _ h ⟨rfl,x⟩)<;>((refine qf ⟨⟨True.intro,?_⟩,?_⟩;(focus ((show keepsX _ _ _ _ _;simp only [keepsX];(repeat' (first|exact True.intro|refine And.intro ?_ ?_));all_goals (intro hw;first|exact x.ext.old _ S.bB)))));replace S:=S.qN x;clear x)
   ((refine qp ?_;first|refine qx rfl rfl rfl rfl rfl ((qad S.wf vt.val r.ts (Rd.jm S (.there (.there .here))) (by omega) (jW na nb k)).mono ?_));rintro u h x)<;>((refine qf ⟨⟨True.intro,?_⟩,?_⟩;(focus ((show keepsX _ _ _ _ _;simp only [keepsX];(repeat' (first|exact True.intro|refine And.intro ?_ ?_));all_goals (intro hw;first|exact x.ext.old _ S.bB)))));replace S:=S.zQ x;clear x;obtain ⟨vt',rfl⟩:=S.sV u;refine qp ?_;(first|(refine vl ?_<;>refine qf ⟨⟨by (first|exact True.intro),rfl⟩,?_⟩));refine qp ?_;(first|((refine sB S rfl rfl ?_;have S0:=S;clear S;intro h S);refine qf ⟨⟨True.intro,?_⟩,?_⟩;(focus ((show keepsX _ _ _ _ _;simp only [keepsX];(repeat' (first|exact True.intro|refine And.intro ?_ ?_));all_goals (intro hw;first|exact absurd hw (by decide +kernel)))));clear S0));refine QL ?_)
   all_goals (repeat' (first|refine qg ?_|(refine qc 11 ?_;refine lB S rfl rfl ?_;(first|(refine sB S rfl rfl ?_;clear S;intro h S));refine qK ?_)))
   refine qC ⟨_,zD S rfl (by first|exact .there (.there (.there (.there (.there .here))))) (by exact rfl) (by exact rfl),?_⟩;rw [kz hk hk2 hk3 hk4,← wu (qcE k hk3)];exact .inr ⟨rfl,⟨vg,vt',gs⟩,rfl,q2,S.pick⟩
theorem qbY {α:Type} [Inhabited α] {l:List α} {i j:Nat} (hj:j<l.length) (h:j≠i):(l.take (j+1)).eraseIdx i=(l.take j).eraseIdx i ++ [l.getD j default]:=by
 rw [qQ hj];have hl:(l.take j).length=j:=by simp;omega
 rcases zA7 i j with q|q
 ·rw [List.eraseIdx_append_of_lt_length (by omega)]
 ·rw [List.eraseIdx_of_length_le (by simp;omega),List.eraseIdx_of_length_le (by omega)]
theorem qbZ {α:Type} [Inhabited α] {l:List α} {i:Nat} (hi:i<l.length):(l.take (i+1)).eraseIdx i=(l.take i).eraseIdx i:=by
 have hl:(l.take i).length=i:=by simp;omega
 have e1:(l.take i).eraseIdx i=l.take i:=List.eraseIdx_of_length_le (by omega);rw [qQ hi,e1,List.eraseIdx_append_of_length_le (by omega),hl,zG7];simp
theorem qaL {h0:AH} (w:WfH h0) (v:RlV) (r:Rl) (HR:RlOk h0 v r) (H:RO r) (na nb:List UInt8):Fn Tryz.prog Xh 107 [v.val,str na,str nb] h0 (RRes h0 v (Qj r na nb)):=by
 have S:=Hs.start w;have HF:=HR.fit H;have h64:=H.l64;have h256:=H.l256;have hus:=HR.us;have hgl:=HR.len;have hrg:=HR.rg;have hrt:=HR.rt;unfold RlV.val;refine qZ rfl Tryz.func107 rfl rfl ?_;all_goals (repeat' (first|refine qg ?_|(refine qc 0 ?_;(refine bx S ?_;clear S;intro b h S);(refine al S ?_;clear S;intro b h S);refine qK ?_)))
 obtain ⟨b6,hnm⟩:∃ x,x=b:=⟨_,rfl⟩;subst hnm;obtain ⟨b3,hnm⟩:∃ x,x=b:=⟨_,rfl⟩;subst hnm;replace S:Hs h0 h (.blk b6 [.slice none 0 0,.slice none 0 0] 32 :: .blk b3 [v.vg.val,v.vt.val] 32 :: []):=S;all_goals (repeat' (first|(refine qc 1 ?_;refine vl ?_;refine lB S rfl rfl ?_;refine qE ?_)))
 (refine qx rfl rfl rfl rfl rfl ((gQ S.wf v.vt.val r.ts (hrt.ext w S.ext) (by omega) na nb).mono ?_);rintro _ h ⟨⟨i,i1,i2,i3,rfl⟩|⟨i1,rfl⟩,x⟩)<;>(replace S:=S.qN x;clear x;refine qK ?_)
 rotate_left
 ·have hk3:¬ tied r.ts na nb:=by
   rintro ⟨t,ht,e1,e2⟩;obtain ⟨j,hj,rfl⟩:=qL.1 ht;exact i1 j hj (Vp (Jh H.ts ht e1 e2))
  all_goals (repeat' (first|refine qg ?_|refine qh rfl ?_|(refine qc 2 ?_;refine mv ?_;(refine cT ?_)<;>(refine qf ?_))|(refine qc 3 ?_;refine lB S rfl rfl ?_;(first|(refine sB S rfl rfl ?_;clear S;intro h S));refine qK ?_)))
  refine qC ⟨_,zD S rfl (by first|exact .here) (by exact rfl) (by exact rfl),?_⟩;exact .err (if_neg hk3) (by decide) rfl S.drop
 obtain ⟨-,e2,e3⟩:=QU (VO H (qM i1) i2);have hk3:tied r.ts na nb:=⟨_,qM i1,e2,e3⟩
 all_goals (repeat' (first|refine qg ?_|refine qh rfl ?_|refine qj ?_|(refine qc 2 ?_;refine mv ?_;(refine cF ?_)<;>(refine qf ?_))|(refine qc 4 ?_;refine vl ?_;refine lB S rfl rfl ?_)))
 (refine qx rfl rfl rfl rfl rfl ((WW S.wf v.vg.val v.gs (hrg.ext w S.ext) (fun i hi=>⟨(HR.tg i hi).1.ext w S.ext,HF.tg i hi⟩) (by omega)).mono ?_);rintro _ h ⟨vg,gs,rfl,g2,x⟩)<;>(replace S:=S.wH x;clear x;refine vl ?_;(refine al S ?_;clear S;intro b h S);(first|(refine sB S rfl rfl ?_;clear S;intro h S));refine qf ?_)
 obtain ⟨b9,hnm⟩:∃ x,x=b:=⟨_,rfl⟩;subst hnm;all_goals (repeat' (first|refine qg ?_|refine qi ?_|(refine qc 5 ?_;refine qK ?_)))
 have S:=S.Qb (e:=111) (z:=3) (enc:=zh);replace S:Hs h0 h (.sl (.slice none 0 0) 111 3 zh [] :: .blk b9 [vg.val,.slice none 0 0] 32 :: jX gs :: .sl vg.val 24 9 eG gs :: .blk b6 [.slice none 0 0,.slice none 0 0] 32 :: .blk b3 [v.vg.val,v.vt.val] 32 :: []):=S;refine qH (σ:=Nat×SlV) (fun (j,v5) h'=>Hs h0 h' [.sl v5.val 111 3 zh ((r.ts.take j).eraseIdx i),.blk b9 [vg.val,v5.val] 32,jX gs,.sl vg.val 24 9 eG gs,.blk b6 [.slice none 0 0,.slice none 0 0] 32,.blk b3 [v.vg.val,v.vt.val] 32]∧j≤r.ts.length) (fun (j,v5)=>r.ts.length - j) (fun (j,v5)=>[(3,.pointer (some ⟨b3,0,none⟩)),(6,.pointer (some ⟨b6,0,none⟩)),(8,.int .i64 i),(9,.pointer (some ⟨b9,0,none⟩)),(10,.int .i64 j)]) (0,⟨none,0,0⟩) qo ?_ ?_
 ·exact ⟨S,zB0 _⟩
 clear S;rintro ⟨j,v5⟩ h ⟨S,j1⟩;have htl:((r.ts.take j).eraseIdx i).length≤256:=by
  have:=List.length_eraseIdx_le (r.ts.take j) i;simp only [zA9] at this;omega
 all_goals (repeat' (first|refine qg ?_|refine qh rfl ?_|refine qj ?_|refine qw ?_|refine qi ?_|(refine qc 6 ?_;refine mv ?_;refine vl ?_;refine lB S rfl rfl ?_;refine Zx S ?_;(first|(refine cS ?_ ?_<;>intro hc))<;>(refine qf ?_))))
 ·have hjl:j<r.ts.length:=by omega
  all_goals (repeat' (first|refine qg ?_|refine qh rfl ?_|refine qj ?_|(refine qc 8 ?_;refine qE ?_;(first|(refine cS ?_ ?_<;>intro hc))<;>(refine qf ?_))))
  ·have hji:j≠i:=by omega
   all_goals (repeat' (first|(refine qc 9 ?_;refine vl ?_;refine lB S rfl rfl ?_;refine qK ?_)|(refine qc 10 ?_;refine mv ?_;refine vl ?_;refine lB S rfl rfl ?_;refine mv ?_;refine QN S ?_;refine jQ S ?_;(refine one 3 S ?_;clear S;intro u h S))))
   simp only [zA0];refine app (y0:=r.ts.getD j default) S rfl rfl ?_;clear S;intro v6 h S;obtain ⟨v6,rfl⟩:=S.sV v6;((refine vl ?_);(first|(refine sB S rfl rfl ?_;clear S;intro h S));refine qf ?_);all_goals (repeat' (first|(refine qc 7 ?_;refine qO ?_)))
   refine ⟨(j+1,v6),?_,?_,qo⟩
   ·show r.ts.length - (j+1)<r.ts.length - j;omega
   ·refine ⟨?_,by (try dsimp only);omega⟩;dsimp only;rw [qbY hjl hji];exact S
  ·have hji:j=i:=by omega
   subst hji;all_goals (repeat' (first|(refine qc 7 ?_;refine qO ?_)))
   refine ⟨(j+1,v5),?_,?_,qo⟩
   ·show r.ts.length - (j+1)<r.ts.length - j;omega
   ·refine ⟨?_,by (try dsimp only);omega⟩;(try dsimp only);rw [qbZ hjl];exact S
 ·obtain rfl:j=r.ts.length:=by omega
  rw [zD4] at S;all_goals (repeat' (first|(refine qc 11 ?_;refine lB S rfl rfl ?_;(first|(refine sB S rfl rfl ?_;clear S;intro h S));refine qK ?_)))
  refine qC ⟨_,zD S rfl (by first|exact .there (.there (.there (.there .here)))) (by exact rfl) (by exact rfl),?_⟩;have e:Qj r na nb=(⟨r.us,r.ts.eraseIdx i⟩,0):=by
   unfold Qj;rw [if_pos hk3,P8 H.ts i1 e2 e3,List.eraseIdx_eq_take_drop_succ]
  rw [e];exact .inr ⟨rfl,⟨vg,v5,gs⟩,rfl,g2.trans hus,S.pick⟩
end Go.Proofs.Xx
namespace Go.Proofs.Xx
open Go Go.Proofs
theorem Hs.qe5 {h0 h:AH} {rs:List Rs} {gs gs':List Qi} (S:Hs h0 h (X5 gs :: rs)) (hs:∀ g∈gs',g∈gs):Hs h0 h (X5 gs' :: rs):=S.conv fun fp k h' q g hg=>k h' q g (hs g hg)
variable [Flag]
theorem qaP {h0 h:AH} {rs:List Rs} {p:Nat} {r:Rl} (S:Hs h0 h (zN p r :: rs)) (H:RO r) (n:List UInt8) :
 Fn Tryz.prog Xh 38 [.pointer (some ⟨p,0,none⟩),str n] h (fun v h'=>(gat r.us n=none∧v = .tuple #[.int .i64 0,.int .i64 6]∧Hs h0 h' (zN p r :: rs))∨(∃ i,gat r.us n=some i∧v = .tuple #[.int .i64 ((r.ts.length:Int) - (r.ts.filter (jK n)).length),.int .i64 0]∧Hs h0 h' (zN p ⟨r.us.take i ++ r.us.drop (i+1),r.ts.filter (jK n)⟩ :: rs))):=by
 obtain ⟨⟨vg,vt,m,mp,gs⟩,⟨q1,q2⟩,S⟩:=S.unpack;have e1:gs.length=r.us.length:=by rw [← q1];simp
 have h64:=H.l64;have h256:=H.l256;dsimp only [bkL,List.cons_append,List.nil_append] at q1 q2 S;refine qZ rfl Tryz.func38 rfl rfl ?_;all_goals (repeat' (first|refine qg ?_|(refine qc 0 ?_;(refine bx S ?_;clear S;intro b h S);refine qX ?_)|(refine qc 1 ?_;refine mv ?_)))
 (refine qx rfl rfl rfl rfl rfl ((jD S.wf (jV S (.there .here))).mono ?_);rintro _ h ⟨rfl,x⟩)<;>(replace S:=S.qN x;clear x;refine qf ?_)
 obtain ⟨b3,hnm⟩:∃ x,x=b:=⟨_,rfl⟩;subst hnm;all_goals (repeat' (first|refine qg ?_|refine qh rfl ?_|refine qj ?_|(refine qJ 3 ?_;refine Jc ?_;refine lB S rfl rfl ?_;refine lB S rfl rfl ?_)))
 refine lk S (.there (.there (.there (.there .here)))) (fun y hy=>?_) (fun hy=>?_)
 ·simp only [okV];(refine zk ?_);rw [q2] at hy;cases hq:gat r.us n with
  | none=>rw [hq] at hy;cases hy
  | some i =>
   rw [hq] at hy;cases hy
   obtain ⟨z1,z2,z3⟩:=jo hq;have hil:i<gs.length:=by omega
   all_goals (repeat' (first|refine qg ?_|refine qh rfl ?_|refine qj ?_|(refine qc 4 ?_;refine ZU ?_)|(refine qc 6 ?_;refine mv ?_;refine Qz ?_;refine lB S rfl rfl ?_;refine qE ?_;refine ad ?_)))
   replace S:Hs h0 h (.blk b3 [str n] 9 :: _):=S;have S:=(show Hs h0 h (.sl vg.val 24 9 eG gs :: .blk b3 [str n] 9 :: .blk p [vg.val,vt.val,.map (some m)] 86 :: .sl vt.val 111 3 zh r.ts :: .mp m (.int .i64) mp :: X5 gs :: rs) from S.pick)
   (refine qx rfl rfl rfl rfl rfl ((qdl i hil (by omega) S).mono ?_);rintro v h S)<;>(obtain ⟨vg',rfl⟩:=S.sV v;refine vl ?_;refine vl ?_;refine vl ?_;(first|(refine sB S rfl rfl ?_;clear S;intro h S));refine qf ?_)
   all_goals (repeat' (first|refine qg ?_|(refine qc 7 ?_;refine Qz ?_;refine lB S rfl rfl ?_;refine ZJ S rfl rfl ?_;refine qK ?_)))
   all_goals (repeat' (first|(refine qc 8 ?_;refine mv ?_;refine Qz ?_;refine lB S rfl rfl ?_;refine vl ?_)))
   replace S:Hs h0 h (.sl vg'.val 24 9 eG (gs.take i ++ gs.drop (i+1)) :: .blk b3 [str n] 9 :: .blk p [vg'.val,vt.val,.map (some m)] 86 :: .sl vt.val 111 3 zh r.ts :: .mp m (.int .i64) mp :: X5 gs :: rs):=S;have S:=(show Hs h0 h (.sl vt.val 111 3 zh r.ts :: .blk b3 [str n] 9 :: .sl vg'.val 24 9 eG (gs.take i ++ gs.drop (i+1)) :: .blk p [vg'.val,vt.val,.map (some m)] 86 :: .mp m (.int .i64) mp :: X5 gs :: rs) from S.pick)
   (refine qx rfl rfl rfl rfl rfl ((qdm (n:=n) (by omega) S).mono ?_);rintro v h S)<;>(obtain ⟨vt',rfl⟩:=S.sV v;refine vl ?_;refine vl ?_;refine vl ?_;(first|(refine sB S rfl rfl ?_;clear S;intro h S));refine qf ?_)
   all_goals (repeat' (first|refine qg ?_|(refine qc 9 ?_;refine mv ?_)))
   replace S:Hs h0 h (.sl vt'.val 111 3 zh (r.ts.filter (jK n)) :: .blk b3 [str n] 9 :: .sl vg'.val 24 9 eG (gs.take i ++ gs.drop (i+1)) :: .blk p [vg'.val,vt'.val,.map (some m)] 86 :: .mp m (.int .i64) mp :: X5 gs :: rs):=S;have S:=(show Hs h0 h (.mp m (.int .i64) mp :: .blk p [vg'.val,vt'.val,.map (some m)] 86 :: .sl vg'.val 24 9 eG (gs.take i ++ gs.drop (i+1)) :: .sl vt'.val 111 3 zh (r.ts.filter (jK n)) :: X5 gs :: rs) from S.pick)
   have hlen:(gs.take i ++ gs.drop (i+1)).length=gs.length - 1:=by rw [zB2,zA9,zB4];omega
   have hget:∀ j,(gs.take i ++ gs.drop (i+1)).getD j default=gs.getD (if j<i then j else j+1) default:=fun j=>by
    split
    ·rw [Ym (by rw [zA9];omega),getD_take (by assumption)]
    ·rw [KF (by rw [zA9];omega),zA9,zA2,zA2,zC3];congr 2;omega
   have hnm:∀ j,j<gs.length→(gs.getD j default).name=(r.us.getD j default).name:=fun j hj=>by
    rw [← q1,zf (f:=fun g:Qi=>g.toGu) hj]
   have hnd:∀ a b,a<b→b<(gs.take i ++ gs.drop (i+1)).length→((gs.take i ++ gs.drop (i+1)).getD a default).name≠((gs.take i ++ gs.drop (i+1)).getD b default).name:=fun a b hab hb=>by
    rw [hlen] at hb;rw [hget,hget,hnm _ (by split<;>omega),hnm _ (by split<;>omega)];exact H.nd _ _ (by split<;>split<;>omega) (by split<;>omega)
   have hl64:(gs.take i ++ gs.drop (i+1)).length≤64:=by rw [hlen];omega
   (refine qx rfl rfl rfl rfl rfl ((GK S hl64 hnd).mono ?_);rintro _ h ⟨mp',a1,S⟩)<;>(refine qf ?_)
   have hfl:=zF0 (jK n) r.ts;all_goals (repeat' (first|refine qg ?_|(refine qc 10 ?_;refine mv ?_;refine Qz ?_;refine lB S rfl rfl ?_;refine ZJ S rfl rfl ?_;refine sb ?_;refine qX ?_)))
   refine qC ⟨_,rfl,?_⟩;refine .inr ⟨i,rfl,rfl,?_⟩;have S:=(show Hs h0 h (X5 gs :: .mp m (.int .i64) mp' :: .blk p [vg'.val,vt'.val,.map (some m)] 86 :: .sl vg'.val 24 9 eG (gs.take i ++ gs.drop (i+1)) :: .sl vt'.val 111 3 zh (r.ts.filter (jK n)) :: rs) from S.pick)
   have S:=S.qe5 (gs':=gs.take i ++ gs.drop (i+1)) fun g hg=>by
    rcases zB8.1 hg with q|q
    ·exact List.mem_of_mem_take q
    ·exact List.mem_of_mem_drop q
   have hmap:(gs.take i ++ gs.drop (i+1)).map (·.toGu)=r.us.take i ++ r.us.drop (i+1):=by rw [zC9,List.map_take,List.map_drop,q1]
   exact S.bk (r:=⟨r.us.take i ++ r.us.drop (i+1),r.ts.filter (jK n)⟩) vg' vt' m mp' (gs.take i ++ gs.drop (i+1)) hmap (by rw [← hmap];exact a1)
 ·simp only [okV];(refine zk ?_);all_goals (repeat' (first|refine qg ?_|refine qh rfl ?_|(refine qc 4 ?_;refine ZU ?_)|(refine qc 5 ?_;refine qX ?_)))
  refine qC ⟨_,rfl,?_⟩;refine .inl ⟨?_,rfl,S.bk vg vt m mp gs q1 q2⟩;rw [q2] at hy;cases hq:gat r.us n with
  | none=>rfl
  | some z=>rw [hq] at hy;cases hy
end Go.Proofs.Xx
namespace Go.Proofs.Xx
open Go Go.Proofs
def Vy (us:List Gu) (n:List UInt8):List Gu:=us.filter fun g=>!decide (g.name=n)
theorem qaQ (us:List Gu) (g:Gu) (n:List UInt8):Vy (us ++ [g]) n=if g.name=n then Vy us n else Vy us n ++ [g]:=by
 unfold Vy;rw [zD1];by_cases h:g.name=n<;>simp [h]
theorem qcQ {r:Rl} (H:RO r) {n:List UInt8} {i:Nat} (h:gat r.us n=some i):Vy r.us n=r.us.take i ++ r.us.drop (i+1):=by
 obtain ⟨h1,h2,h3⟩:=jo h;have e:r.us=r.us.take i ++ (r.us.getD i default :: r.us.drop (i+1)):=by
  conv=>lhs;rw [← zH2 i r.us]
  rw [zG8 h1];congr 2
  rw [zA2,zA4 h1];rfl
 unfold Vy;conv=>lhs;rw [e]
 rw [zD1,zD8,if_neg (by simp [← List.getD_eq_getElem?_getD,h2])];congr 1
 ·rw [zI0];intro g hg;obtain ⟨j,hj,rfl⟩:=qL.1 hg;simp only [zA9] at hj;rw [getD_take (by omega)];have:=h3 j (by omega);rw [zG4,decide_eq_false this]
 ·rw [zI0];intro g hg;obtain ⟨j,hj,rfl⟩:=qL.1 hg;simp only [zB4] at hj;have ej:(r.us.drop (i+1)).getD j default=r.us.getD (i+1+j) default:=by
   rw [zA2,zA2,zC3]
  rw [ej];have:=H.nd i (i+1+j) (by omega) (by omega);rw [h2] at this;rw [zG4,decide_eq_false (fun q=>this q.symm)]
def prT (x:Ti):List UInt8×List UInt8:=(x.a,x.b)
theorem qag {t:Ti}:∀ {l:List Ti},TS l→(∀ x∈l,prT x≠prT t)→TS (Q9 l t)
 | [],_,_=>List.pairwise_singleton _ _
 | x :: r,hs,hn=>by
  obtain ⟨h1,h2⟩:=zH7.1 hs;show TS (if zW t x then _ else _)
  by_cases q:zW t x
  ·rw [if_pos q];refine zH7.2 ⟨fun y hy=>?_,hs⟩;rcases zE8.1 hy with z|z
   ·rw [z];exact q
   ·exact Qg q (h1 y z)
  ·rw [if_neg q];refine zH7.2 ⟨fun y hy=>?_,qag h2 fun y hy=>hn y (by simp [hy])⟩;rcases zE8.1 ((Vz t r).mem_iff.1 hy) with z|z
   ·rw [z];rcases Ye x t with g|g|g
    ·exact g
    ·exact absurd (Prod.ext g.1 g.2) (hn x (by simp))
    ·exact absurd g q
   ·exact h1 y z
theorem qbH:∀ (m:List Ti) {out:List Ti},TS out→(m.map prT).Nodup→(∀ x∈out,∀ y∈m,prT x≠prT y)→TS (m.foldl Q9 out)∧(m.foldl Q9 out).Perm (out ++ m)
 | [],out,h,_,_=>⟨h,by simp⟩
 | t :: m,out,h,hn,hd=>by
  obtain ⟨n1,n2⟩:=List.nodup_cons.1 hn;have hp:=Vz t out;obtain ⟨k1,k2⟩:=qbH m (qag h fun x hx=>hd x hx t (by simp)) n2 fun x hx y hy=>by
   rcases zE8.1 (hp.mem_iff.1 hx) with z|z
   ·rw [z];exact fun q=>n1 (q ▸ zF2.2 ⟨y,hy,rfl⟩)
   ·exact hd x z y (by simp [hy])
  exact ⟨k1,k2.trans ((hp.append_right m).trans (by simpa using (List.perm_middle (a:=t) (l₁:=out) (l₂:=m)).symm))⟩
theorem xK:∀ (m out:List Ti),(m.foldl Q9 out).length=out.length+m.length
 | [],out=>rfl
 | t :: m,out=>by
  show (m.foldl Q9 (Q9 out t)).length=_
  rw [xK m,xH];simp;omega
theorem Ren.uniq {r r1 r2:Rl} {i:Nat} {t:List UInt8} (a:Ren r r1 i t) (b:Ren r r2 i t):r1=r2:=by
 have h1:=a.us.trans b.us.symm;have h2:=TS.eq a.ts b.ts (a.pm.trans b.pm.symm);cases r1;cases r2
 simp only at h1 h2;rw [h1,h2]
theorem kS {gs:List Qi} {i:Nat} (hi:i<gs.length) (t:List UInt8):(gs.set i { gs.getD i default with name:=t }).map Zo=gs.map Zo:=by
 rw [List.map_set];have:Zo { gs.getD i default with name:=t }=(gs.map Zo)[i]'(by simpa using hi):=by
  rw [List.getElem_map,zA2,zA4 hi];rfl
 rw [this,List.set_getElem_self]
variable [Flag]
theorem xA {h0:AH} (w:WfH h0) (v:RlV) (r:Rl) (HR:RlOk h0 v r) (H:RO r) (n:List UInt8):Fn Tryz.prog Xh 104 [v.val,str n] h0 (fun u h'=>(gat r.us n=none∧u = .tuple #[v.val,.int .i64 0,.int .i64 6]∧Hs h0 h' [])∨(gat r.us n≠none∧∃ v':RlV,u = .tuple #[v'.val,.int .i64 ((r.ts.length:Int) - (r.ts.filter (jK n)).length),.int .i64 0]∧v'.gs.map (·.toGu)=Vy r.us n∧Hs h0 h' (XF v' (r.ts.filter (jK n))))):=by
 have S:=Hs.start w;have HF:=HR.fit H;have h64:=H.l64;have h256:=H.l256;have hus:=HR.us;have hgl:=HR.len;have hrg:=HR.rg;have hrt:=HR.rt;unfold RlV.val;refine qZ rfl Tryz.func104 rfl rfl ?_;all_goals (repeat' (first|refine qg ?_|(refine qc 0 ?_;(refine bx S ?_;clear S;intro b h S);(refine al S ?_;clear S;intro b h S);refine qX ?_)))
 obtain ⟨b4,hnm⟩:∃ x,x=b:=⟨_,rfl⟩;subst hnm;obtain ⟨b2,hnm⟩:∃ x,x=b:=⟨_,rfl⟩;subst hnm;replace S:Hs h0 h (.blk b4 [.slice none 0 0,.slice none 0 0] 32 :: .blk b2 [v.vg.val,v.vt.val] 32 :: []):=S;all_goals (repeat' (first|(refine qc 1 ?_;refine vl ?_;refine lB S rfl rfl ?_;refine mv ?_)))
 (refine qx rfl rfl rfl rfl rfl ((jM S.wf v.vg.val v.gs (hrg.ext w S.ext) (by omega) n).mono ?_);rintro _ h ⟨⟨i,hi,hil,rfl⟩|⟨hi,rfl⟩,x⟩)<;>(replace S:=S.qN x;clear x;(first|refine cT ?_|refine cF ?_)<;>(refine qf ?_))
 all_goals rw [hus] at hi
 rotate_left
 ·all_goals (repeat' (first|refine qg ?_|refine qh rfl ?_|(refine qc 2 ?_;refine lB S rfl rfl ?_;(first|(refine sB S rfl rfl ?_;clear S;intro h S));refine qX ?_)))
  refine qC ⟨_,zD S rfl (by first|exact .here) (by exact rfl) (by exact rfl),?_⟩;exact .inl ⟨hi,rfl,S.drop⟩
 all_goals (repeat' (first|refine qg ?_|refine qh rfl ?_|refine qj ?_|refine qi ?_|(refine qc 3 ?_;(refine al S ?_;clear S;intro b h S);refine qf ?_)|(refine qc 4 ?_;refine qK ?_)))
 obtain ⟨b7,hnm⟩:∃ x,x=b:=⟨_,rfl⟩;subst hnm;have S:=((S.Qb (e:=24) (z:=9) (enc:=eG))).anyS (p:=fun h fp=>Star h (([]:List Qi).map Zo) fp) fun h'=>trivial;replace S:Hs h0 h (jX [] :: .sl (SlV.val ⟨none,0,0⟩) 24 9 eG [] :: .blk b7 [SlV.val ⟨none,0,0⟩,.slice none 0 0] 32 :: .blk b4 [.slice none 0 0,.slice none 0 0] 32 :: .blk b2 [v.vg.val,v.vt.val] 32 :: []):=S;refine qH (σ:=Nat×SlV×List Qi) (fun (j,vg,gs) h'=>Hs h0 h' [jX gs,.sl vg.val 24 9 eG gs,.blk b7 [vg.val,.slice none 0 0] 32,.blk b4 [.slice none 0 0,.slice none 0 0] 32,.blk b2 [v.vg.val,v.vt.val] 32]∧j≤r.us.length∧gs.map (·.toGu)=Vy (r.us.take j) n) (fun (j,vg,gs)=>r.us.length - j) (fun (j,vg,gs)=>[(1,str n),(2,.pointer (some ⟨b2,0,none⟩)),(4,.pointer (some ⟨b4,0,none⟩)),(7,.pointer (some ⟨b7,0,none⟩)),(8,.int .i64 j)]) (0,⟨none,0,0⟩,[]) qo ?_ ?_
 ·exact ⟨S,zB0 _,rfl⟩
 clear S;rintro ⟨j,vg,gs⟩ h ⟨S,j1,j2⟩;have hgs64:gs.length≤64:=by
  have e1:=congrArg List.length j2;have e2:=zF0 (fun g=>!decide (g.name=n)) (r.us.take j);simp only [zC5,zA9] at e1 e2;unfold Vy at e1;omega
 all_goals (repeat' (first|refine qg ?_|refine qh rfl ?_|refine qj ?_|refine qw ?_|refine qi ?_|(refine qc 5 ?_;refine mv ?_;refine vl ?_;refine lB S rfl rfl ?_;refine Zx S ?_;(first|(refine cS ?_ ?_<;>intro hc))<;>(refine qf ?_))))
 ·have hjl:j<v.gs.length:=by omega
  have hju:j<r.us.length:=by omega
  have hat:=HR.at_ hjl;have hn2:(v.gs.getD j default).name=(r.us.getD j default).name:=by rw [← hat]
  have hrs:=qaQ (r.us.take j) (r.us.getD j default) n;rw [← qQ hju] at hrs;all_goals (repeat' (first|refine qg ?_|refine qh rfl ?_|refine qj ?_|(refine qc 7 ?_;refine vl ?_;refine lB S rfl rfl ?_;refine mv ?_;refine QN S ?_;refine fB S ?_;refine jQ S ?_;refine mv ?_;(refine tS ?_ ?_<;>intro hc)<;>(refine qf ?_))))
  all_goals simp only [zA0] at *
  ·all_goals (repeat' (first|(refine qc 6 ?_;refine qO ?_)))
   refine ⟨(j+1,vg,gs),?_,?_,qo⟩
   ·show r.us.length - (j+1)<r.us.length - j;omega
   ·refine ⟨S,by (try dsimp only);omega,?_⟩;dsimp only;rw [hrs,if_pos (by rw [← hn2];exact hc)];exact j2
  ·all_goals (repeat' (first|(refine qc 8 ?_;refine vl ?_;refine lB S rfl rfl ?_;refine qK ?_)|(refine qc 9 ?_;refine mv ?_;refine vl ?_;refine lB S rfl rfl ?_;refine mv ?_;refine QN S ?_;refine jQ S ?_)))
   simp only [zA0] at *;(refine qx rfl rfl rfl rfl rfl ((gJ S.wf (v.gs.getD j default) ((HR.tg j hjl).1.ext w S.ext) (HF.tg j hjl)).mono ?_);rintro _ h ⟨tv,rfl,x⟩)<;>(replace S:=S.zQ x;clear x;(refine one 9 S ?_;clear S;intro u h S))
   refine app (y0:={ v.gs.getD j default with tv:=tv }) S rfl rfl ?_;clear S;intro v3 h S;obtain ⟨vg',rfl⟩:=S.sV v3;((refine vl ?_);(first|(refine sB S rfl rfl ?_;clear S;intro h S));refine qf ?_);all_goals (repeat' (first|(refine qc 6 ?_;refine qO ?_)))
   refine ⟨(j+1,vg',gs ++ [{ v.gs.getD j default with tv:=tv }]),?_,?_,qo⟩
   ·show r.us.length - (j+1)<r.us.length - j;omega
   ·replace S:Hs h0 h (.sl vg'.val 24 9 eG (gs ++ [{ v.gs.getD j default with tv:=tv }]) :: .sl tv.val 9 1 eS (v.gs.getD j default).tg :: jX gs :: .blk b7 [vg'.val,.slice none 0 0] 32 :: .blk b4 [.slice none 0 0,.slice none 0 0] 32 :: .blk b2 [v.vg.val,v.vt.val] 32 :: []):=S;have S:=(show Hs h0 h (.sl tv.val 9 1 eS (v.gs.getD j default).tg :: jX gs :: .sl vg'.val 24 9 eG (gs ++ [{ v.gs.getD j default with tv:=tv }]) :: .blk b7 [vg'.val,.slice none 0 0] 32 :: .blk b4 [.slice none 0 0,.slice none 0 0] 32 :: .blk b2 [v.vg.val,v.vt.val] 32 :: []) from S.pick)
    refine ⟨Hs.kC (g:={ v.gs.getD j default with tv:=tv }) S,by (try dsimp only);omega,?_⟩;dsimp only;rw [hrs,if_neg (by rw [← hn2];exact hc),zC9,j2,← hat];rfl
 ·obtain rfl:j=r.us.length:=by omega
  rw [zD4] at j2;all_goals (repeat' (first|refine qi ?_|(refine qc 10 ?_;refine qK ?_)))
  have S:=S.Qb (e:=111) (z:=3) (enc:=zh);replace S:Hs h0 h (.sl (.slice none 0 0) 111 3 zh [] :: .blk b7 [vg.val,.slice none 0 0] 32 :: jX gs :: .sl vg.val 24 9 eG gs :: .blk b4 [.slice none 0 0,.slice none 0 0] 32 :: .blk b2 [v.vg.val,v.vt.val] 32 :: []):=S.pick;refine qH (σ:=Nat×SlV) (fun (j,v5) h'=>Hs h0 h' [.sl v5.val 111 3 zh ((r.ts.take j).filter (jK n)),.blk b7 [vg.val,v5.val] 32,jX gs,.sl vg.val 24 9 eG gs,.blk b4 [.slice none 0 0,.slice none 0 0] 32,.blk b2 [v.vg.val,v.vt.val] 32]∧j≤r.ts.length) (fun (j,v5)=>r.ts.length - j) (fun (j,v5)=>[(1,str n),(2,.pointer (some ⟨b2,0,none⟩)),(4,.pointer (some ⟨b4,0,none⟩)),(7,.pointer (some ⟨b7,0,none⟩)),(10,.int .i64 j)]) (0,⟨none,0,0⟩) qo ?_ ?_
  ·exact ⟨S,zB0 _⟩
  clear S;rintro ⟨j,v5⟩ h ⟨S,t1⟩;have htl:((r.ts.take j).filter (jK n)).length≤256:=by
   have:=zF0 (jK n) (r.ts.take j);simp only [zA9] at this;omega
  all_goals (repeat' (first|refine qg ?_|refine qh rfl ?_|refine qj ?_|refine qw ?_|refine qi ?_|(refine qc 11 ?_;refine mv ?_;refine vl ?_;refine lB S rfl rfl ?_;refine Zx S ?_;(first|(refine cS ?_ ?_<;>intro hc))<;>(refine qf ?_))))
  ·have hjl:j<r.ts.length:=by omega
   have et:=qQ hjl;all_goals (repeat' (first|refine qg ?_|refine qh rfl ?_|refine qj ?_|(refine qc 13 ?_;refine vl ?_;refine lB S rfl rfl ?_;refine mv ?_;refine QN S ?_;refine fB S ?_;refine jQ S ?_;refine mv ?_;(refine tS ?_ ?_<;>intro hc)<;>(refine mv ?_;(first|refine off ?_|(refine vl ?_));(first|refine off ?_|(refine lB S rfl rfl ?_));(first|refine off ?_|refine mv ?_);(first|refine off ?_|(refine QN S ?_));(first|refine off ?_|(refine fB S ?_));(first|refine off ?_|(refine jQ S ?_));(first|refine off ?_|refine mv ?_);(first|refine off ?_|(refine tS ?_ ?_<;>intro hc))<;>(refine zU ?_)))))
   all_goals simp only [zA0] at *
   ·all_goals (repeat' (first|(refine qc 12 ?_;refine qO ?_)))
    refine ⟨(j+1,v5),?_,?_,qo⟩
    ·show r.ts.length - (j+1)<r.ts.length - j;omega
    ·refine ⟨?_,by (try dsimp only);omega⟩;dsimp only;rw [et,zD1,zD8,if_neg (by rw [Y7 (.inl (by assumption))];decide)];simpa using S
   ·all_goals (repeat' (first|(refine qc 12 ?_;refine qO ?_)))
    refine ⟨(j+1,v5),?_,?_,qo⟩
    ·show r.ts.length - (j+1)<r.ts.length - j;omega
    ·refine ⟨?_,by (try dsimp only);omega⟩;dsimp only;rw [et,zD1,zD8,if_neg (by rw [Y7 (.inr (by assumption))];decide)];simpa using S
   ·have hk:jK n (r.ts.getD j default)=true:=Y6 fun q=>by rcases q with q|q<;>contradiction
    all_goals (repeat' (first|(refine qc 14 ?_;refine vl ?_;refine lB S rfl rfl ?_;refine qK ?_)|(refine qc 15 ?_;refine mv ?_;refine vl ?_;refine lB S rfl rfl ?_;refine mv ?_;refine QN S ?_;refine jQ S ?_;(refine one 3 S ?_;clear S;intro u h S))))
    simp only [zA0];refine app (y0:=r.ts.getD j default) S rfl rfl ?_;clear S;intro v6 h S;obtain ⟨v6,rfl⟩:=S.sV v6;((refine vl ?_);(first|(refine sB S rfl rfl ?_;clear S;intro h S));refine qf ?_);all_goals (repeat' (first|(refine qc 12 ?_;refine qO ?_)))
    refine ⟨(j+1,v6),?_,?_,qo⟩
    ·show r.ts.length - (j+1)<r.ts.length - j;omega
    ·refine ⟨?_,by (try dsimp only);omega⟩;dsimp only;rw [et,zD1,zD8,if_pos hk];exact S
  ·obtain rfl:j=r.ts.length:=by omega
   rw [zD4] at S htl;have hfl:=zF0 (jK n) r.ts;(repeat (refine qg ?_));refine Qu (id:=16) [(2,(0,1)),(5,(0,1))] [some (b2),some (b7)] ?_;refine qp ?_;(first|(refine lB S rfl rfl ?_<;>refine qf ⟨⟨by (first|exact True.intro),rfl⟩,?_⟩));refine qp ?_;(first|(refine vl ?_<;>refine qf ⟨⟨by (first|exact True.intro),rfl⟩,?_⟩));refine qp ?_;(first|(refine lB S rfl rfl ?_<;>refine qf ⟨⟨by (first|exact Or.inr rfl),rfl⟩,?_⟩));refine qp ?_;(first|(refine Zx S ?_<;>refine qf ⟨⟨by (first|exact True.intro),rfl⟩,?_⟩));refine qp ?_;(first|(refine vl ?_<;>refine qf ⟨⟨by (first|exact True.intro),rfl⟩,?_⟩));refine qp ?_;(first|(refine lB S rfl rfl ?_<;>refine qf ⟨⟨by (first|exact Or.inr rfl),rfl⟩,?_⟩));refine qp ?_;(first|(refine ZJ S rfl rfl ?_<;>refine qf ⟨⟨by (first|exact True.intro),rfl⟩,?_⟩));refine qp ?_;(first|(refine sb ?_<;>refine qf ⟨⟨by (first|exact True.intro),rfl⟩,?_⟩));refine qp ?_;(first|((refine sB S rfl rfl ?_;have S0:=S;clear S;intro h S);refine qf ⟨⟨True.intro,?_⟩,?_⟩;(focus ((show keepsX _ _ _ _ _;simp only [keepsX];(repeat' (first|exact True.intro|refine And.intro ?_ ?_));all_goals (intro hw;first|exact (S.gB).trans (S0.gB).symm))));clear S0));refine qp ?_;(first|(refine mv ?_<;>refine qf ⟨⟨by (first|exact True.intro),rfl⟩,?_⟩));refine qp ?_;(first|(refine mv ?_<;>refine qf ⟨⟨by (first|exact True.intro),rfl⟩,?_⟩));refine QL ?_;refine qC ⟨_,zD S rfl (by first|exact .there (.there (.there (.there .here)))) (by exact rfl) (by exact rfl),?_⟩;exact .inr ⟨by rw [hi];simp,⟨vg,v5,gs⟩,rfl,j2,S.pick⟩
theorem Pi {h0:AH} (w:WfH h0) (v:RlV) (r:Rl) (HR:RlOk h0 v r) (H:RO r) (f t:List UInt8):Fn Tryz.prog Xh 105 [v.val,str f,str t] h0 (fun u h'=>(gat r.us f=none∧u = .tuple #[v.val,.int .i64 6]∧Hs h0 h' [])∨(gat r.us f≠none∧¬ Jo t∧u = .tuple #[v.val,.int .i64 4]∧Hs h0 h' [])∨(gat r.us f≠none∧Jo t∧gat r.us t≠none∧u = .tuple #[v.val,.int .i64 5]∧Hs h0 h' [])∨(∃ i r' v',gat r.us f=some i∧Jo t∧gat r.us t=none∧Ren r r' i t∧u = .tuple #[RlV.val v',.int .i64 0]∧v'.gs.map (·.toGu)=r'.us∧Hs h0 h' (XF v' r'.ts))):=by
 have S:=Hs.start w;have HF:=HR.fit H;have h64:=H.l64;have h256:=H.l256;have hus:=HR.us;have hgl:=HR.len;have hrg:=HR.rg;have hrt:=HR.rt;unfold RlV.val;refine qZ rfl Tryz.func105 rfl rfl ?_;all_goals (repeat' (first|refine qg ?_|(refine qc 0 ?_;(refine bx S ?_;clear S;intro b h S);(refine al S ?_;clear S;intro b h S);refine qK ?_)))
 obtain ⟨b6,hnm⟩:∃ x,x=b:=⟨_,rfl⟩;subst hnm;obtain ⟨b3,hnm⟩:∃ x,x=b:=⟨_,rfl⟩;subst hnm;replace S:Hs h0 h (.blk b6 [.slice none 0 0,.slice none 0 0] 32 :: .blk b3 [v.vg.val,v.vt.val] 32 :: []):=S;all_goals (repeat' (first|(refine qc 1 ?_;refine vl ?_;refine lB S rfl rfl ?_;refine mv ?_)))
 (refine qx rfl rfl rfl rfl rfl ((jM S.wf v.vg.val v.gs (hrg.ext w S.ext) (by omega) f).mono ?_);rintro _ h ⟨⟨i,hi,hil,rfl⟩|⟨hi,rfl⟩,x⟩)<;>(replace S:=S.qN x;clear x;refine qK ?_)
 all_goals rw [hus] at hi
 rotate_left
 ·all_goals (repeat' (first|refine qg ?_|refine qh rfl ?_|(refine qc 2 ?_;refine mv ?_;(refine cT ?_)<;>(refine qf ?_))|(refine qc 3 ?_;refine lB S rfl rfl ?_;(first|(refine sB S rfl rfl ?_;clear S;intro h S));refine qK ?_)))
  refine qC ⟨_,zD S rfl (by first|exact .here) (by exact rfl) (by exact rfl),?_⟩;exact .inl ⟨hi,rfl,S.drop⟩
 have hf0:gat r.us f≠none:=by rw [hi];simp
 obtain ⟨f1,f2,f3⟩:=jo hi;all_goals (repeat' (first|refine qg ?_|refine qh rfl ?_|refine qj ?_|(refine qc 2 ?_;refine mv ?_;(refine cF ?_)<;>(refine qf ?_))|(refine qc 4 ?_;refine mv ?_)))
 (refine qx rfl rfl rfl rfl rfl ((Zt t).mono ?_);rintro _ _ ⟨⟨rfl,hN⟩|⟨rfl,hN⟩,rfl⟩)<;>(refine zU ?_)
 rotate_left
 ·all_goals (repeat' (first|refine qg ?_|refine qh rfl ?_|(refine qc 5 ?_;refine lB S rfl rfl ?_;(first|(refine sB S rfl rfl ?_;clear S;intro h S));refine qK ?_)))
  refine qC ⟨_,zD S rfl (by first|exact .here) (by exact rfl) (by exact rfl),?_⟩;exact .inr (.inl ⟨hf0,hN,rfl,S.drop⟩)
 all_goals (repeat' (first|refine qg ?_|refine qh rfl ?_|refine qj ?_|(refine qc 6 ?_;refine vl ?_;refine lB S rfl rfl ?_;refine mv ?_)))
 (refine qx rfl rfl rfl rfl rfl ((jM S.wf v.vg.val v.gs (hrg.ext w S.ext) (by omega) t).mono ?_);rintro _ h ⟨⟨j,hj,hjl,rfl⟩|⟨hj,rfl⟩,x⟩)<;>(replace S:=S.qN x;clear x;(first|refine cT ?_|refine cF ?_)<;>(refine qf ?_))
 all_goals rw [hus] at hj
 ·all_goals (repeat' (first|refine qg ?_|refine qh rfl ?_|(refine qc 7 ?_;refine lB S rfl rfl ?_;(first|(refine sB S rfl rfl ?_;clear S;intro h S));refine qK ?_)))
  refine qC ⟨_,zD S rfl (by first|exact .here) (by exact rfl) (by exact rfl),?_⟩;exact .inr (.inr (.inl ⟨hf0,hN,by rw [hj];simp,rfl,S.drop⟩))
 all_goals (repeat' (first|refine qg ?_|refine qh rfl ?_|refine qj ?_|(refine qc 8 ?_;refine vl ?_;refine lB S rfl rfl ?_)))
 (refine qx rfl rfl rfl rfl rfl ((WW S.wf v.vg.val v.gs (hrg.ext w S.ext) (fun i hi=>⟨(HR.tg i hi).1.ext w S.ext,HF.tg i hi⟩) (by omega)).mono ?_);rintro _ h ⟨vg,gs,rfl,g2,x⟩)<;>(replace S:=S.wH x;clear x;refine vl ?_;(refine al S ?_;clear S;intro b h S);(first|(refine sB S rfl rfl ?_;clear S;intro h S));refine qf ?_)
 obtain ⟨b9,hnm⟩:∃ x,x=b:=⟨_,rfl⟩;subst hnm;have hgs:gs.length=v.gs.length:=by have:=congrArg List.length g2;simpa using this
 have higs:i<gs.length:=by omega
 have S:=S.Qb (e:=111) (z:=3) (enc:=zh);replace S:Hs h0 h (.sl (.slice none 0 0) 111 3 zh [] :: .blk b9 [vg.val,.slice none 0 0] 32 :: jX gs :: .sl vg.val 24 9 eG gs :: .blk b6 [.slice none 0 0,.slice none 0 0] 32 :: .blk b3 [v.vg.val,v.vt.val] 32 :: []):=S;(repeat (refine qg ?_));refine qc 9 ?_;refine vl ?_;refine lB S rfl rfl ?_;refine qE ?_;refine qy S rfl rfl ?_;refine fS S rfl rfl ?_;refine zY (y:={ gs.getD (Int.ofNat i).toNat default with name:=t }) S rfl rfl ?_;clear S;intro h S;(refine qf ?_);obtain ⟨ks,hks⟩:∃ ks,ks=gs.set i { gs.getD i default with name:=t }:=⟨_,rfl⟩
 have hksl:ks.map Zo=gs.map Zo:=by rw [hks];exact kS higs t
 have hku:ks.map (·.toGu)=Yl r.us i t:=by
  rw [hks,List.map_set,g2,hus];unfold Yl;congr 1
  have e:(gs.getD i default).toGu=r.us.getD i default:=by
   rw [← zf (f:=fun g:Qi=>g.toGu) higs,g2,hus]
  rw [← e]
 replace S:Hs h0 h (.sl (.slice none 0 0) 111 3 zh [] :: .blk b9 [vg.val,.slice none 0 0] 32 :: jX ks :: .sl vg.val 24 9 eG ks :: .blk b6 [.slice none 0 0,.slice none 0 0] 32 :: .blk b3 [v.vg.val,v.vt.val] 32 :: []):=by
  show Hs h0 h (.sl (.slice none 0 0) 111 3 zh [] :: .blk b9 [vg.val,.slice none 0 0] 32 :: .any (fun h fp=>Star h (ks.map Zo) fp) :: .sl vg.val 24 9 eG ks :: .blk b6 [.slice none 0 0,.slice none 0 0] 32 :: .blk b3 [v.vg.val,v.vt.val] 32 :: [])
  rw [hksl,hks];exact S
 all_goals (repeat' (first|refine qg ?_|refine qi ?_|(refine qc 10 ?_;refine qK ?_)))
 refine qH (σ:=Nat×SlV) (fun (j,v5) h'=>Hs h0 h' [.sl v5.val 111 3 zh (((r.ts.take j).map (Q8 f t)).foldl Q9 []),.blk b9 [vg.val,v5.val] 32,jX ks,.sl vg.val 24 9 eG ks,.blk b6 [.slice none 0 0,.slice none 0 0] 32,.blk b3 [v.vg.val,v.vt.val] 32]∧j≤r.ts.length) (fun (j,v5)=>r.ts.length - j) (fun (j,v5)=>[(1,str f),(2,str t),(3,.pointer (some ⟨b3,0,none⟩)),(6,.pointer (some ⟨b6,0,none⟩)),(8,.int .i64 i),(9,.pointer (some ⟨b9,0,none⟩)),(10,.int .i64 j)]) (0,⟨none,0,0⟩) qo ?_ ?_
 ·exact ⟨S,zB0 _⟩
 clear S;rintro ⟨j,v5⟩ h ⟨S,j1⟩;have htl:=xK ((r.ts.take j).map (Q8 f t)) [];simp only [zC5,zA9,List.length_nil,zG2] at htl;all_goals (repeat' (first|refine qg ?_|refine qh rfl ?_|refine qj ?_|refine qw ?_|refine qi ?_|(refine qc 11 ?_;refine mv ?_;refine vl ?_;refine lB S rfl rfl ?_;refine Zx S ?_;(first|(refine cS ?_ ?_<;>intro hc))<;>(refine qf ?_))))
 ·have hjl:j<r.ts.length:=by omega
  obtain ⟨y,hy⟩:∃ y,y=r.ts.getD j default:=⟨_,rfl⟩
  have hab:y.a≠y.b:=fun q=>by
   have:=(H.tt y (by rw [hy];exact qM hjl)).1;rw [q] at this;exact zA _ this
  all_goals (repeat' (first|refine qg ?_|(refine qc 13 ?_;refine vl ?_;refine lB S rfl rfl ?_;refine mv ?_;refine QN S ?_;refine jQ S ?_;(refine al S ?_;clear S;intro b h S);(first|(refine sB S rfl rfl ?_;clear S;intro h S));refine qf ?_)))
  simp only [zA0] at S;rw [← hy] at S;obtain ⟨b11,hnm⟩:∃ x,x=b:=⟨_,rfl⟩;subst hnm;replace S:Hs h0 h (.blk b11 (zh y) 111 :: .sl v5.val 111 3 zh (((r.ts.take j).map (Q8 f t)).foldl Q9 []) :: .blk b9 [vg.val,v5.val] 32 :: jX ks :: .sl vg.val 24 9 eG ks :: .blk b6 [.slice none 0 0,.slice none 0 0] 32 :: .blk b3 [v.vg.val,v.vt.val] 32 :: []):=S;(repeat (refine qg ?_));first|refine QD (σ:=Unit) (fun _ h'=>Hs h0 h' (.blk b11 [str (jb f t y.a),str (jb f t y.b),.int .u8 y.k] 111 :: .sl v5.val 111 3 zh (((r.ts.take j).map (Q8 f t)).foldl Q9 []) :: .blk b9 [vg.val,v5.val] 32 :: jX ks :: .sl vg.val 24 9 eG ks :: .blk b6 [.slice none 0 0,.slice none 0 0] 32 :: .blk b3 [v.vg.val,v.vt.val] 32 :: [])) (fun _=>[(1,str f),(2,str t),(3,.pointer (some ⟨b3,0,none⟩)),(6,.pointer (some ⟨b6,0,none⟩)),(8,.int .i64 i),(9,.pointer (some ⟨b9,0,none⟩)),(10,.int .i64 j),(11,.pointer (some ⟨b11,0,none⟩))]) ?_ ?_
  ·all_goals (repeat' (first|refine qg ?_|refine qh rfl ?_|refine qj ?_|(refine qc 14 ?_;refine vl ?_;refine lB S rfl rfl ?_;refine mv ?_;(refine tS ?_ ?_<;>intro hc)<;>(refine qf ?_))|(refine qc 15 ?_;refine mv ?_;refine vl ?_;(first|(refine sB S rfl rfl ?_;clear S;intro h S));refine qf ?_)|(refine qc 16 ?_;refine vl ?_;refine lB S rfl rfl ?_;refine mv ?_;(refine tS ?_ ?_<;>intro hc)<;>(refine qf ?_))|(refine qc 17 ?_;refine mv ?_;refine vl ?_;(first|(refine sB S rfl rfl ?_;clear S;intro h S));refine qf ?_)))
   ·refine ⟨(),?_,(qo)⟩;rw [show jb f t y.a=t by unfold jb;rw [if_pos (by assumption)],Xp (fun q=>hab (by rw [q];assumption))];exact S
   ·refine ⟨(),?_,(qo)⟩;rw [Xp (by assumption),show jb f t y.b=t by unfold jb;rw [if_pos (by assumption)]];exact S
   ·refine ⟨(),?_,(qo)⟩;rw [Xp (by assumption),Xp (by assumption)];exact S
  clear S;rintro - h S;(repeat (refine qg ?_));refine Qu (id:=18) [(1,(0,1))] [some (b9)] ?_;refine qp ?_;(first|(refine vl ?_<;>refine qf ⟨⟨by (first|exact True.intro),rfl⟩,?_⟩));refine qp ?_;(first|(refine lB S rfl rfl ?_<;>refine qf ⟨⟨by (first|exact Or.inr rfl),rfl⟩,?_⟩));refine qp ?_;(first|(refine vl ?_<;>refine qf ⟨⟨by (first|exact True.intro),rfl⟩,?_⟩));refine qp ?_;(first|(refine lB S rfl rfl ?_<;>refine qf ⟨⟨by (first|exact True.intro),rfl⟩,?_⟩));refine qp ?_;(first|(refine vl ?_<;>refine qf ⟨⟨by (first|exact True.intro),rfl⟩,?_⟩));refine qp ?_;(first|(refine lB S rfl rfl ?_<;>refine qf ⟨⟨by (first|exact True.intro),rfl⟩,?_⟩));refine qp ?_;(first|(refine vl ?_<;>refine qf ⟨⟨by (first|exact True.intro),rfl⟩,?_⟩));refine qp ?_;(first|(refine lB S rfl rfl ?_<;>refine qf ⟨⟨by (first|exact True.intro),rfl⟩,?_⟩));((refine qp ?_;first|refine qx rfl rfl rfl rfl rfl ((Gf S.wf (jb f t y.a) (jb f t y.b) y.k).mono ?_));rintro _ h ⟨rfl,x⟩)<;>((refine qf ⟨⟨True.intro,?_⟩,?_⟩;(focus ((show keepsX _ _ _ _ _;simp only [keepsX];(repeat' (first|exact True.intro|refine And.intro ?_ ?_));all_goals (intro hw;first|exact x.ext.old _ S.bB)))));replace S:=S.qN x;clear x)
  ((refine qp ?_;first|refine qx rfl rfl rfl rfl rfl ((qad S.wf v5.val (((r.ts.take j).map (Q8 f t)).foldl Q9 []) (Rd.jm S (.there .here)) (by omega) (jW (jb f t y.a) (jb f t y.b) y.k)).mono ?_));rintro v6 h x)<;>((refine qf ⟨⟨True.intro,?_⟩,?_⟩;(focus ((show keepsX _ _ _ _ _;simp only [keepsX];(repeat' (first|exact True.intro|refine And.intro ?_ ?_));all_goals (intro hw;first|exact x.ext.old _ S.bB)))));replace S:=S.zQ x;clear x;obtain ⟨v6,rfl⟩:=S.sV v6;refine qp ?_;(first|(refine vl ?_<;>refine qf ⟨⟨by (first|exact True.intro),rfl⟩,?_⟩));refine qp ?_;(first|((refine sB S rfl rfl ?_;have S0:=S;clear S;intro h S);refine qf ⟨⟨True.intro,?_⟩,?_⟩;(focus ((show keepsX _ _ _ _ _;simp only [keepsX];(repeat' (first|exact True.intro|refine And.intro ?_ ?_));all_goals (intro hw;first|exact absurd hw (by decide +kernel)))));clear S0));refine QL ?_)
  all_goals (repeat' (first|(refine qc 12 ?_;refine qO ?_)))
  refine ⟨(j+1,v6),?_,?_,qo⟩
  ·show r.ts.length - (j+1)<r.ts.length - j;omega
  ·refine ⟨?_,by (try dsimp only);omega⟩;(try dsimp only);have e:((r.ts.take (j+1)).map (Q8 f t)).foldl Q9 []=Q9 (((r.ts.take j).map (Q8 f t)).foldl Q9 []) (jW (jb f t y.a) (jb f t y.b) y.k):=by
    rw [qQ hjl,zC9,List.foldl_append,← hy];rfl
   rw [e];replace S:Hs h0 h (.sl v6.val 111 3 zh (Q9 (((r.ts.take j).map (Q8 f t)).foldl Q9 []) (jW (jb f t y.a) (jb f t y.b) y.k)) :: .blk b11 [str (jb f t y.a),str (jb f t y.b),.int .u8 y.k] 111 :: .sl v5.val 111 3 zh (((r.ts.take j).map (Q8 f t)).foldl Q9 []) :: .blk b9 [vg.val,v6.val] 32 :: jX ks :: .sl vg.val 24 9 eG ks :: .blk b6 [.slice none 0 0,.slice none 0 0] 32 :: .blk b3 [v.vg.val,v.vt.val] 32 :: []):=S;exact S.pick
 ·obtain rfl:j=r.ts.length:=by omega
  rw [zD4] at S;all_goals (repeat' (first|(refine qc 19 ?_;refine lB S rfl rfl ?_;(first|(refine sB S rfl rfl ?_;clear S;intro h S));refine qK ?_)))
  refine qC ⟨_,zD S rfl (by first|exact .there (.there (.there (.there .here)))) (by exact rfl) (by exact rfl),?_⟩;obtain ⟨p1,p2⟩:=qbH (r.ts.map (Q8 f t)) (out:=[]) List.Pairwise.nil (vX H hj) (fun x hx=>by cases hx);refine .inr (.inr (.inr ⟨i,⟨Yl r.us i t,(r.ts.map (Q8 f t)).foldl Q9 []⟩,⟨vg,v5,ks⟩,hi,hN,hj,⟨rfl,?_,p1⟩,rfl,hku,S.pick⟩));rw [f2];exact p2
end Go.Proofs.Xx
namespace Go.Proofs.Xx
open Go Go.Proofs
structure Ct where
 d:List UInt8
 n:Int
instance instInhCt:Inhabited Ct:=⟨⟨[],0⟩⟩
def Qw (c:Ct):List Value:=[str c.d,.int .i64 c.n]
def ctV (c:Ct):Value:=.agg #[str c.d,.int .i64 c.n]
def Qm (x y:Ct):Prop:=zG x.d y.d
theorem QQ:WOrd Qm:=⟨fun x h=>zA x.d h,fun h1 h2=>jv h1 h2,fun h1 h2=>vP h1 h2⟩
abbrev Jr:Value:=.func (.func 110) #[] #[]
variable [Flag]
theorem Qq {h0:AH} (w:WfH h0) (x y:Ct):Fn Tryz.prog Xh 110 [ctV x,ctV y] h0 (fun v h'=>∃ d,v = .int .i64 d∧((d<0∧Qm x y)∨(0≤d∧¬ Qm x y))∧Hs h0 h' []):=by
 have S:=Hs.start w;unfold ctV;refine qZ rfl Tryz.func110 rfl rfl ?_;all_goals (repeat' (first|refine qg ?_|refine qh rfl ?_|refine qj ?_|refine qw ?_|refine qi ?_|refine zo ?_|refine zq ?_|(refine qc 0 ?_;(refine bx S ?_;clear S;intro b h S);(refine bx S ?_;clear S;intro b h S);refine qK ?_)|(refine qc 1 ?_;(first|refine vl ?_|refine fB S ?_|refine fS S rfl rfl ?_|refine fA ?_);(first|refine lB S rfl rfl ?_|refine qI S rfl rfl ?_|refine jQ S ?_|refine lH S ?_);(first|refine vl ?_|refine fB S ?_|refine fS S rfl rfl ?_|refine fA ?_);(first|refine lB S rfl rfl ?_|refine qI S rfl rfl ?_|refine jQ S ?_|refine lH S ?_);(refine tO ?_ ?_<;>intro hc)<;>(refine qf ?_))|(refine qc 2 ?_;refine qK ?_)|(refine qc 3 ?_;refine qK ?_)))
 all_goals (refine qC ⟨_,rfl,?_⟩)
 ·exact ⟨-1,rfl,.inl ⟨by decide,hc⟩,S.drop⟩
 ·exact ⟨1,rfl,.inr ⟨by decide,hc⟩,S.drop⟩
end Go.Proofs.Xx
