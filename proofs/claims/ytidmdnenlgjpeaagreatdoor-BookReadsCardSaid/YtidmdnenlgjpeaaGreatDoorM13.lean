/-
  The reference: pair,put,Add,Tie,Untie.
-/
import Derived.Test.YtidmdnenlgjpeaaGreatDoorM11
import Derived.Test.YtidmdnenlgjpeaaGreatDoorM12
import Derived.Test.YtidmdnenlgjpeaaGreatDoorM10
set_option linter.unusedSimpArgs false
set_option linter.unusedVariables false
set_option linter.unusedSectionVars false
set_option maxRecDepth 100000
set_option maxHeartbeats 4000000
namespace Go.Proofs.Xx
open Go Go.Proofs
def Vz:List Ti→Ti→List Ti
 | [],t=>[t]
 | x :: r,t=>if Zl t x then t :: x :: r else x :: Vz r t
theorem x9 {t:Ti}:∀ {l:List Ti},(∀ x∈l,¬ Zl t x)→Vz l t=l ++ [t]
 | [],_=>rfl
 | x :: r,h=>by
  show (if Zl t x then _ else _)=_
  rw [if_neg (h x (by simp)),x9 fun y hy=>h y (by simp [hy])];rfl
theorem We {t y:Ti}:∀ {l:List Ti},(∀ x∈l,¬ Zl t x)→Zl t y→Vz (l ++ [y]) t=l ++ [t,y]
 | [],_,hy=>if_pos hy
 | x :: r,h,hy=>by
  show (if Zl t x then _ else _)=_
  rw [if_neg (h x (by simp)),show r.append [y]=r ++ [y] from rfl,We (fun y hy=>h y (by simp [hy])) hy];rfl
theorem xZ {t y:Ti}:∀ {l:List Ti},(∃ x∈l,Zl t x)→Vz (l ++ [y]) t=Vz l t ++ [y]
 | [],⟨x,hx,_⟩=>by cases hx
 | x :: r,⟨z,hz,hb⟩=>by
  show (if Zl t x then _ else _)=(if Zl t x then _ else _) ++ _
  split
  ·rfl
  ·rename_i hn
   rcases List.mem_cons.1 hz with q|q
   ·rw [q] at hb;exact absurd hb hn
   ·rw [List.append_eq,xZ ⟨z,q,hb⟩];rfl
theorem wZ (t:Ti):∀ (l:List Ti),(Vz l t).length=l.length+1
 | []=>rfl
 | x :: r=>by
  show (if Zl t x then _ else _:List Ti).length=_
  split
  ·rfl
  ·simp [wZ t r]
theorem x8 {t:Ti}:∀ {l:List Ti},(∀ x∈l,¬ (x.a=t.a∧x.b=t.b))→Vz l t=yX l t
 | [],_=>rfl
 | x :: r,h=>by
  show (if Zl t x then _ else _)=(if Zl x t then _ else _)
  rcases vN x t with q|q|q
  ·rw [if_pos q,if_neg (fun q2=>vO _ (QN q q2)),x8 fun y hy=>h y (by simp [hy])]
  ·exact absurd q (h x (by simp))
  ·rw [if_pos q,if_neg (fun q2=>vO _ (QN q q2))]
theorem qbu {ts:List Ti} {a b:List UInt8} (k:Int) (h:¬ tied ts a b):∀ x∈ts,¬ (x.a=(jK a b k).a∧x.b=(jK a b k).b):=fun x hx q=>h ⟨x,hx,q⟩
variable [Flag]
theorem qar {h0:AH} (w:WfH h0) (na nb:List UInt8) (k:Int):Fn Tryz.prog Xh 141 [str na,str nb,.int .u8 k] h0 (fun u h'=>u=tiV (jK na nb k)∧Hs h0 h' []):=by
 have S:=Hs.start w
 refine zD rfl Tryz.func141 rfl rfl ?_
 all_goals (repeat' (first|refine qA ?_|refine qw rfl ?_|refine qx ?_|refine qy ?_|refine qo ?_|refine qi ?_|refine qj ?_|(refine qg 0 ?_;(refine al S ?_;clear S;intro b h S);refine qf ?_)|(refine qg 1 ?_;refine mv ?_;refine mv ?_;(refine tO ?_ ?_<;>intro hc)<;>(refine qf ?_))|(refine qg 2 ?_;(iterate 3 refine mv ?_);refine vl ?_;(first|(refine sB S rfl rfl ?_;clear S;intro h S)|(refine jm S rfl rfl ?_;clear S;intro h S));refine qf ?_)|(refine qg 3 ?_;(iterate 3 refine mv ?_);refine vl ?_;(first|(refine sB S rfl rfl ?_;clear S;intro h S)|(refine jm S rfl rfl ?_;clear S;intro h S));refine qf ?_)))
 ·refine qH ⟨_,qN S rfl (by first|exact .here|exact .there .here|exact .there (.there .here)|exact .there (.there (.there .here))|exact .there (.there (.there (.there .here)))|exact .there (.there (.there (.there (.there .here))))|exact .there (.there (.there (.there (.there (.there .here)))))|exact .there (.there (.there (.there (.there (.there (.there .here))))))|exact .there (.there (.there (.there (.there (.there (.there (.there .here)))))))|exact .there (.there (.there (.there (.there (.there (.there (.there (.there .here))))))))|exact .there (.there (.there (.there (.there (.there (.there (.there (.there (.there .here)))))))))|exact .there (.there (.there (.there (.there (.there (.there (.there (.there (.there (.there .here))))))))))|exact .there (.there (.there (.there (.there (.there (.there (.there (.there (.there (.there (.there .here)))))))))))) (by exact rfl) (by exact rfl),?_⟩
  have e:jK na nb k=⟨nb,na,k⟩:=by unfold jK jV jW;rw [if_pos hc,if_neg (zV hc)]
  rw [e]
  exact ⟨rfl,S.drop⟩
 ·refine qH ⟨_,qN S rfl (by first|exact .here|exact .there .here|exact .there (.there .here)|exact .there (.there (.there .here))|exact .there (.there (.there (.there .here)))|exact .there (.there (.there (.there (.there .here))))|exact .there (.there (.there (.there (.there (.there .here)))))|exact .there (.there (.there (.there (.there (.there (.there .here))))))|exact .there (.there (.there (.there (.there (.there (.there (.there .here)))))))|exact .there (.there (.there (.there (.there (.there (.there (.there (.there .here))))))))|exact .there (.there (.there (.there (.there (.there (.there (.there (.there (.there .here)))))))))|exact .there (.there (.there (.there (.there (.there (.there (.there (.there (.there (.there .here))))))))))|exact .there (.there (.there (.there (.there (.there (.there (.there (.there (.there (.there (.there .here)))))))))))) (by exact rfl) (by exact rfl),?_⟩
  have e:jK na nb k=⟨na,nb,k⟩:=by
   unfold jK jV jW
   rw [if_neg hc]
   split
   ·rfl
   ·rename_i q
    rcases JW hc with e|e
    ·rw [e]
    ·exact absurd e q
  rw [e]
  exact ⟨rfl,S.drop⟩
theorem qbE {h0:AH} (w:WfH h0) (v:Value) (l:List Ti) (hr:Qr h0 v 3 zW l) (hl:l.length≤1000000) (t:Ti):Fn Tryz.prog Xh 140 [v,tiV t] h0 (fun u h'=>Hs h0 h' [.sl u 111 3 zW (Vz l t)]):=by
 have S:=Hs.start w
 unfold tiV
 refine zD rfl Tryz.func140 rfl rfl ?_
 all_goals (repeat' (first|refine qA ?_|refine qw rfl ?_|refine qx ?_|refine qy ?_|refine qo ?_|refine qi ?_|refine qj ?_|(refine qg 0 ?_;(refine bx S ?_;clear S;intro b h S);refine mv ?_;refine qf ?_)|(refine qg 1 ?_;refine mv ?_;refine qf ?_)|(refine qg 2 ?_;refine mv ?_;refine qf ?_)|(refine qg 3 ?_;refine mv ?_;refine qf ?_)))
 obtain ⟨b3,hnm⟩:∃ x,x=b:=⟨_,rfl⟩;subst hnm
 have S:=S.YU (e:=111) (z:=3) (enc:=zW)
 replace S:Hs h0 h [.sl (.slice none 0 0) 111 3 zW [],.blk b3 (zW t) 111]:=S
 refine zU (σ:=Nat×Bool×Value) (fun (i,dn,v5) h'=>Hs h0 h' [.sl v5 111 3 zW (if dn then Vz (l.take i) t else l.take i),.blk b3 (zW t) 111]∧i≤l.length∧(dn=false→∀ x∈l.take i,¬ Zl t x)∧(dn=true→∃ x∈l.take i,Zl t x)) (fun (i,dn,v5)=>l.length - i) (fun (i,dn,v5)=>[(0,v),(3,.pointer (some ⟨b3,0,none⟩)),(5,v5),(6,.bool dn),(7,.int .i64 i)]) (0,false,.slice none 0 0) zy ?_ ?_
 ·exact ⟨S,Nat.zero_le _,fun _ x hx=>(by cases hx),fun q=>(by cases q)⟩
 clear S
 rintro ⟨i,dn,v5⟩ h ⟨S,g1,g2,g3⟩
 all_goals (repeat' (first|refine qA ?_|refine qw rfl ?_|refine qx ?_|refine qy ?_|refine qi ?_|refine qj ?_|(refine qg 4 ?_;refine mv ?_;refine mv ?_;(first|refine Zq S ?_|refine Zp S rfl rfl ?_);(first|refine cT ?_|refine cF ?_|(refine cS ?_ ?_<;>intro hc))<;>(refine qf ?_))))
 ·have hil:i<l.length:=by omega
  have et:=jL hil
  have hm:∀ x,x∈l.take (i+1)↔x∈l.take i∨x=l.getD i default:=fun x=>by rw [et];simp
  cases dn with
  | true =>
   replace S:Hs h0 h [.sl v5 111 3 zW (Vz (l.take i) t),.blk b3 (zW t) 111]:=S
   have hpl:=wZ t (l.take i)
   simp only [List.length_take] at hpl
   all_goals (repeat' (first|refine qA ?_|refine qw rfl ?_|refine qx ?_|refine qy ?_|refine qo ?_|refine qi ?_|refine qj ?_|(refine zZ 6 ?_;refine mv ?_;refine vl ?_;refine mv ?_;(first|refine off ?_|(first|refine lB S rfl rfl ?_|refine qE S rfl rfl ?_|refine qO S ?_|refine lH S ?_));(first|refine off ?_|refine mv ?_);(first|refine off ?_|refine mv ?_);(first|refine off ?_|(first|refine zM S ?_|refine qW S rfl rfl ?_));(first|refine off ?_|(first|refine lB S rfl rfl ?_|refine qE S rfl rfl ?_|refine qO S ?_|refine lH S ?_));(first|(refine off ?_;refine vl ?_;refine qf ?_)|skip))))
   all_goals (repeat' (first|refine qA ?_|refine qw rfl ?_|refine qx ?_|refine qy ?_|refine qo ?_|refine qi ?_|refine qj ?_|(refine qg 9 ?_;(iterate 3 refine mv ?_);(first|refine zM S ?_|refine qW S rfl rfl ?_);(first|refine lB S rfl rfl ?_|refine qE S rfl rfl ?_|refine qO S ?_|refine lH S ?_);(refine one 3 S ?_;clear S;intro u h S))))
   simp only [Int.toNat_natCast]
   refine app (y0:=l.getD i default) S rfl rfl ?_;clear S;intro v5 h S;(refine mv ?_;refine qf ?_)
   all_goals (repeat' (first|refine qA ?_|refine qw rfl ?_|refine qx ?_|refine qy ?_|refine qo ?_|refine qi ?_|refine qj ?_|(refine qg 5 ?_;refine mv ?_;(first|refine ad ?_|refine vl ?_);refine mv ?_;refine qf ?_)))
   refine ⟨(i+1,true,v5),?_,?_,zy⟩
   ·show l.length - (i+1)<l.length - i;omega
   ·refine ⟨?_,by (try dsimp only);omega,fun q=>(by cases q),fun _=>?_⟩
    ·show Hs h0 h [.sl v5 111 3 zW (Vz (l.take (i+1)) t),.blk b3 (zW t) 111]
     rw [et,xZ (g3 rfl)];exact S
    ·obtain ⟨x,hx,hb⟩:=g3 rfl
     exact ⟨x,(hm x).2 (.inl hx),hb⟩
  | false =>
   replace S:Hs h0 h [.sl v5 111 3 zW (l.take i),.blk b3 (zW t) 111]:=S
   all_goals (repeat' (first|refine qA ?_|refine qw rfl ?_|refine qx ?_|refine qy ?_|refine qo ?_|refine qi ?_|refine qj ?_|(refine zZ 6 ?_;refine mv ?_;refine vl ?_;refine mv ?_;(first|refine off ?_|(first|refine lB S rfl rfl ?_|refine qE S rfl rfl ?_|refine qO S ?_|refine lH S ?_));(first|refine off ?_|refine mv ?_);(first|refine off ?_|refine mv ?_);(first|refine off ?_|(first|refine zM S ?_|refine qW S rfl rfl ?_));(first|refine off ?_|(first|refine lB S rfl rfl ?_|refine qE S rfl rfl ?_|refine qO S ?_|refine lH S ?_));(first|(refine off ?_;refine vl ?_;refine qf ?_)|skip))))
   simp only [Int.toNat_natCast]
   (refine qM rfl rfl rfl rfl rfl ((P5 S.wf t (l.getD i default)).mono ?_);rintro _ h ⟨⟨rfl,hb⟩|⟨rfl,hb⟩,x⟩)<;>(replace S:=S.zC x;clear x;refine vl ?_;refine qf ?_)
   ·all_goals (repeat' (first|refine qA ?_|refine qw rfl ?_|refine qx ?_|refine qy ?_|refine qo ?_|refine qi ?_|refine qj ?_|(refine qg 7 ?_;refine mv ?_;(first|refine lB S rfl rfl ?_|refine qE S rfl rfl ?_|refine qO S ?_|refine lH S ?_);(refine one 3 S ?_;clear S;intro u h S))))
    refine app (y0:=t) S rfl rfl ?_;clear S;intro v5 h S;(refine mv ?_;refine qf ?_)
    all_goals (repeat' (first|refine qA ?_|refine qw rfl ?_|refine qx ?_|refine qy ?_|refine qo ?_|refine qi ?_|refine qj ?_|(refine qg 8 ?_;refine mv ?_;refine qf ?_)|(refine qg 9 ?_;(iterate 3 refine mv ?_);(first|refine zM S ?_|refine qW S rfl rfl ?_);(first|refine lB S rfl rfl ?_|refine qE S rfl rfl ?_|refine qO S ?_|refine lH S ?_);(refine one 3 S ?_;clear S;intro u h S))))
    simp only [Int.toNat_natCast]
    refine app (y0:=l.getD i default) S rfl rfl ?_;clear S;intro v5 h S;(refine mv ?_;refine qf ?_)
    all_goals (repeat' (first|refine qA ?_|refine qw rfl ?_|refine qx ?_|refine qy ?_|refine qo ?_|refine qi ?_|refine qj ?_|(refine qg 5 ?_;refine mv ?_;(first|refine ad ?_|refine vl ?_);refine mv ?_;refine qf ?_)))
    refine ⟨(i+1,true,v5),?_,?_,zy⟩
    ·show l.length - (i+1)<l.length - i;omega
    ·refine ⟨?_,by (try dsimp only);omega,fun q=>(by cases q),fun _=>⟨_,(hm _).2 (.inr rfl),hb⟩⟩
     show Hs h0 h [.sl v5 111 3 zW (Vz (l.take (i+1)) t),.blk b3 (zW t) 111]
     rw [et,We (g2 rfl) hb];simpa using S
   ·all_goals (repeat' (first|refine qA ?_|refine qw rfl ?_|refine qx ?_|refine qy ?_|refine qo ?_|refine qi ?_|refine qj ?_|(refine qg 9 ?_;(iterate 3 refine mv ?_);(first|refine zM S ?_|refine qW S rfl rfl ?_);(first|refine lB S rfl rfl ?_|refine qE S rfl rfl ?_|refine qO S ?_|refine lH S ?_);(refine one 3 S ?_;clear S;intro u h S))))
    simp only [Int.toNat_natCast]
    refine app (y0:=l.getD i default) S rfl rfl ?_;clear S;intro v5 h S;(refine mv ?_;refine qf ?_)
    all_goals (repeat' (first|refine qA ?_|refine qw rfl ?_|refine qx ?_|refine qy ?_|refine qo ?_|refine qi ?_|refine qj ?_|(refine qg 5 ?_;refine mv ?_;(first|refine ad ?_|refine vl ?_);refine mv ?_;refine qf ?_)))
    refine ⟨(i+1,false,v5),?_,?_,zy⟩
    ·show l.length - (i+1)<l.length - i;omega
    ·refine ⟨?_,by (try dsimp only);omega,fun _ x hx=>?_,fun q=>by cases q⟩
     ·show Hs h0 h [.sl v5 111 3 zW (l.take (i+1)),.blk b3 (zW t) 111]
      rw [et];exact S
     ·rcases (hm x).1 hx with q|q
      ·exact g2 rfl x q
      ·rw [q];exact hb
 ·obtain rfl:i=l.length:=by omega
  rw [List.take_length] at S g2 g3
  skip
  cases dn with
  | true =>
   all_goals (repeat' (first|refine qA ?_|refine qw rfl ?_|refine qx ?_|refine qy ?_|refine qo ?_|refine qi ?_|refine qj ?_|(refine qg 10 ?_;refine mv ?_;refine vl ?_;refine qf ?_)|(refine qg 11 ?_;refine mv ?_;(first|refine lB S rfl rfl ?_|refine qE S rfl rfl ?_|refine qO S ?_|refine lH S ?_);(refine one 3 S ?_;clear S;intro u h S))|(refine qg 12 ?_;refine mv ?_;refine mv ?_;refine qf ?_)))
   refine qH ⟨_,rfl,?_⟩
   exact S.only .here
  | false =>
   all_goals (repeat' (first|refine qA ?_|refine qw rfl ?_|refine qx ?_|refine qy ?_|refine qo ?_|refine qi ?_|refine qj ?_|(refine qg 10 ?_;refine mv ?_;refine vl ?_;refine qf ?_)|(refine qg 11 ?_;refine mv ?_;(first|refine lB S rfl rfl ?_|refine qE S rfl rfl ?_|refine qO S ?_|refine lH S ?_);(refine one 3 S ?_;clear S;intro u h S))|(refine qg 12 ?_;refine mv ?_;refine mv ?_;refine qf ?_)))
   refine app (y0:=t) S rfl rfl ?_;clear S;intro v5 h S;(refine mv ?_;refine qf ?_)
   all_goals (repeat' (first|refine qA ?_|refine qw rfl ?_|refine qx ?_|refine qy ?_|refine qo ?_|refine qi ?_|refine qj ?_|(refine qg 12 ?_;refine mv ?_;refine mv ?_;refine qf ?_)))
   refine qH ⟨_,rfl,?_⟩
   rw [x9 (g2 rfl)]
   exact S.only .here
def RRes (h0:AH) (v:RlV) (q:Rl×Int) (u:Value) (h':AH):Prop:=(q.2≠0∧u = .tuple #[v.val,.int .i64 q.2]∧Hs h0 h' [])∨(q.2=0∧∃ v':RlV,u = .tuple #[v'.val,.int .i64 0]∧v'.gs.map (·.toGu)=q.1.us∧Hs h0 h' (Jz v' q.1.ts))
theorem RRes.err {h0 h':AH} {v:RlV} {q:Rl×Int} {r:Rl} {e:Int} {u:Value} (hq:q=(r,e)) (he:e≠0) (hu:u = .tuple #[v.val,.int .i64 e]) (S:Hs h0 h' []):RRes h0 v q u h':=by subst hq;exact .inl ⟨he,hu,S⟩
theorem RO.t4 {r:Rl} (H:RO r):∀ g∈r.us,g.tg.length≤4:=fun g hg=>(YC (H.chk g hg)).2.2.2.1
theorem RlOk.t4 {h:AH} {v:RlV} {r:Rl} (HR:RlOk h v r) (H:RO r) {i:Nat} (hi:i<v.gs.length):(v.gs.getD i default).tg.length≤4:=by
 have:=H.t4 _ (qR (show i<r.us.length by rw [← HR.len];exact hi))
 rwa [← HR.at_ hi] at this
theorem RlOk.fit {h:AH} {v:RlV} {r:Rl} (HR:RlOk h v r) (H:RO r):RlFit h v r:=by
 have h64:=H.l64
 have h256:=H.l256
 exact ⟨HR,fun i hi=>by have:=HR.t4 H hi;omega,by omega,by omega⟩
theorem Hs.qbG {h0 h:AH} {rs:List Rs} {v:RlV} {r:Rl} (S:Hs h0 h rs) (hu:v.gs.map (·.toGu)=r.us) (H:RO r) [i:SelR rs (Jz v r.ts)]:RlOk h v r:=by
 have h64:=H.l64
 have h256:=H.l256
 exact Hs.qed (rs:=[]) (show Hs h0 h (Jz v r.ts) from S.pick) hu (by omega) (by omega) fun g hg=>by have:=H.t4 g hg;omega
theorem VJ {h0:AH} (w:WfH h0) (v:RlV) (r:Rl) (HR:RlOk h0 v r) (H:RO r) (g:ZC) (rg:qcj h0 g):Fn Tryz.prog Xh 108 [v.val,gV g] h0 (RRes h0 v (ZF r g.toGu)):=by
 have S:=Hs.start w
 have HF:=HR.fit H
 have h64:=H.l64
 have hus:=HR.us
 have hgl:=HR.len
 have hrg:=HR.rg
 unfold RlV.val
 unfold gV
 refine zD rfl Tryz.func108 rfl rfl ?_
 all_goals (repeat' (first|refine qA ?_|refine qw rfl ?_|refine qx ?_|refine qy ?_|refine qo ?_|refine qi ?_|refine qj ?_|(refine qg 0 ?_;(refine bx S ?_;clear S;intro b h S);(refine bx S ?_;clear S;intro b h S);(refine al S ?_;clear S;intro b h S);refine mv ?_;refine qf ?_)))
 obtain ⟨b4,hnm⟩:∃ x,x=b:=⟨_,rfl⟩;subst hnm
 obtain ⟨b3,hnm⟩:∃ x,x=b:=⟨_,rfl⟩;subst hnm
 obtain ⟨b2,hnm⟩:∃ x,x=b:=⟨_,rfl⟩;subst hnm
 replace S:Hs h0 h (.blk b4 [.slice none 0 0,.slice none 0 0] 32 :: .blk b3 (eG g) 24 :: .blk b2 [v.vg.val,v.vt.val] 32 :: []):=S
 all_goals (repeat' (first|refine qA ?_|refine qw rfl ?_|refine qx ?_|refine qy ?_|refine qo ?_|refine qi ?_|refine qj ?_|(refine qg 1 ?_;(first|refine lB S rfl rfl ?_|refine qE S rfl rfl ?_|refine qO S ?_|refine lH S ?_))))
 (refine qM rfl rfl rfl rfl rfl ((wW S.wf g ⟨rg.1.ext w S.ext,rg.2⟩).mono ?_);rintro _ h ⟨rfl,x⟩)<;>(replace S:=S.zC x;clear x;refine mv ?_;refine qf ?_)
 all_goals (repeat' (first|refine qA ?_|refine qw rfl ?_|refine qx ?_|refine qy ?_|refine qo ?_|refine qi ?_|refine qj ?_|(refine qg 2 ?_;refine mv ?_;(first|refine cT ?_|refine cF ?_|(refine cS ?_ ?_<;>intro hc))<;>(refine qf ?_))|(refine qg 3 ?_;(first|refine lB S rfl rfl ?_|refine qE S rfl rfl ?_|refine qO S ?_|refine lH S ?_);refine mv ?_;(first|(refine sB S rfl rfl ?_;clear S;intro h S)|(refine jm S rfl rfl ?_;clear S;intro h S));refine mv ?_;refine qf ?_)))
 ·refine qH ⟨_,qN S rfl (by first|exact .here|exact .there .here|exact .there (.there .here)|exact .there (.there (.there .here))|exact .there (.there (.there (.there .here)))|exact .there (.there (.there (.there (.there .here))))|exact .there (.there (.there (.there (.there (.there .here)))))|exact .there (.there (.there (.there (.there (.there (.there .here))))))|exact .there (.there (.there (.there (.there (.there (.there (.there .here)))))))|exact .there (.there (.there (.there (.there (.there (.there (.there (.there .here))))))))|exact .there (.there (.there (.there (.there (.there (.there (.there (.there (.there .here)))))))))|exact .there (.there (.there (.there (.there (.there (.there (.there (.there (.there (.there .here))))))))))|exact .there (.there (.there (.there (.there (.there (.there (.there (.there (.there (.there (.there .here)))))))))))) (by exact rfl) (by exact rfl),?_⟩
  exact .err (Gh hc) hc rfl S.drop
 ·have hc0:QC g.toGu=0:=by simpa using hc
  all_goals (repeat' (first|refine qA ?_|refine qw rfl ?_|refine qx ?_|refine qy ?_|refine qo ?_|refine qi ?_|refine qj ?_|(refine qg 4 ?_;(first|refine vl ?_|refine fB S ?_|refine fS S rfl rfl ?_|refine fA ?_);(first|refine lB S rfl rfl ?_|refine qE S rfl rfl ?_|refine qO S ?_|refine lH S ?_);(first|refine vl ?_|refine fB S ?_|refine fS S rfl rfl ?_|refine fA ?_);(first|refine lB S rfl rfl ?_|refine qE S rfl rfl ?_|refine qO S ?_|refine lH S ?_))))
  (refine qM rfl rfl rfl rfl rfl ((V7 S.wf v.vg.val v.gs (hrg.ext w S.ext) (by omega) g.name).mono ?_);rintro _ h ⟨⟨i,hi,hil,rfl⟩|⟨hi,rfl⟩,x⟩)<;>(replace S:=S.zC x;clear x;(first|refine cT ?_|refine cF ?_|(refine cS ?_ ?_<;>intro hc))<;>(refine qf ?_))
  ·rw [hus] at hi
   all_goals (repeat' (first|refine qA ?_|refine qw rfl ?_|refine qx ?_|refine qy ?_|refine qo ?_|refine qi ?_|refine qj ?_|(refine qg 5 ?_;(first|refine lB S rfl rfl ?_|refine qE S rfl rfl ?_|refine qO S ?_|refine lH S ?_);(first|(refine sB S rfl rfl ?_;clear S;intro h S)|(refine jm S rfl rfl ?_;clear S;intro h S));refine mv ?_;refine qf ?_)))
   refine qH ⟨_,qN S rfl (by first|exact .here|exact .there .here|exact .there (.there .here)|exact .there (.there (.there .here))|exact .there (.there (.there (.there .here)))|exact .there (.there (.there (.there (.there .here))))|exact .there (.there (.there (.there (.there (.there .here)))))|exact .there (.there (.there (.there (.there (.there (.there .here))))))|exact .there (.there (.there (.there (.there (.there (.there (.there .here)))))))|exact .there (.there (.there (.there (.there (.there (.there (.there (.there .here))))))))|exact .there (.there (.there (.there (.there (.there (.there (.there (.there (.there .here)))))))))|exact .there (.there (.there (.there (.there (.there (.there (.there (.there (.there (.there .here))))))))))|exact .there (.there (.there (.there (.there (.there (.there (.there (.there (.there (.there (.there .here)))))))))))) (by exact rfl) (by exact rfl),?_⟩
   exact .err (Gj hc0 (by rw [hi];simp)) (by decide) rfl S.drop
  ·rw [hus] at hi
   skip
   all_goals (repeat' (first|refine qA ?_|refine qw rfl ?_|refine qx ?_|refine qy ?_|refine qo ?_|refine qi ?_|refine qj ?_|(refine qg 6 ?_;(first|refine vl ?_|refine fB S ?_|refine fS S rfl rfl ?_|refine fA ?_);(first|refine lB S rfl rfl ?_|refine qE S rfl rfl ?_|refine qO S ?_|refine lH S ?_);(first|refine Zq S ?_|refine Zp S rfl rfl ?_);(first|refine cT ?_|refine cF ?_|(refine cS ?_ ?_<;>intro hc))<;>(refine qf ?_))|(refine qg 7 ?_;(first|refine lB S rfl rfl ?_|refine qE S rfl rfl ?_|refine qO S ?_|refine lH S ?_);(first|(refine sB S rfl rfl ?_;clear S;intro h S)|(refine jm S rfl rfl ?_;clear S;intro h S));refine mv ?_;refine qf ?_)))
   ·refine qH ⟨_,qN S rfl (by first|exact .here|exact .there .here|exact .there (.there .here)|exact .there (.there (.there .here))|exact .there (.there (.there (.there .here)))|exact .there (.there (.there (.there (.there .here))))|exact .there (.there (.there (.there (.there (.there .here)))))|exact .there (.there (.there (.there (.there (.there (.there .here))))))|exact .there (.there (.there (.there (.there (.there (.there (.there .here)))))))|exact .there (.there (.there (.there (.there (.there (.there (.there (.there .here))))))))|exact .there (.there (.there (.there (.there (.there (.there (.there (.there (.there .here)))))))))|exact .there (.there (.there (.there (.there (.there (.there (.there (.there (.there (.there .here))))))))))|exact .there (.there (.there (.there (.there (.there (.there (.there (.there (.there (.there (.there .here)))))))))))) (by exact rfl) (by exact rfl),?_⟩
    exact .err (Gi hc0 hi (by omega)) (by decide) rfl S.drop
   ·have hn64:¬ 64≤r.us.length:=by omega
    have ht4:=(YC hc0).2.2.2.1
    all_goals (repeat' (first|refine qA ?_|refine qw rfl ?_|refine qx ?_|refine qy ?_|refine qo ?_|refine qi ?_|refine qj ?_|(refine qg 8 ?_;(first|refine lB S rfl rfl ?_|refine qE S rfl rfl ?_|refine qO S ?_|refine lH S ?_))))
    (refine qM rfl rfl rfl rfl rfl ((qa1 S.wf v r (HF.ext w S.ext)).mono ?_);rintro _ h ⟨⟨vg,vt,gs⟩,rfl,q2,x⟩)<;>(replace S:=S.join x;clear x;dsimp only [Jz,List.cons_append,List.nil_append] at S;unfold RlV.val;dsimp only;(refine al S ?_;clear S;intro b h S);(first|(refine sB S rfl rfl ?_;clear S;intro h S)|(refine jm S rfl rfl ?_;clear S;intro h S));refine qf ?_)
    obtain ⟨b7,hnm⟩:∃ x,x=b:=⟨_,rfl⟩;subst hnm
    dsimp only at q2
    replace S:Hs h0 h (.blk b7 [vg.val,vt.val] 32 :: .sl vg.val 24 9 eG gs :: .sl vt.val 111 3 zW r.ts :: XA gs :: .blk b4 [.slice none 0 0,.slice none 0 0] 32 :: .blk b3 (eG g) 24 :: .blk b2 [v.vg.val,v.vt.val] 32 :: []):=S
    have R1:RlOk h ⟨vg,vt,gs⟩ r:=S.qbG q2 H
    have hgs:=R1.len
    dsimp only at hgs
    have R1t:∀ i,i<gs.length→Qr h (gs.getD i default).tv.val 1 eS (gs.getD i default).tg∧(gs.getD i default).tg.length≤8796093021952:=fun i hi=>⟨(R1.tg i hi).1,by have:=R1.t4 H hi;dsimp only at this;omega⟩
    have R1g:=R1.rg
    dsimp only at R1g
    (repeat (refine qA ?_));refine Zm (id:=9) [(3,(0,1))] [some (b3)] ?_;refine qB ?_;(first|(refine vl ?_<;>refine qf ⟨⟨by (first|exact True.intro|exact Or.inl rfl|exact Or.inr rfl|exact Or.inr (congrArg some (qh _ _ _ _))|exact ⟨Or.inl rfl,rfl⟩|exact ⟨Or.inr rfl,rfl⟩),rfl⟩,?_⟩)|(refine fB S ?_<;>refine qf ⟨⟨by (first|exact True.intro|exact Or.inl rfl|exact Or.inr rfl|exact Or.inr (congrArg some (qh _ _ _ _))|exact ⟨Or.inl rfl,rfl⟩|exact ⟨Or.inr rfl,rfl⟩),rfl⟩,?_⟩)|(refine fS S rfl rfl ?_<;>refine qf ⟨⟨by (first|exact True.intro|exact Or.inl rfl|exact Or.inr rfl|exact Or.inr (congrArg some (qh _ _ _ _))|exact ⟨Or.inl rfl,rfl⟩|exact ⟨Or.inr rfl,rfl⟩),rfl⟩,?_⟩)|(refine fA ?_<;>refine qf ⟨⟨by (first|exact True.intro|exact Or.inl rfl|exact Or.inr rfl|exact Or.inr (congrArg some (qh _ _ _ _))|exact ⟨Or.inl rfl,rfl⟩|exact ⟨Or.inr rfl,rfl⟩),rfl⟩,?_⟩));refine qB ?_;(first|(refine lB S rfl rfl ?_<;>refine qf ⟨⟨by (first|exact True.intro|exact Or.inl rfl|exact Or.inr rfl|exact Or.inr (congrArg some (qh _ _ _ _))|exact ⟨Or.inl rfl,rfl⟩|exact ⟨Or.inr rfl,rfl⟩),rfl⟩,?_⟩)|(refine qE S rfl rfl ?_<;>refine qf ⟨⟨by (first|exact True.intro|exact Or.inl rfl|exact Or.inr rfl|exact Or.inr (congrArg some (qh _ _ _ _))|exact ⟨Or.inl rfl,rfl⟩|exact ⟨Or.inr rfl,rfl⟩),rfl⟩,?_⟩)|(refine qO S ?_<;>refine qf ⟨⟨by (first|exact True.intro|exact Or.inl rfl|exact Or.inr rfl|exact Or.inr (congrArg some (qh _ _ _ _))|exact ⟨Or.inl rfl,rfl⟩|exact ⟨Or.inr rfl,rfl⟩),rfl⟩,?_⟩)|(refine lH S ?_<;>refine qf ⟨⟨by (first|exact True.intro|exact Or.inl rfl|exact Or.inr rfl|exact Or.inr (congrArg some (qh _ _ _ _))|exact ⟨Or.inl rfl,rfl⟩|exact ⟨Or.inr rfl,rfl⟩),rfl⟩,?_⟩))
    ((refine qB ?_;first|refine qM rfl rfl rfl rfl rfl ((pg S.wf vg.val gs R1g R1t (by omega)).mono ?_));rintro _ h ⟨vg2,gs2,rfl,g2,x⟩)<;>((refine qf ⟨⟨True.intro,?_⟩,?_⟩;(focus ((show keepsX _ _ _ _ _;simp only [keepsX];(repeat' (first|exact True.intro|refine And.intro ?_ ?_));all_goals (intro hw;first|exact True.intro|exact rfl|exact x.ext.old _ S.bB|exact x.ext.old _ (S.bR (by first|omega|grind))|exact x.ext.old _ (S.bX (by assumption) (by assumption) (by first|omega|grind))|exact x.ext.old _ (S.bY (by assumption) (by assumption))|(refine x.ext.old _ ?_;assumption)|exact absurd hw (by decide +kernel))))));replace S:=S.qct x;clear x;refine qB ?_;(first|(refine lB S rfl rfl ?_<;>refine qf ⟨⟨by (first|exact True.intro|exact Or.inl rfl|exact Or.inr rfl|exact Or.inr (congrArg some (qh _ _ _ _))|exact ⟨Or.inl rfl,rfl⟩|exact ⟨Or.inr rfl,rfl⟩),rfl⟩,?_⟩)|(refine qE S rfl rfl ?_<;>refine qf ⟨⟨by (first|exact True.intro|exact Or.inl rfl|exact Or.inr rfl|exact Or.inr (congrArg some (qh _ _ _ _))|exact ⟨Or.inl rfl,rfl⟩|exact ⟨Or.inr rfl,rfl⟩),rfl⟩,?_⟩)|(refine qO S ?_<;>refine qf ⟨⟨by (first|exact True.intro|exact Or.inl rfl|exact Or.inr rfl|exact Or.inr (congrArg some (qh _ _ _ _))|exact ⟨Or.inl rfl,rfl⟩|exact ⟨Or.inr rfl,rfl⟩),rfl⟩,?_⟩)|(refine lH S ?_<;>refine qf ⟨⟨by (first|exact True.intro|exact Or.inl rfl|exact Or.inr rfl|exact Or.inr (congrArg some (qh _ _ _ _))|exact ⟨Or.inl rfl,rfl⟩|exact ⟨Or.inr rfl,rfl⟩),rfl⟩,?_⟩)))
    ((refine qB ?_;first|refine qM rfl rfl rfl rfl rfl ((qa3 S.wf g (rg.1.ext w S.ext) (by omega)).mono ?_));rintro _ h ⟨tv,rfl,x⟩)<;>((refine qf ⟨⟨True.intro,?_⟩,?_⟩;(focus ((show keepsX _ _ _ _ _;simp only [keepsX];(repeat' (first|exact True.intro|refine And.intro ?_ ?_));all_goals (intro hw;first|exact True.intro|exact rfl|exact x.ext.old _ S.bB|exact x.ext.old _ (S.bR (by first|omega|grind))|exact x.ext.old _ (S.bX (by assumption) (by assumption) (by first|omega|grind))|exact x.ext.old _ (S.bY (by assumption) (by assumption))|(refine x.ext.old _ ?_;assumption)|exact absurd hw (by decide +kernel))))));replace S:=S.QY x;clear x;refine qB ?_;(first|((refine one 9 S ?_;have S0:=S;clear S;intro u h S);refine qf ⟨⟨True.intro,?_⟩,?_⟩;(focus ((show keepsX _ _ _ _ _;simp only [keepsX];(repeat' (first|exact True.intro|refine And.intro ?_ ?_));all_goals (intro hw;first|exact True.intro|exact (S.gB).trans (S0.gB).symm|exact absurd hw (by decide +kernel)))));clear S0)))
    have hg2:gs2.length=gs.length:=by have:=congrArg List.length g2;simpa using this
    refine qB ?_;refine app (y0:={ g with tv:=tv }) S rfl rfl ?_;have S0:=S;clear S;intro v3 h S;obtain ⟨vg',rfl⟩:=S.sV v3;refine qf ⟨⟨True.intro,?_⟩,?_⟩;(focus ((show keepsX _ _ _ _ _;simp only [keepsX];(repeat' (first|exact True.intro|refine And.intro ?_ ?_));all_goals (intro hw;first|exact True.intro|exact (S.gB).trans (S0.gB).symm|exact absurd hw (by decide +kernel)))));clear S0;(refine qB ?_;(first|(refine vl ?_<;>refine qf ⟨⟨by (first|exact True.intro|exact Or.inl rfl|exact Or.inr rfl|exact Or.inr (congrArg some (qh _ _ _ _))|exact ⟨Or.inl rfl,rfl⟩|exact ⟨Or.inr rfl,rfl⟩),rfl⟩,?_⟩)|(refine fB S ?_<;>refine qf ⟨⟨by (first|exact True.intro|exact Or.inl rfl|exact Or.inr rfl|exact Or.inr (congrArg some (qh _ _ _ _))|exact ⟨Or.inl rfl,rfl⟩|exact ⟨Or.inr rfl,rfl⟩),rfl⟩,?_⟩)|(refine fS S rfl rfl ?_<;>refine qf ⟨⟨by (first|exact True.intro|exact Or.inl rfl|exact Or.inr rfl|exact Or.inr (congrArg some (qh _ _ _ _))|exact ⟨Or.inl rfl,rfl⟩|exact ⟨Or.inr rfl,rfl⟩),rfl⟩,?_⟩)|(refine fA ?_<;>refine qf ⟨⟨by (first|exact True.intro|exact Or.inl rfl|exact Or.inr rfl|exact Or.inr (congrArg some (qh _ _ _ _))|exact ⟨Or.inl rfl,rfl⟩|exact ⟨Or.inr rfl,rfl⟩),rfl⟩,?_⟩));refine qB ?_;(first|((refine sB S rfl rfl ?_;have S0:=S;clear S;intro h S);refine qf ⟨⟨True.intro,?_⟩,?_⟩;(focus ((show keepsX _ _ _ _ _;simp only [keepsX];(repeat' (first|exact True.intro|refine And.intro ?_ ?_));all_goals (intro hw;first|exact True.intro|exact (S.gB).trans (S0.gB).symm|exact absurd hw (by decide +kernel)))));clear S0)|((refine jm S rfl rfl ?_;have S0:=S;clear S;intro h S);refine qf ⟨⟨True.intro,?_⟩,?_⟩;(focus ((show keepsX _ _ _ _ _;simp only [keepsX];(repeat' (first|exact True.intro|refine And.intro ?_ ?_));all_goals (intro hw;first|exact True.intro|exact (S.gB).trans (S0.gB).symm|exact absurd hw (by decide +kernel)))));clear S0));refine JI ?_)
    all_goals (repeat' (first|refine qA ?_|refine qw rfl ?_|refine qx ?_|refine qy ?_|refine qo ?_|refine qi ?_|refine qj ?_|(refine qg 10 ?_;(first|refine lB S rfl rfl ?_|refine qE S rfl rfl ?_|refine qO S ?_|refine lH S ?_);(first|(refine sB S rfl rfl ?_;clear S;intro h S)|(refine jm S rfl rfl ?_;clear S;intro h S));refine mv ?_;refine qf ?_)))
    refine qH ⟨_,qN S rfl (by first|exact .here|exact .there .here|exact .there (.there .here)|exact .there (.there (.there .here))|exact .there (.there (.there (.there .here)))|exact .there (.there (.there (.there (.there .here))))|exact .there (.there (.there (.there (.there (.there .here)))))|exact .there (.there (.there (.there (.there (.there (.there .here))))))|exact .there (.there (.there (.there (.there (.there (.there (.there .here)))))))|exact .there (.there (.there (.there (.there (.there (.there (.there (.there .here))))))))|exact .there (.there (.there (.there (.there (.there (.there (.there (.there (.there .here)))))))))|exact .there (.there (.there (.there (.there (.there (.there (.there (.there (.there (.there .here))))))))))|exact .there (.there (.there (.there (.there (.there (.there (.there (.there (.there (.there (.there .here)))))))))))) (by exact rfl) (by exact rfl),?_⟩
    rw [Gl hc0 hi hn64]
    refine .inr ⟨rfl,⟨vg',vt,gs2 ++ [{ g with tv:=tv }]⟩,rfl,?_,?_⟩
    ·simp [g2,q2]
    ·have S:=(show Hs h0 h (.sl tv.val 9 1 eS g.tg :: XA gs2 :: .sl vg'.val 24 9 eG (gs2 ++ [{ g with tv:=tv }]) :: .sl vt.val 111 3 zW r.ts :: []) from S.pick)
     have S:=Hs.Ko (g:={ g with tv:=tv }) S
     exact S.pick
theorem GK {h0:AH} (w:WfH h0) (v:RlV) (r:Rl) (HR:RlOk h0 v r) (H:RO r) (na nb:List UInt8) (k:Int):Fn Tryz.prog Xh 106 [v.val,str na,str nb,.int .u8 k] h0 (RRes h0 v (ZE r na nb k)):=by
 have S:=Hs.start w
 have HF:=HR.fit H
 have h64:=H.l64
 have h256:=H.l256
 have hus:=HR.us
 have hgl:=HR.len
 have hrg:=HR.rg
 have hrt:=HR.rt
 unfold RlV.val
 refine zD rfl Tryz.func106 rfl rfl ?_
 all_goals (repeat' (first|refine qA ?_|refine qw rfl ?_|refine qx ?_|refine qy ?_|refine qo ?_|refine qi ?_|refine qj ?_|(refine qg 0 ?_;(refine bx S ?_;clear S;intro b h S);(refine al S ?_;clear S;intro b h S);refine mv ?_;refine qf ?_)))
 obtain ⟨b8,hnm⟩:∃ x,x=b:=⟨_,rfl⟩;subst hnm
 obtain ⟨b4,hnm⟩:∃ x,x=b:=⟨_,rfl⟩;subst hnm
 replace S:Hs h0 h (.blk b8 [.slice none 0 0,.slice none 0 0] 32 :: .blk b4 [v.vg.val,v.vt.val] 32 :: []):=S
 (repeat (refine qA ?_));first|refine ZV (σ:=Unit) (fun _ h'=>¬ ((k≠1∧k≠2)∨na=nb)∧Hs h0 h' (.blk b8 [.slice none 0 0,.slice none 0 0] 32 :: .blk b4 [v.vg.val,v.vt.val] 32 :: [])) (fun _=>[(1,str na),(2,str nb),(3,.int .u8 k),(4,.pointer (some ⟨b4,0,none⟩)),(8,.pointer (some ⟨b8,0,none⟩))]) ?_ ?_|refine Xc (σ:=Unit) (fun _ h'=>¬ ((k≠1∧k≠2)∨na=nb)∧Hs h0 h' (.blk b8 [.slice none 0 0,.slice none 0 0] 32 :: .blk b4 [v.vg.val,v.vt.val] 32 :: [])) (fun _=>[(1,str na),(2,str nb),(3,.int .u8 k),(4,.pointer (some ⟨b4,0,none⟩)),(8,.pointer (some ⟨b8,0,none⟩))]) ?_ ?_
 ·all_goals (repeat' (first|refine qA ?_|refine qw rfl ?_|refine qx ?_|refine qy ?_|refine qo ?_|refine qi ?_|refine qj ?_|(refine qg 1 ?_;refine mv ?_;(first|refine cT ?_|refine cF ?_|(refine cS ?_ ?_<;>intro hc))<;>(refine mv ?_;(first|refine off ?_|refine mv ?_);(first|refine off ?_|(first|refine cT ?_|refine cF ?_|(refine cS ?_ ?_<;>intro hc)))<;>(refine vl ?_;refine mv ?_;(first|refine off ?_|refine mv ?_);(first|refine off ?_|refine mv ?_);(first|refine off ?_|(refine tS ?_ ?_<;>intro hc))<;>(refine vl ?_;refine qf ?_))))|(refine qg 2 ?_;(first|refine lB S rfl rfl ?_|refine qE S rfl rfl ?_|refine qO S ?_|refine lH S ?_);(first|(refine sB S rfl rfl ?_;clear S;intro h S)|(refine jm S rfl rfl ?_;clear S;intro h S));refine mv ?_;refine qf ?_)))
  all_goals first
   | exact ⟨(),⟨by omega,S⟩,(zy)⟩
   | exact ⟨(),⟨by grind,S⟩,(zy)⟩
   | ((refine qH ⟨_,qN S rfl (by first|exact .here|exact .there .here|exact .there (.there .here)|exact .there (.there (.there .here))|exact .there (.there (.there (.there .here)))|exact .there (.there (.there (.there (.there .here))))|exact .there (.there (.there (.there (.there (.there .here)))))|exact .there (.there (.there (.there (.there (.there (.there .here))))))|exact .there (.there (.there (.there (.there (.there (.there (.there .here)))))))|exact .there (.there (.there (.there (.there (.there (.there (.there (.there .here))))))))|exact .there (.there (.there (.there (.there (.there (.there (.there (.there (.there .here)))))))))|exact .there (.there (.there (.there (.there (.there (.there (.there (.there (.there (.there .here))))))))))|exact .there (.there (.there (.there (.there (.there (.there (.there (.there (.there (.there (.there .here)))))))))))) (by exact rfl) (by exact rfl),?_⟩);exact .err (yM (by first|omega|grind)) (by decide) rfl S.drop)
 clear S
 rintro - h ⟨hk,S⟩
 skip
 (repeat (refine qA ?_));first|refine ZV (σ:=Unit) (fun _ h'=>¬ (gat r.us na=none∨gat r.us nb=none)∧Hs h0 h' (.blk b8 [.slice none 0 0,.slice none 0 0] 32 :: .blk b4 [v.vg.val,v.vt.val] 32 :: [])) (fun _=>[(1,str na),(2,str nb),(3,.int .u8 k),(4,.pointer (some ⟨b4,0,none⟩)),(8,.pointer (some ⟨b8,0,none⟩))]) ?_ ?_|refine Xc (σ:=Unit) (fun _ h'=>¬ (gat r.us na=none∨gat r.us nb=none)∧Hs h0 h' (.blk b8 [.slice none 0 0,.slice none 0 0] 32 :: .blk b4 [v.vg.val,v.vt.val] 32 :: [])) (fun _=>[(1,str na),(2,str nb),(3,.int .u8 k),(4,.pointer (some ⟨b4,0,none⟩)),(8,.pointer (some ⟨b8,0,none⟩))]) ?_ ?_
 ·all_goals (repeat' (first|refine qA ?_|refine qw rfl ?_|refine qx ?_|refine qy ?_|refine qo ?_|refine qi ?_|refine qj ?_|(refine qg 3 ?_;(first|refine vl ?_|refine fB S ?_|refine fS S rfl rfl ?_|refine fA ?_);(first|refine lB S rfl rfl ?_|refine qE S rfl rfl ?_|refine qO S ?_|refine lH S ?_);refine mv ?_)))
  (refine qM rfl rfl rfl rfl rfl ((V7 S.wf v.vg.val v.gs (hrg.ext w S.ext) (by omega) na).mono ?_);rintro _ h ⟨⟨i,hi,hil,rfl⟩|⟨hi,rfl⟩,x⟩)<;>(replace S:=S.zC x;clear x;(first|refine cT ?_|refine cF ?_|(refine cS ?_ ?_<;>intro hc))<;>(refine mv ?_;(first|refine off ?_|(first|refine vl ?_|refine fB S ?_|refine fS S rfl rfl ?_|refine fA ?_));(first|refine off ?_|(first|refine lB S rfl rfl ?_|refine qE S rfl rfl ?_|refine qO S ?_|refine lH S ?_));(first|refine off ?_|refine mv ?_);(first|(refine off ?_;(first|refine off ?_|(first|refine cT ?_|refine cF ?_|(refine cS ?_ ?_<;>intro hc)))<;>(refine vl ?_;refine qf ?_))|skip)))
  all_goals rw [hus] at hi
  ·all_goals (repeat' (first|refine qA ?_|refine qw rfl ?_|refine qx ?_|refine qy ?_|refine qo ?_|refine qi ?_|refine qj ?_|(refine qg 3 ?_;(first|refine vl ?_|refine fB S ?_|refine fS S rfl rfl ?_|refine fA ?_);(first|refine lB S rfl rfl ?_|refine qE S rfl rfl ?_|refine qO S ?_|refine lH S ?_);refine mv ?_)))
   (refine qM rfl rfl rfl rfl rfl ((V7 S.wf v.vg.val v.gs (hrg.ext w S.ext) (by omega) nb).mono ?_);rintro _ h ⟨⟨j,hj,hjl,rfl⟩|⟨hj,rfl⟩,x⟩)<;>(replace S:=S.zC x;clear x;(first|refine off ?_|(first|refine cT ?_|refine cF ?_|(refine cS ?_ ?_<;>intro hc)))<;>(refine vl ?_;refine qf ?_))
   all_goals rw [hus] at hj
   ·all_goals (repeat' (first|refine qA ?_|refine qw rfl ?_|refine qx ?_|refine qy ?_|refine qo ?_|refine qi ?_|refine qj ?_|(refine qg 3 ?_;(first|refine vl ?_|refine fB S ?_|refine fS S rfl rfl ?_|refine fA ?_);(first|refine lB S rfl rfl ?_|refine qE S rfl rfl ?_|refine qO S ?_|refine lH S ?_);refine mv ?_)|(refine qg 4 ?_;(first|refine lB S rfl rfl ?_|refine qE S rfl rfl ?_|refine qO S ?_|refine lH S ?_);(first|(refine sB S rfl rfl ?_;clear S;intro h S)|(refine jm S rfl rfl ?_;clear S;intro h S));refine mv ?_;refine qf ?_)))
    exact ⟨(),⟨by rw [hi,hj];simp,S⟩,(zy)⟩
   ·all_goals (repeat' (first|refine qA ?_|refine qw rfl ?_|refine qx ?_|refine qy ?_|refine qo ?_|refine qi ?_|refine qj ?_|(refine qg 3 ?_;(first|refine vl ?_|refine fB S ?_|refine fS S rfl rfl ?_|refine fA ?_);(first|refine lB S rfl rfl ?_|refine qE S rfl rfl ?_|refine qO S ?_|refine lH S ?_);refine mv ?_)|(refine qg 4 ?_;(first|refine lB S rfl rfl ?_|refine qE S rfl rfl ?_|refine qO S ?_|refine lH S ?_);(first|(refine sB S rfl rfl ?_;clear S;intro h S)|(refine jm S rfl rfl ?_;clear S;intro h S));refine mv ?_;refine qf ?_)))
    refine qH ⟨_,qN S rfl (by first|exact .here|exact .there .here|exact .there (.there .here)|exact .there (.there (.there .here))|exact .there (.there (.there (.there .here)))|exact .there (.there (.there (.there (.there .here))))|exact .there (.there (.there (.there (.there (.there .here)))))|exact .there (.there (.there (.there (.there (.there (.there .here))))))|exact .there (.there (.there (.there (.there (.there (.there (.there .here)))))))|exact .there (.there (.there (.there (.there (.there (.there (.there (.there .here))))))))|exact .there (.there (.there (.there (.there (.there (.there (.there (.there (.there .here)))))))))|exact .there (.there (.there (.there (.there (.there (.there (.there (.there (.there (.there .here))))))))))|exact .there (.there (.there (.there (.there (.there (.there (.there (.there (.there (.there (.there .here)))))))))))) (by exact rfl) (by exact rfl),?_⟩
    exact .err (VS hk (.inr hj)) (by decide) rfl S.drop
  ·all_goals (repeat' (first|refine qA ?_|refine qw rfl ?_|refine qx ?_|refine qy ?_|refine qo ?_|refine qi ?_|refine qj ?_|(refine qg 3 ?_;(first|refine vl ?_|refine fB S ?_|refine fS S rfl rfl ?_|refine fA ?_);(first|refine lB S rfl rfl ?_|refine qE S rfl rfl ?_|refine qO S ?_|refine lH S ?_);refine mv ?_)|(refine qg 4 ?_;(first|refine lB S rfl rfl ?_|refine qE S rfl rfl ?_|refine qO S ?_|refine lH S ?_);(first|(refine sB S rfl rfl ?_;clear S;intro h S)|(refine jm S rfl rfl ?_;clear S;intro h S));refine mv ?_;refine qf ?_)))
   refine qH ⟨_,qN S rfl (by first|exact .here|exact .there .here|exact .there (.there .here)|exact .there (.there (.there .here))|exact .there (.there (.there (.there .here)))|exact .there (.there (.there (.there (.there .here))))|exact .there (.there (.there (.there (.there (.there .here)))))|exact .there (.there (.there (.there (.there (.there (.there .here))))))|exact .there (.there (.there (.there (.there (.there (.there (.there .here)))))))|exact .there (.there (.there (.there (.there (.there (.there (.there (.there .here))))))))|exact .there (.there (.there (.there (.there (.there (.there (.there (.there (.there .here)))))))))|exact .there (.there (.there (.there (.there (.there (.there (.there (.there (.there (.there .here))))))))))|exact .there (.there (.there (.there (.there (.there (.there (.there (.there (.there (.there (.there .here)))))))))))) (by exact rfl) (by exact rfl),?_⟩
   exact .err (VS hk (.inl hi)) (by decide) rfl S.drop
 clear S
 rintro - h ⟨hk2,S⟩
 skip
 all_goals (repeat' (first|refine qA ?_|refine qw rfl ?_|refine qx ?_|refine qy ?_|refine qo ?_|refine qi ?_|refine qj ?_|(refine qg 5 ?_;(first|refine vl ?_|refine fB S ?_|refine fS S rfl rfl ?_|refine fA ?_);(first|refine lB S rfl rfl ?_|refine qE S rfl rfl ?_|refine qO S ?_|refine lH S ?_);refine mv ?_;refine mv ?_)))
 (refine qM rfl rfl rfl rfl rfl ((qbZ S.wf v.vt.val r.ts (hrt.ext w S.ext) (by omega) na nb).mono ?_);rintro _ h ⟨⟨i,i1,i2,i3,rfl⟩|⟨i1,rfl⟩,x⟩)<;>(replace S:=S.zC x;clear x;(first|refine cT ?_|refine cF ?_|(refine cS ?_ ?_<;>intro hc))<;>(refine qf ?_))
 ·all_goals (repeat' (first|refine qA ?_|refine qw rfl ?_|refine qx ?_|refine qy ?_|refine qo ?_|refine qi ?_|refine qj ?_|(refine qg 6 ?_;(first|refine lB S rfl rfl ?_|refine qE S rfl rfl ?_|refine qO S ?_|refine lH S ?_);(first|(refine sB S rfl rfl ?_;clear S;intro h S)|(refine jm S rfl rfl ?_;clear S;intro h S));refine mv ?_;refine qf ?_)))
  refine qH ⟨_,qN S rfl (by first|exact .here|exact .there .here|exact .there (.there .here)|exact .there (.there (.there .here))|exact .there (.there (.there (.there .here)))|exact .there (.there (.there (.there (.there .here))))|exact .there (.there (.there (.there (.there (.there .here)))))|exact .there (.there (.there (.there (.there (.there (.there .here))))))|exact .there (.there (.there (.there (.there (.there (.there (.there .here)))))))|exact .there (.there (.there (.there (.there (.there (.there (.there (.there .here))))))))|exact .there (.there (.there (.there (.there (.there (.there (.there (.there (.there .here)))))))))|exact .there (.there (.there (.there (.there (.there (.there (.there (.there (.there (.there .here))))))))))|exact .there (.there (.there (.there (.there (.there (.there (.there (.there (.there (.there (.there .here)))))))))))) (by exact rfl) (by exact rfl),?_⟩
  refine .err (yL hk hk2 ?_) (by decide) rfl S.drop
  obtain ⟨-,e2,e3⟩:=Jt (PZ H (qR i1) i2)
  exact ⟨_,qR i1,e2,e3⟩
 ·have hk3:¬ tied r.ts na nb:=by
   rintro ⟨t,ht,e1,e2⟩
   obtain ⟨j,hj,rfl⟩:=qX.1 ht
   refine i1 j hj ?_
   exact pX (VQ H.ts ht e1 e2)
  skip
  all_goals (repeat' (first|refine qA ?_|refine qw rfl ?_|refine qx ?_|refine qy ?_|refine qo ?_|refine qi ?_|refine qj ?_|(refine qg 7 ?_;(first|refine vl ?_|refine fB S ?_|refine fS S rfl rfl ?_|refine fA ?_);(first|refine lB S rfl rfl ?_|refine qE S rfl rfl ?_|refine qO S ?_|refine lH S ?_);(first|refine Zq S ?_|refine Zp S rfl rfl ?_);(first|refine cT ?_|refine cF ?_|(refine cS ?_ ?_<;>intro hc))<;>(refine qf ?_))|(refine qg 8 ?_;(first|refine lB S rfl rfl ?_|refine qE S rfl rfl ?_|refine qO S ?_|refine lH S ?_);(first|(refine sB S rfl rfl ?_;clear S;intro h S)|(refine jm S rfl rfl ?_;clear S;intro h S));refine mv ?_;refine qf ?_)))
  ·refine qH ⟨_,qN S rfl (by first|exact .here|exact .there .here|exact .there (.there .here)|exact .there (.there (.there .here))|exact .there (.there (.there (.there .here)))|exact .there (.there (.there (.there (.there .here))))|exact .there (.there (.there (.there (.there (.there .here)))))|exact .there (.there (.there (.there (.there (.there (.there .here))))))|exact .there (.there (.there (.there (.there (.there (.there (.there .here)))))))|exact .there (.there (.there (.there (.there (.there (.there (.there (.there .here))))))))|exact .there (.there (.there (.there (.there (.there (.there (.there (.there (.there .here)))))))))|exact .there (.there (.there (.there (.there (.there (.there (.there (.there (.there (.there .here))))))))))|exact .there (.there (.there (.there (.there (.there (.there (.there (.there (.there (.there (.there .here)))))))))))) (by exact rfl) (by exact rfl),?_⟩
   exact .err (yK hk hk2 hk3 (by omega)) (by decide) rfl S.drop
  ·have hk4:¬ 256≤r.ts.length:=by omega
   all_goals (repeat' (first|refine qA ?_|refine qw rfl ?_|refine qx ?_|refine qy ?_|refine qo ?_|refine qi ?_|refine qj ?_|(refine qg 9 ?_;(first|refine lB S rfl rfl ?_|refine qE S rfl rfl ?_|refine qO S ?_|refine lH S ?_))))
   (refine qM rfl rfl rfl rfl rfl ((qa1 S.wf v r (HF.ext w S.ext)).mono ?_);rintro _ h ⟨⟨vg,vt,gs⟩,rfl,q2,x⟩)<;>(replace S:=S.join x;clear x;dsimp only [Jz,List.cons_append,List.nil_append] at S;unfold RlV.val;dsimp only;(refine al S ?_;clear S;intro b h S);(first|(refine sB S rfl rfl ?_;clear S;intro h S)|(refine jm S rfl rfl ?_;clear S;intro h S));refine qf ?_)
   obtain ⟨b10,hnm⟩:∃ x,x=b:=⟨_,rfl⟩;subst hnm
   dsimp only at q2
   replace S:Hs h0 h (.blk b10 [vg.val,vt.val] 32 :: .sl vg.val 24 9 eG gs :: .sl vt.val 111 3 zW r.ts :: XA gs :: .blk b8 [.slice none 0 0,.slice none 0 0] 32 :: .blk b4 [v.vg.val,v.vt.val] 32 :: []):=S
   have hrt2:=Rd.Ze S (.there (.there .here))
   (repeat (refine qA ?_));refine Zm (id:=10) [(1,(0,1))] [some (b10)] ?_;refine qB ?_;(first|(refine vl ?_<;>refine qf ⟨⟨by (first|exact True.intro|exact Or.inl rfl|exact Or.inr rfl|exact Or.inr (congrArg some (qh _ _ _ _))|exact ⟨Or.inl rfl,rfl⟩|exact ⟨Or.inr rfl,rfl⟩),rfl⟩,?_⟩)|(refine fB S ?_<;>refine qf ⟨⟨by (first|exact True.intro|exact Or.inl rfl|exact Or.inr rfl|exact Or.inr (congrArg some (qh _ _ _ _))|exact ⟨Or.inl rfl,rfl⟩|exact ⟨Or.inr rfl,rfl⟩),rfl⟩,?_⟩)|(refine fS S rfl rfl ?_<;>refine qf ⟨⟨by (first|exact True.intro|exact Or.inl rfl|exact Or.inr rfl|exact Or.inr (congrArg some (qh _ _ _ _))|exact ⟨Or.inl rfl,rfl⟩|exact ⟨Or.inr rfl,rfl⟩),rfl⟩,?_⟩)|(refine fA ?_<;>refine qf ⟨⟨by (first|exact True.intro|exact Or.inl rfl|exact Or.inr rfl|exact Or.inr (congrArg some (qh _ _ _ _))|exact ⟨Or.inl rfl,rfl⟩|exact ⟨Or.inr rfl,rfl⟩),rfl⟩,?_⟩));refine qB ?_;(first|(refine lB S rfl rfl ?_<;>refine qf ⟨⟨by (first|exact True.intro|exact Or.inl rfl|exact Or.inr rfl|exact Or.inr (congrArg some (qh _ _ _ _))|exact ⟨Or.inl rfl,rfl⟩|exact ⟨Or.inr rfl,rfl⟩),rfl⟩,?_⟩)|(refine qE S rfl rfl ?_<;>refine qf ⟨⟨by (first|exact True.intro|exact Or.inl rfl|exact Or.inr rfl|exact Or.inr (congrArg some (qh _ _ _ _))|exact ⟨Or.inl rfl,rfl⟩|exact ⟨Or.inr rfl,rfl⟩),rfl⟩,?_⟩)|(refine qO S ?_<;>refine qf ⟨⟨by (first|exact True.intro|exact Or.inl rfl|exact Or.inr rfl|exact Or.inr (congrArg some (qh _ _ _ _))|exact ⟨Or.inl rfl,rfl⟩|exact ⟨Or.inr rfl,rfl⟩),rfl⟩,?_⟩)|(refine lH S ?_<;>refine qf ⟨⟨by (first|exact True.intro|exact Or.inl rfl|exact Or.inr rfl|exact Or.inr (congrArg some (qh _ _ _ _))|exact ⟨Or.inl rfl,rfl⟩|exact ⟨Or.inr rfl,rfl⟩),rfl⟩,?_⟩));refine qB ?_;(first|(refine mv ?_<;>refine qf ⟨⟨by (first|exact True.intro|exact Or.inl rfl|exact Or.inr rfl|exact Or.inr (congrArg some (qh _ _ _ _))|exact ⟨Or.inl rfl,rfl⟩|exact ⟨Or.inr rfl,rfl⟩),rfl⟩,?_⟩));refine qB ?_;(first|(refine mv ?_<;>refine qf ⟨⟨by (first|exact True.intro|exact Or.inl rfl|exact Or.inr rfl|exact Or.inr (congrArg some (qh _ _ _ _))|exact ⟨Or.inl rfl,rfl⟩|exact ⟨Or.inr rfl,rfl⟩),rfl⟩,?_⟩));refine qB ?_;(first|(refine mv ?_<;>refine qf ⟨⟨by (first|exact True.intro|exact Or.inl rfl|exact Or.inr rfl|exact Or.inr (congrArg some (qh _ _ _ _))|exact ⟨Or.inl rfl,rfl⟩|exact ⟨Or.inr rfl,rfl⟩),rfl⟩,?_⟩))
   ((refine qB ?_;first|refine qM rfl rfl rfl rfl rfl ((qar S.wf na nb k).mono ?_));rintro _ h ⟨rfl,x⟩)<;>((refine qf ⟨⟨True.intro,?_⟩,?_⟩;(focus ((show keepsX _ _ _ _ _;simp only [keepsX];(repeat' (first|exact True.intro|refine And.intro ?_ ?_));all_goals (intro hw;first|exact True.intro|exact rfl|exact x.ext.old _ S.bB|exact x.ext.old _ (S.bR (by first|omega|grind))|exact x.ext.old _ (S.bX (by assumption) (by assumption) (by first|omega|grind))|exact x.ext.old _ (S.bY (by assumption) (by assumption))|(refine x.ext.old _ ?_;assumption)|exact absurd hw (by decide +kernel))))));replace S:=S.zC x;clear x)
   ((refine qB ?_;first|refine qM rfl rfl rfl rfl rfl ((qbE S.wf vt.val r.ts (Rd.Ze S (.there (.there .here))) (by omega) (jK na nb k)).mono ?_));rintro u h x)<;>((refine qf ⟨⟨True.intro,?_⟩,?_⟩;(focus ((show keepsX _ _ _ _ _;simp only [keepsX];(repeat' (first|exact True.intro|refine And.intro ?_ ?_));all_goals (intro hw;first|exact True.intro|exact rfl|exact x.ext.old _ S.bB|exact x.ext.old _ (S.bR (by first|omega|grind))|exact x.ext.old _ (S.bX (by assumption) (by assumption) (by first|omega|grind))|exact x.ext.old _ (S.bY (by assumption) (by assumption))|(refine x.ext.old _ ?_;assumption)|exact absurd hw (by decide +kernel))))));replace S:=S.QY x;clear x;obtain ⟨vt',rfl⟩:=S.sV u;refine qB ?_;(first|(refine vl ?_<;>refine qf ⟨⟨by (first|exact True.intro|exact Or.inl rfl|exact Or.inr rfl|exact Or.inr (congrArg some (qh _ _ _ _))|exact ⟨Or.inl rfl,rfl⟩|exact ⟨Or.inr rfl,rfl⟩),rfl⟩,?_⟩)|(refine fB S ?_<;>refine qf ⟨⟨by (first|exact True.intro|exact Or.inl rfl|exact Or.inr rfl|exact Or.inr (congrArg some (qh _ _ _ _))|exact ⟨Or.inl rfl,rfl⟩|exact ⟨Or.inr rfl,rfl⟩),rfl⟩,?_⟩)|(refine fS S rfl rfl ?_<;>refine qf ⟨⟨by (first|exact True.intro|exact Or.inl rfl|exact Or.inr rfl|exact Or.inr (congrArg some (qh _ _ _ _))|exact ⟨Or.inl rfl,rfl⟩|exact ⟨Or.inr rfl,rfl⟩),rfl⟩,?_⟩)|(refine fA ?_<;>refine qf ⟨⟨by (first|exact True.intro|exact Or.inl rfl|exact Or.inr rfl|exact Or.inr (congrArg some (qh _ _ _ _))|exact ⟨Or.inl rfl,rfl⟩|exact ⟨Or.inr rfl,rfl⟩),rfl⟩,?_⟩));refine qB ?_;(first|((refine sB S rfl rfl ?_;have S0:=S;clear S;intro h S);refine qf ⟨⟨True.intro,?_⟩,?_⟩;(focus ((show keepsX _ _ _ _ _;simp only [keepsX];(repeat' (first|exact True.intro|refine And.intro ?_ ?_));all_goals (intro hw;first|exact True.intro|exact (S.gB).trans (S0.gB).symm|exact absurd hw (by decide +kernel)))));clear S0)|((refine jm S rfl rfl ?_;have S0:=S;clear S;intro h S);refine qf ⟨⟨True.intro,?_⟩,?_⟩;(focus ((show keepsX _ _ _ _ _;simp only [keepsX];(repeat' (first|exact True.intro|refine And.intro ?_ ?_));all_goals (intro hw;first|exact True.intro|exact (S.gB).trans (S0.gB).symm|exact absurd hw (by decide +kernel)))));clear S0));refine JI ?_)
   all_goals (repeat' (first|refine qA ?_|refine qw rfl ?_|refine qx ?_|refine qy ?_|refine qo ?_|refine qi ?_|refine qj ?_|(refine qg 11 ?_;(first|refine lB S rfl rfl ?_|refine qE S rfl rfl ?_|refine qO S ?_|refine lH S ?_);(first|(refine sB S rfl rfl ?_;clear S;intro h S)|(refine jm S rfl rfl ?_;clear S;intro h S));refine mv ?_;refine qf ?_)))
   refine qH ⟨_,qN S rfl (by first|exact .here|exact .there .here|exact .there (.there .here)|exact .there (.there (.there .here))|exact .there (.there (.there (.there .here)))|exact .there (.there (.there (.there (.there .here))))|exact .there (.there (.there (.there (.there (.there .here)))))|exact .there (.there (.there (.there (.there (.there (.there .here))))))|exact .there (.there (.there (.there (.there (.there (.there (.there .here)))))))|exact .there (.there (.there (.there (.there (.there (.there (.there (.there .here))))))))|exact .there (.there (.there (.there (.there (.there (.there (.there (.there (.there .here)))))))))|exact .there (.there (.there (.there (.there (.there (.there (.there (.there (.there (.there .here))))))))))|exact .there (.there (.there (.there (.there (.there (.there (.there (.there (.there (.there (.there .here)))))))))))) (by exact rfl) (by exact rfl),?_⟩
   rw [yN hk hk2 hk3 hk4,← x8 (qbu k hk3)]
   exact .inr ⟨rfl,⟨vg,vt',gs⟩,rfl,q2,S.pick⟩
end Go.Proofs.Xx
namespace Go.Proofs.Xx
open Go Go.Proofs
def XT (a:List UInt8):List (List UInt8)→List (List UInt8)
 | []=>[a]
 | w :: r=>(a ++ w) :: r
def zT (c:UInt8):List UInt8→List (List UInt8)
 | []=>[[]]
 | x :: s=>if x=c then [] :: zT c s else XT [x] (zT c s)
theorem ku:∀ {l:List (List UInt8)},l≠[]→XT [] l=l
 | [],h=>absurd rfl h
 | w :: r,_=>rfl
theorem qbH {a:List UInt8}:∀ {l:List (List UInt8)},XT a l≠[]
 | []=>by simp [XT]
 | _ :: _=>by simp [XT]
theorem Py {a b:List UInt8}:∀ {l:List (List UInt8)},l≠[]→XT a (XT b l)=XT (a ++ b) l
 | [],h=>absurd rfl h
 | w :: r,_=>by simp [XT]
theorem qax {a:List UInt8}:∀ {l:List (List UInt8)},l≠[]→(XT a l).length=l.length
 | [],h=>absurd rfl h
 | w :: r,_=>rfl
theorem ZY (c:UInt8):∀ s,zT c s≠[]
 | []=>by simp [zT]
 | x :: s=>by
  unfold zT
  split
  ·simp
  ·exact qbH
theorem QW (c:UInt8):∀ s,(zT c s).length=s.countP (· == c)+1
 | []=>rfl
 | x :: s=>by
  unfold zT
  split
  ·rename_i h;subst h;simp [QW x s]
  ·rename_i h;rw [qax (ZY c s),QW c s,List.countP_cons_of_neg (by simpa using h)]
theorem Yf {c:UInt8}:∀ {s:List UInt8},c ∉ s→zT c s=[s]
 | [],_=>rfl
 | x :: s,h=>by
  have h1:x≠c:=fun e=>h (by simp [e])
  have h2:c ∉ s:=fun q=>h (List.mem_cons_of_mem _ q)
  rw [zT,if_neg h1,Yf h2];rfl
theorem GI {c:UInt8}:∀ {a b:List UInt8},c ∉ a→zT c (a ++ c :: b)=a :: zT c b
 | [],b,_=>by simp [zT]
 | x :: a,b,h=>by
  have h1:x≠c:=fun e=>h (by simp [e])
  have h2:c ∉ a:=fun q=>h (List.mem_cons_of_mem _ q)
  rw [List.cons_append,zT,if_neg h1,GI h2];rfl
theorem qbB {c:UInt8} {s w:List UInt8} (h:zT c s=[w]):s=w∧c ∉ s:=by
 have hl:=QW c s
 rw [h] at hl
 have h0:s.countP (· == c)=0:=by simpa using hl.symm
 have hn:c ∉ s:=fun q=>by
  have:=List.countP_eq_zero.1 h0 c q
  simp at this
 rw [Yf hn] at h
 exact ⟨by simpa using h,hn⟩
theorem XW {c:UInt8}:∀ {s:List UInt8},QA c s=none↔c ∉ s
 | []=>by simp [QA]
 | x :: s=>by
  unfold QA
  by_cases h:x=c
  ·simp [h]
  ·simp only [if_neg h,Option.map_eq_none_iff,XW,List.mem_cons,not_or]
   exact ⟨fun q=>⟨fun e=>h e.symm,q⟩,fun q=>q.2⟩
theorem ZA {c:UInt8}:∀ {s:List UInt8} {m:Nat},QA c s=some m→m<s.length∧c ∉ s.take m∧s=s.take m ++ c :: s.drop (m+1)
 | [],m,h=>by cases h
 | x :: s,m,h=>by
  unfold QA at h
  by_cases e:x=c
  ·rw [if_pos e] at h;cases h
   subst e
   simp
  ·rw [if_neg e] at h
   obtain ⟨k,hk,rfl⟩:=Option.map_eq_some_iff.1 h
   obtain ⟨h1,h2,h3⟩:=ZA hk
   refine ⟨by simpa using h1,?_,?_⟩
   ·simp only [List.take_succ_cons,List.mem_cons,not_or]
    exact ⟨fun q=>e q.symm,h2⟩
   ·simp only [List.take_succ_cons,List.drop_succ_cons,List.cons_append]
    rw [← h3]
theorem wM {c:UInt8} {s:List UInt8} {m:Nat} (h:QA c s=some m):zT c s=s.take m :: zT c (s.drop (m+1)):=by
 obtain ⟨h1,h2,h3⟩:=ZA h
 conv=>lhs;rw [h3]
 exact GI h2
def Xv (x:UInt8):Prop:=48≤x.toNat∧x.toNat≤57
instance (x:UInt8):Decidable (Xv x):=inferInstanceAs (Decidable (_∧_))
def ZW (s:List UInt8):Nat:=s.foldl (fun n x=>10*n+(x.toNat - 48)) 0
theorem pU (s:List UInt8) (x:UInt8):ZW (s ++ [x])=10*ZW s+(x.toNat - 48):=by simp [ZW]
theorem YL {s:List UInt8} {i:Nat} (h:i<s.length):ZW (s.take (i+1))=10*ZW (s.take i)+((s.getD i default).toNat - 48):=by
 rw [← pU]
 congr 1
 rw [List.take_add_one,List.getElem?_eq_getElem h]
 simp [List.getD,h]
def qbI (s:List UInt8):Prop:=1≤s.length∧s.length≤9∧(1<s.length→s.getD 0 default≠48)∧∀ i,i<s.length→Xv (s.getD i default)
section
variable {P:Program} {X:Extern} {sz:Nat} {L:Ks} {h h0:AH} {rs:List Rs} {ops:Array Oper} {os:List Oper} {o:Oper} {R:Ks→AH→Prop}
theorem wF {L':Ks} {x:Operand} {lo hi:Option Operand} {vlo vhi:Option Value} {ty:TypeId} {l:List UInt8} {a b:Nat} (w:KO P X sz ops os L' h R) (ho:o.op = .slice ty x lo hi none:=by exact rfl) (hg:qC ops L.tree o.guard=some true:=by exact rfl) (hx:kA L x=some (str l):=by exact rfl)
 (hlo:zN L.tree lo=some vlo:=by exact rfl) (hhi:zN L.tree hi=some vhi:=by exact rfl) (hu:P.underlying ty=some .string:=by exact rfl) (h1:qY vlo 0=some a:=by exact rfl) (h2:qY vhi l.length=some b:=by exact rfl) (hab:a≤b∧b≤l.length:=by first|omega|grind)
 (hp:qP sz L o.dst (str ((l.drop a).take (b - a)))=some L':=by exact rfl):KO P X sz ops (o :: os) L h R:=by
 refine zA hg ?_ hp w
 have t1:Nat.ble a b=true:=Nat.ble_eq_true_of_le hab.1
 have t2:Nat.ble b l.length=true:=Nat.ble_eq_true_of_le hab.2
 rw [ho]
 have e:(⟨l.toArray⟩:ByteArray).data.toList=l:=rfl
 simp only [jg,qK hx,hlo,hhi,show zN L.tree none=some none from rfl,zH,zt,str,hu,h1,h2,e,t1,t2,Bool.and_self,qU]
end
section
variable {P:Program} {X:Extern} {sz:Nat} {L:Ks} {h h0:AH} {rs:List Rs} {ops:Array Oper} {os:List Oper} {o:Oper} {R:Ks→AH→Prop}
theorem thA {α:Type} {x hi:Operand} {ty e:TypeId} {v vh:Value} {z:Nat} {enc:α→List Value} {l:List α} {f:Rs→List Rs} {dd:List Rs} {d:Tmp} (b:Nat) (S:Hs h0 h rs) (ho:o.op = .slice ty x none (some hi) none) (hx:kA L x=some v) [i:HasS rs v α e z enc l f dd]
 (w:KO P X sz ops os (L.put d v) h R) (hg:qC ops L.tree o.guard=some true:=by exact rfl) (hhi:kA L hi=some vh:=by exact rfl) (hbo:qY (some vh) l.length=some b:=by exact rfl) (hb:b=l.length:=by first|omega|grind)
 (hu:Qo P ty=some z:=by exact rfl) (hdst:o.dst=some d:=by exact rfl) (hds:Nat.blt d sz=true:=by exact rfl):KO P X sz ops (o :: os) L h R:=by
 obtain ⟨fp,k1,k2,-⟩:=(i.ut (.sl v e z enc l)).ok (h':=h) S.ext.next (Nat.le_refl _) S.sep
 have hue:∃ e',P.underlying ty=some (.slice e')∧zG P e'=some z:=by
  unfold Qo at hu
  split at hu
  ·exact ⟨_,by assumption,hu⟩
  ·cases hu
 obtain ⟨e',hu1,hu2⟩:=hue
 have hhi':zO L.tree hi=some vh:=qK hhi
 have h0b:qY none 0=some 0:=rfl
 have q1:zt P ty v none (some vh) none h=some v:=by
  subst hb
  rcases k1 with ⟨rfl,rfl⟩|⟨bb,o',cc,slk,cap,g1,g2,g3,g4,g5,g6⟩
  ·have:qY (some vh) 0=some 0:=hbo
   simp only [zt,hu1,hu2,this,h0b]
  ·subst g1
   have t1:Nat.ble 0 l.length=true:=by simp
   have t2:Nat.ble l.length cap=true:=Nat.ble_eq_true_of_le g5.1
   cases hk:(slk.isNone && Nat.beq 0 cap) with
   | false=>simp only [zt,hu1,hu2,g2,h0b,hbo,t1,t2,hk,Bool.and_self,Nat.zero_mul,Nat.add_zero];rfl
   | true=>simp only [zt,hu1,hu2,g2,h0b,hbo,t1,t2,hk,Bool.and_self];rfl
 refine zA (v:=v) (h':=h) hg ?_ (by simp only [qP,hdst,hds]) w
 rw [ho]
 simp only [jg,qK hx,zN,hhi',q1,qU,zH]
end
theorem index_one (c:UInt8):∀ s:List UInt8,Lib.index s [c]=XX c s
 | []=>rfl
 | b :: l=>by
  unfold Lib.index XX QA
  by_cases h:b=c
  ·subst h;simp [List.isPrefixOf]
  ·have h2:([c]:List UInt8).isPrefixOf (b :: l)=false:=by simp [List.isPrefixOf];exact fun q=>h q.symm
   rw [if_neg (by rw [h2];decide),if_neg h,index_one c l]
   unfold XX
   cases hq:QA c l with
   | none=>simp
   | some m =>
    have:((m:Int) == -1)=false:=by rw [beq_eq_false_iff_ne];omega
    simp [this]
variable [Flag]
theorem Gz (c:UInt8):((c.toNat:Int).toNat).toUInt8=c:=by simp
theorem qbM {h0:AH} (s:List UInt8) (c:UInt8):Fn Tryz.prog Xh 184 [str s,.int .u8 (c.toNat:Int)] h0 (fun v h'=>v = .int .i64 (XX c s)∧h'=h0) :=
 Jo (v:=.int .i64 (XX ((c.toNat:Int).toNat).toUInt8 s)) rfl ⟨by rw [Gz],rfl⟩
theorem qbV {h0:AH} (s:List UInt8) (c:UInt8):Fn Tryz.prog Xh 222 [str s,.int .u8 (c.toNat:Int)] h0 (fun v h'=>v = .int .i64 (PW c s:Nat)∧h'=h0) :=
 Jo (v:=.int .i64 (PW ((c.toNat:Int).toNat).toUInt8 s:Nat)) rfl ⟨by rw [Gz],rfl⟩
theorem PM {h0:AH} (s:List UInt8) (c:UInt8):Fn Tryz.prog Xh 146 [str s,.int .u8 (c.toNat:Int)] h0 (fun v h'=>v = .int .i64 (XX c s)∧h'=h0):=by
 refine zD rfl Tryz.func146 rfl rfl ?_
 all_goals (repeat' (first|refine qA ?_|refine qw rfl ?_|refine qx ?_|refine qy ?_|refine qo ?_|refine qi ?_|refine qj ?_|(refine qg 0 ?_;refine mv ?_;refine qf ?_)|(refine qg 1 ?_;refine mv ?_;refine mv ?_)))
 (refine qM rfl rfl rfl rfl rfl ((qbM s c).mono ?_);rintro _ _ ⟨rfl,rfl⟩)<;>(refine mv ?_;refine qf ?_)
 all_goals (repeat' (first|refine qA ?_|refine qw rfl ?_|refine qx ?_|refine qy ?_|refine qo ?_|refine qi ?_|refine qj ?_))
 refine qH ⟨_,rfl,?_⟩
 exact ⟨rfl,rfl⟩
theorem wP {h0:AH} (s sep:List UInt8) (hs:s.length<4294967281):Fn Tryz.prog Xh 187 [str s,str sep] h0 (fun v h'=>v = .int .i64 (Lib.index s sep)∧h'=h0) :=
 Jo (v:=.int .i64 (Lib.index s sep)) (by show (if s.length<4294967281 then _ else _)=_;rw [if_pos hs]) ⟨rfl,rfl⟩
theorem V4 {h0:AH} (s sep:List UInt8) (hs:s.length<4294967281):Fn Tryz.prog Xh 150 [str s,str sep] h0 (fun v h'=>v = .int .i64 (Lib.index s sep)∧h'=h0):=by
 refine zD rfl Tryz.func150 rfl rfl ?_
 all_goals (repeat' (first|refine qA ?_|refine qw rfl ?_|refine qx ?_|refine qy ?_|refine qo ?_|refine qi ?_|refine qj ?_|(refine qg 0 ?_;refine mv ?_;refine qf ?_)|(refine qg 1 ?_;refine mv ?_;refine mv ?_)))
 (refine qM rfl rfl rfl rfl rfl ((wP s sep hs).mono ?_);rintro _ _ ⟨rfl,rfl⟩)<;>(refine mv ?_;refine qf ?_)
 all_goals (repeat' (first|refine qA ?_|refine qw rfl ?_|refine qx ?_|refine qy ?_|refine qo ?_|refine qi ?_|refine qj ?_))
 refine qH ⟨_,rfl,?_⟩
 exact ⟨rfl,rfl⟩
theorem Pn {h0:AH} (s sep:List UInt8) (hl:sep.length=1) (hs:s.length≤1000000):Fn Tryz.prog Xh 150 [str s,str sep] h0 (fun v h'=>v = .int .i64 (XX (sep.getD 0 0) s)∧h'=h0) :=
 (V4 s sep (by omega)).mono fun v h' q=>by
  match sep,hl with
  | [c],_=>exact ⟨q.1.trans (by rw [index_one];rfl),q.2⟩
theorem KA {h0:AH} (s:List UInt8) (c:UInt8):Fn Tryz.prog Xh 119 [str s,.int .u8 (c.toNat:Int)] h0 (fun v h'=>v = .int .i64 (XX c s)∧h'=h0):=by
 refine zD rfl Tryz.func119 rfl rfl ?_
 all_goals (repeat' (first|refine qA ?_|refine qw rfl ?_|refine qx ?_|refine qy ?_|refine qo ?_|refine qi ?_|refine qj ?_|(refine qg 0 ?_;refine mv ?_;refine qf ?_)|(refine qg 1 ?_;refine mv ?_;refine mv ?_)))
 (refine qM rfl rfl rfl rfl rfl ((PM s c).mono ?_);rintro _ _ ⟨rfl,rfl⟩)<;>(refine mv ?_;refine qf ?_)
 all_goals (repeat' (first|refine qA ?_|refine qw rfl ?_|refine qx ?_|refine qy ?_|refine qo ?_|refine qi ?_|refine qj ?_))
 refine qH ⟨_,rfl,?_⟩
 exact ⟨rfl,rfl⟩
theorem PL {s:List UInt8} {n:Nat} (h:n+1=s.length) (c:UInt8):(s.drop n).take (s.length - n)=[c]↔s.getLast? = some c:=by
 rcases List.eq_nil_or_concat s with rfl|⟨t,x,rfl⟩
 ·simp at h
 ·simp only [List.concat_eq_append,List.length_append,List.length_singleton] at h ⊢
  obtain rfl:n=t.length:=by simpa using h
  simp
theorem PN {h0:AH} (s:List UInt8) (hs:s.length≤1000000):Fn Tryz.prog Xh 207 [str s,str [10]] h0 (fun v h'=>Z7 v (s.getLast? = some 10)∧h'=h0):=by
 refine zD rfl Tryz.func207 rfl rfl ?_
 all_goals (repeat' (first|refine qA ?_|refine qw rfl ?_|refine qx ?_|refine qy ?_|refine qo ?_|refine qi ?_|refine qj ?_|(refine qg 0 ?_;refine mv ?_;refine qf ?_)|(refine qg 1 ?_;refine mv ?_;refine tl ?_;refine mv ?_;refine tl ?_;(first|refine cT ?_|refine cF ?_|(refine cS ?_ ?_<;>intro hc))<;>(refine mv ?_;(first|refine off ?_|refine mv ?_);(first|refine off ?_|refine mv ?_);(first|refine off ?_|refine tl ?_);(first|refine off ?_|refine mv ?_);(first|refine off ?_|refine tl ?_);(first|refine off ?_|(first|refine sb ?_|refine vl ?_));(first|(refine off ?_;(first|refine off ?_|refine mv ?_);(first|refine off ?_|(refine tS ?_ ?_<;>intro hc))<;>(refine vl ?_;refine mv ?_;refine qf ?_))|skip)))))
 ·have hp:1≤s.length:=by (try simp at hc);omega
  obtain ⟨n,hn⟩:∃ n,n=s.length - 1:=⟨_,rfl⟩
  have e:((s.length:Int) - (([10]:List UInt8).length:Nat))=(n:Nat):=by simp;omega
  rw [e]
  refine wF (a:=n) (b:=s.length) ?_
  ((first|refine off ?_|refine mv ?_);(first|refine off ?_|(refine tS ?_ ?_<;>intro hc))<;>(refine vl ?_;refine mv ?_;refine qf ?_))
  all_goals (refine qH ⟨_,rfl,?_⟩)
  all_goals rw [PL (by omega)] at hc
  ·exact ⟨.inl ⟨rfl,hc⟩,rfl⟩
  ·exact ⟨.inr ⟨rfl,hc⟩,rfl⟩
 ·refine qH ⟨_,rfl,?_⟩
  refine ⟨.inr ⟨rfl,fun q=>?_⟩,rfl⟩
  cases s with
  | nil=>cases q
  | cons a t=>simp at hc;omega
def Z4 (s:List UInt8):List UInt8:=if s.getLast? = some 10 then s.take (s.length - 1) else s
theorem wQ {h0:AH} (s:List UInt8) (hs:s.length≤1000000):Fn Tryz.prog Xh 185 [str s,str [10]] h0 (fun v h'=>∃ b:Bool,v = .tuple #[str (Z4 s),.bool b]∧(b=true↔s.getLast? = some 10)∧h'=h0):=by
 refine zD rfl Tryz.func185 rfl rfl ?_
 all_goals (repeat' (first|refine qA ?_|refine qw rfl ?_|refine qx ?_|refine qy ?_|refine qo ?_|refine qi ?_|refine qj ?_|(refine qg 0 ?_;refine mv ?_;refine mv ?_;refine qf ?_)|(refine qg 1 ?_;refine mv ?_;refine mv ?_)))
 (refine qM rfl rfl rfl rfl rfl ((PN s hs).mono ?_);rintro _ _ ⟨⟨rfl,hq⟩|⟨rfl,hq⟩,rfl⟩)<;>(refine vl ?_;refine qf ?_)
 ·all_goals (repeat' (first|refine qA ?_|refine qw rfl ?_|refine qx ?_|refine qy ?_|refine qo ?_|refine qi ?_|refine qj ?_|(refine qg 2 ?_;(iterate 3 refine mv ?_);refine qf ?_)|(refine qg 3 ?_;refine mv ?_;refine mv ?_;refine tl ?_;refine mv ?_;refine tl ?_;(first|refine sb ?_|refine vl ?_))))
  have hp:1≤s.length:=by
   cases s with
   | nil=>cases hq
   | cons a t=>simp
  obtain ⟨n,hn⟩:∃ n,n=s.length - 1:=⟨_,rfl⟩
  have e:((s.length:Int) - (([10]:List UInt8).length:Nat))=(n:Nat):=by simp;omega
  rw [e]
  refine wF (a:=0) (b:=n) ?_
  (refine mv ?_;refine mv ?_;refine qf ?_)
  all_goals (repeat' (first|refine qA ?_|refine qw rfl ?_|refine qx ?_|refine qy ?_|refine qo ?_|refine qi ?_|refine qj ?_))
  refine qH ⟨_,rfl,?_⟩
  refine ⟨true,?_,by simp [hq],rfl⟩
  rw [show Z4 s=(s.drop 0).take (n - 0) by unfold Z4;rw [if_pos hq];simp [hn]]
  rfl
 ·skip
  all_goals (repeat' (first|refine qA ?_|refine qw rfl ?_|refine qx ?_|refine qy ?_|refine qo ?_|refine qi ?_|refine qj ?_|(refine qg 2 ?_;(iterate 3 refine mv ?_);refine qf ?_)))
  refine qH ⟨_,rfl,?_⟩
  refine ⟨false,?_,by simp [hq],rfl⟩
  rw [show Z4 s=s by unfold Z4;rw [if_neg hq]]
  rfl
theorem PV {h0:AH} (s:List UInt8) (hs:s.length≤1000000):Fn Tryz.prog Xh 147 [str s,str [10]] h0 (fun v h'=>∃ b:Bool,v = .tuple #[str (Z4 s),.bool b]∧(b=true↔s.getLast? = some 10)∧h'=h0):=by
 refine zD rfl Tryz.func147 rfl rfl ?_
 all_goals (repeat' (first|refine qA ?_|refine qw rfl ?_|refine qx ?_|refine qy ?_|refine qo ?_|refine qi ?_|refine qj ?_|(refine qg 0 ?_;refine mv ?_;refine mv ?_;refine qf ?_)|(refine qg 1 ?_;refine mv ?_;refine mv ?_)))
 (refine qM rfl rfl rfl rfl rfl ((wQ s hs).mono ?_);rintro _ _ ⟨b,rfl,hb,rfl⟩)<;>(refine vl ?_;refine vl ?_;refine mv ?_;refine mv ?_;refine qf ?_)
 all_goals (repeat' (first|refine qA ?_|refine qw rfl ?_|refine qx ?_|refine qy ?_|refine qo ?_|refine qi ?_|refine qj ?_))
 refine qH ⟨_,rfl,?_⟩
 exact ⟨b,rfl,hb,rfl⟩
theorem Po {h0:AH} (s sep:List UInt8) (hl:sep.length=1):Fn Tryz.prog Xh 209 [str s,str sep] h0 (fun v h'=>v = .int .i64 (PW (sep.getD 0 0) s:Nat)∧h'=h0):=by
 refine zD rfl Tryz.func209 rfl rfl ?_
 all_goals (repeat' (first|refine qA ?_|refine qw rfl ?_|refine qx ?_|refine qy ?_|refine qo ?_|refine qi ?_|refine qj ?_|(refine qg 0 ?_;refine mv ?_;refine qf ?_)|(refine qg 1 ?_;refine mv ?_;refine tl ?_;(first|refine cT ?_|refine cF ?_|(refine cS ?_ ?_<;>intro hc))<;>(refine qf ?_))|(refine qg 2 ?_;refine mv ?_)|(refine qg 3 ?_;refine mv ?_;refine tl ?_;(first|refine cT ?_|refine cF ?_|(refine cS ?_ ?_<;>intro hc))<;>(refine qf ?_))|(refine qg 4 ?_;refine mv ?_;refine mv ?_;(first|refine ti ?_|refine vl ?_))|(refine qg 5 ?_;refine mv ?_;refine qf ?_)))
 all_goals (try (exfalso;omega))
 (refine qM rfl rfl rfl rfl rfl ((qbV s (sep.getD 0 0)).mono ?_);rintro _ _ ⟨rfl,rfl⟩)<;>(refine mv ?_;refine qf ?_)
 all_goals (repeat' (first|refine qA ?_|refine qw rfl ?_|refine qx ?_|refine qy ?_|refine qo ?_|refine qi ?_|refine qj ?_))
 refine qH ⟨_,rfl,?_⟩
 exact ⟨rfl,rfl⟩
theorem PS {c:UInt8} {s:List UInt8} (h:QA c s=none):XX c s = -1:=by unfold XX;rw [h]
theorem yz {c:UInt8} {s:List UInt8} {m:Nat} (h:QA c s=some m):XX c s=m:=by unfold XX;rw [h]
theorem XB {α:Type} {l:List α} {i:Nat} (h:i<l.length) (x:α):(l.set i x).take (i+1)=l.take i ++ [x]:=by
 rw [List.take_add_one,List.getElem?_set_self h,List.take_set_of_le (Nat.le_refl _)];rfl
theorem kS {h0:AH} (w:WfH h0) (s sep:List UInt8) (hl:sep.length=1) (hs:s.length≤1000000):Fn Tryz.prog Xh 186 [str s,str sep,.int .i64 0,.int .i64 (-1)] h0 (fun v h'=>Hs h0 h' [.sl v 9 1 eS (zT (sep.getD 0 0) s)]):=by
 have S:=Hs.start w
 have hne:sep≠[]:=fun q=>by rw [q] at hl;cases hl
 generalize hc0:sep.getD 0 0=c
 have hlen:=QW c s
 have hcs:s.countP (· == c)≤s.length:=List.countP_le_length
 obtain ⟨n,hn⟩:∃ n,(zT c s).length=n:=⟨_,rfl⟩
 refine zD rfl Tryz.func186 rfl rfl ?_
 all_goals (repeat' (first|refine qA ?_|refine qw rfl ?_|refine qx ?_|refine qy ?_|refine qo ?_|refine qi ?_|refine qj ?_|(refine qg 0 ?_;refine mv ?_;refine qf ?_)|(refine qg 1 ?_;refine mv ?_;(first|refine cT ?_|refine cF ?_|(refine cS ?_ ?_<;>intro hc))<;>(refine qf ?_))|(refine qg 2 ?_;refine mv ?_;refine qf ?_)|(refine qg 3 ?_;refine mv ?_;(refine tS ?_ ?_<;>intro hc)<;>(refine qf ?_))|(refine qg 4 ?_;refine mv ?_;refine mv ?_)|(refine qg 5 ?_;refine mv ?_;(first|refine cT ?_|refine cF ?_|(refine cS ?_ ?_<;>intro hc))<;>(refine qf ?_))|(refine qg 6 ?_;refine mv ?_;refine mv ?_)|(refine qg 7 ?_;refine mv ?_;refine mv ?_;refine tl ?_;(first|refine ad ?_|refine vl ?_);refine mn ?_;refine mv ?_;refine qf ?_)|(refine qg 8 ?_;refine mv ?_)))
 ·exact absurd hc hne
 have hcb:PW (sep.getD 0 0) s=s.countP (· == c):=by rw [hc0];rfl
 (refine qM rfl rfl rfl rfl rfl ((Po s sep hl).mono ?_);rintro _ h0 ⟨rfl,rfl⟩)<;>((first|refine ad ?_|refine vl ?_);refine mv ?_;refine qf ?_)
 rw [hc0]
 rw [hc0] at hcb
 all_goals (repeat' (first|refine qA ?_|refine qw rfl ?_|refine qx ?_|refine qy ?_|refine qo ?_|refine qi ?_|refine qj ?_|(refine qg 7 ?_;refine mv ?_;refine mv ?_;refine tl ?_;(first|refine ad ?_|refine vl ?_);refine mn ?_;refine mv ?_;refine qf ?_)|(refine qg 8 ?_;refine mv ?_)))
 have e1:min ((PW c s:Nat)+1:Int) ((s.length:Int)+1)=n:=by omega
 simp only [e1]
 refine qcN (z:=1) (by_:=16) (enc:=eS) (y0:=[]) S rfl rfl rfl rfl rfl rfl rfl rfl rfl (by intro _;rfl) (by first|omega|grind) rfl rfl ?_;clear S;intro v h S;refine mv ?_;refine qf ?_
 all_goals (repeat' (first|refine qA ?_|refine qw rfl ?_|refine qx ?_|refine qy ?_|refine qo ?_|refine qi ?_|refine qj ?_|(refine qg 9 ?_;refine mv ?_;(first|refine sb ?_|refine vl ?_);refine mv ?_;refine qf ?_)|(refine qg 10 ?_;refine mv ?_;refine qf ?_)))
 simp only [Int.toNat_natCast] at S
 refine zU (σ:=Nat×List UInt8×List (List UInt8)) (fun (i,t,l) h'=>Hs h0 h' [.sl v 9 1 eS l]∧l.length=n∧i+(zT c t).length=n∧zT c s=l.take i ++ zT c t∧t.length≤1000000) (fun (i,t,l)=>n - i) (fun (i,t,l)=>[(0,str t),(1,str sep),(2,.int .i64 0),(3,.int .i64 ((n:Int) - 1)),(9,v),(10,.int .i64 i)]) (0,s,List.replicate n []) zy ?_ ?_
 ·exact ⟨S,by simp,by omega,by simp,hs⟩
 clear S
 rintro ⟨i,t,l⟩ h ⟨S,h1,h2,h3,h4⟩
 have hp:0<(zT c t).length:=List.length_pos_iff.2 (ZY c t)
 all_goals (repeat' (first|refine qA ?_|refine qw rfl ?_|refine qx ?_|refine qy ?_|refine qo ?_|refine qi ?_|refine qj ?_|(refine qg 11 ?_;refine mv ?_;refine mv ?_;(first|refine cT ?_|refine cF ?_|(refine cS ?_ ?_<;>intro hc))<;>(refine qf ?_))|(refine qg 12 ?_;refine mv ?_;refine mv ?_)|(refine qg 17 ?_;(iterate 3 refine mv ?_);(first|refine zM S ?_|refine qW S rfl rfl ?_);(first|(refine sB S rfl rfl ?_;clear S;intro h S)|(refine jm S rfl rfl ?_;clear S;intro h S));refine qf ?_)|(refine qg 18 ?_;refine mv ?_;refine mv ?_;(first|refine ad ?_|refine vl ?_))))
 ·have hi:i+1<n:=by omega
  (refine qM rfl rfl rfl rfl rfl ((Pn t sep hl h4).mono ?_);rintro _ h ⟨rfl,rfl⟩)<;>(refine mv ?_;refine qf ?_)
  rw [hc0]
  rcases hf:QA c t with _|m
  ·exfalso
   rw [Yf (XW.1 hf)] at h2
   simp at h2
   omega
  ·rw [yz hf]
   obtain ⟨m1,m2,m3⟩:=ZA hf
   have m4:=wM hf
   all_goals (repeat' (first|refine qA ?_|refine qw rfl ?_|refine qx ?_|refine qy ?_|refine qo ?_|refine qi ?_|refine qj ?_|(refine qg 13 ?_;refine mv ?_;(first|refine cT ?_|refine cF ?_|(refine cS ?_ ?_<;>intro hc))<;>(refine qf ?_))|(refine qg 14 ?_;(iterate 5 refine mv ?_);(first|refine ad ?_|refine vl ?_);refine wF ?_;(first|refine zM S ?_|refine qW S rfl rfl ?_);(first|(refine sB S rfl rfl ?_;clear S;intro h S)|(refine jm S rfl rfl ?_;clear S;intro h S));refine qf ?_)|(refine qg 15 ?_;(iterate 3 refine mv ?_);refine tl ?_;(first|refine ad ?_|refine vl ?_);refine wF ?_;refine mv ?_;refine qf ?_)|(refine qg 16 ?_;refine mv ?_;(first|refine ad ?_|refine vl ?_);refine mv ?_;refine qf ?_)|(refine qg 17 ?_;(iterate 3 refine mv ?_);(first|refine zM S ?_|refine qW S rfl rfl ?_);(first|(refine sB S rfl rfl ?_;clear S;intro h S)|(refine jm S rfl rfl ?_;clear S;intro h S));refine qf ?_)|(refine qg 18 ?_;refine mv ?_;refine mv ?_;(first|refine ad ?_|refine vl ?_))))
   have e1:(t.drop (m+sep.length)).take (t.length - (m+sep.length))=t.drop (m+1):=by rw [hl,List.take_of_length_le (by simp)]
   have e2:(t.drop 0).take (m+0 - 0)=t.take m:=by simp
   rw [e1,e2]
   rw [e2] at S
   refine ⟨(i+1,t.drop (m+1),l.set i (t.take m)),?_,?_,zy⟩
   ·show n - (i+1)<n - i;omega
   ·rw [m4] at h2 h3
    simp only [List.length_cons] at h2
    (try simp only [Int.toNat_natCast] at S)
    refine ⟨by simpa using S,by simpa using h1,by omega,?_,by simp;omega⟩
    rw [h3,XB (by omega)]
    simp
 ·have hi:i+1=n:=by omega
  obtain ⟨u,hu⟩:∃ u,zT c t=[u]:=by
   match hq:zT c t with
   | []=>exact absurd hq (ZY c t)
   | [u]=>exact ⟨u,rfl⟩
   | u :: u2 :: r=>rw [hq] at h2;simp at h2;omega
  obtain ⟨rfl,-⟩:=qbB hu
  skip
  all_goals (repeat' (first|refine qA ?_|refine qw rfl ?_|refine qx ?_|refine qy ?_|refine qo ?_|refine qi ?_|refine qj ?_|(refine qg 17 ?_;(iterate 3 refine mv ?_);(first|refine zM S ?_|refine qW S rfl rfl ?_);(first|(refine sB S rfl rfl ?_;clear S;intro h S)|(refine jm S rfl rfl ?_;clear S;intro h S));refine qf ?_)|(refine qg 18 ?_;refine mv ?_;refine mv ?_;(first|refine ad ?_|refine vl ?_))))
  (try simp only [Int.toNat_natCast] at S)
  have e:(l.set i t)=zT c s:=by
   rw [h3,hu,← XB (by omega),List.take_of_length_le (by simp;omega)]
  rw [e] at S
  refine thA (i+1) S rfl rfl ?_
  refine mv ?_;refine qf ?_
  all_goals (repeat' (first|refine qA ?_|refine qw rfl ?_|refine qx ?_|refine qy ?_|refine qo ?_|refine qi ?_|refine qj ?_))
  refine qH ⟨_,rfl,?_⟩
  exact S
theorem split_ok {h0:AH} (w:WfH h0) (s sep:List UInt8) (hl:sep.length=1) (hs:s.length≤1000000):Fn Tryz.prog Xh 148 [str s,str sep] h0 (fun v h'=>Hs h0 h' [.sl v 9 1 eS (zT (sep.getD 0 0) s)]):=by
 have S:=Hs.start w
 refine zD rfl Tryz.func148 rfl rfl ?_
 all_goals (repeat' (first|refine qA ?_|refine qw rfl ?_|refine qx ?_|refine qy ?_|refine qo ?_|refine qi ?_|refine qj ?_|(refine qg 0 ?_;refine mv ?_;refine qf ?_)|(refine qg 1 ?_;refine mv ?_;refine mv ?_)))
 (refine qM rfl rfl rfl rfl rfl ((kS S.wf s sep hl hs).mono ?_);rintro v h x)<;>(replace S:=S.QY x;clear x;refine mv ?_;refine qf ?_)
 all_goals (repeat' (first|refine qA ?_|refine qw rfl ?_|refine qx ?_|refine qy ?_|refine qo ?_|refine qi ?_|refine qj ?_))
 refine qH ⟨_,rfl,?_⟩
 exact S
theorem G9 (s:List UInt8):(Z4 s).length≤s.length:=by
 unfold Z4
 split
 ·simp
 ·exact Nat.le_refl _
theorem qaf {h0:AH} (w:WfH h0) (s:List UInt8) (hs:s.length≤1000000):Fn Tryz.prog Xh 120 [str s] h0 (fun v h'=>∃ (u:Value) (b:Bool),v = .tuple #[u,.bool b]∧(b=true↔s.getLast? = some 10∧[] ∉ zT 32 (Z4 s))∧Hs h0 h' [.sl u 9 1 eS (zT 32 (Z4 s))]):=by
 have S:=Hs.start w
 have hcl:=G9 s
 refine zD rfl Tryz.func120 rfl rfl ?_
 all_goals (repeat' (first|refine qA ?_|refine qw rfl ?_|refine qx ?_|refine qy ?_|refine qo ?_|refine qi ?_|refine qj ?_|(refine qg 0 ?_;refine mv ?_;refine mv ?_;refine qf ?_)|(refine qg 1 ?_;refine mv ?_)))
 (refine qM rfl rfl rfl rfl rfl ((PV s hs).mono ?_);rintro _ h0 ⟨b,rfl,hb,rfl⟩)<;>(refine mv ?_;refine vl ?_;refine vl ?_;refine mv ?_;refine mv ?_;refine qf ?_)
 all_goals (repeat' (first|refine qA ?_|refine qw rfl ?_|refine qx ?_|refine qy ?_|refine qo ?_|refine qi ?_|refine qj ?_|(refine qg 2 ?_;refine mv ?_)))
 (refine qM rfl rfl rfl rfl rfl ((split_ok w (Z4 s) [32] rfl (by omega)).mono ?_);rintro u h S)<;>(refine mv ?_;refine qf ?_)
 replace S:Hs h0 h [.sl u 9 1 eS (zT 32 (Z4 s))]:=S
 obtain ⟨ws,hws⟩:∃ ws,ws=zT 32 (Z4 s):=⟨_,rfl⟩
 have hwl:ws.length≤1000001:=by
  rw [hws,QW]
  have:(Z4 s).countP (· == 32)≤(Z4 s).length:=List.countP_le_length
  omega
 rw [← hws] at S ⊢
 all_goals (repeat' (first|refine qA ?_|refine qw rfl ?_|refine qx ?_|refine qy ?_|refine qo ?_|refine qi ?_|refine qj ?_|(refine qg 2 ?_;refine mv ?_)|(refine qg 3 ?_;refine mv ?_;(first|refine Zq S ?_|refine Zp S rfl rfl ?_);refine mv ?_;refine qf ?_)))
 refine zU (σ:=Nat×Bool) (fun (i,c) h'=>Hs h0 h' [.sl u 9 1 eS ws]∧i≤ws.length∧(c=true↔s.getLast? = some 10∧∀ j,j<i→ws.getD j default≠[])) (fun (i,c)=>ws.length - i) (fun (i,c)=>[(5,.bool c),(6,u),(16,u),(17,.int .i64 ws.length),(18,.int .i64 i)]) (0,b) zy ?_ ?_
 ·exact ⟨S,Nat.zero_le _,by rw [hb];simp⟩
 clear S
 rintro ⟨i,c⟩ h ⟨S,i1,i2⟩
 all_goals (repeat' (first|refine qA ?_|refine qw rfl ?_|refine qx ?_|refine qy ?_|refine qo ?_|refine qi ?_|refine qj ?_|(refine qg 4 ?_;(first|refine cT ?_|refine cF ?_|(refine cS ?_ ?_<;>intro hc))<;>(refine qf ?_))))
 ·have hil:i<ws.length:=by omega
  cases c with
  | true =>
   have i3:=i2.1 rfl
   all_goals (repeat' (first|refine qA ?_|refine qw rfl ?_|refine qx ?_|refine qy ?_|refine qo ?_|refine qi ?_|refine qj ?_|(refine qg 5 ?_;(first|refine zM S ?_|refine qW S rfl rfl ?_);(first|refine lB S rfl rfl ?_|refine qE S rfl rfl ?_|refine qO S ?_|refine lH S ?_);refine mv ?_;refine qf ?_)|(refine qg 6 ?_;refine mv ?_;refine mv ?_;(first|refine off ?_|refine mv ?_);(first|refine off ?_|(refine tS ?_ ?_<;>intro hc))<;>(refine vl ?_;refine mv ?_;refine qf ?_))|(refine qg 7 ?_;(first|refine ad ?_|refine vl ?_);refine mv ?_;refine qf ?_)))
   all_goals (try simp only [Int.toNat_natCast] at *)
   ·refine ⟨(i+1,false),?_,?_,zy⟩
    ·show ws.length - (i+1)<ws.length - i;omega
    ·refine ⟨S,by (try dsimp only);omega,⟨fun q=>(by cases q),fun q=>?_⟩⟩
     exact absurd (by assumption) (q.2 i (by omega))
   ·refine ⟨(i+1,true),?_,?_,zy⟩
    ·show ws.length - (i+1)<ws.length - i;omega
    ·exact ⟨S,by (try dsimp only);omega,fun _=>⟨i3.1,Xt i3.2 (by assumption)⟩,fun _=>rfl⟩
  | false =>
   all_goals (repeat' (first|refine qA ?_|refine qw rfl ?_|refine qx ?_|refine qy ?_|refine qo ?_|refine qi ?_|refine qj ?_|(refine qg 5 ?_;(first|refine zM S ?_|refine qW S rfl rfl ?_);(first|refine lB S rfl rfl ?_|refine qE S rfl rfl ?_|refine qO S ?_|refine lH S ?_);refine mv ?_;refine qf ?_)|(refine qg 6 ?_;refine mv ?_;refine mv ?_;(first|refine off ?_|refine mv ?_);(first|refine off ?_|(refine tS ?_ ?_<;>intro hc))<;>(refine vl ?_;refine mv ?_;refine qf ?_))|(refine qg 7 ?_;(first|refine ad ?_|refine vl ?_);refine mv ?_;refine qf ?_)))
   refine ⟨(i+1,false),?_,?_,zy⟩
   ·show ws.length - (i+1)<ws.length - i;omega
   ·refine ⟨S,by (try dsimp only);omega,⟨fun q=>(by cases q),fun q=>?_⟩⟩
    have:=i2.2 ⟨q.1,fun j hj=>q.2 j (by omega)⟩
    cases this
 ·obtain rfl:i=ws.length:=by omega
  skip
  all_goals (repeat' (first|refine qA ?_|refine qw rfl ?_|refine qx ?_|refine qy ?_|refine qo ?_|refine qi ?_|refine qj ?_|(refine qg 8 ?_;(iterate 4 refine mv ?_);refine qf ?_)))
  refine qH ⟨_,rfl,?_⟩
  refine ⟨u,c,rfl,?_,S⟩
  rw [i2]
  constructor
  ·rintro ⟨q1,q2⟩
   refine ⟨q1,fun q=>?_⟩
   obtain ⟨j,hj,e⟩:=qX.1 q
   exact q2 j hj e
  ·rintro ⟨q1,q2⟩
   exact ⟨q1,fun j hj e=>q2 (e ▸ qR hj)⟩
end Go.Proofs.Xx
namespace Go.Proofs.Xx
open Go Go.Proofs
def qd5 (s:List UInt8) (k:Int) (b:Bool):Prop:=(b=true∧qbI s∧k=ZW s)∨(b=false∧¬ qbI s)
theorem Gy {x c:UInt8} (h:(x.toNat:Int)=c.toNat):x=c:=UInt8.toNat.inj (by omega)
theorem Gw {s:List UInt8} {i:Nat} (h:∀ j,j<i→Xv (s.getD j default)) (hi:i≤9∧i≤s.length):ZW (s.take i)<1000000000:=by
 have key:∀ k,k≤i→ZW (s.take k)<10 ^ k:=fun k hk=>by
  induction k with
  | zero=>simp [ZW]
  | succ k ih =>
   have:=ih (by omega)
   have d:=h k (by omega)
   unfold Xv at d
   rw [YL (by omega),Nat.pow_succ]
   omega
 have h1:=key i (Nat.le_refl _)
 have h2:10 ^ i≤10 ^ 9:=Nat.pow_le_pow_right (by decide) hi.1
 omega
variable [Flag]
theorem WE {h0:AH} (w:WfH h0) (s:List UInt8) (hs:s.length≤1000000):Fn Tryz.prog Xh 149 [str s] h0 (fun v h'=>∃ k b,v = .tuple #[.int .i64 k,.bool b]∧qd5 s k b∧Hs h0 h' []):=by
 have S:=Hs.start w
 refine zD rfl Tryz.func149 rfl rfl ?_
 all_goals (repeat' (first|refine qA ?_|refine qw rfl ?_|refine qx ?_|refine qy ?_|refine qo ?_|refine qi ?_|refine qj ?_|(refine qg 0 ?_;refine mv ?_;refine mv ?_;refine qf ?_)))
 (repeat (refine qA ?_));first|refine ZV (σ:=Unit) (fun _ h'=>Hs h0 h' []∧1≤s.length∧s.length≤9∧(1<s.length→s.getD 0 default≠48)) (fun _=>[(0,str s)]) ?_ ?_|refine Xc (σ:=Unit) (fun _ h'=>Hs h0 h' []∧1≤s.length∧s.length≤9∧(1<s.length→s.getD 0 default≠48)) (fun _=>[(0,str s)]) ?_ ?_
 ·all_goals (repeat' (first|refine qA ?_|refine qw rfl ?_|refine qx ?_|refine qy ?_|refine qo ?_|refine qi ?_|refine qj ?_|(refine qg 1 ?_;refine mv ?_;refine tl ?_;(first|refine cT ?_|refine cF ?_|(refine cS ?_ ?_<;>intro hc))<;>(refine mv ?_;(first|refine off ?_|refine mv ?_);(first|refine off ?_|refine tl ?_);(first|refine off ?_|(first|refine cT ?_|refine cF ?_|(refine cS ?_ ?_<;>intro hc)))<;>(refine vl ?_;refine mv ?_;(first|refine off ?_|refine mv ?_);(first|refine off ?_|refine tl ?_);(first|refine off ?_|(first|refine cT ?_|refine cF ?_|(refine cS ?_ ?_<;>intro hc)))<;>((first|refine off ?_|refine mv ?_);(first|refine off ?_|refine mv ?_);(first|refine off ?_|(first|refine ti ?_|refine vl ?_));(first|refine off ?_|(first|refine cT ?_|refine cF ?_|(refine cS ?_ ?_<;>intro hc)))<;>((first|refine off ?_|refine vl ?_);refine vl ?_;refine qf ?_)))))|(refine qg 2 ?_;refine mv ?_;refine mv ?_;refine qf ?_)))
  ·refine qH ⟨_,rfl,?_⟩
   exact ⟨0,false,rfl,.inr ⟨rfl,fun q=>by have:=q.1;omega⟩,S⟩
  ·refine qH ⟨_,rfl,?_⟩
   exact ⟨0,false,rfl,.inr ⟨rfl,fun q=>by have:=q.2.1;omega⟩,S⟩
  ·refine qH ⟨_,rfl,?_⟩
   have hz:=Gy (c:=48) hc
   exact ⟨0,false,rfl,.inr ⟨rfl,fun q=>q.2.2.1 (by omega) hz⟩,S⟩
  ·exact ⟨(),⟨S,by omega,by omega,fun _ q=>hc (by rw [show s.getD (Int.toNat 0) 0=s.getD 0 default from rfl,q];rfl)⟩,(zy)⟩
  ·exact ⟨(),⟨S,by omega,by omega,fun q=>by omega⟩,(zy)⟩
 clear S
 rintro - h ⟨S,l1,l2,l3⟩
 skip
 all_goals (repeat' (first|refine qA ?_|refine qw rfl ?_|refine qx ?_|refine qy ?_|refine qo ?_|refine qi ?_|refine qj ?_|(refine qg 3 ?_;refine mv ?_;refine qf ?_)|(refine qg 4 ?_;refine mv ?_;refine tl ?_;refine mv ?_;refine qf ?_)))
 refine zU (σ:=Nat) (fun i h'=>Hs h0 h' []∧i≤s.length∧∀ j,j<i→Xv (s.getD j default)) (fun i=>s.length - i) (fun i=>[(0,str s),(4,.int .i64 (ZW (s.take i):Nat)),(25,.int .i64 s.length),(26,.int .i64 i)]) 0 zy ?_ ?_
 ·exact ⟨S,Nat.zero_le _,fun j hj=>absurd hj (Nat.not_lt_zero _)⟩
 clear S
 rintro i h ⟨S,h1,h2⟩
 have hb:=Gw (s:=s) h2 (by omega)
 all_goals (repeat' (first|refine qA ?_|refine qw rfl ?_|refine qx ?_|refine qy ?_|refine qo ?_|refine qi ?_|refine qj ?_|(refine qg 5 ?_;(first|refine cT ?_|refine cF ?_|(refine cS ?_ ?_<;>intro hc))<;>(refine qf ?_))|(refine qg 6 ?_;refine mv ?_;refine mv ?_;refine qf ?_)|(refine qg 7 ?_;refine mv ?_;refine mv ?_;(first|refine ti ?_|refine vl ?_);(first|refine cT ?_|refine cF ?_|(refine cS ?_ ?_<;>intro hc))<;>(refine mv ?_;(first|refine off ?_|refine mv ?_);(first|refine off ?_|refine mv ?_);(first|refine off ?_|(first|refine ti ?_|refine vl ?_));(first|refine off ?_|(first|refine cT ?_|refine cF ?_|(refine cS ?_ ?_<;>intro hc)))<;>(refine vl ?_;refine qf ?_)))|(refine qg 8 ?_;refine mv ?_;refine mv ?_;refine qf ?_)))
 ·(try simp only [Int.toNat_natCast] at *)
  refine qH ⟨_,rfl,?_⟩
  exact ⟨0,false,rfl,.inr ⟨rfl,fun q=>by have:=q.2.2.2 i (by omega);unfold Xv at this;rw [Zd] at this;omega⟩,S⟩
 ·(try simp only [Int.toNat_natCast] at *)
  refine qH ⟨_,rfl,?_⟩
  exact ⟨0,false,rfl,.inr ⟨rfl,fun q=>by have:=q.2.2.2 i (by omega);unfold Xv at this;rw [Zd] at this;omega⟩,S⟩
 ·all_goals (repeat' (first|refine qA ?_|refine qw rfl ?_|refine qx ?_|refine qy ?_|refine qo ?_|refine qi ?_|refine qj ?_|(refine qg 9 ?_;refine mv ?_;(first|refine ml ?_|refine vl ?_);refine mv ?_;refine mv ?_;(first|refine ti ?_|refine vl ?_);(first|refine sU ?_|refine vl ?_);(first|refine cI ?_|refine vl ?_);(first|refine ad ?_|refine vl ?_);refine mv ?_;refine qf ?_)|(refine qg 10 ?_;(first|refine ad ?_|refine vl ?_);refine mv ?_;refine qf ?_)))
  (try simp only [Int.toNat_natCast] at *)
  have hi:i<s.length:=by omega
  have hd:Xv (s.getD i default):=by unfold Xv;rw [Zd];omega
  have e:=YL hi
  rw [Zd] at e
  have e2:(10:Int)*(ZW (s.take i):Nat)+(((s.getD i 0).toNat:Int) - 48)=(ZW (s.take (i+1)):Nat):=by
   unfold Xv at hd
   rw [Zd] at hd
   omega
  rw [e2]
  refine ⟨i+1,?_,?_,zy⟩
  ·show s.length - (i+1)<s.length - i;omega
  ·exact ⟨S,by omega,Xt h2 hd⟩
 ·have hi:i=s.length:=by omega
  subst hi
  rw [List.take_length]
  skip
  all_goals (repeat' (first|refine qA ?_|refine qw rfl ?_|refine qx ?_|refine qy ?_|refine qo ?_|refine qi ?_|refine qj ?_|(refine qg 11 ?_;(iterate 3 refine mv ?_);refine qf ?_)))
  refine qH ⟨_,rfl,?_⟩
  exact ⟨_,true,rfl,.inl ⟨rfl,⟨l1,l2,l3,h2⟩,rfl⟩,S⟩
theorem V5 {h0:AH} (w:WfH h0) (s:List UInt8) (hs:s.length≤1000000):Fn Tryz.prog Xh 122 [str s] h0 (fun v h'=>∃ k b,v = .tuple #[.int .i64 k,.bool b]∧qd5 s k b∧Hs h0 h' []):=by
 have S:=Hs.start w
 refine zD rfl Tryz.func122 rfl rfl ?_
 all_goals (repeat' (first|refine qA ?_|refine qw rfl ?_|refine qx ?_|refine qy ?_|refine qo ?_|refine qi ?_|refine qj ?_|(refine qg 0 ?_;refine mv ?_;refine mv ?_;refine qf ?_)))
 (repeat (refine qA ?_));first|refine ZV (σ:=Unit) (fun _ h'=>Hs h0 h' []∧1≤s.length∧s.length≤9) (fun _=>[(0,str s)]) ?_ ?_|refine Xc (σ:=Unit) (fun _ h'=>Hs h0 h' []∧1≤s.length∧s.length≤9) (fun _=>[(0,str s)]) ?_ ?_
 ·all_goals (repeat' (first|refine qA ?_|refine qw rfl ?_|refine qx ?_|refine qy ?_|refine qo ?_|refine qi ?_|refine qj ?_|(refine qg 1 ?_;refine mv ?_;refine tl ?_;(first|refine cT ?_|refine cF ?_|(refine cS ?_ ?_<;>intro hc))<;>(refine mv ?_;(first|refine off ?_|refine mv ?_);(first|refine off ?_|refine tl ?_);(first|refine off ?_|(first|refine cT ?_|refine cF ?_|(refine cS ?_ ?_<;>intro hc)))<;>(refine vl ?_;refine qf ?_)))|(refine qg 2 ?_;refine mv ?_;refine mv ?_;refine qf ?_)))
  ·refine qH ⟨_,rfl,?_⟩
   exact ⟨0,false,rfl,.inr ⟨rfl,fun q=>by have:=q.1;omega⟩,S⟩
  ·refine qH ⟨_,rfl,?_⟩
   exact ⟨0,false,rfl,.inr ⟨rfl,fun q=>by have:=q.2.1;omega⟩,S⟩
  ·exact ⟨(),⟨S,by omega,by omega⟩,(zy)⟩
 clear S
 rintro - h ⟨S,l1,l2⟩
 skip
 all_goals (repeat' (first|refine qA ?_|refine qw rfl ?_|refine qx ?_|refine qy ?_|refine qo ?_|refine qi ?_|refine qj ?_|(refine qg 3 ?_;refine mv ?_;refine qf ?_)|(refine qg 4 ?_;refine mv ?_;refine qf ?_)))
 refine zU (σ:=Nat) (fun i h'=>Hs h0 h' []∧i≤s.length∧(∀ j,j<i→Xv (s.getD j default))∧(1<i→s.getD 0 default≠48)) (fun i=>s.length - i) (fun i=>[(0,str s),(4,.int .i64 (ZW (s.take i):Nat)),(5,.int .i64 i)]) 0 zy ?_ ?_
 ·exact ⟨S,Nat.zero_le _,fun j hj=>absurd hj (Nat.not_lt_zero _),fun q=>by omega⟩
 clear S
 rintro i h ⟨S,h1,h2,h3⟩
 have hb:=Gw (s:=s) h2 (by omega)
 all_goals (repeat' (first|refine qA ?_|refine qw rfl ?_|refine qx ?_|refine qy ?_|refine qo ?_|refine qi ?_|refine qj ?_|(refine qg 5 ?_;refine mv ?_;refine mv ?_;refine tl ?_;(first|refine cT ?_|refine cF ?_|(refine cS ?_ ?_<;>intro hc))<;>(refine qf ?_))|(refine qg 7 ?_;refine mv ?_;refine mv ?_;(first|refine ti ?_|refine vl ?_);(first|refine cT ?_|refine cF ?_|(refine cS ?_ ?_<;>intro hc))<;>(refine mv ?_;(first|refine off ?_|refine mv ?_);(first|refine off ?_|refine mv ?_);(first|refine off ?_|(first|refine ti ?_|refine vl ?_));(first|refine off ?_|(first|refine cT ?_|refine cF ?_|(refine cS ?_ ?_<;>intro hc)))<;>(refine vl ?_;refine mv ?_;(first|refine off ?_|refine mv ?_);(first|refine off ?_|(first|refine cT ?_|refine cF ?_|(refine cS ?_ ?_<;>intro hc)))<;>((first|refine off ?_|refine mv ?_);(first|refine off ?_|refine mv ?_);(first|refine off ?_|(first|refine ti ?_|refine vl ?_));(first|refine off ?_|(first|refine cT ?_|refine cF ?_|(refine cS ?_ ?_<;>intro hc)))<;>((first|refine off ?_|refine vl ?_);refine vl ?_;refine qf ?_)))))|(refine qg 8 ?_;refine mv ?_;refine mv ?_;refine qf ?_)))
 ·(try simp only [Int.toNat_natCast] at *)
  refine qH ⟨_,rfl,?_⟩
  exact ⟨0,false,rfl,.inr ⟨rfl,fun q=>by have:=q.2.2.2 i (by omega);unfold Xv at this;rw [Zd] at this;omega⟩,S⟩
 ·(try simp only [Int.toNat_natCast] at *)
  refine qH ⟨_,rfl,?_⟩
  exact ⟨0,false,rfl,.inr ⟨rfl,fun q=>by have:=q.2.2.2 i (by omega);unfold Xv at this;rw [Zd] at this;omega⟩,S⟩
 ·refine qH ⟨_,rfl,?_⟩
  have hz:=Gy (c:=48) hc
  exact ⟨0,false,rfl,.inr ⟨rfl,fun q=>q.2.2.1 (by omega) hz⟩,S⟩
 rotate_left 2
 ·have hi:i=s.length:=by omega
  subst hi
  rw [List.take_length]
  skip
  all_goals (repeat' (first|refine qA ?_|refine qw rfl ?_|refine qx ?_|refine qy ?_|refine qo ?_|refine qi ?_|refine qj ?_|(refine qg 10 ?_;(iterate 3 refine mv ?_);refine qf ?_)))
  refine qH ⟨_,rfl,?_⟩
  exact ⟨_,true,rfl,.inl ⟨rfl,⟨l1,l2,h3,h2⟩,rfl⟩,S⟩
 all_goals
  have h3':1<i+1→s.getD 0 default≠48:=by
   first
    | exact fun _ q=>hc (by rw [show s.getD (Int.toNat 0) 0=s.getD 0 default from rfl,q];rfl)
    | exact fun q=>h3 (by omega)
  all_goals (repeat' (first|refine qA ?_|refine qw rfl ?_|refine qx ?_|refine qy ?_|refine qo ?_|refine qi ?_|refine qj ?_|(refine qg 6 ?_;refine mv ?_;(first|refine ad ?_|refine vl ?_);refine mv ?_;refine qf ?_)|(refine qg 9 ?_;refine mv ?_;(first|refine ml ?_|refine vl ?_);refine mv ?_;refine mv ?_;(first|refine ti ?_|refine vl ?_);(first|refine cI ?_|refine vl ?_);(first|refine ad ?_|refine vl ?_);(first|refine sb ?_|refine vl ?_);refine mv ?_;refine qf ?_)))
  (try simp only [Int.toNat_natCast] at *)
  have hi:i<s.length:=by omega
  have hd:Xv (s.getD i default):=by unfold Xv;rw [Zd];omega
  have e:=YL hi
  rw [Zd] at e
  have e2:(10:Int)*(ZW (s.take i):Nat)+((s.getD i 0).toNat:Int) - 48=(ZW (s.take (i+1)):Nat):=by
   unfold Xv at hd
   rw [Zd] at hd
   omega
  rw [e2]
  refine ⟨i+1,?_,?_,zy⟩
  ·show s.length - (i+1)<s.length - i;omega
  ·exact ⟨S,by omega,Xt h2 hd,h3'⟩
end Go.Proofs.Xx
