/-
  Parse.
-/
import Derived.Test.YtidmdnenlgjpeaaGreatDoorM15
import Derived.Test.YtidmdnenlgjpeaaGreatDoorM14
import Derived.Below
import Derived.ChangeSame
import Derived.ChangeArms
import Derived.OpenShut
import Derived.Test.YtidmdnenlgjpeaaGreatDoorM5
import Derived.Test.YtidmdnenlgjpeaaGreatDoorM3
import Derived.WideShapes
import Derived.ChangeShapes
import Derived.Test.YtidmdnenlgjpeaaGreatDoorM6
import Derived.Test.YtidmdnenlgjpeaaGreatDoorM9
import Derived.Test.YtidmdnenlgjpeaaGreatDoorM8
import Derived.Test.YtidmdnenlgjpeaaGreatDoorRows
import Derived.Lib.LaidTab
import Derived.Stop.LaidErr
import Derived.Shelf.Vars
set_option linter.unusedSimpArgs false
set_option linter.unusedVariables false
set_option linter.unusedSectionVars false
set_option maxRecDepth 100000
set_option maxHeartbeats 4000000
namespace Go.Proofs.Xx
open Go Go.Proofs
theorem kP {r:Rl} (H:RO r) {ws:List (List UInt8)} (h:(jf r ws).2=0):RO (jf r ws).1:=by
 unfold jf at h ⊢
 split
 ·rename_i h1
  rw [if_pos h1] at h
  split
  ·rename_i h2;rw [if_pos h2] at h;exact H.add h
  ·exact H
 ·rename_i h1
  rw [if_neg h1] at h
  split
  ·rename_i h2
   rw [if_pos h2] at h
   split
   ·rename_i h3;rw [if_pos h3] at h;exact H.tie h
   ·exact H
  ·exact H
theorem qb5 {r:Rl} (H:RO r) {s:List UInt8} (h:(QO r s).2=0):RO (QO r s).1:=by
 unfold QO at h ⊢
 split
 ·rename_i h1;rw [if_pos h1] at h;exact kP H h
 ·exact H
theorem qcv:RO ⟨[],[]⟩:=by
 refine ⟨?_,?_,?_,?_,?_,?_⟩<;>simp [TS]
theorem V8:∀ {P:List (List UInt8)} {s:List UInt8},s∈zI P→∃ w∈P,s.length≤w.length+1
 | [],s,h=>by cases h
 | [w],s,h=>by
  unfold zI at h
  split at h
  ·cases h
  ·rw [List.mem_singleton.1 h];exact ⟨w,by simp,by omega⟩
 | w :: u :: r,s,h=>by
  rcases List.mem_cons.1 (show s∈(w ++ [10]) :: zI (u :: r) from h) with rfl|h
  ·exact ⟨w,by simp,by simp⟩
  ·obtain ⟨x,x1,x2⟩:=V8 h
   exact ⟨x,List.mem_cons_of_mem _ x1,x2⟩
def rlV0:RlV:=⟨⟨none,0,0⟩,⟨none,0,0⟩,[]⟩
def PaR (o:jy) (l b5 b4 b3 b2 p:Nat) (ls:List (List UInt8)) (k:Nat) (rs:List Rs):Prop :=
 ∃ r,RO r∧XR ⟨[],[]⟩ 0 ls=XR r k (ls.drop k)∧rs=[gJ l o,Q5 p r,.blk b5 [.pointer (some ⟨p,0,none⟩)] 40,.blk b4 [.int .i64 0] 25,.blk b3 [.int .i64 0] 3,.blk b2 [.slice none 0 0,.slice none 0 0] 32]
def PaB (o:jy) (l b4 b3 b2:Nat) (ls:List (List UInt8)) (rs:List Rs):Prop :=
 ∃ (i:Nat) (e:Int),XR ⟨[],[]⟩ 0 ls = .bad i e∧rs=[gJ l o,.blk b4 [.int .i64 e] 25,.blk b3 [.int .i64 i] 3,.blk b2 [.slice none 0 0,.slice none 0 0] 32]
variable [Flag]
theorem KN {h0 h:AH} {rs:List Rs} {b1 l:Nat} (s:List UInt8) (ls:List (List UInt8)) (hls:ls=zI (zT 10 s)) (hs:s.length≤1000000) (S:Hs h0 h (.blk b1 [str s] 9 :: rs)) (RS:Nat→List Rs→Prop) (RB:List Rs→Prop) (hr:RS 0 rs) (Y:Gv h0 l ls RS RB) :
 Fn Tryz.prog Xh 118 [yv l,.pointer (some ⟨b1,0,none⟩)] h (fun _ h'=>(∃ rs',RS ls.length rs'∧Hs h0 h' rs')∨(∃ rs',RB rs'∧Hs h0 h' rs')):=by
 subst hls
 exact PI s hs S RS RB hr Y
def qaV:jy→jy
 | .loop _ _ sz t ps a b=>.loop .done (some .ret) sz t ps a b
 | o=>o
theorem qaH {h0 h:AH} {b1 l b5 b4 b3 b2 p:Nat} {o:jy} (s:List UInt8) (ls:List (List UInt8)) (hls:ls=zI (zT 10 s)) (hs:s.length≤1000000) (S:Hs h0 h [.blk b1 [str s] 9,gJ l o,Q5 p ⟨[],[]⟩,.blk b5 [.pointer (some ⟨p,0,none⟩)] 40,.blk b4 [.int .i64 0] 25,.blk b3 [.int .i64 0] 3,.blk b2 [.slice none 0 0,.slice none 0 0] 32])
 (Y:Gv h0 l ls (PaR o l b5 b4 b3 b2 p ls) (PaB (qaV o) l b4 b3 b2 ls)) :
 Fn Tryz.prog Xh 118 [yv l,.pointer (some ⟨b1,0,none⟩)] h (fun _ h'=>(∃ rs',PaR o l b5 b4 b3 b2 p ls ls.length rs'∧Hs h0 h' rs')∨(∃ rs',PaB (qaV o) l b4 b3 b2 ls rs'∧Hs h0 h' rs')) :=
 KN s ls hls hs S _ _ ⟨⟨[],[]⟩,qcv,rfl,rfl⟩ Y
theorem PP {h0:AH} (w:WfH h0) (s:List UInt8):Fn Tryz.prog Xh 63 [str s] h0 (fun v h'=>∃ b,v = .func (.func 118) #[] #[.pointer (some ⟨b,0,none⟩)]∧Hs h0 h' [.blk b [str s] 9]):=by
 have S:=Hs.start w
 refine zD rfl Tryz.func63 rfl rfl ?_
 all_goals (repeat' (first|refine qA ?_|refine qw rfl ?_|refine qx ?_|refine qy ?_|refine qo ?_|refine qi ?_|refine qj ?_|(refine qg 0 ?_;(refine bx S ?_;clear S;intro b h S);refine mv ?_;refine qf ?_)|(refine qg 1 ?_;refine vl ?_;refine mv ?_;refine qf ?_)))
 refine qH ⟨_,rfl,?_⟩
 exact ⟨_,rfl,S⟩
theorem PO {h0:AH} (w:WfH h0) (s:List UInt8):Fn Tryz.prog Xh 20 [str s] h0 (fun u h'=>(∃ (r:Rl) (v:RlV),ZZ s = .ok r∧RO r∧u = .tuple #[v.val,.int .i64 0,.int .i64 0]∧v.gs.map (·.toGu)=r.us∧Hs h0 h' (Jz v r.ts))∨(∃ (i:Nat) (e:Int),ZZ s = .bad i e∧u = .tuple #[rlV0.val,.int .i64 i,.int .i64 e]∧Hs h0 h' [])):=by
 have S:=Hs.start w
 refine zD rfl Tryz.func20 rfl rfl ?_
 all_goals (repeat' (first|refine qA ?_|refine qw rfl ?_|refine qx ?_|refine qy ?_|refine qo ?_|refine qi ?_|refine qj ?_|(refine qg 0 ?_;(refine al S ?_;clear S;intro b h S);(refine al S ?_;clear S;intro b h S);(refine al S ?_;clear S;intro b h S);refine qf ?_)))
 obtain ⟨b4,hnm⟩:∃ x,x=b:=⟨_,rfl⟩;subst hnm
 obtain ⟨b3,hnm⟩:∃ x,x=b:=⟨_,rfl⟩;subst hnm
 obtain ⟨b2,hnm⟩:∃ x,x=b:=⟨_,rfl⟩;subst hnm
 replace S:Hs h0 h [.blk b4 [.int .i64 0] 25,.blk b3 [.int .i64 0] 3,.blk b2 [.slice none 0 0,.slice none 0 0] 32]:=S
 all_goals (repeat' (first|refine qA ?_|refine qw rfl ?_|refine qx ?_|refine qy ?_|refine qo ?_|refine qi ?_|refine qj ?_|(refine qg 1 ?_;refine mv ?_;refine tl ?_;(first|refine cT ?_|refine cF ?_|(refine cS ?_ ?_<;>intro hc))<;>(refine qf ?_))|(refine qg 2 ?_;refine vl ?_;(first|(refine sB S rfl rfl ?_;clear S;intro h S)|(refine jm S rfl rfl ?_;clear S;intro h S));(first|(refine sB S rfl rfl ?_;clear S;intro h S)|(refine jm S rfl rfl ?_;clear S;intro h S));(first|(refine sB S rfl rfl ?_;clear S;intro h S)|(refine jm S rfl rfl ?_;clear S;intro h S));refine qf ?_)))
 ·refine qH ⟨_,qN S rfl (by first|exact .here|exact .there .here|exact .there (.there .here)|exact .there (.there (.there .here))|exact .there (.there (.there (.there .here)))|exact .there (.there (.there (.there (.there .here))))|exact .there (.there (.there (.there (.there (.there .here)))))|exact .there (.there (.there (.there (.there (.there (.there .here))))))|exact .there (.there (.there (.there (.there (.there (.there (.there .here)))))))|exact .there (.there (.there (.there (.there (.there (.there (.there (.there .here))))))))|exact .there (.there (.there (.there (.there (.there (.there (.there (.there (.there .here)))))))))|exact .there (.there (.there (.there (.there (.there (.there (.there (.there (.there (.there .here))))))))))|exact .there (.there (.there (.there (.there (.there (.there (.there (.there (.there (.there (.there .here)))))))))))) (by exact rfl) (qN S rfl (by first|exact .here|exact .there .here|exact .there (.there .here)|exact .there (.there (.there .here))|exact .there (.there (.there (.there .here)))|exact .there (.there (.there (.there (.there .here))))|exact .there (.there (.there (.there (.there (.there .here)))))|exact .there (.there (.there (.there (.there (.there (.there .here))))))|exact .there (.there (.there (.there (.there (.there (.there (.there .here)))))))|exact .there (.there (.there (.there (.there (.there (.there (.there (.there .here))))))))|exact .there (.there (.there (.there (.there (.there (.there (.there (.there (.there .here)))))))))|exact .there (.there (.there (.there (.there (.there (.there (.there (.there (.there (.there .here))))))))))|exact .there (.there (.there (.there (.there (.there (.there (.there (.there (.there (.there (.there .here)))))))))))) (by exact rfl) (qN S rfl (by first|exact .here|exact .there .here|exact .there (.there .here)|exact .there (.there (.there .here))|exact .there (.there (.there (.there .here)))|exact .there (.there (.there (.there (.there .here))))|exact .there (.there (.there (.there (.there (.there .here)))))|exact .there (.there (.there (.there (.there (.there (.there .here))))))|exact .there (.there (.there (.there (.there (.there (.there (.there .here)))))))|exact .there (.there (.there (.there (.there (.there (.there (.there (.there .here))))))))|exact .there (.there (.there (.there (.there (.there (.there (.there (.there (.there .here)))))))))|exact .there (.there (.there (.there (.there (.there (.there (.there (.there (.there (.there .here))))))))))|exact .there (.there (.there (.there (.there (.there (.there (.there (.there (.there (.there (.there .here)))))))))))) (by exact rfl) (by exact rfl))),?_⟩
  have:65536<s.length:=by omega
  exact .inr ⟨0,7,by unfold ZZ;rw [if_pos this],rfl,S.drop⟩
 ·have hs:¬ 65536<s.length:=by omega
  have hpb:ZZ s=XR ⟨[],[]⟩ 0 (zI (zT 10 s)):=by unfold ZZ;rw [if_neg hs]
  rw [hpb]
  all_goals (repeat' (first|refine qA ?_|refine qw rfl ?_|refine qx ?_|refine qy ?_|refine qo ?_|refine qi ?_|refine qj ?_|(refine qg 3 ?_;skip)))
  (refine qM rfl rfl rfl rfl rfl ((qcM S.wf).mono ?_);rintro _ h ⟨p,rfl,x⟩)<;>(replace S:=S.QY x;clear x;(refine al S ?_;clear S;intro b h S);(first|(refine sB S rfl rfl ?_;clear S;intro h S)|(refine jm S rfl rfl ?_;clear S;intro h S));refine qf ?_)
  obtain ⟨b5,hnm⟩:∃ x,x=b:=⟨_,rfl⟩;subst hnm
  replace S:Hs h0 h [.blk b5 [.pointer (some ⟨p,0,none⟩)] 40,Q5 p ⟨[],[]⟩,.blk b4 [.int .i64 0] 25,.blk b3 [.int .i64 0] 3,.blk b2 [.slice none 0 0,.slice none 0 0] 32]:=S
  all_goals (repeat' (first|refine qA ?_|refine qw rfl ?_|refine qx ?_|refine qy ?_|refine qo ?_|refine qi ?_|refine qj ?_|(refine qg 4 ?_;refine mv ?_)))
  (refine qM rfl rfl rfl rfl rfl ((PP S.wf s).mono ?_);rintro _ h ⟨b1,rfl,x⟩)<;>(replace S:=S.QY x;clear x;refine qf ?_)
  obtain ⟨ls,hls⟩:∃ ls,ls=zI (zT 10 s):=⟨_,rfl⟩
  rw [← hls]
  have hln:∀ k,k<ls.length→(ls.getD k default).length≤1000000:=fun k hk=>by
   obtain ⟨x,x1,x2⟩:=V8 (show ls.getD k default∈zI (zT 10 s) from hls ▸ qR hk)
   have:=XN 10 s x x1
   omega
  all_goals (repeat' (first|refine qA ?_|refine qw rfl ?_|refine qx ?_|refine qy ?_|refine qo ?_|refine qi ?_|refine qj ?_|(refine qg 0 ?_;(refine al S ?_;clear S;intro b h S);(refine al S ?_;clear S;intro b h S);(refine al S ?_;clear S;intro b h S);refine qf ?_)|(refine qg 1 ?_;refine mv ?_;refine tl ?_;(first|refine cT ?_|refine cF ?_|(refine cS ?_ ?_<;>intro hc))<;>(refine qf ?_))|(refine qg 2 ?_;refine vl ?_;(first|(refine sB S rfl rfl ?_;clear S;intro h S)|(refine jm S rfl rfl ?_;clear S;intro h S));(first|(refine sB S rfl rfl ?_;clear S;intro h S)|(refine jm S rfl rfl ?_;clear S;intro h S));(first|(refine sB S rfl rfl ?_;clear S;intro h S)|(refine jm S rfl rfl ?_;clear S;intro h S));refine qf ?_)|(refine qg 3 ?_;skip)|(refine qg 4 ?_;refine mv ?_)))
  refine qbo S rfl ?_
  intro l tt h1 hk S1
  clear S
  have S:=S1.front (.there .here)
  replace S:=S.front (.there (.there (.there .here)))
  replace S:=S.front (.there (.there .here))
  replace S:=S.front (.there (.there .here))
  refine (qaH s ls hls (by omega) S ?_).mono ?_
  ·rintro k rs own h hkl ⟨r,H,hp,rfl⟩ S
   simp only [List.cons_append,List.nil_append] at S
   refine qeo hk S rfl rfl ?_
   skip
   all_goals (repeat' (first|refine qA ?_|refine qw rfl ?_|refine qx ?_|refine qy ?_|refine qo ?_|refine qi ?_|refine qj ?_|(refine qg 5 ?_;refine mv ?_;refine qf ?_)|(refine qg 6 ?_;refine mv ?_;refine qf ?_)))
   refine ⟨rfl,_,S,?_⟩
   clear S
   intro h S
   skip
   have S:=S.front (.there .here)
   all_goals (repeat' (first|refine qA ?_|refine qw rfl ?_|refine qx ?_|refine qy ?_|refine qo ?_|refine qi ?_|refine qj ?_|(refine qg 7 ?_;(first|refine lB S rfl rfl ?_|refine qE S rfl rfl ?_|refine qO S ?_|refine lH S ?_);refine mv ?_)))
   (refine qM rfl rfl rfl rfl rfl ((qbR S H (ls.getD k default) (hln k hkl)).mono ?_);rintro _ h ⟨rfl,S⟩)<;>(refine mv ?_;refine qf ?_)
   have hd:ls.drop k=ls.getD k default :: ls.drop (k+1):=by rw [List.drop_eq_getElem_cons hkl,List.getD_eq_getElem?_getD,List.getElem?_eq_getElem hkl];rfl
   rw [hd] at hp
   all_goals (repeat' (first|refine qA ?_|refine qw rfl ?_|refine qx ?_|refine qy ?_|refine qo ?_|refine qi ?_|refine qj ?_|(refine qg 7 ?_;(first|refine lB S rfl rfl ?_|refine qE S rfl rfl ?_|refine qO S ?_|refine lH S ?_);refine mv ?_)|(refine qg 8 ?_;refine mv ?_;(first|refine cT ?_|refine cF ?_|(refine cS ?_ ?_<;>intro hc))<;>(refine qf ?_))))
   ·all_goals (repeat' (first|refine qA ?_|refine qw rfl ?_|refine qx ?_|refine qy ?_|refine qo ?_|refine qi ?_|refine qj ?_|(refine qg 9 ?_;refine vl ?_;refine mv ?_;refine mv ?_;(first|(refine sB S rfl rfl ?_;clear S;intro h S)|(refine jm S rfl rfl ?_;clear S;intro h S));(first|(refine sB S rfl rfl ?_;clear S;intro h S)|(refine jm S rfl rfl ?_;clear S;intro h S));(first|(refine sB S rfl rfl ?_;clear S;intro h S)|(refine jm S rfl rfl ?_;clear S;intro h S));refine qf ?_)))
    refine qH ?_
    replace S:=(S.tail).del (.there .here)
    exact ⟨_,S,.inr ⟨rfl,fun h4 S=>.inr ⟨rfl,_,⟨k,(QO r (ls.getD k default)).2,hp.trans (Wi hc),rfl⟩,S⟩⟩⟩
   ·have hz:(QO r (ls.getD k default)).2=0:=Classical.not_not.1 hc
    replace S:=S.front (.there .here)
    refine ⟨_,S,.inl ⟨rfl,fun h4 S=>.inl ⟨rfl,_,⟨(QO r (ls.getD k default)).1,qb5 H hz,hp.trans (GR hz),rfl⟩,S⟩⟩⟩
  ·clear S S1
   rintro _ h (⟨_,⟨r,H,hp,rfl⟩,S⟩|⟨_,⟨i,e,hp,rfl⟩,S⟩)
   ·refine ⟨_,.inl ⟨S,?_⟩⟩
    clear S
    intro h S
    skip
    all_goals (repeat' (first|refine qA ?_|refine qw rfl ?_|refine qx ?_|refine qy ?_|refine qo ?_|refine qi ?_|refine qj ?_|(refine qg 10 ?_;(first|refine lB S rfl rfl ?_|refine qE S rfl rfl ?_|refine qO S ?_|refine lH S ?_))))
    (refine qM rfl rfl rfl rfl rfl ((qbF S.wf (Hs.qem S) H).mono ?_);rintro _ h ⟨⟨vg,vt,gs⟩,rfl,hu,x⟩)<;>(replace S:=S.join x;clear x;dsimp only [Jz,List.cons_append,List.nil_append] at S;unfold RlV.val;dsimp only;dsimp only at hu;(first|(refine sB S rfl rfl ?_;clear S;intro h S)|(refine jm S rfl rfl ?_;clear S;intro h S));(first|(refine sB S rfl rfl ?_;clear S;intro h S)|(refine jm S rfl rfl ?_;clear S;intro h S));(first|(refine sB S rfl rfl ?_;clear S;intro h S)|(refine jm S rfl rfl ?_;clear S;intro h S));refine qf ?_)
    all_goals (repeat' (first|refine qA ?_|refine qw rfl ?_|refine qx ?_|refine qy ?_|refine qo ?_|refine qi ?_|refine qj ?_|(refine qg 10 ?_;(first|refine lB S rfl rfl ?_|refine qE S rfl rfl ?_|refine qO S ?_|refine lH S ?_))))
    rw [List.drop_length] at hp
    replace S:Hs h0 h [.sl vg.val 24 9 eG gs,.sl vt.val 111 3 zW r.ts,XA gs,Q5 p r,.blk b5 [.pointer (some ⟨p,0,none⟩)] 40,.blk b4 [.int .i64 0] 25,.blk b3 [.int .i64 0] 3,.blk b2 [vg.val,vt.val] 32]:=S
    refine qH ⟨_,qN S rfl (by first|exact .here|exact .there .here|exact .there (.there .here)|exact .there (.there (.there .here))|exact .there (.there (.there (.there .here)))|exact .there (.there (.there (.there (.there .here))))|exact .there (.there (.there (.there (.there (.there .here)))))|exact .there (.there (.there (.there (.there (.there (.there .here))))))|exact .there (.there (.there (.there (.there (.there (.there (.there .here)))))))|exact .there (.there (.there (.there (.there (.there (.there (.there (.there .here))))))))|exact .there (.there (.there (.there (.there (.there (.there (.there (.there (.there .here)))))))))|exact .there (.there (.there (.there (.there (.there (.there (.there (.there (.there (.there .here))))))))))|exact .there (.there (.there (.there (.there (.there (.there (.there (.there (.there (.there (.there .here)))))))))))) (by exact rfl) (qN S rfl (by first|exact .here|exact .there .here|exact .there (.there .here)|exact .there (.there (.there .here))|exact .there (.there (.there (.there .here)))|exact .there (.there (.there (.there (.there .here))))|exact .there (.there (.there (.there (.there (.there .here)))))|exact .there (.there (.there (.there (.there (.there (.there .here))))))|exact .there (.there (.there (.there (.there (.there (.there (.there .here)))))))|exact .there (.there (.there (.there (.there (.there (.there (.there (.there .here))))))))|exact .there (.there (.there (.there (.there (.there (.there (.there (.there (.there .here)))))))))|exact .there (.there (.there (.there (.there (.there (.there (.there (.there (.there (.there .here))))))))))|exact .there (.there (.there (.there (.there (.there (.there (.there (.there (.there (.there (.there .here)))))))))))) (by exact rfl) (qN S rfl (by first|exact .here|exact .there .here|exact .there (.there .here)|exact .there (.there (.there .here))|exact .there (.there (.there (.there .here)))|exact .there (.there (.there (.there (.there .here))))|exact .there (.there (.there (.there (.there (.there .here)))))|exact .there (.there (.there (.there (.there (.there (.there .here))))))|exact .there (.there (.there (.there (.there (.there (.there (.there .here)))))))|exact .there (.there (.there (.there (.there (.there (.there (.there (.there .here))))))))|exact .there (.there (.there (.there (.there (.there (.there (.there (.there (.there .here)))))))))|exact .there (.there (.there (.there (.there (.there (.there (.there (.there (.there (.there .here))))))))))|exact .there (.there (.there (.there (.there (.there (.there (.there (.there (.there (.there (.there .here)))))))))))) (by exact rfl) (by exact rfl))),?_⟩
    exact .inl ⟨r,⟨vg,vt,gs⟩,hp,H,rfl,hu,S.pick⟩
   ·refine ⟨_,.inr ⟨S,?_⟩⟩
    clear S
    intro h S
    refine ⟨_,qN S rfl (by first|exact .here|exact .there .here|exact .there (.there .here)|exact .there (.there (.there .here))|exact .there (.there (.there (.there .here)))|exact .there (.there (.there (.there (.there .here))))|exact .there (.there (.there (.there (.there (.there .here)))))|exact .there (.there (.there (.there (.there (.there (.there .here))))))|exact .there (.there (.there (.there (.there (.there (.there (.there .here)))))))|exact .there (.there (.there (.there (.there (.there (.there (.there (.there .here))))))))|exact .there (.there (.there (.there (.there (.there (.there (.there (.there (.there .here)))))))))|exact .there (.there (.there (.there (.there (.there (.there (.there (.there (.there (.there .here))))))))))|exact .there (.there (.there (.there (.there (.there (.there (.there (.there (.there (.there (.there .here)))))))))))) (by exact rfl) (qN S rfl (by first|exact .here|exact .there .here|exact .there (.there .here)|exact .there (.there (.there .here))|exact .there (.there (.there (.there .here)))|exact .there (.there (.there (.there (.there .here))))|exact .there (.there (.there (.there (.there (.there .here)))))|exact .there (.there (.there (.there (.there (.there (.there .here))))))|exact .there (.there (.there (.there (.there (.there (.there (.there .here)))))))|exact .there (.there (.there (.there (.there (.there (.there (.there (.there .here))))))))|exact .there (.there (.there (.there (.there (.there (.there (.there (.there (.there .here)))))))))|exact .there (.there (.there (.there (.there (.there (.there (.there (.there (.there (.there .here))))))))))|exact .there (.there (.there (.there (.there (.there (.there (.there (.there (.there (.there (.there .here)))))))))))) (by exact rfl) (qN S rfl (by first|exact .here|exact .there .here|exact .there (.there .here)|exact .there (.there (.there .here))|exact .there (.there (.there (.there .here)))|exact .there (.there (.there (.there (.there .here))))|exact .there (.there (.there (.there (.there (.there .here)))))|exact .there (.there (.there (.there (.there (.there (.there .here))))))|exact .there (.there (.there (.there (.there (.there (.there (.there .here)))))))|exact .there (.there (.there (.there (.there (.there (.there (.there (.there .here))))))))|exact .there (.there (.there (.there (.there (.there (.there (.there (.there (.there .here)))))))))|exact .there (.there (.there (.there (.there (.there (.there (.there (.there (.there (.there .here))))))))))|exact .there (.there (.there (.there (.there (.there (.there (.there (.there (.there (.there (.there .here)))))))))))) (by exact rfl) (by exact rfl))),?_⟩
    exact .inr ⟨i,e,hp,rfl,S.drop⟩
end Go.Proofs.Xx
namespace Go.Proofs.Xx
open Go Go.Proofs
variable [Flag]
theorem xX {h0:AH} (w:WfH h0) (s:List UInt8):Fn Tryz.prog Xh 21 [str s] h0 (fun u h'=>(∃ (r:Rl) (v:RlV),ZZ s = .ok r∧RO r∧u = .tuple #[v.val,.int .i64 0,.int .i64 0]∧v.gs.map (·.toGu)=r.us∧Hs h0 h' (Jz v r.ts))∨(∃ (i:Nat) (e:Int),ZZ s = .bad i e∧u = .tuple #[rlV0.val,.int .i64 i,.int .i64 e]∧Hs h0 h' [])):=by
 have S:=Hs.start w
 refine zD rfl Tryz.func21 rfl rfl ?_
 all_goals (repeat' (first|refine qA ?_|refine qw rfl ?_|refine qx ?_|refine qy ?_|refine qo ?_|refine qi ?_|refine qj ?_|(refine qg 0 ?_;(refine al S ?_;clear S;intro b h S);refine mv ?_;refine mv ?_;refine qf ?_)))
 obtain ⟨b2,hnm⟩:∃ x,x=b:=⟨_,rfl⟩;subst hnm
 replace S:Hs h0 h [.blk b2 [.slice none 0 0,.slice none 0 0] 32]:=S
 all_goals (repeat' (first|refine qA ?_|refine qw rfl ?_|refine qx ?_|refine qy ?_|refine qo ?_|refine qi ?_|refine qj ?_|(refine qg 1 ?_;refine mv ?_;refine tl ?_;(first|refine cT ?_|refine cF ?_|(refine cS ?_ ?_<;>intro hc))<;>(refine qf ?_))|(refine qg 2 ?_;refine vl ?_;(first|(refine sB S rfl rfl ?_;clear S;intro h S)|(refine jm S rfl rfl ?_;clear S;intro h S));refine mv ?_;refine mv ?_;refine qf ?_)))
 ·refine qH ⟨_,qN S rfl (by first|exact .here|exact .there .here|exact .there (.there .here)|exact .there (.there (.there .here))|exact .there (.there (.there (.there .here)))|exact .there (.there (.there (.there (.there .here))))|exact .there (.there (.there (.there (.there (.there .here)))))|exact .there (.there (.there (.there (.there (.there (.there .here))))))|exact .there (.there (.there (.there (.there (.there (.there (.there .here)))))))|exact .there (.there (.there (.there (.there (.there (.there (.there (.there .here))))))))|exact .there (.there (.there (.there (.there (.there (.there (.there (.there (.there .here)))))))))|exact .there (.there (.there (.there (.there (.there (.there (.there (.there (.there (.there .here))))))))))|exact .there (.there (.there (.there (.there (.there (.there (.there (.there (.there (.there (.there .here)))))))))))) (by exact rfl) (by exact rfl),?_⟩
  have:65536<s.length:=by omega
  exact .inr ⟨0,7,by unfold ZZ;rw [if_pos this],rfl,S.drop⟩
 ·have hs:¬ 65536<s.length:=by omega
  have hpb:ZZ s=XR ⟨[],[]⟩ 0 (zI (zT 10 s)):=by unfold ZZ;rw [if_neg hs]
  rw [hpb]
  all_goals (repeat' (first|refine qA ?_|refine qw rfl ?_|refine qx ?_|refine qy ?_|refine qo ?_|refine qi ?_|refine qj ?_|(refine qg 3 ?_;refine mv ?_)))
  (refine qM rfl rfl rfl rfl rfl ((Pv S.wf s (by omega)).mono ?_);rintro _ h ⟨u,wh,l,rfl,hl,x⟩)<;>(replace S:=S.QY x;clear x;obtain ⟨sl,rfl⟩:=S.sV u;refine mv ?_;refine vl ?_;refine vl ?_;refine mv ?_;refine mv ?_;refine qf ?_)
  have LN:LnsOk s l wh (zI (zT 10 s)):=by
   rcases hl with ⟨rfl,ini,z,rfl,e1,e2⟩|⟨rfl,e1⟩
   ·exact .part e1 e2
   ·exact .whole e1
  obtain ⟨ls,hls⟩:∃ ls,ls=zI (zT 10 s):=⟨_,rfl⟩
  rw [← hls] at LN ⊢
  have hll:l.length≤65537:=by
   have h1:=YQ (zT 10 s)
   have h2:=QW 10 s
   have h3:s.countP (· == 10)≤s.length:=List.countP_le_length
   rw [← hls,LN.len] at h1
   omega
  all_goals (repeat' (first|refine qA ?_|refine qw rfl ?_|refine qx ?_|refine qy ?_|refine qo ?_|refine qi ?_|refine qj ?_|(refine qg 3 ?_;refine mv ?_)|(refine qg 4 ?_;(refine al S ?_;clear S;intro b h S);refine qf ?_)))
  obtain ⟨b7,hnm⟩:∃ x,x=b:=⟨_,rfl⟩;subst hnm
  have S:=((S.YU (e:=24) (z:=9) (enc:=eG)).YU (e:=111) (z:=3) (enc:=zW)).anyS (p:=fun h fp=>Star h (([]:List ZC).map qap) fp) fun h'=>trivial
  replace S:Hs h0 h [XA [],.sl (SlV.val ⟨none,0,0⟩) 111 3 zW [],.sl (SlV.val ⟨none,0,0⟩) 24 9 eG [],.blk b7 [SlV.val ⟨none,0,0⟩,SlV.val ⟨none,0,0⟩] 32,.sl sl.val 9 1 eS l,.blk b2 [.slice none 0 0,.slice none 0 0] 32]:=S
  all_goals (repeat' (first|refine qA ?_|refine qw rfl ?_|refine qx ?_|refine qy ?_|refine qo ?_|refine qi ?_|refine qj ?_|(refine qg 5 ?_;refine mv ?_;refine qf ?_)))
  refine zU (σ:=Nat×RlV×Rl) (fun (k,v1,r) h'=>Hs h0 h' [.blk b7 [v1.vg.val,v1.vt.val] 32,.sl sl.val 9 1 eS l,.blk b2 [.slice none 0 0,.slice none 0 0] 32,.sl v1.vg.val 24 9 eG v1.gs,.sl v1.vt.val 111 3 zW r.ts,XA v1.gs]∧k≤l.length∧v1.gs.map (·.toGu)=r.us∧RO r∧XR ⟨[],[]⟩ 0 ls=XR r k (ls.drop k)) (fun (k,v1,r)=>l.length - k) (fun (k,v1,r)=>[(2,.pointer (some ⟨b2,0,none⟩)),(5,sl.val),(6,.bool wh),(7,.pointer (some ⟨b7,0,none⟩)),(8,.int .i64 k)]) (0,⟨⟨none,0,0⟩,⟨none,0,0⟩,[]⟩,⟨[],[]⟩) zy ?_ ?_
  ·exact ⟨S.pick,Nat.zero_le _,rfl,qcv,rfl⟩
  clear S
  rintro ⟨k,v1,r⟩ h ⟨S,k1,hu,H,hp⟩
  all_goals (repeat' (first|refine qA ?_|refine qw rfl ?_|refine qx ?_|refine qy ?_|refine qo ?_|refine qi ?_|refine qj ?_|(refine qg 6 ?_;refine mv ?_;refine mv ?_;(first|refine Zq S ?_|refine Zp S rfl rfl ?_);(first|refine cT ?_|refine cF ?_|(refine cS ?_ ?_<;>intro hc))<;>(refine qf ?_))))
  ·have hkl:k<l.length:=by omega
   have hks:k<ls.length:=by rw [LN.len];exact hkl
   obtain ⟨f1,f2⟩:=LN.fr k hkl
   have hd:ls.drop k=ls.getD k default :: ls.drop (k+1):=by rw [List.drop_eq_getElem_cons hks,List.getD_eq_getElem?_getD,List.getElem?_eq_getElem hks];rfl
   rw [hd] at hp
   all_goals (repeat' (first|refine qA ?_|refine qw rfl ?_|refine qx ?_|refine qy ?_|refine qo ?_|refine qi ?_|refine qj ?_|(refine qg 8 ?_;refine mv ?_;refine mv ?_;(first|refine zM S ?_|refine qW S rfl rfl ?_);(first|refine lB S rfl rfl ?_|refine qE S rfl rfl ?_|refine qO S ?_|refine lH S ?_))))
   simp only [Int.toNat_natCast]
   have bad3:∀ {v':Value},(QO r (ls.getD k default)).2=3→XR ⟨[],[]⟩ 0 ls = .bad k 3:=fun q=>hp.trans (by rw [Wi (by rw [q];decide),q])
   (refine qM rfl rfl rfl rfl rfl ((Pq S.wf (l.getD k default) (by omega)).mono ?_);rintro _ h (⟨q1,u,rfl,x⟩|⟨q1,rfl,x⟩))<;>((first|replace S:=S.QY x|replace S:=S.zC x);clear x;refine mv ?_;refine vl ?_;refine vl ?_;refine mv ?_;refine mv ?_;refine qf ?_)
   rotate_left
   ·all_goals (repeat' (first|refine qA ?_|refine qw rfl ?_|refine qx ?_|refine qy ?_|refine qo ?_|refine qi ?_|refine qj ?_|(refine qg 9 ?_;refine mv ?_;refine vl ?_;refine mv ?_;(first|refine off ?_|refine mv ?_);(first|refine off ?_|refine vl ?_);(first|refine off ?_|refine mv ?_);(first|refine off ?_|refine mv ?_);(first|refine off ?_|refine mv ?_);(first|refine off ?_|(first|refine Zq S ?_|refine Zp S rfl rfl ?_));(first|refine off ?_|(first|refine sb ?_|refine vl ?_));(first|refine off ?_|(first|refine cT ?_|refine cF ?_|(refine cS ?_ ?_<;>intro hc)))<;>((first|refine off ?_|refine vl ?_);refine vl ?_;refine qf ?_))|(refine qg 10 ?_;refine vl ?_;refine mv ?_;(first|(refine sB S rfl rfl ?_;clear S;intro h S)|(refine jm S rfl rfl ?_;clear S;intro h S));refine mv ?_;refine mv ?_;refine qf ?_)))
    refine qH ⟨_,qN S rfl (by first|exact .here|exact .there .here|exact .there (.there .here)|exact .there (.there (.there .here))|exact .there (.there (.there (.there .here)))|exact .there (.there (.there (.there (.there .here))))|exact .there (.there (.there (.there (.there (.there .here)))))|exact .there (.there (.there (.there (.there (.there (.there .here))))))|exact .there (.there (.there (.there (.there (.there (.there (.there .here)))))))|exact .there (.there (.there (.there (.there (.there (.there (.there (.there .here))))))))|exact .there (.there (.there (.there (.there (.there (.there (.there (.there (.there .here)))))))))|exact .there (.there (.there (.there (.there (.there (.there (.there (.there (.there (.there .here))))))))))|exact .there (.there (.there (.there (.there (.there (.there (.there (.there (.there (.there (.there .here)))))))))))) (by exact rfl) (by exact rfl),?_⟩
    refine .inr ⟨k,3,bad3 (v':=.bool true) ?_,rfl,S.drop⟩
    by_cases z:wh=true∨k+1<l.length
    ·rw [LN.nl k hkl z,qcZ q1]
    ·rw [LN.no k hkl (by cases wh<;>simp_all) (fun q=>z (.inr q)),pJ f1]
   ·obtain ⟨sv,rfl⟩:=S.sV u
    by_cases z:wh=true∨k+1<l.length
    rotate_left
    ·have hwf:wh=false:=by cases wh<;>simp_all
     have hk2:¬ k+1<l.length:=fun q=>z (.inr q)
     subst hwf
     all_goals (repeat' (first|refine qA ?_|refine qw rfl ?_|refine qx ?_|refine qy ?_|refine qo ?_|refine qi ?_|refine qj ?_|(refine qg 9 ?_;refine mv ?_;refine vl ?_;refine mv ?_;(first|refine off ?_|refine mv ?_);(first|refine off ?_|refine vl ?_);(first|refine off ?_|refine mv ?_);(first|refine off ?_|refine mv ?_);(first|refine off ?_|refine mv ?_);(first|refine off ?_|(first|refine Zq S ?_|refine Zp S rfl rfl ?_));(first|refine off ?_|(first|refine sb ?_|refine vl ?_));(first|refine off ?_|(first|refine cT ?_|refine cF ?_|(refine cS ?_ ?_<;>intro hc)))<;>((first|refine off ?_|refine vl ?_);refine vl ?_;refine qf ?_))|(refine qg 10 ?_;refine vl ?_;refine mv ?_;(first|(refine sB S rfl rfl ?_;clear S;intro h S)|(refine jm S rfl rfl ?_;clear S;intro h S));refine mv ?_;refine mv ?_;refine qf ?_)))
     ·refine qH ⟨_,qN S rfl (by first|exact .here|exact .there .here|exact .there (.there .here)|exact .there (.there (.there .here))|exact .there (.there (.there (.there .here)))|exact .there (.there (.there (.there (.there .here))))|exact .there (.there (.there (.there (.there (.there .here)))))|exact .there (.there (.there (.there (.there (.there (.there .here))))))|exact .there (.there (.there (.there (.there (.there (.there (.there .here)))))))|exact .there (.there (.there (.there (.there (.there (.there (.there (.there .here))))))))|exact .there (.there (.there (.there (.there (.there (.there (.there (.there (.there .here)))))))))|exact .there (.there (.there (.there (.there (.there (.there (.there (.there (.there (.there .here))))))))))|exact .there (.there (.there (.there (.there (.there (.there (.there (.there (.there (.there (.there .here)))))))))))) (by exact rfl) (by exact rfl),?_⟩
      refine .inr ⟨k,3,bad3 (v':=.bool true) ?_,rfl,S.drop⟩
      rw [LN.no k hkl rfl hk2,pJ f1]
     all_goals (exfalso;omega)
    ·have ea:QO r (ls.getD k default)=jf r (zT 32 (l.getD k default)):=by rw [LN.nl k hkl z,qb6 q1]
     have W:=WsOk.of (s:=l.getD k default) (by omega) q1
     (repeat (refine qA ?_));first|refine ZV (σ:=Unit) (fun _ h'=>Hs h0 h' [.sl sv.val 9 1 eS (zT 32 (l.getD k default)),.blk b7 [v1.vg.val,v1.vt.val] 32,.sl sl.val 9 1 eS l,.blk b2 [.slice none 0 0,.slice none 0 0] 32,.sl v1.vg.val 24 9 eG v1.gs,.sl v1.vt.val 111 3 zW r.ts,XA v1.gs]) (fun _=>[(2,.pointer (some ⟨b2,0,none⟩)),(5,sl.val),(6,.bool wh),(7,.pointer (some ⟨b7,0,none⟩)),(8,.int .i64 k),(9,sv.val)]) ?_ ?_|refine Xc (σ:=Unit) (fun _ h'=>Hs h0 h' [.sl sv.val 9 1 eS (zT 32 (l.getD k default)),.blk b7 [v1.vg.val,v1.vt.val] 32,.sl sl.val 9 1 eS l,.blk b2 [.slice none 0 0,.slice none 0 0] 32,.sl v1.vg.val 24 9 eG v1.gs,.sl v1.vt.val 111 3 zW r.ts,XA v1.gs]) (fun _=>[(2,.pointer (some ⟨b2,0,none⟩)),(5,sl.val),(6,.bool wh),(7,.pointer (some ⟨b7,0,none⟩)),(8,.int .i64 k),(9,sv.val)]) ?_ ?_
     ·cases wh with
      | true =>
       all_goals (repeat' (first|refine qA ?_|refine qw rfl ?_|refine qx ?_|refine qy ?_|refine qo ?_|refine qi ?_|refine qj ?_|(refine qg 9 ?_;refine mv ?_;refine vl ?_;refine mv ?_;(first|refine off ?_|refine mv ?_);(first|refine off ?_|refine vl ?_);(first|refine off ?_|refine mv ?_);(first|refine off ?_|refine mv ?_);(first|refine off ?_|refine mv ?_);(first|refine off ?_|(first|refine Zq S ?_|refine Zp S rfl rfl ?_));(first|refine off ?_|(first|refine sb ?_|refine vl ?_));(first|refine off ?_|(first|refine cT ?_|refine cF ?_|(refine cS ?_ ?_<;>intro hc)))<;>((first|refine off ?_|refine vl ?_);refine vl ?_;refine qf ?_))|(refine qg 10 ?_;refine vl ?_;refine mv ?_;(first|(refine sB S rfl rfl ?_;clear S;intro h S)|(refine jm S rfl rfl ?_;clear S;intro h S));refine mv ?_;refine mv ?_;refine qf ?_)))
       exact ⟨(),S,(zy)⟩
      | false =>
       have hk2:k+1<l.length:=z.elim (fun q=>by cases q) id
       all_goals (repeat' (first|refine qA ?_|refine qw rfl ?_|refine qx ?_|refine qy ?_|refine qo ?_|refine qi ?_|refine qj ?_|(refine qg 9 ?_;refine mv ?_;refine vl ?_;refine mv ?_;(first|refine off ?_|refine mv ?_);(first|refine off ?_|refine vl ?_);(first|refine off ?_|refine mv ?_);(first|refine off ?_|refine mv ?_);(first|refine off ?_|refine mv ?_);(first|refine off ?_|(first|refine Zq S ?_|refine Zp S rfl rfl ?_));(first|refine off ?_|(first|refine sb ?_|refine vl ?_));(first|refine off ?_|(first|refine cT ?_|refine cF ?_|(refine cS ?_ ?_<;>intro hc)))<;>((first|refine off ?_|refine vl ?_);refine vl ?_;refine qf ?_))|(refine qg 10 ?_;refine vl ?_;refine mv ?_;(first|(refine sB S rfl rfl ?_;clear S;intro h S)|(refine jm S rfl rfl ?_;clear S;intro h S));refine mv ?_;refine mv ?_;refine qf ?_)))
       all_goals first|(exfalso;omega)|exact ⟨(),S,(zy)⟩
     clear S
     rintro - h S
     skip
     all_goals (repeat' (first|refine qA ?_|refine qw rfl ?_|refine qx ?_|refine qy ?_|refine qo ?_|refine qi ?_|refine qj ?_|(refine qg 11 ?_;(first|refine lB S rfl rfl ?_|refine qE S rfl rfl ?_|refine qO S ?_|refine lH S ?_);refine mv ?_)))
     (refine qM rfl rfl rfl rfl rfl ((qas S.wf v1 r (S.qbG hu H) H sv (zT 32 (l.getD k default)) (Rd.Ze S .here) (S.qdL .here) W).mono ?_);rintro _ h (⟨he,rfl,x⟩|⟨he,⟨vg',vt',gs'⟩,rfl,hu',x⟩))<;>((first|replace S:=S.zC x|(replace S:=S.join x;dsimp only [Jz,List.cons_append,List.nil_append] at S));clear x;unfold RlV.val;(try dsimp only);(try dsimp only at hu');refine mv ?_;refine vl ?_;refine vl ?_;(refine al S ?_;clear S;intro b h S);(first|(refine sB S rfl rfl ?_;clear S;intro h S)|(refine jm S rfl rfl ?_;clear S;intro h S));refine mv ?_;refine qf ?_)
     all_goals (obtain ⟨b11,hnm⟩:∃ x,x=b:=⟨_,rfl⟩;subst hnm)
     ·all_goals (repeat' (first|refine qA ?_|refine qw rfl ?_|refine qx ?_|refine qy ?_|refine qo ?_|refine qi ?_|refine qj ?_|(refine qg 12 ?_;refine mv ?_;(first|refine cT ?_|refine cF ?_|(refine cS ?_ ?_<;>intro hc))<;>(refine qf ?_))|(refine qg 13 ?_;refine vl ?_;refine mv ?_;refine mv ?_;(first|(refine sB S rfl rfl ?_;clear S;intro h S)|(refine jm S rfl rfl ?_;clear S;intro h S));refine mv ?_;refine mv ?_;refine qf ?_)))
      ·refine qH ⟨_,qN S rfl (by first|exact .here|exact .there .here|exact .there (.there .here)|exact .there (.there (.there .here))|exact .there (.there (.there (.there .here)))|exact .there (.there (.there (.there (.there .here))))|exact .there (.there (.there (.there (.there (.there .here)))))|exact .there (.there (.there (.there (.there (.there (.there .here))))))|exact .there (.there (.there (.there (.there (.there (.there (.there .here)))))))|exact .there (.there (.there (.there (.there (.there (.there (.there (.there .here))))))))|exact .there (.there (.there (.there (.there (.there (.there (.there (.there (.there .here)))))))))|exact .there (.there (.there (.there (.there (.there (.there (.there (.there (.there (.there .here))))))))))|exact .there (.there (.there (.there (.there (.there (.there (.there (.there (.there (.there (.there .here)))))))))))) (by exact rfl) (by exact rfl),?_⟩
       exact .inr ⟨k,(jf r (zT 32 (l.getD k default))).2,hp.trans (by rw [Wi (by rw [ea];exact he),ea]),rfl,S.drop⟩
      all_goals exact absurd he (by assumption)
     ·replace S:Hs h0 h (.blk b11 [vg'.val,vt'.val] 32 :: .sl vg'.val 24 9 eG gs' :: .sl vt'.val 111 3 zW (jf r (zT 32 (l.getD k default))).1.ts :: XA gs' :: .sl sv.val 9 1 eS (zT 32 (l.getD k default)) :: .blk b7 [v1.vg.val,v1.vt.val] 32 :: .sl sl.val 9 1 eS l :: .blk b2 [.slice none 0 0,.slice none 0 0] 32 :: .sl v1.vg.val 24 9 eG v1.gs :: .sl v1.vt.val 111 3 zW r.ts :: XA v1.gs :: []):=S
      all_goals (repeat' (first|refine qA ?_|refine qw rfl ?_|refine qx ?_|refine qy ?_|refine qo ?_|refine qi ?_|refine qj ?_|(refine qg 7 ?_;refine mv ?_;(first|refine ad ?_|refine vl ?_);refine mv ?_;refine qf ?_)|(refine qg 12 ?_;refine mv ?_;(first|refine cT ?_|refine cF ?_|(refine cS ?_ ?_<;>intro hc))<;>(refine qf ?_))|(refine qg 14 ?_;(first|refine lB S rfl rfl ?_|refine qE S rfl rfl ?_|refine qO S ?_|refine lH S ?_);(first|(refine sB S rfl rfl ?_;clear S;intro h S)|(refine jm S rfl rfl ?_;clear S;intro h S));refine qf ?_)))
      all_goals first|exact absurd rfl (by assumption)|skip
      refine ⟨(k+1,⟨vg',vt',gs'⟩,(jf r (zT 32 (l.getD k default))).1),?_,?_,zy⟩
      ·show l.length - (k+1)<l.length - k;omega
      ·replace S:Hs h0 h (.blk b11 [vg'.val,vt'.val] 32 :: .sl vg'.val 24 9 eG gs' :: .sl vt'.val 111 3 zW (jf r (zT 32 (l.getD k default))).1.ts :: XA gs' :: .sl sv.val 9 1 eS (zT 32 (l.getD k default)) :: .blk b7 [vg'.val,vt'.val] 32 :: .sl sl.val 9 1 eS l :: .blk b2 [.slice none 0 0,.slice none 0 0] 32 :: .sl v1.vg.val 24 9 eG v1.gs :: .sl v1.vt.val 111 3 zW r.ts :: XA v1.gs :: []):=S
       refine ⟨S.pick,by (try dsimp only);omega,hu',kP H he,hp.trans ?_⟩
       rw [GR (by rw [ea];exact he),ea]
  ·obtain rfl:k=l.length:=by omega
   skip
   all_goals (repeat' (first|refine qA ?_|refine qw rfl ?_|refine qx ?_|refine qy ?_|refine qo ?_|refine qi ?_|refine qj ?_|(refine qg 15 ?_;(first|refine lB S rfl rfl ?_|refine qE S rfl rfl ?_|refine qO S ?_|refine lH S ?_);(first|(refine sB S rfl rfl ?_;clear S;intro h S)|(refine jm S rfl rfl ?_;clear S;intro h S));refine mv ?_;refine mv ?_;refine qf ?_)))
   refine qH ⟨_,qN S rfl (by first|exact .here|exact .there .here|exact .there (.there .here)|exact .there (.there (.there .here))|exact .there (.there (.there (.there .here)))|exact .there (.there (.there (.there (.there .here))))|exact .there (.there (.there (.there (.there (.there .here)))))|exact .there (.there (.there (.there (.there (.there (.there .here))))))|exact .there (.there (.there (.there (.there (.there (.there (.there .here)))))))|exact .there (.there (.there (.there (.there (.there (.there (.there (.there .here))))))))|exact .there (.there (.there (.there (.there (.there (.there (.there (.there (.there .here)))))))))|exact .there (.there (.there (.there (.there (.there (.there (.there (.there (.there (.there .here))))))))))|exact .there (.there (.there (.there (.there (.there (.there (.there (.there (.there (.there (.there .here)))))))))))) (by exact rfl) (by exact rfl),?_⟩
   rw [← LN.len,List.drop_length] at hp
   exact .inl ⟨r,v1,hp,H,rfl,hu,S.tail.tail.tail⟩
end Go.Proofs.Xx
namespace Go.Proofs.Xx
open Go Go.Proofs
theorem qat (h:AH):RlOk h rlV0 ⟨[],[]⟩:=⟨Rd.none_ h 9,Rd.none_ h 3,fun i hi=>absurd hi (Nat.not_lt_zero _),rfl,by decide,by decide⟩
variable [Flag]
theorem WS {h0:AH} (w:WfH h0) (s:List UInt8):Fn Tryz.prog Xh 4 [str s] h0 (fun u _=>u = .bool true):=by
 have S:=Hs.start w
 refine zD rfl Tryz.func4 rfl rfl ?_
 all_goals (repeat' (first|refine qA ?_|refine qw rfl ?_|refine qx ?_|refine qy ?_|refine qo ?_|refine qi ?_|refine qj ?_|(refine qg 0 ?_;refine mv ?_;refine qf ?_)|(refine qg 1 ?_;refine mv ?_)))
 (refine qM rfl rfl rfl rfl rfl ((PO S.wf s).mono ?_);rintro _ h (⟨r,⟨vg,vt,gs⟩,p1,H,rfl,hu,x⟩|⟨i,e,p1,rfl,x⟩))<;>((first|replace S:=S.zC x|(replace S:=S.join x;dsimp only [Jz,List.cons_append,List.nil_append] at S));clear x;unfold RlV.val;(try unfold rlV0);(try dsimp only);(try dsimp only at hu);refine mv ?_;refine vl ?_;refine vl ?_;refine vl ?_;(refine al S ?_;clear S;intro b h S);(first|(refine sB S rfl rfl ?_;clear S;intro h S)|(refine jm S rfl rfl ?_;clear S;intro h S));refine mv ?_;refine mv ?_;refine qf ?_)
 all_goals (obtain ⟨b3,hnm⟩:∃ x,x=b:=⟨_,rfl⟩;subst hnm)
 ·replace S:Hs h0 h (.blk b3 [vg.val,vt.val] 32 :: .sl vg.val 24 9 eG gs :: .sl vt.val 111 3 zW r.ts :: XA gs :: []):=S
  all_goals (repeat' (first|refine qA ?_|refine qw rfl ?_|refine qx ?_|refine qy ?_|refine qo ?_|refine qi ?_|refine qj ?_|(refine qg 2 ?_;refine mv ?_)))
  (refine qM rfl rfl rfl rfl rfl ((xX S.wf s).mono ?_);rintro _ h (⟨r2,⟨vg2,vt2,gs2⟩,p2,H2,rfl,hu2,x⟩|⟨i,e,p2,rfl,x⟩))<;>((first|replace S:=S.zC x|(replace S:=S.join x;dsimp only [Jz,List.cons_append,List.nil_append] at S));clear x;unfold RlV.val;(try unfold rlV0);(try dsimp only);(try dsimp only at hu2);refine mv ?_;refine vl ?_;refine vl ?_;refine vl ?_;(refine al S ?_;clear S;intro b h S);(first|(refine sB S rfl rfl ?_;clear S;intro h S)|(refine jm S rfl rfl ?_;clear S;intro h S));refine mv ?_;refine mv ?_;refine qf ?_)
  rotate_left
  ·rw [p1] at p2;cases p2
  obtain rfl:r=r2:=by rw [p1] at p2;exact PB.ok.inj p2
  obtain ⟨b6,hnm⟩:∃ x,x=b:=⟨_,rfl⟩;subst hnm
  replace S:Hs h0 h (.blk b6 [vg2.val,vt2.val] 32 :: .sl vg2.val 24 9 eG gs2 :: .sl vt2.val 111 3 zW r.ts :: XA gs2 :: .blk b3 [vg.val,vt.val] 32 :: .sl vg.val 24 9 eG gs :: .sl vt.val 111 3 zW r.ts :: XA gs :: []):=S
  have S1:Hs h0 h (Jz ⟨vg,vt,gs⟩ r.ts):=S.tail.tail.tail.tail.tail
  have R1:RlOk h ⟨vg,vt,gs⟩ r:=S1.qbG hu H
  have S2:Hs h0 h (.sl vg2.val 24 9 eG gs2 :: .sl vt2.val 111 3 zW r.ts :: XA gs2 :: .blk b3 [vg.val,vt.val] 32 :: .sl vg.val 24 9 eG gs :: .sl vt.val 111 3 zW r.ts :: XA gs :: []):=S.tail
  have R2:RlOk h ⟨vg2,vt2,gs2⟩ r:=S2.qbG (v:=⟨vg2,vt2,gs2⟩) hu2 H
  all_goals (repeat' (first|refine qA ?_|refine qw rfl ?_|refine qx ?_|refine qy ?_|refine qo ?_|refine qi ?_|refine qj ?_|(refine qg 3 ?_;refine mv ?_;refine mv ?_;(first|refine cT ?_|refine cF ?_|(refine cS ?_ ?_<;>intro hc))<;>(refine mv ?_;(first|refine off ?_|refine mv ?_);(first|refine off ?_|refine mv ?_);(first|refine off ?_|(first|refine cT ?_|refine cF ?_|(refine cS ?_ ?_<;>intro hc)))<;>(refine vl ?_;refine mv ?_;(first|refine off ?_|(first|refine lB S rfl rfl ?_|refine qE S rfl rfl ?_|refine qO S ?_|refine lH S ?_));(first|refine off ?_|(first|refine lB S rfl rfl ?_|refine qE S rfl rfl ?_|refine qO S ?_|refine lH S ?_));(first|(refine off ?_;refine vl ?_;refine mv ?_;(first|(refine off ?_;refine vl ?_;refine mv ?_;refine qf ?_)|skip))|skip))))))
  (refine qM rfl rfl rfl rfl rfl ((Vk S.wf ⟨vg,vt,gs⟩ ⟨vg2,vt2,gs2⟩ r r R1 R2).mono ?_);rintro _ h ⟨⟨rfl,z⟩|⟨rfl,z⟩,x⟩)<;>(replace S:=S.zC x;clear x;refine vl ?_;refine mv ?_;(first|(refine off ?_;refine vl ?_;refine mv ?_;refine qf ?_)|skip))
  all_goals first|exact absurd rfl z|skip
  (refine qM rfl rfl rfl rfl rfl ((yE S.wf).mono ?_);rintro _ h ⟨rfl,x⟩)<;>(replace S:=S.zC x;clear x;refine vl ?_;refine mv ?_;refine qf ?_)
  all_goals (repeat' (first|refine qA ?_|refine qw rfl ?_|refine qx ?_|refine qy ?_|refine qo ?_|refine qi ?_|refine qj ?_|(refine qg 0 ?_;refine mv ?_;refine qf ?_)|(refine qg 1 ?_;refine mv ?_)|(refine qg 2 ?_;refine mv ?_)|(refine qg 3 ?_;refine mv ?_;refine mv ?_;(first|refine cT ?_|refine cF ?_|(refine cS ?_ ?_<;>intro hc))<;>(refine mv ?_;(first|refine off ?_|refine mv ?_);(first|refine off ?_|refine mv ?_);(first|refine off ?_|(first|refine cT ?_|refine cF ?_|(refine cS ?_ ?_<;>intro hc)))<;>(refine vl ?_;refine mv ?_;(first|refine off ?_|(first|refine lB S rfl rfl ?_|refine qE S rfl rfl ?_|refine qO S ?_|refine lH S ?_));(first|refine off ?_|(first|refine lB S rfl rfl ?_|refine qE S rfl rfl ?_|refine qO S ?_|refine lH S ?_));(first|(refine off ?_;refine vl ?_;refine mv ?_;(first|(refine off ?_;refine vl ?_;refine mv ?_;refine qf ?_)|skip))|skip))))))
  refine qH ⟨_,rfl,?_⟩
  rfl
 ·all_goals (repeat' (first|refine qA ?_|refine qw rfl ?_|refine qx ?_|refine qy ?_|refine qo ?_|refine qi ?_|refine qj ?_|(refine qg 2 ?_;refine mv ?_)))
  (refine qM rfl rfl rfl rfl rfl ((xX S.wf s).mono ?_);rintro _ h (⟨r2,⟨vg2,vt2,gs2⟩,p2,H2,rfl,hu2,x⟩|⟨i2,e2,p2,rfl,x⟩))<;>((first|replace S:=S.zC x|(replace S:=S.join x;dsimp only [Jz,List.cons_append,List.nil_append] at S));clear x;unfold RlV.val;(try unfold rlV0);(try dsimp only);refine mv ?_;refine vl ?_;refine vl ?_;refine vl ?_;(refine al S ?_;clear S;intro b h S);(first|(refine sB S rfl rfl ?_;clear S;intro h S)|(refine jm S rfl rfl ?_;clear S;intro h S));refine mv ?_;refine mv ?_;refine qf ?_)
  ·rw [p1] at p2;cases p2
  obtain ⟨rfl,rfl⟩:i=i2∧e=e2:=by rw [p1] at p2;exact PB.bad.inj p2
  all_goals (repeat' (first|refine qA ?_|refine qw rfl ?_|refine qx ?_|refine qy ?_|refine qo ?_|refine qi ?_|refine qj ?_|(refine qg 3 ?_;refine mv ?_;refine mv ?_;(first|refine cT ?_|refine cF ?_|(refine cS ?_ ?_<;>intro hc))<;>(refine mv ?_;(first|refine off ?_|refine mv ?_);(first|refine off ?_|refine mv ?_);(first|refine off ?_|(first|refine cT ?_|refine cF ?_|(refine cS ?_ ?_<;>intro hc)))<;>(refine vl ?_;refine mv ?_;(first|refine off ?_|(first|refine lB S rfl rfl ?_|refine qE S rfl rfl ?_|refine qO S ?_|refine lH S ?_));(first|refine off ?_|(first|refine lB S rfl rfl ?_|refine qE S rfl rfl ?_|refine qO S ?_|refine lH S ?_));(first|(refine off ?_;refine vl ?_;refine mv ?_;(first|(refine off ?_;refine vl ?_;refine mv ?_;refine qf ?_)|skip))|skip))))))
  (refine qM rfl rfl rfl rfl rfl ((Vk S.wf rlV0 rlV0 ⟨[],[]⟩ ⟨[],[]⟩ (qat _) (qat _)).mono ?_);rintro _ h ⟨⟨rfl,z⟩|⟨rfl,z⟩,x⟩)<;>(replace S:=S.zC x;clear x;refine vl ?_;refine mv ?_;(first|(refine off ?_;refine vl ?_;refine mv ?_;refine qf ?_)|skip))
  all_goals first|exact absurd rfl z|skip
  (refine qM rfl rfl rfl rfl rfl ((yE S.wf).mono ?_);rintro _ h ⟨rfl,x⟩)<;>(replace S:=S.zC x;clear x;refine vl ?_;refine mv ?_;refine qf ?_)
  all_goals (repeat' (first|refine qA ?_|refine qw rfl ?_|refine qx ?_|refine qy ?_|refine qo ?_|refine qi ?_|refine qj ?_|(refine qg 3 ?_;refine mv ?_;refine mv ?_;(first|refine cT ?_|refine cF ?_|(refine cS ?_ ?_<;>intro hc))<;>(refine mv ?_;(first|refine off ?_|refine mv ?_);(first|refine off ?_|refine mv ?_);(first|refine off ?_|(first|refine cT ?_|refine cF ?_|(refine cS ?_ ?_<;>intro hc)))<;>(refine vl ?_;refine mv ?_;(first|refine off ?_|(first|refine lB S rfl rfl ?_|refine qE S rfl rfl ?_|refine qO S ?_|refine lH S ?_));(first|refine off ?_|(first|refine lB S rfl rfl ?_|refine qE S rfl rfl ?_|refine qO S ?_|refine lH S ?_));(first|(refine off ?_;refine vl ?_;refine mv ?_;(first|(refine off ?_;refine vl ?_;refine mv ?_;refine qf ?_)|skip))|skip))))))
  refine qH ⟨_,rfl,?_⟩
  rfl
end Go.Proofs.Xx
namespace Go.Proofs.Xx
open Go Go.RowKit
section
variable {H:Type} {enc:TypeId×Value→H} {P:Program} {W W':World}
theorem Jg {α β:Type} {f g:α→Option β}:∀ {l:List α} {r:List β},l.mapM f=some r→(∀ a b,a∈l→b∈r→f a=some b→g a=some b)→l.mapM g=some r:=by
 intro l
 induction l with
 | nil=>intro r h _;simpa using h
 | cons a l ih =>
  intro r h hk
  rw [List.mapM_cons] at h ⊢
  cases hf:f a with
  | none=>rw [hf] at h;cases h
  | some b =>
   rw [hf] at h
   cases hm:l.mapM f with
   | none=>rw [hm] at h;cases h
   | some r' =>
    rw [hm] at h
    simp at h
    subst h
    rw [hk a b (by simp) (by simp) hf,ih hm fun x y hx hy=>hk x y (by simp [hx]) (by simp [hy])]
    rfl
theorem KX (hb:∀ k,k<W.heap.size→W'.heap[k]? = W.heap[k]?) {base n:Nat} {a:Addr} {cs:List Value} (h:W.cells? base a n=some cs):W'.cells? base a n=some cs:=by
 unfold World.cells? at h ⊢
 split at h
 ·rename_i hba
  rw [if_pos hba]
  refine Jg h fun i v _ _ hv=>?_
  have hlt:(a.add i).block<W.heap.size:=by
   rcases Nat.lt_or_ge (a.add i).block W.heap.size with q|q
   ·exact q
   ·have:W.cell? (a.add i)=none:=by
     unfold World.cell?
     rw [Array.getElem?_eq_none q]
    rw [this] at hv;cases hv
  rw [← hv]
  exact World.cell?_of_block (w:=W) (hb _ hlt)
 ·cases h
def xM (P:Program):List Field→Nat→Nat→Bool
 | [],at_,n=>Nat.beq at_ n
 | f :: r,at_,n=>Nat.beq f.offset at_ && xM P r (at_+P.cellsOf f.type) n
def QJ (P:Program):Nat→TypeId→Bool
 | 0,_=>false
 | m+1,t=>match P.underlying t with
  | some .bool|some .string=>Nat.beq (P.cellsOf t) 1
  | some (.int _)=>Nat.beq (P.cellsOf t) 1
  | some (.slice e)=>Nat.beq (P.cellsOf t) 1 && (QJ P m e && !Nat.beq (P.cellsOf e) 0)
  | some (.struct fs)=>fs.toList.all (fun f=>QJ P m f.type) && xM P fs.toList 0 (P.cellsOf t)
  | some (.array n e)=>QJ P m e && Nat.beq (P.cellsOf t) (n*P.cellsOf e)
  | _=>false
theorem pW (hb:∀ k,k<W.heap.size→W'.heap[k]? = W.heap[k]?) {base:Nat} {sp:Nat→Bool} {held:Bool}:∀ (fuel m:Nat) (t:TypeId) (cs:List Value) (x:DataW H×List MemPlace),QJ P m t=true →
 DataW.trod enc P W base (fun _=>true) held fuel t cs=some x→(∀ p∈x.2,sp p.block=true)→DataW.trod enc P W' base sp held fuel t cs=some x:=by
 intro fuel
 induction fuel with
 | zero=>intro m t cs x _ h _;cases h
 | succ fuel ih =>
  intro m t cs x hp h hsp
  cases m with
  | zero=>cases hp
  | succ m =>
  unfold QJ at hp
  cases hu:P.underlying t with
  | none=>rw [hu] at hp;cases hp
  | some u =>
   rw [hu] at hp
   cases u with
   | bool=>obtain ⟨b,rfl,rfl⟩:=DataW.trod_bool hu h;unfold DataW.trod;rw [hu]
   | int k =>
    obtain ⟨b,rfl,rfl,hwf⟩:=DataW.trod_int hu h
    unfold DataW.trod;rw [hu]
    simp [hwf]
   | string =>
    obtain ⟨b,rfl,rfl,hs⟩:=DataW.trod_string hu h
    unfold DataW.trod;rw [hu]
    simp [hs]
   | struct fs =>
    simp only [Bool.and_eq_true,List.all_eq_true] at hp
    unfold DataW.trod at h ⊢
    rw [hu] at h ⊢
    simp only at h ⊢
    split at h
    ·rename_i hc
     rw [if_pos hc]
     simp only [Option.map_eq_some_iff] at h ⊢
     obtain ⟨xs,h1,rfl⟩:=h
     refine ⟨xs,Jg h1 fun f y hf hy hq=>ih m _ _ _ (hp.1 f hf) hq fun p hp=>hsp p ?_,rfl⟩
     simp only [List.mem_flatMap]
     exact ⟨y,hy,hp⟩
    ·cases h
   | array n e =>
    simp only [Bool.and_eq_true] at hp
    unfold DataW.trod at h ⊢
    rw [hu] at h ⊢
    simp only at h ⊢
    split at h
    ·rename_i hc
     rw [if_pos hc]
     simp only [Option.map_eq_some_iff] at h ⊢
     obtain ⟨xs,h1,rfl⟩:=h
     refine ⟨xs,Jg h1 fun f y hf hy hq=>ih m _ _ _ hp.1 hq fun p hp=>hsp p ?_,rfl⟩
     simp only [List.mem_flatMap]
     exact ⟨y,hy,hp⟩
    ·cases h
   | slice e =>
    simp only [Bool.and_eq_true,Bool.not_eq_true'] at hp
    have hz:P.cellsOf e≠0:=fun q=>by have:=hp.2.2;rw [q] at this;simp at this
    rcases DataW.trod_slice hu h with ⟨rfl,rfl⟩|⟨a,len,cap,-,-,-,-,rfl,-⟩
    ·unfold DataW.trod;rw [hu];rfl
    ·unfold DataW.trod at h ⊢
     rw [hu] at h ⊢
     simp only at h ⊢
     split at h
     ·rename_i hc
      rw [if_pos hc]
      simp only [if_true,Option.map_eq_some_iff,Option.bind_eq_some_iff] at h ⊢
      obtain ⟨elems,h1,rest,h2,rfl⟩:=h
      have key:∀ i y,y∈elems ++ rest→(W.cells? base (a.add (i*P.cellsOf e)) (P.cellsOf e)).bind (DataW.trod enc P W base (fun _=>true) held fuel e)=some y →
       (W'.cells? base (a.add (i*P.cellsOf e)) (P.cellsOf e)).bind (DataW.trod enc P W' base sp held fuel e)=some y:=by
       intro i y hy hq
       rw [Option.bind_eq_some_iff] at hq ⊢
       obtain ⟨cs',q1,q2⟩:=hq
       refine ⟨cs',KX hb q1,ih m _ _ _ hp.2.1 q2 fun p hp=>hsp p ?_⟩
       simp only [List.mem_append,List.mem_flatMap]
       exact .inr ⟨y,by simpa using hy,hp⟩
      refine ⟨elems,Jg h1 fun i y _ hy hq=>key i y (by simp [hy]) hq,rest,?_,rfl⟩
      cases hs:sp a.block with
      | true =>
       simp only [if_true]
       exact Jg h2 fun i y _ hy hq=>key (len+i) y (by simp [hy]) hq
      | false =>
       simp only [Bool.false_eq_true,if_false]
       cases rest with
       | nil=>rfl
       | cons y rest =>
        have hp':sp a.block=true:=by
         refine hsp (.cell a.block (a.off+0)) ?_
         simp only [List.mem_append]
         refine .inl ?_
         unfold MemPlace.row
         rw [List.mem_map]
         exact ⟨0,List.mem_range.2 (Nat.mul_pos (by simp only [List.length_cons];omega) (by omega)),rfl⟩
        rw [hs] at hp';cases hp'
     ·cases h
   | _=>cases hp
theorem X8 (hb:∀ k,k<W.heap.size→W'.heap[k]? = W.heap[k]?) {base:Nat} {sp:Nat→Bool} {held:Bool}:∀ (ts:List TypeId) (vs:List Value) (ds:List (DataW H)) (ps:List MemPlace),ts.all (QJ P 20)=true →
 DataW.TrodAll enc P W base (fun _=>true) held ts vs ds ps→(∀ p∈ps,sp p.block=true)→DataW.TrodAll enc P W' base sp held ts vs ds ps
 | [],[],[],ps,_,h,_=>h
 | t :: ts,v :: vs,d :: ds,ps,hp,h,hsp=>by
  simp only [List.all_cons,Bool.and_eq_true] at hp
  obtain ⟨p,q,⟨fuel,h1⟩,h2,rfl⟩:=h
  exact ⟨p,q,⟨fuel,pW hb fuel 20 t _ _ hp.1 h1 fun x hx=>hsp x (by simp [hx])⟩,X8 hb ts vs ds q hp.2 h2 fun x hx=>hsp x (by simp [hx]),rfl⟩
 | [],[],_ :: _,_,_,h,_=>h.elim
 | [],_ :: _,_,_,_,h,_=>h.elim
 | _ :: _,[],_,_,_,h,_=>h.elim
 | _ :: _,_ :: _,[],_,_,h,_=>h.elim
end
end Go.Proofs.Xx
namespace Go.Proofs.Xx
open Go Go.RowKit
section
variable {P:Program}
theorem Rel.pI [Glob] {B:Bs} {e:Emb} {h:AH} {w:World} (r:Rel B e h w) {k sh:Nat} {cc:Array Value} {el:TypeId} {fr:Nat×Nat} {c:List Value} (hkB:k<B.lo) (hk:w.heap[k]? = some (.cells cc el fr)) (hsz:sh+c.length≤cc.size)
 (hc:∀ i v,c[i]? = some v→∃ v',cc[sh+i]? = some v'∧VR (e.put h.next ⟨k,sh,0⟩) v v') :
 Rel B (e.put h.next ⟨k,sh,0⟩) (h.add (.cells c el none true)) w∧e.le (e.put h.next ⟨k,sh,0⟩):=by
 have hle:=r.Za ⟨k,sh,0⟩
 have hlt:k<w.heap.size:=(Array.getElem?_eq_some_iff.1 hk).1
 refine ⟨⟨fun b M q=>?_,fun b hb=>?_,fun b M q=>?_,fun b M p q1 q2=>?_,fun b M p b' M' p' e1 e2 e3 e4 e5 e6 e7=>?_,fun b M p q1 q2 q3=>?_,r.base,r.keep,r.glob⟩,hle⟩
 ·by_cases hb:b=h.next
  ·subst hb;exact Nat.lt_succ_self _
  ·rw [Emb.qZ _ _ hb] at q;exact Nat.lt_succ_of_lt (r.dom b M q)
 ·have hb':h.next+1≤b:=hb
  rw [AH.zi,if_neg (by omega)];exact r.wf b (by omega)
 ·by_cases hb:b=h.next
  ·subst hb;rw [Emb.qQ] at q;cases q;exact hlt
  ·rw [Emb.qZ _ _ hb] at q;exact r.rng b M q
 ·rw [AH.zi] at q2
  by_cases hb:b=h.next
  ·subst hb;rw [Emb.qQ] at q1;cases q1;rw [if_pos rfl] at q2;cases q2
   exact ⟨cc,fr,hk,hsz,hc,(fun _=>⟨rfl,fun q=>by cases q⟩),(fun _ q=>by cases q),(fun q=>by cases q)⟩
  ·rw [Emb.qZ _ _ hb] at q1;rw [if_neg hb] at q2
   exact (r.obj b M p q1 q2).mono hle
 ·rw [AH.zi] at e2 e4
  by_cases hb':b'=h.next
  ·subst hb';rw [if_pos rfl] at e4;cases e4;cases e7
  ·rw [Emb.qZ _ _ hb'] at e3;rw [if_neg hb'] at e4
   by_cases hb:b=h.next
   ·subst hb
    rw [Emb.qQ] at e1;cases e1
    rw [if_pos rfl] at e2;cases e2
    have:=r.own b' M' p' e3 e4 e7
    simp only at e5;omega
   ·rw [Emb.qZ _ _ hb] at e1;rw [if_neg hb] at e2
    exact r.inj b M p b' M' p' e1 e2 e3 e4 e5 e6 e7
 ·rw [AH.zi] at q2
  by_cases hb:b=h.next
  ·subst hb;rw [if_pos rfl] at q2;cases q2;cases q3
  ·rw [Emb.qZ _ _ hb] at q1;rw [if_neg hb] at q2
   exact r.own b M p q1 q2 q3
def Bs.of (w:World):Bs:=⟨w.heap.size,w.heap⟩
def RoH (h:AH):Prop:=∀ b o,h.get b=some o→Z8 o=false
structure WRel [Glob] (w:World) (e:Emb) (h:AH):Prop where
 rel:Rel (Bs.of w) e h w
 ro:RoH h
theorem WRel.empty [Glob] {w:World} (hg:Glob.ok w.heap.size w.heap):WRel w (fun _=>none) ⟨.e,0,0⟩ :=
 ⟨⟨fun b L q=>(by cases q),fun b _=>Tr.yt b,fun b L q=>(by cases q),fun b L o q=>(by cases q),fun b L o b' L' o' q=>(by cases q),fun b L o q=>(by cases q),Nat.le_refl _,fun _ _=>rfl,hg⟩,
  fun b o q=>by rw [show (⟨.e,0,0⟩:AH).get b=none from Tr.yt b] at q;cases q⟩
theorem WRel.wfH [Glob] {w:World} {e:Emb} {h:AH} (r:WRel w e h):WfH h:=r.rel.wf
theorem WRel.pI [Glob] {e:Emb} {h:AH} {w:World} (r:WRel w e h) {k sh:Nat} {cc:Array Value} {el:TypeId} {fr:Nat×Nat} {c:List Value} (hk:w.heap[k]? = some (.cells cc el fr)) (hsz:sh+c.length≤cc.size)
 (hc:∀ i v,c[i]? = some v→∃ v',cc[sh+i]? = some v'∧VR e v v') :
 ∃ e',WRel w e' (h.add (.cells c el none true))∧e.le e'∧Ext h (h.add (.cells c el none true))∧e' h.next=some ⟨k,sh,0⟩:=by
 have hle:=r.rel.Za ⟨k,sh,0⟩
 obtain ⟨r1,r2⟩:=Rel.pI (sh:=sh) (c:=c) r.rel (show k<w.heap.size from (Array.getElem?_eq_some_iff.1 hk).1) hk hsz (fun i v hi=>by obtain ⟨v',h1,h2⟩:=hc i v hi;exact ⟨v',h1,h2.mono hle⟩)
 refine ⟨_,⟨r1,fun b o q=>?_⟩,r2,(Ext.refl r.wfH).add _,Emb.qQ _ _ _⟩
 rw [AH.zi] at q
 split at q
 ·cases q;rfl
 ·exact r.ro b o q
def AR (P:Program) (h:AH):Nat→TypeId→List Value→Prop
 | 0,_,_=>False
 | f+1,t,cs =>
  match P.underlying t,cs with
  | some .bool,[.bool _]=>True
  | some (.int k),[.int k' n]=>k'=k∧(Lit.int k n).wf=true
  | some .string,[.string s]=>s.size≤maxLen
  | some (.slice e),[v]=>∃ n c,Rd h v (P.cellsOf e) n c∧(n≤maxLen∧n*P.bytesOf e≤reachBytes)∧XI v∧∀ i,i<n→AR P h f e ((c.drop (i*P.cellsOf e)).take (P.cellsOf e))
  | some (.struct fs),cs=>cs.length=P.cellsOf t∧∀ fd∈fs.toList,AR P h f fd.type ((cs.drop fd.offset).take (P.cellsOf fd.type))
  | some (.array n e),cs=>cs.length=P.cellsOf t∧∀ i,i<n→AR P h f e ((cs.drop (i*P.cellsOf e)).take (P.cellsOf e))
  | _,_=>False
theorem AR.ext {h h':AH} (w:WfH h) (x:Ext h h'):∀ (f:Nat) (t:TypeId) (cs:List Value),AR P h f t cs→AR P h' f t cs
 | 0,_,_,q=>q
 | f+1,t,cs,q=>by
  unfold AR at q ⊢
  split at q
  ·exact q
  ·exact q
  ·exact q
  ·obtain ⟨n,c,h1,h2,hc,h3⟩:=q
   exact ⟨n,c,h1.ext w x,h2,hc,fun i hi=>AR.ext w x f _ _ (h3 i hi)⟩
  ·exact ⟨q.1,fun fd hf=>AR.ext w x f _ _ (q.2 fd hf)⟩
  ·exact ⟨q.1,fun i hi=>AR.ext w x f _ _ (q.2 i hi)⟩
  ·exact q
section
variable {H:Type} {enc:TypeId×Value→H}
def Light (P:Program) (t:TypeId) (d:DataW H):Prop:=∀ n∈DataW.weights P t d,n≤reachBytes
theorem JK:∀ (ts:List TypeId) (ds:List (DataW H)) (j:Nat) (t:TypeId) (d:DataW H),ts[j]? = some t→ds[j]? = some d→∀ n∈DataW.weights P t d,n∈DataW.weightsEach P ts ds
 | [],_,_,_,_,q,_=>by simp at q
 | _ :: _,[],_,_,_,_,q=>by simp at q
 | t :: ts,d :: ds,0,_,_,q1,q2=>by
  simp only [List.getElem?_cons_zero,Option.some.injEq] at q1 q2
  subst q1;subst q2
  intro n hn;rw [DataW.weightsEach];exact List.mem_append_left _ hn
 | t :: ts,d :: ds,j+1,_,_,q1,q2=>by
  intro n hn;rw [DataW.weightsEach];exact List.mem_append_right _ (JK ts ds j _ _ (by simpa using q1) (by simpa using q2) n hn)
theorem weightsAll_mem (e:TypeId):∀ (ds:List (DataW H)) (j:Nat) (d:DataW H),ds[j]? = some d→∀ n∈DataW.weights P e d,n∈DataW.weightsAll P e ds
 | [],_,_,q=>by simp at q
 | d :: ds,0,_,q=>by
  simp only [List.getElem?_cons_zero,Option.some.injEq] at q
  subst q
  intro n hn;rw [DataW.weightsAll];exact List.mem_append_left _ hn
 | d :: ds,j+1,_,q=>by
  intro n hn;rw [DataW.weightsAll];exact List.mem_append_right _ (weightsAll_mem e ds j _ (by simpa using q) n hn)
theorem Light.field {t:TypeId} {fs:Array Field} {ds:List (DataW H)} (hu:P.underlying t=some (.struct fs)) (hl:Light P t (.agg ds)) {i:Nat} {f:Field} {d:DataW H} (hf:fs[i]? = some f) (hd:ds[i]? = some d):Light P f.type d:=fun n hn=>by
 refine hl n ?_
 rw [DataW.weights,hu]
 exact JK _ _ i _ _ (by simp [hf]) hd n hn
theorem Light.item {t e:TypeId} {k:Nat} {ds:List (DataW H)} (hu:P.underlying t=some (.array k e)) (hl:Light P t (.agg ds)) {i:Nat} {d:DataW H} (hd:ds[i]? = some d):Light P e d:=fun n hn=>by
 refine hl n ?_
 rw [DataW.weights,hu]
 exact weightsAll_mem e _ i _ hd n hn
theorem Light.elem {t e:TypeId} {ds rs:List (DataW H)} (hu:P.underlying t=some (.slice e)) (hl:Light P t (.slice ds rs)) {i:Nat} {d:DataW H} (hd:ds[i]? = some d):Light P e d:=fun n hn=>by
 refine hl n ?_
 rw [DataW.weights,hu]
 exact List.mem_cons_of_mem _ (List.mem_append_left _ (weightsAll_mem e _ i _ hd n hn))
theorem Light.slice {t e:TypeId} {ds rs:List (DataW H)} (hu:P.underlying t=some (.slice e)) (hl:Light P t (.slice ds rs)):ds.length*P.bytesOf e≤reachBytes:=by
 have h1:=hl ((ds.length+rs.length)*P.bytesOf e) (by rw [DataW.weights,hu];exact List.mem_cons_self)
 exact Nat.le_trans (Nat.mul_le_mul_right _ (Nat.le_add_right _ _)) h1
theorem wH:∀ (fs:List Field) (a n:Nat),xM P fs a n=true→a≤n
 | [],a,n,h=>by have:=Nat.eq_of_beq_eq_true h;omega
 | f :: r,a,n,h=>by
  simp only [xM,Bool.and_eq_true] at h
  have:=wH r _ n h.2
  omega
def qbm [Glob] (enc:TypeId×Value→H) (P:Program) (w:World) (base:Nat) (sp:Nat→Bool) (held:Bool) (n:Nat) (t:TypeId) (cs:List Value):Prop:=∀ e h,WRel w e h→∃ e' h' r,WRel w e' h'∧e.le e'∧Ext h h'∧VRs e' r cs∧AR P h' n t r
theorem Vw [Glob] {w:World} {base n:Nat} {sp:Nat→Bool} {held:Bool} {cs:List Value}:∀ (fs:List Field) (a:Nat),xM P fs a cs.length=true →
 (∀ fd∈fs,qbm enc P w base sp held n fd.type ((cs.drop fd.offset).take (P.cellsOf fd.type)))→∀ e h,WRel w e h →
 ∃ e' h' r,WRel w e' h'∧e.le e'∧Ext h h'∧VRs e' r (cs.drop a)∧∀ fd∈fs,a≤fd.offset∧AR P h' n fd.type ((r.drop (fd.offset - a)).take (P.cellsOf fd.type))
 | [],a,ht,_,e,h,r=>by
  have:=Nat.eq_of_beq_eq_true ht
  exact ⟨e,h,[],r,e.le_refl,Ext.refl r.wfH,by rw [this,List.drop_length];exact .nil,fun fd q=>by cases q⟩
 | f :: fs,a,ht,hk,e,h,r=>by
  simp only [xM,Bool.and_eq_true] at ht
  have hoff:=Nat.eq_of_beq_eq_true ht.1
  have hle:=wH fs _ _ ht.2
  obtain ⟨e1,h1,c1,r1,l1,x1,v1,a1⟩:=hk f (by simp) e h r
  obtain ⟨e2,h2,c2,r2,l2,x2,v2,a2⟩:=Vw fs _ ht.2 (fun fd q=>hk fd (by simp [q])) e1 h1 r1
  have hc1:c1.length=P.cellsOf f.type:=by
   have:=v1.length
   rw [List.length_take,List.length_drop,hoff] at this
   omega
  refine ⟨e2,h2,c1 ++ c2,r2,Emb.le_trans l1 l2,x1.trans x2,?_,?_⟩
  ·have:=(v1.mono l2).append v2
   rw [hoff,← List.drop_drop,List.take_append_drop] at this
   exact this
  ·intro fd q
   rcases List.mem_cons.1 q with rfl|q
   ·refine ⟨by omega,?_⟩
    rw [hoff,Nat.sub_self,List.drop_zero,List.take_append_of_le_length (by omega),List.take_of_length_le (by omega)]
    exact a1.ext r1.wfH x2 _ _ _
   ·obtain ⟨q1,q2⟩:=a2 fd q
    refine ⟨by omega,?_⟩
    rw [show fd.offset - a=c1.length+(fd.offset - (a+P.cellsOf f.type)) by omega,← List.drop_drop,List.drop_left]
    exact q2
theorem WN [Glob] {w:World} {base n:Nat} {sp:Nat→Bool} {held:Bool} {ty:TypeId} {z:Nat} {cs:List Value}:∀ (k:Nat),k*z≤cs.length →
 (∀ i,i<k→qbm enc P w base sp held n ty ((cs.drop (i*z)).take z))→∀ e h,WRel w e h →
 ∃ e' h' r,WRel w e' h'∧e.le e'∧Ext h h'∧VRs e' r (cs.take (k*z))∧∀ i,i<k→AR P h' n ty ((r.drop (i*z)).take z)
 | 0,_,_,e,h,r=>⟨e,h,[],r,e.le_refl,Ext.refl r.wfH,by simp;exact .nil,fun i q=>by omega⟩
 | k+1,hk,ht,e,h,r=>by
  rw [Nat.add_mul,Nat.one_mul] at hk
  obtain ⟨e1,h1,c1,r1,l1,x1,v1,a1⟩:=WN k (by omega) (fun i q=>ht i (by omega)) e h r
  obtain ⟨e2,h2,c2,r2,l2,x2,v2,a2⟩:=ht k (by omega) e1 h1 r1
  have hc1:c1.length=k*z:=by
   have:=v1.length
   rw [List.length_take] at this;omega
  have hc2:c2.length=z:=by
   have:=v2.length
   rw [List.length_take,List.length_drop] at this;omega
  refine ⟨e2,h2,c1 ++ c2,r2,Emb.le_trans l1 l2,x1.trans x2,?_,fun i hi=>?_⟩
  ·have:=(v1.mono l2).append v2
   rw [Nat.add_mul,Nat.one_mul,List.take_add]
   exact this
  ·by_cases hik:i<k
   ·have:(i+1)*z≤k*z:=Nat.mul_le_mul_right z hik
    rw [Nat.add_mul,Nat.one_mul] at this
    rw [List.drop_append_of_le_length (by omega),List.take_append_of_le_length (by rw [List.length_drop];omega)]
    exact (a1 i hik).ext r1.wfH x2 _ _ _
   ·obtain rfl:i=k:=by omega
    rw [← hc1,List.drop_left,List.take_of_length_le (by omega)]
    exact a2
theorem embed [Glob] {w:World} {base:Nat} {sp:Nat→Bool} (hsp:∀ b,sp b=true) {held:Bool} (hw:∃ (k:Nat) (cc:Array Value) (el:TypeId) (fr:Nat×Nat),w.heap[k]? = some (.cells cc el fr)):∀ (n m:Nat) (t:TypeId) (cs:List Value) (x:DataW H×List MemPlace),QJ P m t=true →
 DataW.trod enc P w base sp held n t cs=some x→Light P t x.1→qbm enc P w base sp held n t cs
 | 0,_,_,_,_,_,h,_=>by simp [DataW.trod] at h
 | _+1,0,_,_,_,h,_,_=>by cases h
 | n+1,m+1,t,cs,x,hp,h,hlt=>by
  intro e h0 r
  unfold QJ at hp
  cases hu:P.underlying t with
  | none=>rw [hu] at hp;cases hp
  | some u =>
   rw [hu] at hp
   cases u with
   | bool =>
    obtain ⟨b,rfl,-⟩:=DataW.trod_bool hu h
    exact ⟨e,h0,[.bool b],r,e.le_refl,Ext.refl r.wfH,.one (.bool b),by unfold AR;rw [hu];trivial⟩
   | int k =>
    obtain ⟨b,rfl,-,hwf⟩:=DataW.trod_int hu h
    exact ⟨e,h0,[.int k b],r,e.le_refl,Ext.refl r.wfH,.one (.int k b),by unfold AR;rw [hu];exact ⟨rfl,hwf⟩⟩
   | string =>
    obtain ⟨s,rfl,-,hs⟩:=DataW.trod_string hu h
    exact ⟨e,h0,[.string s],r,e.le_refl,Ext.refl r.wfH,.one (.string s),by unfold AR;rw [hu];exact hs⟩
   | struct fs =>
    simp only [Bool.and_eq_true,List.all_eq_true] at hp
    obtain ⟨xs,n',hn,hxe,hlen,hxl,hf⟩:=DataW.trod_struct hu h
    rw [hxe] at hlt
    obtain rfl:n'=n:=by omega
    obtain ⟨e1,h1,c1,r1,l1,x1,v1,a1⟩:=Vw fs.toList 0 (by rw [hlen];exact hp.2) (fun fd hfd=>by
     obtain ⟨i,hi,rfl⟩:=List.getElem_of_mem hfd
     have hg:fs[i]? = some fs.toList[i]:=by rw [← Array.getElem?_toList];exact List.getElem?_eq_getElem hi
     have h2:=hf i _ hg
     have hix:i<xs.length:=by rw [hxl];simpa using hi
     rw [List.getElem?_eq_getElem hix] at h2
     exact embed hsp hw n' m _ _ _ (hp.1 _ (List.getElem_mem hi)) h2 (hlt.field hu hg (by rw [List.getElem?_map,List.getElem?_eq_getElem hix];rfl))) e h0 r
    refine ⟨e1,h1,c1,r1,l1,x1,by simpa using v1,?_⟩
    unfold AR;rw [hu]
    have hl1:=v1.length
    simp only [List.drop_zero] at hl1
    exact ⟨by omega,fun fd hfd=>by have:=(a1 fd hfd).2;simpa using this⟩
   | array k el =>
    simp only [Bool.and_eq_true] at hp
    have hsz:=Nat.eq_of_beq_eq_true hp.2
    obtain ⟨xs,n',hn,hxe,hlen,hxl,hf⟩:=DataW.trod_array hu h
    rw [hxe] at hlt
    obtain rfl:n'=n:=by omega
    obtain ⟨e1,h1,c1,r1,l1,x1,v1,a1⟩:=WN (z:=P.cellsOf el) (ty:=el) (cs:=cs) k (by omega) (fun i hi=>by
     have h2:=hf i hi
     have hix:i<xs.length:=by omega
     rw [List.getElem?_eq_getElem hix] at h2
     exact embed hsp hw n' m _ _ _ hp.1 h2 (hlt.item hu (by rw [List.getElem?_map,List.getElem?_eq_getElem hix];rfl))) e h0 r
    rw [List.take_of_length_le (by omega)] at v1
    refine ⟨e1,h1,c1,r1,l1,x1,v1,?_⟩
    unfold AR;rw [hu]
    exact ⟨by have:=v1.length;omega,a1⟩
   | slice el =>
    simp only [Bool.and_eq_true,Bool.not_eq_true'] at hp
    have hz:P.cellsOf el≠0:=fun q=>by have:=hp.2.2;rw [q] at this;simp at this
    rcases DataW.trod_slice hu h with ⟨rfl,-⟩|⟨a,len,cap,elems,rest,n',hn,rfl,hxe,hb,hl,hm,hlen,hel,hrest,-⟩
    ·refine ⟨e,h0,[.slice none 0 0],r,e.le_refl,Ext.refl r.wfH,.one .nilSlice,?_⟩
     unfold AR;rw [hu]
     exact ⟨0,[],Rd.none_ _ _,⟨Nat.zero_le _,by rw [Nat.zero_mul];exact Nat.zero_le _⟩,Nat.le_refl _,fun i hi=>by omega⟩
    ·obtain rfl:n'=n:=by omega
     rw [hxe] at hlt
     have hwt:len*P.bytesOf el≤reachBytes:=by have:=hlt.slice hu;rwa [List.length_map,hlen] at this
     obtain ⟨hr1,hr2⟩:=hrest (hsp _)
     rcases Nat.eq_zero_or_pos cap with hc0|hc0
     ·subst hc0
      obtain rfl:len=0:=by omega
      obtain ⟨k,cc,el0,fr,hk⟩:=hw
      obtain ⟨e1,r1,l1,x1,q1⟩:=r.pI (sh:=0) (c:=[]) hk (by simp) (fun i v hi=>by simp at hi)
      refine ⟨e1,_,[.slice (some ⟨h0.next,0,none⟩) 0 0],r1,l1,x1,.one (.slice h0.next 0 a 0 0 ⟨k,0,0⟩ q1 (Nat.le_refl _) (.inr ⟨rfl,rfl⟩)),?_⟩
      unfold AR;rw [hu]
      exact ⟨0,[],.inr ⟨h0.next,0,0,[],el0,none,true,rfl,by rw [AH.zi,if_pos rfl],by simp [zn]⟩,⟨Nat.zero_le _,by rw [Nat.zero_mul];exact Nat.zero_le _⟩,Nat.le_refl _,fun i hi=>by omega⟩
     ·
      have hfirst:∃ cs0 y,w.cells? base a (P.cellsOf el)=some cs0∧DataW.trod enc P w base sp held n' el cs0=some y:=by
       rcases Nat.eq_zero_or_pos len with h0'|h0'
       ·have h2:=hr2 0 (by omega)
        have hix:0<rest.length:=by omega
        rw [List.getElem?_eq_getElem hix,h0',Option.bind_eq_some_iff] at h2
        obtain ⟨cs0,q1,q2⟩:=h2
        exact ⟨cs0,_,by simpa [Addr.add] using q1,q2⟩
       ·have h2:=hel 0 h0'
        have hix:0<elems.length:=by omega
        rw [List.getElem?_eq_getElem hix,Option.bind_eq_some_iff] at h2
        obtain ⟨cs0,q1,q2⟩:=h2
        exact ⟨cs0,_,by simpa [Addr.add] using q1,q2⟩
      obtain ⟨cs0,y0,g1,-⟩:=hfirst
      obtain ⟨-,g2,g3⟩:=World.cells?_some g1
      have g4:=g3 0 (by omega)
      rw [List.getElem?_eq_getElem (by omega)] at g4
      obtain ⟨ab,ao,asp⟩:=a
      simp only [Addr.add,if_true] at g4
      unfold World.cell? at g4
      simp only at g4
      cases hblk:w.heap[ab]? with
      | none=>rw [hblk] at g4;cases g4
      | some ob =>
       rw [hblk] at g4
       cases ob with
       | cells cc el0 fr =>
        simp only at g4
        cases asp with
        | some s=>simp at g4
        | none =>
         simp only [Option.isSome_none,Bool.false_eq_true,if_false] at g4
         have hao:ao<cc.size:=(Array.getElem?_eq_some_iff.1 g4).1
         have hcell:∀ (i:Nat) (v:Value),w.cell? ⟨ab,ao+i,none⟩=some v↔cc[ao+i]? = some v:=fun i v=>by
          unfold World.cell?
          simp [hblk]
         have helem:∀ i,i<len→∃ y,DataW.trod enc P w base sp held n' el (((cc.toList.drop ao).drop (i*P.cellsOf el)).take (P.cellsOf el))=some y∧Light P el y.1∧ao+i*P.cellsOf el+P.cellsOf el≤cc.size:=by
          intro i hi
          have h2:=hel i hi
          have hix:i<elems.length:=by omega
          rw [List.getElem?_eq_getElem hix,Option.bind_eq_some_iff] at h2
          obtain ⟨ci,q1,q2⟩:=h2
          obtain ⟨-,q3,q4⟩:=World.cells?_some q1
          have hadd:∀ j,((⟨ab,ao,none⟩:Addr).add (i*P.cellsOf el)).add j=⟨ab,ao+(i*P.cellsOf el+j),none⟩:=fun j=>by rw [jk,jk,Nat.add_assoc]
          have hlast:ao+i*P.cellsOf el+P.cellsOf el≤cc.size:=by
           have q5:=q4 (P.cellsOf el - 1) (by omega)
           rw [List.getElem?_eq_getElem (by omega),hadd,hcell] at q5
           have:=(Array.getElem?_eq_some_iff.1 q5).1
           omega
          refine ⟨elems[i],?_,hlt.elem hu (i:=i) (by rw [List.getElem?_map,List.getElem?_eq_getElem hix];rfl),hlast⟩
          rw [← q2]
          congr 1
          refine List.ext_getElem? fun j=>?_
          by_cases hj:j<P.cellsOf el
          ·rw [List.getElem?_take,if_pos hj,List.getElem?_drop,List.getElem?_drop]
           have q5:=q4 j hj
           have e2:ci[j]? = some (ci[j]'(by omega)):=List.getElem?_eq_getElem (by omega)
           rw [e2,hadd,hcell] at q5
           rw [e2,Array.getElem?_toList]
           exact q5
          ·rw [List.getElem?_eq_none (by rw [List.length_take];omega),List.getElem?_eq_none (by omega)]
         have hfit:ao+len*P.cellsOf el≤cc.size:=by
          rcases Nat.eq_zero_or_pos len with h0'|h0'
          ·rw [h0',Nat.zero_mul];omega
          ·obtain ⟨-,-,-,q⟩:=helem (len - 1) (by omega)
           have:(len - 1)*P.cellsOf el+P.cellsOf el=len*P.cellsOf el:=by
            rw [← Nat.succ_mul];congr 1;omega
           omega
         obtain ⟨e1,h1,c1,r1,l1,x1,v1,a1⟩:=WN (z:=P.cellsOf el) (ty:=el) (cs:=cc.toList.drop ao) len (by simp;omega) (fun i hi=>by
          obtain ⟨y,q1,q2,-⟩:=helem i hi
          exact embed hsp hw n' m _ _ _ hp.2.1 q1 q2) e h0 r
         have hc1:c1.length=len*P.cellsOf el:=by
          have:=v1.length
          rw [List.length_take,List.length_drop,Array.length_toList] at this;omega
         obtain ⟨e2,r2,l2,x2,q2⟩:=r1.pI (sh:=ao) (c:=c1) hblk (by omega) (fun i v hi=>by
          obtain ⟨v',q1,q2⟩:=v1.get i v hi
          refine ⟨v',?_,q2⟩
          rw [List.getElem?_take,List.getElem?_drop,Array.getElem?_toList] at q1
          split at q1
          ·exact q1
          ·cases q1)
         refine ⟨e2,_,[.slice (some ⟨h1.next,0,none⟩) len cap],r2,Emb.le_trans l1 l2,x1.trans x2,.one (.slice h1.next 0 ⟨ab,ao,none⟩ len cap ⟨ab,ao,0⟩ q2 hl (.inl rfl)),?_⟩
         unfold AR;rw [hu]
         refine ⟨len,c1,.inr ⟨h1.next,0,cap,c1,el0,none,true,rfl,by rw [AH.zi,if_pos rfl],by rw [← hc1];exact jq c1⟩,⟨by omega,hwt⟩,hl,fun i hi=>(a1 i hi).ext r1.wfH x2 _ _ _⟩
       | _=>cases g4
   | _=>cases hp
end
end
end Go.Proofs.Xx
namespace Go.Proofs.Xx
open Go Go.RowKit Go.WideShapes Go.ChangeShapes
theorem VRs.VM {e:Emb} {r:List Value} {v:Value} (h:VRs e r [v]):∃ u,r=[u]∧VR e u v:=by
 cases h with
 | cons u v' s s' h1 h2=>cases h2;exact ⟨u,rfl,h1⟩
section
variable {P:Program}
def qbg (P:Program) (t:TypeId) (r:List Value):Value :=
 match P.underlying t with
 | some (.struct _)|some (.array _ _)=>.agg r.toArray
 | _=>r.headD .nilFunc
theorem qb8 {w:World} {rc:Reach} {b0 m:Nat} {t:TypeId} {v:Value} {e:Emb} {r:List Value} (hp:QJ P m t=true) (hval:Value.okWide P w rc b0 t v) (hv:VRs e r v.cells.toList):VR e (qbg P t r) v:=by
 cases m with
 | zero=>cases hp
 | succ m =>
  unfold QJ at hp
  unfold qbg
  unfold Value.okWide at hval
  cases hu:P.underlying t with
  | none=>rw [hu] at hp;cases hp
  | some u =>
   rw [hu] at hp hval
   cases u with
   | struct fs =>
    obtain ⟨cs,rfl,-⟩:=hval
    exact VR.agg (f:=e) r cs.toList (by simpa [Value.cells] using hv)
   | array n el =>
    obtain ⟨cs,rfl,-⟩:=hval
    exact VR.agg (f:=e) r cs.toList (by simpa [Value.cells] using hv)
   | bool =>
    have:∃ b,v = .bool b:=by cases v<;>simp_all [Cell.okWide,Cell.ok]
    obtain ⟨b,rfl⟩:=this
    obtain ⟨x,rfl,h1⟩:=VRs.VM (show VRs e r [.bool b] from hv)
    exact h1
   | int k =>
    have:∃ k' b,v = .int k' b:=by cases v<;>simp_all [Cell.okWide,Cell.ok]
    obtain ⟨k',b,rfl⟩:=this
    obtain ⟨x,rfl,h1⟩:=VRs.VM (show VRs e r [.int k' b] from hv)
    exact h1
   | string =>
    have:∃ b,v = .string b:=by cases v<;>simp_all [Cell.okWide,Cell.ok]
    obtain ⟨b,rfl⟩:=this
    obtain ⟨x,rfl,h1⟩:=VRs.VM (show VRs e r [.string b] from hv)
    exact h1
   | slice el =>
    have:∃ a l c,v = .slice a l c:=by cases v<;>simp_all [Cell.okWide,Cell.ok]
    obtain ⟨a,l,c,rfl⟩:=this
    obtain ⟨x,rfl,h1⟩:=VRs.VM (show VRs e r [.slice a l c] from hv)
    exact h1
   | _=>cases hp
def ArgsR (P:Program) (h:AH):List TypeId→List Value→Prop
 | [],[]=>True
 | t :: ts,u :: us=>(∃ n r,AR P h n t r∧u=qbg P t r)∧ArgsR P h ts us
 | _,_=>False
theorem ArgsR.ext {h h':AH} (w:WfH h) (x:Ext h h'):∀ (ts:List TypeId) (us:List Value),ArgsR P h ts us→ArgsR P h' ts us
 | [],[],q=>q
 | t :: ts,u :: us,q=>⟨let ⟨n,r,h1,h2⟩:=q.1;⟨n,r,h1.ext w x _ _ _,h2⟩,ArgsR.ext w x ts us q.2⟩
 | [],_ :: _,q=>q.elim
 | _ :: _,[],q=>q.elim
theorem ArgsR.cons_inv {h:AH} {t:TypeId} {ts:List TypeId} {us:List Value} (a:ArgsR P h (t :: ts) us):∃ n r us',us=qbg P t r :: us'∧AR P h n t r∧ArgsR P h ts us':=by
 cases us with
 | nil=>exact a.elim
 | cons u us =>
  obtain ⟨⟨n,r,h1,rfl⟩,h2⟩:=a
  exact ⟨n,r,us,rfl,h1,h2⟩
theorem ArgsR.jG {h:AH} {us:List Value} (a:ArgsR P h [] us):us=[]:=by
 cases us with
 | nil=>rfl
 | cons u us=>exact a.elim
section
variable {H:Type} {enc:TypeId×Value→H}
theorem yA [Glob] {w:World} {rc:Reach} {b0 base:Nat} {held:Bool} (hw:∃ (k:Nat) (cc:Array Value) (el:TypeId) (fr:Nat×Nat),w.heap[k]? = some (.cells cc el fr)):∀ (ts:List TypeId) (vs:List Value) (ds:List (DataW H)) (ps:List MemPlace),
 ts.all (QJ P 20)=true→(∀ (j:Nat) t v,ts[j]? = some t→vs[j]? = some v→Value.okWide P w rc b0 t v)→DataW.TrodAll enc P w base (fun _=>true) held ts vs ds ps→(∀ n∈DataW.weightsEach P ts ds,n≤reachBytes)→∀ e h,WRel w e h →
 ∃ e' h' us,WRel w e' h'∧e.le e'∧Ext h h'∧VRs e' us vs∧ArgsR P h' ts us
 | [],[],[],_,_,_,_,_,e,h,r=>⟨e,h,[],r,e.le_refl,Ext.refl r.wfH,.nil,trivial⟩
 | t :: ts,v :: vs,d :: ds,ps,hp,hval,hA,hz,e,h,r=>by
  rw [DataW.weightsEach] at hz
  simp only [List.all_cons,Bool.and_eq_true] at hp
  obtain ⟨p,q,⟨fuel,h1⟩,h2,rfl⟩:=hA
  obtain ⟨e1,g1,r1,w1,l1,x1,v1,a1⟩:=embed (fun _=>rfl) hw fuel 20 t _ _ hp.1 h1 (fun n hn=>hz n (List.mem_append_left _ hn)) e h r
  obtain ⟨e2,g2,us,w2,l2,x2,v2,a2⟩:=yA hw ts vs ds q hp.2 (fun j t v q1 q2=>hval (j+1) t v (by simpa using q1) (by simpa using q2)) h2 (fun n hn=>hz n (List.mem_append_right _ hn)) e1 g1 w1
  exact ⟨e2,g2,qbg P t r1 :: us,w2,Emb.le_trans l1 l2,x1.trans x2,.cons _ _ _ _ (qb8 hp.1 (hval 0 t v rfl rfl) (v1.mono l2)) v2,⟨fuel,r1,a1.ext w1.wfH x2 _ _ _,rfl⟩,a2⟩
 | [],[],_ :: _,_,_,_,h,_,_,_,_=>h.elim
 | [],_ :: _,_,_,_,_,h,_,_,_,_=>h.elim
 | _ :: _,[],_,_,_,_,h,_,_,_,_=>h.elim
 | _ :: _,_ :: _,[],_,_,_,h,_,_,_,_=>h.elim
theorem yh:∀ {ts us:List TypeId} {ds gs:List (DataW H)},(DataW.weightsEach P (ts ++ us) (ds ++ gs)).all (·≤reachBytes)=true→∀ n∈DataW.weightsEach P ts ds,n≤reachBytes
 | [],_,_,_,_=>fun n hn=>by simp [DataW.weightsEach] at hn
 | _ :: _,_,[],_,_=>fun n hn=>by simp [DataW.weightsEach] at hn
 | t :: ts,us,d :: ds,gs,hz=>fun n hn=>by
  rw [List.cons_append,List.cons_append,DataW.weightsEach,List.all_append,Bool.and_eq_true] at hz
  rw [DataW.weightsEach] at hn
  rcases List.mem_append.1 hn with q|q
  ·exact of_decide_eq_true (List.all_eq_true.1 hz.1 n q)
  ·exact yh hz.2 n q
theorem PK [Glob] {X:Extern} (hm:P.follows .mixedOrders=true) (hX:VE P X) (hN:∀ (f:FuncId) (fn:Func),P.funcs[f]? = some fn→fn.body.isSome=true→(fn.name == "runtime.NumGoroutine")=false)
 {f:FuncId} {fn:Func} {body:Code} (hfn:P.funcs[f]? = some fn) (hb:fn.body=some body) (hXn:∀ us h,X f us h=none) (hpl:fn.params.toList.all (QJ P 20)=true)
 (core:∀ h us,WfH h→ArgsR P h fn.params.toList us→Fn P X f us h (fun x _=>x = .bool true))
 {w:World} {rc:Reach} {b0:Nat} {args:Array Value} {ds:List (DataW H)} {ps:List MemPlace} (hg:Glob.ok w.heap.size w.heap) (hw:∃ (k:Nat) (cc:Array Value) (el:TypeId) (fr:Nat×Nat),w.heap[k]? = some (.cells cc el fr))
 (hval:∀ (j:Nat) t v,fn.params[j]? = some t→args[j]? = some v→Value.okWide P w rc b0 t v) (hA:DataW.TrodAll enc P w 0 (fun _=>true) true fn.params.toList args.toList ds ps) (hz:∀ n∈DataW.weightsEach P fn.params.toList ds,n≤reachBytes) :
 Calls P f args w fun e w'=>e = .returned (.bool true)∧Below w.heap.size w w':=by
 obtain ⟨e,h,us,r,-,-,v1,a1⟩:=yA (P:=P) hw fn.params.toList args.toList ds ps hpl (fun j t v q1 q2=>hval j t v (by simpa using q1) (by simpa using q2)) hA hz _ _ (WRel.empty hg)
 obtain ⟨n,v,h',hc,rfl⟩:=core h us r.wfH a1
 obtain ⟨e',v',w',r1,t1,hv,hcalls⟩:=gp (WL hm hX hN n) hc (hXn us h) hfn hb r.rel v1
 cases hv
 rw [Array.toArray_toList] at hcalls
 refine hcalls.mono fun en w'' ⟨q1,q2⟩=>?_
 subst q2
 exact ⟨q1,t1.os,t1.tape,t1.output,t1.size,fun k hk=>r1.keep k hk⟩
end
end
end Go.Proofs.Xx
namespace Go.Proofs.Xx
open Go Go.RowKit Go.WideShapes Go.ChangeShapes
section
variable {H:Type} {enc:TypeId×Value→H} {P:Program}
theorem trodAll_length {W:World} {base:Nat} {sp:Nat→Bool} {held:Bool}:∀ {ts:List TypeId} {vs:List Value} {ds:List (DataW H)} {ps:List MemPlace},DataW.TrodAll enc P W base sp held ts vs ds ps→ds.length=ts.length
 | [],[],[],_,_=>rfl
 | t :: ts,v :: vs,d :: ds,ps,h=>by
  obtain ⟨p,q,_,h2,_⟩:=h
  simp [trodAll_length h2]
 | [],[],_ :: _,_,h=>h.elim
 | [],_ :: _,_,_,h=>h.elim
 | _ :: _,[],_,_,h=>h.elim
 | _ :: _,_ :: _,[],_,h=>h.elim
theorem xx {f:Func} {s:ChangeSpec} {apart fresh handsOn again:Bool} {W W':World} {args:Array Value} {v:Value} {ds gs:List (DataW H)} {before pa pv:List MemPlace}
 (hW:DataW.Whole enc P f.params.toList s.vars apart W args.toList ds gs before)
 (hres:∀ (b:Nat) (sp:Nat→Bool) (hd:Bool),DataW.TrodAll enc P W' b sp hd f.resultTypes.toList (v.resultList f.resultTypes.size) (s.fn H (ds ++ gs)).results [])
 (hargs:∀ sp:Nat→Bool,(∀ p∈before,sp p.block=true)→DataW.TrodAll enc P W' 0 sp true f.params.toList args.toList (s.fn H (ds ++ gs)).args pa)
 (hvars:∀ sp:Nat→Bool,(∀ p∈before,sp p.block=true)→DataW.TrodVars enc P W' sp s.vars (s.fn H (ds ++ gs)).vars pv)
 (hps:before=pa ++ pv) (hb:Below W.heap.size W W')
 (hok:∀ (j:Nat) (t:TypeId) (r:Value),f.resultTypes[j]? = some t→(v.resultList f.resultTypes.size)[j]? = some r→Value.okWide P W' .any 0 t r) :
 s.post enc P f apart fresh handsOn again W args v W':=by
 have hlt:∀ p∈before,p.block<W.heap.size:=fun p hp=>hW.lt p hp
 have hold:∀ p∈before,(fun b=>decide (b<W.heap.size)) p.block=true:=fun p hp=>by simpa using hlt p hp
 refine ⟨ds,gs,before,[],pa,pv,hW,hres _ _ _,hargs _ hold,hvars _ hold,World.keptBut_mono (fun p hp=>⟨hp,?_⟩) (hb.frame (·∈before)),fun _=>?_⟩
 ·rw [hps,List.mem_append] at hp
  exact Or.inr hp
 ·obtain ⟨_,_,_,_,_,hz,hn⟩:=hW
  refine ⟨hok,_,_,([] ++ pa) ++ pv,⟨[] ++ pa,pv,trodAll_append (hargs _ (fun _ _=>rfl)) (hres _ _ _),hvars _ (fun _ _=>rfl),rfl,?_,?_⟩,?_⟩
  ·intro b off hp
   have hin:MemPlace.cell b off∈before:=by rw [hps];simpa using hp
   rw [hb.frozen (hlt _ hin)]
   exact hz b off hin
  ·intro ha
   have:=hn ha
   rw [hps] at this
   simpa using this
  ·intro p hp _
   rw [hps]
   simpa using hp
end
end Go.Proofs.Xx
namespace Go.Proofs.Xx
open Go
section
variable {P:Program} {h:AH}
theorem AR.qea {n:Nat} {t:TypeId} {r:List Value} (a:AR P h n t r) (hu:P.underlying t=some .string):∃ s:List UInt8,r=[str s]∧s.length≤maxLen:=by
 cases n with
 | zero=>exact a.elim
 | succ n =>
  unfold AR at a
  rw [hu] at a
  split at a
  all_goals (first|exact a.elim|(rename_i q _;cases q;done)|(rename_i q;cases q;done)|skip)
  rename_i s q
  exact ⟨s.data.toList,by rw [qaj],by simpa using a⟩
theorem pieces {α:Type} {z:Nat} {enc:α→List Value} {good:α→Prop}:∀ (n:Nat) (c:List Value),c.length=n*z→(∀ i,i<n→∃ y,(c.drop (i*z)).take z=enc y∧good y)→∃ l:List α,l.length=n∧c=l.flatMap enc∧∀ y∈l,good y
 | 0,c,hc,_=>⟨[],rfl,by rw [Nat.zero_mul] at hc;rw [List.length_eq_zero_iff.1 hc];rfl,fun y q=>by cases q⟩
 | n+1,c,hc,hk=>by
  rw [Nat.add_mul,Nat.one_mul] at hc
  obtain ⟨y,h1,h2⟩:=hk 0 (by omega)
  obtain ⟨l,l1,l2,l3⟩:=pieces (z:=z) (enc:=enc) (good:=good) n (c.drop z) (by rw [List.length_drop,hc];omega) (fun i hi=>by
   obtain ⟨y,q1,q2⟩:=hk (i+1) (by omega)
   refine ⟨y,?_,q2⟩
   rw [List.drop_drop,← q1,Nat.add_mul,Nat.one_mul,Nat.add_comm z])
  rw [Nat.zero_mul,List.drop_zero] at h1
  refine ⟨y :: l,by simp [l1],?_,fun x q=>?_⟩
  ·rw [List.flatMap_cons,← h1,← l2,List.take_append_drop]
  ·rcases List.mem_cons.1 q with rfl|q
   ·exact h2
   ·exact l3 x q
end
structure GstA (h:AH) (g:ZC):Prop where
 rd:Qr h g.tv.val 1 eS g.tg
 cap:XI g.tv.val
 len:g.tg.length≤maxLen
 l1:g.name.length≤maxLen
 l2:g.rank.length≤maxLen
 l3:g.court.length≤maxLen
 l4:g.diet.length≤maxLen
 l5:∀ i,i<g.tg.length→(g.tg.getD i default).length≤maxLen
 wt:g.tg.length*16≤reachBytes
 i64:(-9223372036854775808≤g.since∧g.since≤9223372036854775807)∧(-9223372036854775808≤g.side∧g.side≤9223372036854775807)
theorem GstA.ext {h h':AH} {g:ZC} (a:GstA h g) (w:WfH h) (x:Ext h h'):GstA h' g:=⟨a.rd.ext w x,a.cap,a.len,a.l1,a.l2,a.l3,a.l4,a.l5,a.wt,a.i64⟩
theorem GstA.r {h:AH} {g:ZC} (a:GstA h g):qcj h g:=⟨a.rd,by have:=a.len;unfold maxLen at this;omega⟩
end Go.Proofs.Xx
namespace Go.Proofs.Xx
open Go Go.RowKit Go.Proofs
theorem WT [Flag] (h:AH) (us:List Value) (w:WfH h) (a:ArgsR Tryz.prog h Tryz.f4.params.toList us):Fn Tryz.prog Xh 4 us h (fun x _=>x = .bool true):=by
 rw [show Tryz.f4.params.toList=[9] by kernel_rfl] at a
 obtain ⟨n0,r0,us,rfl,a0,a⟩:=a.cons_inv
 obtain rfl:=a.jG
 obtain ⟨s,rfl,-⟩:=a0.qea (by kernel_rfl)
 exact WS w s
end Go.Proofs.Xx
namespace Go.Proofs.Xx
open Go Go.RowKit Go.Proofs
theorem qb9 [Flag] (f:FuncId) (h1:f≠19) (h2:f≠203) (h3:f≠182) (h4:f≠222) (h5:f≠184) (h6:f≠194) (h7:f≠135) (h8:f≠187) (h9:f≠88) (us:List Value) (h:AH):Xh f us h=none:=by
 have e:∀ n,f≠n→Nat.beq f n=false:=fun n q=>by rw [Bool.eq_false_iff];intro q';exact q (Nat.eq_of_beq_eq_true q')
 unfold Xh Jq Xf Xd ZG X0 VH VG VI withBytes jQ
 simp only [e _ h1,e _ h2,e _ h3,e _ h4,e _ h5,e _ h6,e _ h7,e _ h8,e _ h9]
theorem YV {W:World} (h:W.ShapedOpen Tryz.prog):1<W.heap.size∧∃ m el fr,W.heap[0]? = some (.cells #[.int .i64 m] el fr):=by
 have h0:((begin Tryz.prog (fun _ _=>0) default).world.heap[0]?).bind Obj.row? = some (#[.int .i64 0],3):=by kernel_rfl
 obtain ⟨m,hm⟩:=cell_of_shapedOpen_int h (g:=0) (t:=3) (of_decide_eq_true (by kernel_rfl)) h0 rfl (by kernel_rfl) (by kernel_rfl) Tryz.underlying3
 obtain ⟨cs,hh,hs,-⟩:=h.1 0 _ 3 (of_decide_eq_true (by kernel_rfl)) h0
 refine ⟨?_,m,3,(0,0),?_⟩
 ·have h1:(((begin Tryz.prog (fun _ _=>0) default).world.heap[1]?).bind Obj.row?).isSome=true:=by kernel_rfl
  obtain ⟨⟨z,t⟩,h1⟩:=Option.isSome_iff_exists.1 h1
  obtain ⟨cs,hh,-⟩:=h.1 1 z t (of_decide_eq_true (by kernel_rfl)) h1
  exact (Array.getElem?_eq_some_iff.1 hh).1
 ·rw [hh]
  have:cs=#[.int .i64 m]:=by
   simp only [World.cell?,hh] at hm
   obtain ⟨l⟩:=cs
   match l,hs,hm with
   | [x],_,hm=>simp at hm;rw [hm]
   | [],hs,_=>cases hs
   | _ :: _ :: _,hs,_=>simp at hs
  rw [this]
theorem kZ {W:World} (h:W.ShapedOpen Tryz.prog):∃ (k:Nat) (cc:Array Value) (el:TypeId) (fr:Nat×Nat),W.heap[k]? = some (.cells cc el fr):=by
 obtain ⟨-,m,el,fr,q⟩:=YV h
 exact ⟨0,_,el,fr,q⟩
theorem KR [Flag] (hf:Flag.b=false) {W:World} (h:W.ShapedOpen Tryz.prog):Glob.ok W.heap.size W.heap :=
 ⟨(YV h).1,(YV h).2,fun q=>(by rw [hf] at q;cases q)⟩
end Go.Proofs.Xx
