/-
  What a line makes of a roll: plain.
-/
import Derived.Test.YtidmdnenlgjpeaaGreatDoorM13
import Derived.Test.YtidmdnenlgjpeaaGreatDoorM11
import Derived.Test.YtidmdnenlgjpeaaGreatDoorM7
set_option linter.unusedSimpArgs false
set_option linter.unusedVariables false
set_option linter.unusedSectionVars false
set_option maxRecDepth 100000
set_option maxHeartbeats 4000000
namespace Go.Proofs.Xx
open Go Go.Proofs
abbrev jT (ws:List (List UInt8)) (i:Nat):List UInt8:=ws.getD i default
def QG:List UInt8:=[103,117,101,115,116]
def Qv:List UInt8:=[102,114,105,101,110,100]
def JS:List UInt8:=[102,101,117,100]
def Vs (w:List UInt8):Prop:=w=[45]∨w=[104]∨w=[97]∨w=[104,97]
instance (w:List UInt8):Decidable (Vs w):=inferInstanceAs (Decidable (_∨_))
def Q8 (w:List UInt8):List UInt8:=if w=[45] then [] else w
def GP (ws:List (List UInt8)):Prop:=8≤ws.length∧qbI (jT ws 4)∧qbI (jT ws 5)∧Vs (jT ws 7)
def jP (ws:List (List UInt8)):Gu:={ name:=jT ws 1,rank:=Q8 (jT ws 2),court:=Q8 (jT ws 3),since:=ZW (jT ws 4),side:=ZW (jT ws 5),diet:=Q8 (jT ws 6),host:=decide (jT ws 7=[104]∨jT ws 7=[104,97]),access:=decide (jT ws 7=[97]∨jT ws 7=[104,97]),tg:=ws.drop 8 }
open Classical in
noncomputable def jf (r:Rl) (ws:List (List UInt8)):Rl×Int :=
 if jT ws 0=QG then (if GP ws then ZF r (jP ws) else (r,3))
 else if jT ws 0=Qv∨jT ws 0=JS then (if ws.length=3 then ZE r (jT ws 1) (jT ws 2) (if jT ws 0=Qv then 1 else 2) else (r,3))
 else (r,3)
theorem QX {r:Rl} {ws:List (List UInt8)} (h:jT ws 0=QG) (g:GP ws):jf r ws=ZF r (jP ws):=by unfold jf;rw [if_pos h,if_pos g]
theorem Ji {r:Rl} {ws:List (List UInt8)} (h:jT ws 0=QG) (g:¬ GP ws):jf r ws=(r,3):=by unfold jf;rw [if_pos h,if_neg g]
theorem qbs:Qv≠QG:=by decide
theorem qbr:JS≠QG:=by decide
theorem wne3:JS≠Qv:=by decide
theorem Yp {r:Rl} {ws:List (List UInt8)} (h:jT ws 0=Qv) (hl:ws.length=3):jf r ws=ZE r (jT ws 1) (jT ws 2) 1:=by
 unfold jf;rw [h,if_neg qbs,if_pos (.inl rfl),if_pos hl,if_pos rfl]
theorem Wu {r:Rl} {ws:List (List UInt8)} (h:jT ws 0=JS) (hl:ws.length=3):jf r ws=ZE r (jT ws 1) (jT ws 2) 2:=by
 unfold jf;rw [h,if_neg qbr,if_pos (.inr rfl),if_pos hl,if_neg wne3]
theorem Xk {r:Rl} {ws:List (List UInt8)} (h:jT ws 0=Qv∨jT ws 0=JS) (hl:¬ ws.length=3):jf r ws=(r,3):=by
 unfold jf
 rw [if_neg (by rcases h with h|h<;>rw [h];exact qbs;exact qbr),if_pos h,if_neg hl]
theorem Ws {r:Rl} {ws:List (List UInt8)} (h1:jT ws 0≠QG) (h2:jT ws 0≠Qv) (h3:jT ws 0≠JS):jf r ws=(r,3):=by
 unfold jf;rw [if_neg h1,if_neg (by rintro (h|h);exact h2 h;exact h3 h)]
def flagS:List UInt8:=[32,45,32,104,32,97,32,104,97,32]
theorem kw {c:UInt8}:∀ {w a b:List UInt8},c ∉ w→c ∉ a→(w ++ [c]).isPrefixOf (a ++ c :: b)=true→w=a
 | [],[],_,_,_,_=>rfl
 | [],x :: a,b,_,h,p=>by simp [List.isPrefixOf] at p h;exact absurd p h.1
 | x :: w,[],b,h,_,p=>by simp [List.isPrefixOf] at p h;exact absurd p.1.symm h.1
 | x :: w,y :: a,b,h1,h2,p=>by
  simp only [List.mem_cons,not_or] at h1 h2
  simp only [List.cons_append,List.isPrefixOf,Bool.and_eq_true,beq_iff_eq] at p
  rw [p.1,kw h1.2 h2.2 p.2]
theorem qbS {w:List UInt8} (h:(32:UInt8) ∉ w) (hw:w≠[]):(∀ j,j≤flagS.length→Lib.occAt flagS ([32] ++ w ++ [32]) j=false)↔¬ Vs w:=by
 constructor
 ·rintro k (rfl|rfl|rfl|rfl)
  ·have:=k 0 (by decide);revert this;decide
  ·have:=k 2 (by decide);revert this;decide
  ·have:=k 4 (by decide);revert this;decide
  ·have:=k 6 (by decide);revert this;decide
 ·intro hf j hj
  cases hq:Lib.occAt flagS ([32] ++ w ++ [32]) j with
  | false=>rfl
  | true =>
   exfalso
   unfold Lib.occAt at hq
   have hj:j≤10:=hj
   have key:∀ a b:List UInt8,(32:UInt8) ∉ a→flagS.drop j=32 :: (a ++ 32 :: b)→Vs a∨a=[]→False:=fun a b ha e hfa=>by
    rw [e,List.append_assoc,List.singleton_append,List.isPrefixOf] at hq
    simp only [BEq.rfl,Bool.true_and] at hq
    have:=kw h ha hq
    rcases hfa with q|q
    ·exact hf (this ▸ q)
    ·exact hw (this.trans q)
   have nk:∀ x t,flagS.drop j=x :: t→x≠32→False:=fun x t e hx=>by
    rw [e,List.append_assoc,List.singleton_append,List.isPrefixOf] at hq
    simp only [Bool.and_eq_true,beq_iff_eq] at hq
    exact hx hq.1.symm
   rcases (show j=0∨j=1∨j=2∨j=3∨j=4∨j=5∨j=6∨j=7∨j=8∨j=9∨j=10 by omega) with rfl|rfl|rfl|rfl|rfl|rfl|rfl|rfl|rfl|rfl|rfl
   ·exact key [45] [104,32,97,32,104,97,32] (by decide) rfl (.inl (by decide))
   ·exact nk 45 _ rfl (by decide)
   ·exact key [104] [97,32,104,97,32] (by decide) rfl (.inl (by decide))
   ·exact nk 104 _ rfl (by decide)
   ·exact key [97] [104,97,32] (by decide) rfl (.inl (by decide))
   ·exact nk 97 _ rfl (by decide)
   ·exact key [104,97] [] (by decide) rfl (.inl (by decide))
   ·exact nk 104 _ rfl (by decide)
   ·exact nk 97 _ rfl (by decide)
   ·have hl:=(List.isPrefixOf_iff_prefix.1 hq).length_le
    simp [flagS] at hl
   ·have hl:=(List.isPrefixOf_iff_prefix.1 hq).length_le
    simp [flagS] at hl
theorem KT {w:List UInt8} (h:(32:UInt8) ∉ w) (hw:w≠[]):Lib.index flagS ([32] ++ w ++ [32])<0↔¬ Vs w:=by
 rw [← qbS h hw]
 constructor
 ·intro q j hj
  cases hq:Lib.occAt flagS ([32] ++ w ++ [32]) j with
  | false=>rfl
  | true =>
   exfalso
   have ex:∃ n,n≤j∧Lib.occAt flagS ([32] ++ w ++ [32]) n=true∧∀ m,m<n→Lib.occAt flagS ([32] ++ w ++ [32]) m=false:=by
    clear q hj
    induction j using Nat.strongRecOn with
    | _ j ih =>
     by_cases z:∃ m,m<j∧Lib.occAt flagS ([32] ++ w ++ [32]) m=true
     ·obtain ⟨m,m1,m2⟩:=z
      obtain ⟨n,n1,n2,n3⟩:=ih m m1 m2
      exact ⟨n,by omega,n2,n3⟩
     ·refine ⟨j,Nat.le_refl _,hq,fun m hm=>?_⟩
      cases hb:Lib.occAt flagS ([32] ++ w ++ [32]) m with
      | false=>rfl
      | true=>exact absurd ⟨m,hm,hb⟩ z
   obtain ⟨n,n1,n2,n3⟩:=ex
   have:=Lib.index_first (s:=flagS) (by omega) n2 n3
   omega
 ·intro k
  have:=Lib.index_none (s:=flagS) k
  omega
theorem jU {c:UInt8}:∀ {s w:List UInt8},w∈zT c s→c ∉ w
 | [],w,h=>by simp [zT] at h;subst h;simp
 | x :: s,w,h=>by
  unfold zT at h
  split at h
  ·rcases List.mem_cons.1 h with rfl|h
   ·simp
   ·exact jU h
  ·rename_i hx
   cases hs:zT c s with
   | nil=>exact absurd hs (ZY c s)
   | cons u r =>
    rw [hs] at h
    simp only [XT,List.singleton_append] at h
    rcases List.mem_cons.1 h with rfl|h
    ·have:=jU (c:=c) (s:=s) (w:=u) (by rw [hs];simp)
     intro q
     rcases List.mem_cons.1 q with q|q
     ·exact hx q.symm
     ·exact this q
    ·exact jU (c:=c) (s:=s) (by rw [hs];simp [h])
theorem XN (c:UInt8):∀ s:List UInt8,∀ w∈zT c s,w.length≤s.length
 | [],w,h=>by simp [zT] at h;subst h;simp
 | x :: s,w,h=>by
  unfold zT at h
  split at h
  ·rcases List.mem_cons.1 h with rfl|h
   ·simp
   ·have:=XN c s w h;simp;omega
  ·cases hs:zT c s with
   | nil=>exact absurd hs (ZY c s)
   | cons u r =>
    rw [hs] at h
    simp only [XT,List.singleton_append] at h
    rcases List.mem_cons.1 h with rfl|h
    ·have:=XN c s u (by rw [hs];simp)
     simp;omega
    ·have:=XN c s w (by rw [hs];simp [h]);simp;omega
theorem KU {w:List UInt8} (h:Vs w):(((w.getD 0 0).toNat:Int)=104↔w=[104]∨w=[104,97])∧(((w.getD (w.length - 1) 0).toNat:Int)=97↔w=[97]∨w=[104,97])∧0<w.length:=by
 rcases h with rfl|rfl|rfl|rfl<;>decide
variable [Flag]
theorem YZ {h0:AH} (w:WfH h0) (s:List UInt8):Fn Tryz.prog Xh 151 [str s] h0 (fun v h'=>v=str (Q8 s)∧Hs h0 h' []):=by
 have S:=Hs.start w
 refine zD rfl Tryz.func151 rfl rfl ?_
 all_goals (repeat' (first|refine qA ?_|refine qw rfl ?_|refine qx ?_|refine qy ?_|refine qo ?_|refine qi ?_|refine qj ?_|(refine qg 0 ?_;refine mv ?_;refine qf ?_)|(refine qg 1 ?_;refine mv ?_;(refine tS ?_ ?_<;>intro hc)<;>(refine qf ?_))|(refine qg 2 ?_;refine mv ?_;refine qf ?_)|(refine qg 3 ?_;refine mv ?_;refine mv ?_;refine qf ?_)))
 all_goals (refine qH ⟨_,rfl,?_⟩)
 ·exact ⟨by unfold Q8;rw [if_pos hc];rfl,S⟩
 ·exact ⟨by unfold Q8;rw [if_neg hc];rfl,S⟩
structure WsOk (ws:List (List UInt8)):Prop where
 len:ws.length≤1000001
 wl:∀ w∈ws,w.length≤1000000
 ne:[] ∉ ws
 sp:∀ w∈ws,(32:UInt8) ∉ w
 pos:0<ws.length
theorem qaP {h0 h:AH} {rs:List Rs} {v:SlV} {ws:List (List UInt8)} (S:Hs h0 h (.sl v.val 9 1 eS ws :: rs)) (W:WsOk ws):Fn Tryz.prog Xh 121 [v.val] h (fun u h'=>(¬ GP ws∧u = .tuple #[gV ⟨default,⟨none,0,0⟩⟩,.bool false]∧Hs h0 h' rs)∨(GP ws∧∃ tv:SlV,u = .tuple #[gV ⟨jP ws,tv⟩,.bool true]∧Hs h0 h' (.sl tv.val 9 1 eS (ws.drop 8) :: rs))):=by
 have hwl:=W.len
 have hpos:=W.pos
 have hne:=S.qec .here hpos
 have hw:∀ i,i<ws.length→(ws.getD i default).length≤1000000:=fun i hi=>W.wl _ (qR hi)
 refine zD rfl Tryz.func121 rfl rfl ?_
 all_goals (repeat' (first|refine qA ?_|refine qw rfl ?_|refine qx ?_|refine qy ?_|refine qo ?_|refine qi ?_|refine qj ?_|(refine qg 0 ?_;(refine al S ?_;clear S;intro b h S);refine mv ?_;refine qf ?_)))
 obtain ⟨b2,hnm⟩:∃ x,x=b:=⟨_,rfl⟩;subst hnm
 all_goals (repeat' (first|refine qA ?_|refine qw rfl ?_|refine qx ?_|refine qy ?_|refine qo ?_|refine qi ?_|refine qj ?_|(refine qg 1 ?_;refine mv ?_;(first|refine Zq S ?_|refine Zp S rfl rfl ?_);(first|refine cT ?_|refine cF ?_|(refine cS ?_ ?_<;>intro hc))<;>(refine qf ?_))))
 ·all_goals (repeat' (first|refine qA ?_|refine qw rfl ?_|refine qx ?_|refine qy ?_|refine qo ?_|refine qi ?_|refine qj ?_|(refine qg 2 ?_;refine vl ?_;(first|(refine sB S rfl rfl ?_;clear S;intro h S)|(refine jm S rfl rfl ?_;clear S;intro h S));refine mv ?_;refine qf ?_)))
  refine qH ⟨_,qN S rfl (by first|exact .here|exact .there .here|exact .there (.there .here)|exact .there (.there (.there .here))|exact .there (.there (.there (.there .here)))|exact .there (.there (.there (.there (.there .here))))|exact .there (.there (.there (.there (.there (.there .here)))))|exact .there (.there (.there (.there (.there (.there (.there .here))))))|exact .there (.there (.there (.there (.there (.there (.there (.there .here)))))))|exact .there (.there (.there (.there (.there (.there (.there (.there (.there .here))))))))|exact .there (.there (.there (.there (.there (.there (.there (.there (.there (.there .here)))))))))|exact .there (.there (.there (.there (.there (.there (.there (.there (.there (.there (.there .here))))))))))|exact .there (.there (.there (.there (.there (.there (.there (.there (.there (.there (.there (.there .here)))))))))))) (by exact rfl) (by exact rfl),?_⟩
  exact .inl ⟨fun q=>by have:=q.1;omega,rfl,S.tail.tail⟩
 ·have h8:8≤ws.length:=by omega
  all_goals (repeat' (first|refine qA ?_|refine qw rfl ?_|refine qx ?_|refine qy ?_|refine qo ?_|refine qi ?_|refine qj ?_|(refine qg 3 ?_;refine mv ?_;(first|refine zM S ?_|refine qW S rfl rfl ?_);(first|refine lB S rfl rfl ?_|refine qE S rfl rfl ?_|refine qO S ?_|refine lH S ?_))))
  (refine qM rfl rfl rfl rfl rfl ((WE S.wf _ (hw 4 (by omega))).mono ?_);rintro _ h ⟨k1,c1,rfl,n1,x⟩)<;>(replace S:=S.zC x;clear x;refine mv ?_;refine vl ?_;refine vl ?_;refine mv ?_;refine mv ?_;refine qf ?_)
  all_goals (repeat' (first|refine qA ?_|refine qw rfl ?_|refine qx ?_|refine qy ?_|refine qo ?_|refine qi ?_|refine qj ?_|(refine qg 4 ?_;refine mv ?_;(first|refine zM S ?_|refine qW S rfl rfl ?_);(first|refine lB S rfl rfl ?_|refine qE S rfl rfl ?_|refine qO S ?_|refine lH S ?_))))
  (refine qM rfl rfl rfl rfl rfl ((WE S.wf _ (hw 5 (by omega))).mono ?_);rintro _ h ⟨k2,c2,rfl,n2,x⟩)<;>(replace S:=S.zC x;clear x;refine mv ?_;refine vl ?_;refine vl ?_;refine mv ?_;refine mv ?_;refine qf ?_)
  all_goals (repeat' (first|refine qA ?_|refine qw rfl ?_|refine qx ?_|refine qy ?_|refine qo ?_|refine qi ?_|refine qj ?_|(refine qg 5 ?_;refine mv ?_;(first|refine zM S ?_|refine qW S rfl rfl ?_);(first|refine lB S rfl rfl ?_|refine qE S rfl rfl ?_|refine qO S ?_|refine lH S ?_);refine tc ?_;refine tc ?_)))
  (refine qM rfl rfl rfl rfl rfl ((V4 flagS ([32] ++ ws.getD 7 default ++ [32]) (by decide)).mono ?_);rintro _ _ ⟨rfl,rfl⟩)<;>(refine mv ?_;refine qf ?_)
  have hf:=KT (W.sp _ (qR (show 7<ws.length by omega))) (fun q=>W.ne (q ▸ qR (show 7<ws.length by omega)))
  rcases n1 with ⟨rfl,p1,rfl⟩|⟨rfl,p1⟩
  rotate_left
  ·all_goals (repeat' (first|refine qA ?_|refine qw rfl ?_|refine qx ?_|refine qy ?_|refine qo ?_|refine qi ?_|refine qj ?_|(refine qg 6 ?_;refine mv ?_;refine vl ?_;refine mv ?_;(first|refine off ?_|refine mv ?_);(first|refine off ?_|refine vl ?_);refine vl ?_;refine mv ?_;(first|refine off ?_|refine mv ?_);(first|refine off ?_|(first|refine cT ?_|refine cF ?_|(refine cS ?_ ?_<;>intro hc)))<;>(refine vl ?_;refine qf ?_))|(refine qg 7 ?_;refine vl ?_;(first|(refine sB S rfl rfl ?_;clear S;intro h S)|(refine jm S rfl rfl ?_;clear S;intro h S));refine mv ?_;refine qf ?_)))
   refine qH ⟨_,qN S rfl (by first|exact .here|exact .there .here|exact .there (.there .here)|exact .there (.there (.there .here))|exact .there (.there (.there (.there .here)))|exact .there (.there (.there (.there (.there .here))))|exact .there (.there (.there (.there (.there (.there .here)))))|exact .there (.there (.there (.there (.there (.there (.there .here))))))|exact .there (.there (.there (.there (.there (.there (.there (.there .here)))))))|exact .there (.there (.there (.there (.there (.there (.there (.there (.there .here))))))))|exact .there (.there (.there (.there (.there (.there (.there (.there (.there (.there .here)))))))))|exact .there (.there (.there (.there (.there (.there (.there (.there (.there (.there (.there .here))))))))))|exact .there (.there (.there (.there (.there (.there (.there (.there (.there (.there (.there (.there .here)))))))))))) (by exact rfl) (by exact rfl),?_⟩
   exact .inl ⟨fun q=>p1 q.2.1,rfl,S.tail.tail⟩
  rcases n2 with ⟨rfl,p2,rfl⟩|⟨rfl,p2⟩
  rotate_left
  ·all_goals (repeat' (first|refine qA ?_|refine qw rfl ?_|refine qx ?_|refine qy ?_|refine qo ?_|refine qi ?_|refine qj ?_|(refine qg 6 ?_;refine mv ?_;refine vl ?_;refine mv ?_;(first|refine off ?_|refine mv ?_);(first|refine off ?_|refine vl ?_);refine vl ?_;refine mv ?_;(first|refine off ?_|refine mv ?_);(first|refine off ?_|(first|refine cT ?_|refine cF ?_|(refine cS ?_ ?_<;>intro hc)))<;>(refine vl ?_;refine qf ?_))|(refine qg 7 ?_;refine vl ?_;(first|(refine sB S rfl rfl ?_;clear S;intro h S)|(refine jm S rfl rfl ?_;clear S;intro h S));refine mv ?_;refine qf ?_)))
   refine qH ⟨_,qN S rfl (by first|exact .here|exact .there .here|exact .there (.there .here)|exact .there (.there (.there .here))|exact .there (.there (.there (.there .here)))|exact .there (.there (.there (.there (.there .here))))|exact .there (.there (.there (.there (.there (.there .here)))))|exact .there (.there (.there (.there (.there (.there (.there .here))))))|exact .there (.there (.there (.there (.there (.there (.there (.there .here)))))))|exact .there (.there (.there (.there (.there (.there (.there (.there (.there .here))))))))|exact .there (.there (.there (.there (.there (.there (.there (.there (.there (.there .here)))))))))|exact .there (.there (.there (.there (.there (.there (.there (.there (.there (.there (.there .here))))))))))|exact .there (.there (.there (.there (.there (.there (.there (.there (.there (.there (.there (.there .here)))))))))))) (by exact rfl) (by exact rfl),?_⟩
   exact .inl ⟨fun q=>p2 q.2.2.1,rfl,S.tail.tail⟩
  all_goals (repeat' (first|refine qA ?_|refine qw rfl ?_|refine qx ?_|refine qy ?_|refine qo ?_|refine qi ?_|refine qj ?_|(refine qg 6 ?_;refine mv ?_;refine vl ?_;refine mv ?_;(first|refine off ?_|refine mv ?_);(first|refine off ?_|refine vl ?_);refine vl ?_;refine mv ?_;(first|refine off ?_|refine mv ?_);(first|refine off ?_|(first|refine cT ?_|refine cF ?_|(refine cS ?_ ?_<;>intro hc)))<;>(refine vl ?_;refine qf ?_))|(refine qg 7 ?_;refine vl ?_;(first|(refine sB S rfl rfl ?_;clear S;intro h S)|(refine jm S rfl rfl ?_;clear S;intro h S));refine mv ?_;refine qf ?_)))
  ·refine qH ⟨_,qN S rfl (by first|exact .here|exact .there .here|exact .there (.there .here)|exact .there (.there (.there .here))|exact .there (.there (.there (.there .here)))|exact .there (.there (.there (.there (.there .here))))|exact .there (.there (.there (.there (.there (.there .here)))))|exact .there (.there (.there (.there (.there (.there (.there .here))))))|exact .there (.there (.there (.there (.there (.there (.there (.there .here)))))))|exact .there (.there (.there (.there (.there (.there (.there (.there (.there .here))))))))|exact .there (.there (.there (.there (.there (.there (.there (.there (.there (.there .here)))))))))|exact .there (.there (.there (.there (.there (.there (.there (.there (.there (.there (.there .here))))))))))|exact .there (.there (.there (.there (.there (.there (.there (.there (.there (.there (.there (.there .here)))))))))))) (by exact rfl) (by exact rfl),?_⟩
   exact .inl ⟨fun q=>(hf.1 hc) q.2.2.2,rfl,S.tail.tail⟩
  ·have fp:Vs (ws.getD 7 default):=Classical.not_not.1 fun q=>hc (hf.2 q)
   obtain ⟨f1,f2,f3⟩:=KU fp
   have f3':0<(ws.getD (Int.toNat 7) default).length:=f3
   replace f2:(((ws.getD (Int.toNat 7) default).getD ((((ws.getD (Int.toNat 7) default).length:Nat):Int) - 1).toNat 0).toNat:Int)=97↔ws.getD 7 default=[97]∨ws.getD 7 default=[104,97]:=by
    rw [show ((((ws.getD (Int.toNat 7) default).length:Nat):Int) - 1).toNat=(ws.getD 7 default).length - 1 by show ((((ws.getD 7 default).length:Nat):Int) - 1).toNat=_;omega]
    exact f2
   refine K.le (L':=[(0,v.val),(2,.pointer (some ⟨b2,0,none⟩)),(4,.int .i64 (ZW (ws.getD (Int.toNat 4) default):Nat)),(6,.int .i64 (ZW (ws.getD (Int.toNat 5) default):Nat))]) (zy) ?_
   (repeat (refine qA ?_));refine Zm (id:=8) [(2,(0,3)),(9,(0,1)),(15,(0,2)),(19,(0,3)),(24,(0,3)),(27,(0,3)),(33,(0,3))] [some (QE v.val),some (QE v.val),some (QE v.val),some (QE v.val),some (QE v.val),some (QE v.val),some (QE v.val)] ?_;refine qB ?_;(first|(refine mv ?_<;>refine qf ⟨⟨by (first|exact True.intro|exact Or.inr (qG rfl rfl)|exact Or.inr (qF rfl rfl)|exact Or.inl rfl|exact Or.inr rfl|exact Or.inr (congrArg some (qh _ _ _ _))|exact ⟨Or.inl rfl,rfl⟩|exact ⟨Or.inr rfl,rfl⟩),rfl⟩,?_⟩));refine qB ?_;(first|(refine zM S ?_<;>refine qf ⟨⟨by (first|exact True.intro|exact Or.inr (qG rfl rfl)|exact Or.inr (qF rfl rfl)|exact Or.inl rfl|exact Or.inr rfl|exact Or.inr (congrArg some (qh _ _ _ _))|exact ⟨Or.inl rfl,rfl⟩|exact ⟨Or.inr rfl,rfl⟩),rfl⟩,?_⟩)|(refine qW S rfl rfl ?_<;>refine qf ⟨⟨by (first|exact True.intro|exact Or.inr (qG rfl rfl)|exact Or.inr (qF rfl rfl)|exact Or.inl rfl|exact Or.inr rfl|exact Or.inr (congrArg some (qh _ _ _ _))|exact ⟨Or.inl rfl,rfl⟩|exact ⟨Or.inr rfl,rfl⟩),rfl⟩,?_⟩));refine qB ?_;(first|(refine lB S rfl rfl ?_<;>refine qf ⟨⟨by (first|exact True.intro|exact Or.inr (qG rfl rfl)|exact Or.inr (qF rfl rfl)|exact Or.inl rfl|exact Or.inr rfl|exact Or.inr (congrArg some (qh _ _ _ _))|exact ⟨Or.inl rfl,rfl⟩|exact ⟨Or.inr rfl,rfl⟩),rfl⟩,?_⟩)|(refine qE S rfl rfl ?_<;>refine qf ⟨⟨by (first|exact True.intro|exact Or.inr (qG rfl rfl)|exact Or.inr (qF rfl rfl)|exact Or.inl rfl|exact Or.inr rfl|exact Or.inr (congrArg some (qh _ _ _ _))|exact ⟨Or.inl rfl,rfl⟩|exact ⟨Or.inr rfl,rfl⟩),rfl⟩,?_⟩)|(refine qO S ?_<;>refine qf ⟨⟨by (first|exact True.intro|exact Or.inr (qG rfl rfl)|exact Or.inr (qF rfl rfl)|exact Or.inl rfl|exact Or.inr rfl|exact Or.inr (congrArg some (qh _ _ _ _))|exact ⟨Or.inl rfl,rfl⟩|exact ⟨Or.inr rfl,rfl⟩),rfl⟩,?_⟩)|(refine lH S ?_<;>refine qf ⟨⟨by (first|exact True.intro|exact Or.inr (qG rfl rfl)|exact Or.inr (qF rfl rfl)|exact Or.inl rfl|exact Or.inr rfl|exact Or.inr (congrArg some (qh _ _ _ _))|exact ⟨Or.inl rfl,rfl⟩|exact ⟨Or.inr rfl,rfl⟩),rfl⟩,?_⟩));refine qB ?_;(first|(refine mv ?_<;>refine qf ⟨⟨by (first|exact True.intro|exact Or.inr (qG rfl rfl)|exact Or.inr (qF rfl rfl)|exact Or.inl rfl|exact Or.inr rfl|exact Or.inr (congrArg some (qh _ _ _ _))|exact ⟨Or.inl rfl,rfl⟩|exact ⟨Or.inr rfl,rfl⟩),rfl⟩,?_⟩));refine qB ?_;(first|(refine zM S ?_<;>refine qf ⟨⟨by (first|exact True.intro|exact Or.inr (qG rfl rfl)|exact Or.inr (qF rfl rfl)|exact Or.inl rfl|exact Or.inr rfl|exact Or.inr (congrArg some (qh _ _ _ _))|exact ⟨Or.inl rfl,rfl⟩|exact ⟨Or.inr rfl,rfl⟩),rfl⟩,?_⟩)|(refine qW S rfl rfl ?_<;>refine qf ⟨⟨by (first|exact True.intro|exact Or.inr (qG rfl rfl)|exact Or.inr (qF rfl rfl)|exact Or.inl rfl|exact Or.inr rfl|exact Or.inr (congrArg some (qh _ _ _ _))|exact ⟨Or.inl rfl,rfl⟩|exact ⟨Or.inr rfl,rfl⟩),rfl⟩,?_⟩));refine qB ?_;(first|(refine lB S rfl rfl ?_<;>refine qf ⟨⟨by (first|exact True.intro|exact Or.inr (qG rfl rfl)|exact Or.inr (qF rfl rfl)|exact Or.inl rfl|exact Or.inr rfl|exact Or.inr (congrArg some (qh _ _ _ _))|exact ⟨Or.inl rfl,rfl⟩|exact ⟨Or.inr rfl,rfl⟩),rfl⟩,?_⟩)|(refine qE S rfl rfl ?_<;>refine qf ⟨⟨by (first|exact True.intro|exact Or.inr (qG rfl rfl)|exact Or.inr (qF rfl rfl)|exact Or.inl rfl|exact Or.inr rfl|exact Or.inr (congrArg some (qh _ _ _ _))|exact ⟨Or.inl rfl,rfl⟩|exact ⟨Or.inr rfl,rfl⟩),rfl⟩,?_⟩)|(refine qO S ?_<;>refine qf ⟨⟨by (first|exact True.intro|exact Or.inr (qG rfl rfl)|exact Or.inr (qF rfl rfl)|exact Or.inl rfl|exact Or.inr rfl|exact Or.inr (congrArg some (qh _ _ _ _))|exact ⟨Or.inl rfl,rfl⟩|exact ⟨Or.inr rfl,rfl⟩),rfl⟩,?_⟩)|(refine lH S ?_<;>refine qf ⟨⟨by (first|exact True.intro|exact Or.inr (qG rfl rfl)|exact Or.inr (qF rfl rfl)|exact Or.inl rfl|exact Or.inr rfl|exact Or.inr (congrArg some (qh _ _ _ _))|exact ⟨Or.inl rfl,rfl⟩|exact ⟨Or.inr rfl,rfl⟩),rfl⟩,?_⟩))
   ((refine qB ?_;first|refine qM rfl rfl rfl rfl rfl ((YZ S.wf _).mono ?_));rintro _ h ⟨rfl,x⟩)<;>((refine qf ⟨⟨True.intro,?_⟩,?_⟩;(focus ((show keepsX _ _ _ _ _;simp only [keepsX];(repeat' (first|exact True.intro|refine And.intro ?_ ?_));all_goals (intro hw;first|exact True.intro|exact rfl|exact absurd hw (by decide +kernel)|exact x.ext.old _ S.bB|exact x.ext.old _ (S.bR (by first|omega|grind))|exact x.ext.old _ (S.bX (by assumption) (by assumption) (by first|omega|grind))|exact x.ext.old _ (S.bY (by assumption) (by assumption))|(refine x.ext.old _ ?_;assumption)|exact absurd hw (by decide +kernel))))));replace S:=S.zC x;clear x;refine qB ?_;(first|(refine mv ?_<;>refine qf ⟨⟨by (first|exact True.intro|exact Or.inr (qG rfl rfl)|exact Or.inr (qF rfl rfl)|exact Or.inl rfl|exact Or.inr rfl|exact Or.inr (congrArg some (qh _ _ _ _))|exact ⟨Or.inl rfl,rfl⟩|exact ⟨Or.inr rfl,rfl⟩),rfl⟩,?_⟩));refine qB ?_;(first|(refine zM S ?_<;>refine qf ⟨⟨by (first|exact True.intro|exact Or.inr (qG rfl rfl)|exact Or.inr (qF rfl rfl)|exact Or.inl rfl|exact Or.inr rfl|exact Or.inr (congrArg some (qh _ _ _ _))|exact ⟨Or.inl rfl,rfl⟩|exact ⟨Or.inr rfl,rfl⟩),rfl⟩,?_⟩)|(refine qW S rfl rfl ?_<;>refine qf ⟨⟨by (first|exact True.intro|exact Or.inr (qG rfl rfl)|exact Or.inr (qF rfl rfl)|exact Or.inl rfl|exact Or.inr rfl|exact Or.inr (congrArg some (qh _ _ _ _))|exact ⟨Or.inl rfl,rfl⟩|exact ⟨Or.inr rfl,rfl⟩),rfl⟩,?_⟩));refine qB ?_;(first|(refine lB S rfl rfl ?_<;>refine qf ⟨⟨by (first|exact True.intro|exact Or.inr (qG rfl rfl)|exact Or.inr (qF rfl rfl)|exact Or.inl rfl|exact Or.inr rfl|exact Or.inr (congrArg some (qh _ _ _ _))|exact ⟨Or.inl rfl,rfl⟩|exact ⟨Or.inr rfl,rfl⟩),rfl⟩,?_⟩)|(refine qE S rfl rfl ?_<;>refine qf ⟨⟨by (first|exact True.intro|exact Or.inr (qG rfl rfl)|exact Or.inr (qF rfl rfl)|exact Or.inl rfl|exact Or.inr rfl|exact Or.inr (congrArg some (qh _ _ _ _))|exact ⟨Or.inl rfl,rfl⟩|exact ⟨Or.inr rfl,rfl⟩),rfl⟩,?_⟩)|(refine qO S ?_<;>refine qf ⟨⟨by (first|exact True.intro|exact Or.inr (qG rfl rfl)|exact Or.inr (qF rfl rfl)|exact Or.inl rfl|exact Or.inr rfl|exact Or.inr (congrArg some (qh _ _ _ _))|exact ⟨Or.inl rfl,rfl⟩|exact ⟨Or.inr rfl,rfl⟩),rfl⟩,?_⟩)|(refine lH S ?_<;>refine qf ⟨⟨by (first|exact True.intro|exact Or.inr (qG rfl rfl)|exact Or.inr (qF rfl rfl)|exact Or.inl rfl|exact Or.inr rfl|exact Or.inr (congrArg some (qh _ _ _ _))|exact ⟨Or.inl rfl,rfl⟩|exact ⟨Or.inr rfl,rfl⟩),rfl⟩,?_⟩)))
   ((refine qB ?_;first|refine qM rfl rfl rfl rfl rfl ((YZ S.wf _).mono ?_));rintro _ h ⟨rfl,x⟩)<;>((refine qf ⟨⟨True.intro,?_⟩,?_⟩;(focus ((show keepsX _ _ _ _ _;simp only [keepsX];(repeat' (first|exact True.intro|refine And.intro ?_ ?_));all_goals (intro hw;first|exact True.intro|exact rfl|exact absurd hw (by decide +kernel)|exact x.ext.old _ S.bB|exact x.ext.old _ (S.bR (by first|omega|grind))|exact x.ext.old _ (S.bX (by assumption) (by assumption) (by first|omega|grind))|exact x.ext.old _ (S.bY (by assumption) (by assumption))|(refine x.ext.old _ ?_;assumption)|exact absurd hw (by decide +kernel))))));replace S:=S.zC x;clear x;refine qB ?_;(first|(refine mv ?_<;>refine qf ⟨⟨by (first|exact True.intro|exact Or.inr (qG rfl rfl)|exact Or.inr (qF rfl rfl)|exact Or.inl rfl|exact Or.inr rfl|exact Or.inr (congrArg some (qh _ _ _ _))|exact ⟨Or.inl rfl,rfl⟩|exact ⟨Or.inr rfl,rfl⟩),rfl⟩,?_⟩));refine qB ?_;(first|(refine mv ?_<;>refine qf ⟨⟨by (first|exact True.intro|exact Or.inr (qG rfl rfl)|exact Or.inr (qF rfl rfl)|exact Or.inl rfl|exact Or.inr rfl|exact Or.inr (congrArg some (qh _ _ _ _))|exact ⟨Or.inl rfl,rfl⟩|exact ⟨Or.inr rfl,rfl⟩),rfl⟩,?_⟩));refine qB ?_;(first|(refine mv ?_<;>refine qf ⟨⟨by (first|exact True.intro|exact Or.inr (qG rfl rfl)|exact Or.inr (qF rfl rfl)|exact Or.inl rfl|exact Or.inr rfl|exact Or.inr (congrArg some (qh _ _ _ _))|exact ⟨Or.inl rfl,rfl⟩|exact ⟨Or.inr rfl,rfl⟩),rfl⟩,?_⟩));refine qB ?_;(first|(refine zM S ?_<;>refine qf ⟨⟨by (first|exact True.intro|exact Or.inr (qG rfl rfl)|exact Or.inr (qF rfl rfl)|exact Or.inl rfl|exact Or.inr rfl|exact Or.inr (congrArg some (qh _ _ _ _))|exact ⟨Or.inl rfl,rfl⟩|exact ⟨Or.inr rfl,rfl⟩),rfl⟩,?_⟩)|(refine qW S rfl rfl ?_<;>refine qf ⟨⟨by (first|exact True.intro|exact Or.inr (qG rfl rfl)|exact Or.inr (qF rfl rfl)|exact Or.inl rfl|exact Or.inr rfl|exact Or.inr (congrArg some (qh _ _ _ _))|exact ⟨Or.inl rfl,rfl⟩|exact ⟨Or.inr rfl,rfl⟩),rfl⟩,?_⟩));refine qB ?_;(first|(refine lB S rfl rfl ?_<;>refine qf ⟨⟨by (first|exact True.intro|exact Or.inr (qG rfl rfl)|exact Or.inr (qF rfl rfl)|exact Or.inl rfl|exact Or.inr rfl|exact Or.inr (congrArg some (qh _ _ _ _))|exact ⟨Or.inl rfl,rfl⟩|exact ⟨Or.inr rfl,rfl⟩),rfl⟩,?_⟩)|(refine qE S rfl rfl ?_<;>refine qf ⟨⟨by (first|exact True.intro|exact Or.inr (qG rfl rfl)|exact Or.inr (qF rfl rfl)|exact Or.inl rfl|exact Or.inr rfl|exact Or.inr (congrArg some (qh _ _ _ _))|exact ⟨Or.inl rfl,rfl⟩|exact ⟨Or.inr rfl,rfl⟩),rfl⟩,?_⟩)|(refine qO S ?_<;>refine qf ⟨⟨by (first|exact True.intro|exact Or.inr (qG rfl rfl)|exact Or.inr (qF rfl rfl)|exact Or.inl rfl|exact Or.inr rfl|exact Or.inr (congrArg some (qh _ _ _ _))|exact ⟨Or.inl rfl,rfl⟩|exact ⟨Or.inr rfl,rfl⟩),rfl⟩,?_⟩)|(refine lH S ?_<;>refine qf ⟨⟨by (first|exact True.intro|exact Or.inr (qG rfl rfl)|exact Or.inr (qF rfl rfl)|exact Or.inl rfl|exact Or.inr rfl|exact Or.inr (congrArg some (qh _ _ _ _))|exact ⟨Or.inl rfl,rfl⟩|exact ⟨Or.inr rfl,rfl⟩),rfl⟩,?_⟩)))
   ((refine qB ?_;first|refine qM rfl rfl rfl rfl rfl ((YZ S.wf _).mono ?_));rintro _ h ⟨rfl,x⟩)<;>((refine qf ⟨⟨True.intro,?_⟩,?_⟩;(focus ((show keepsX _ _ _ _ _;simp only [keepsX];(repeat' (first|exact True.intro|refine And.intro ?_ ?_));all_goals (intro hw;first|exact True.intro|exact rfl|exact absurd hw (by decide +kernel)|exact x.ext.old _ S.bB|exact x.ext.old _ (S.bR (by first|omega|grind))|exact x.ext.old _ (S.bX (by assumption) (by assumption) (by first|omega|grind))|exact x.ext.old _ (S.bY (by assumption) (by assumption))|(refine x.ext.old _ ?_;assumption)|exact absurd hw (by decide +kernel))))));replace S:=S.zC x;clear x;refine qB ?_;(first|(refine mv ?_<;>refine qf ⟨⟨by (first|exact True.intro|exact Or.inr (qG rfl rfl)|exact Or.inr (qF rfl rfl)|exact Or.inl rfl|exact Or.inr rfl|exact Or.inr (congrArg some (qh _ _ _ _))|exact ⟨Or.inl rfl,rfl⟩|exact ⟨Or.inr rfl,rfl⟩),rfl⟩,?_⟩));refine qB ?_;(first|(refine zM S ?_<;>refine qf ⟨⟨by (first|exact True.intro|exact Or.inr (qG rfl rfl)|exact Or.inr (qF rfl rfl)|exact Or.inl rfl|exact Or.inr rfl|exact Or.inr (congrArg some (qh _ _ _ _))|exact ⟨Or.inl rfl,rfl⟩|exact ⟨Or.inr rfl,rfl⟩),rfl⟩,?_⟩)|(refine qW S rfl rfl ?_<;>refine qf ⟨⟨by (first|exact True.intro|exact Or.inr (qG rfl rfl)|exact Or.inr (qF rfl rfl)|exact Or.inl rfl|exact Or.inr rfl|exact Or.inr (congrArg some (qh _ _ _ _))|exact ⟨Or.inl rfl,rfl⟩|exact ⟨Or.inr rfl,rfl⟩),rfl⟩,?_⟩));refine qB ?_;(first|(refine lB S rfl rfl ?_<;>refine qf ⟨⟨by (first|exact True.intro|exact Or.inr (qG rfl rfl)|exact Or.inr (qF rfl rfl)|exact Or.inl rfl|exact Or.inr rfl|exact Or.inr (congrArg some (qh _ _ _ _))|exact ⟨Or.inl rfl,rfl⟩|exact ⟨Or.inr rfl,rfl⟩),rfl⟩,?_⟩)|(refine qE S rfl rfl ?_<;>refine qf ⟨⟨by (first|exact True.intro|exact Or.inr (qG rfl rfl)|exact Or.inr (qF rfl rfl)|exact Or.inl rfl|exact Or.inr rfl|exact Or.inr (congrArg some (qh _ _ _ _))|exact ⟨Or.inl rfl,rfl⟩|exact ⟨Or.inr rfl,rfl⟩),rfl⟩,?_⟩)|(refine qO S ?_<;>refine qf ⟨⟨by (first|exact True.intro|exact Or.inr (qG rfl rfl)|exact Or.inr (qF rfl rfl)|exact Or.inl rfl|exact Or.inr rfl|exact Or.inr (congrArg some (qh _ _ _ _))|exact ⟨Or.inl rfl,rfl⟩|exact ⟨Or.inr rfl,rfl⟩),rfl⟩,?_⟩)|(refine lH S ?_<;>refine qf ⟨⟨by (first|exact True.intro|exact Or.inr (qG rfl rfl)|exact Or.inr (qF rfl rfl)|exact Or.inl rfl|exact Or.inr rfl|exact Or.inr (congrArg some (qh _ _ _ _))|exact ⟨Or.inl rfl,rfl⟩|exact ⟨Or.inr rfl,rfl⟩),rfl⟩,?_⟩));refine qB ?_;(first|(refine ti ?_<;>refine qf ⟨⟨by (first|exact True.intro|exact Or.inr (qG rfl rfl)|exact Or.inr (qF rfl rfl)|exact Or.inl rfl|exact Or.inr rfl|exact Or.inr (congrArg some (qh _ _ _ _))|exact ⟨Or.inl rfl,rfl⟩|exact ⟨Or.inr rfl,rfl⟩),rfl⟩,?_⟩)|(refine vl ?_<;>refine qf ⟨⟨by (first|exact True.intro|exact Or.inr (qG rfl rfl)|exact Or.inr (qF rfl rfl)|exact Or.inl rfl|exact Or.inr rfl|exact Or.inr (congrArg some (qh _ _ _ _))|exact ⟨Or.inl rfl,rfl⟩|exact ⟨Or.inr rfl,rfl⟩),rfl⟩,?_⟩));refine qB ?_;(first|(refine cT ?_<;>refine qf ⟨⟨by (first|exact True.intro|exact Or.inr (qG rfl rfl)|exact Or.inr (qF rfl rfl)|exact Or.inl rfl|exact Or.inr rfl|exact Or.inr (congrArg some (qh _ _ _ _))|exact ⟨Or.inl rfl,rfl⟩|exact ⟨Or.inr rfl,rfl⟩),rfl⟩,?_⟩)|(refine cF ?_<;>refine qf ⟨⟨by (first|exact True.intro|exact Or.inr (qG rfl rfl)|exact Or.inr (qF rfl rfl)|exact Or.inl rfl|exact Or.inr rfl|exact Or.inr (congrArg some (qh _ _ _ _))|exact ⟨Or.inl rfl,rfl⟩|exact ⟨Or.inr rfl,rfl⟩),rfl⟩,?_⟩)|((refine cS ?_ ?_<;>intro hc)<;>refine qf ⟨⟨by (first|exact True.intro|exact Or.inr (qG rfl rfl)|exact Or.inr (qF rfl rfl)|exact Or.inl rfl|exact Or.inr rfl|exact Or.inr (congrArg some (qh _ _ _ _))|exact ⟨Or.inl rfl,rfl⟩|exact ⟨Or.inr rfl,rfl⟩),rfl⟩,?_⟩))<;>(refine qB ?_;(first|(refine mv ?_<;>refine qf ⟨⟨by (first|exact True.intro|exact Or.inr (qG rfl rfl)|exact Or.inr (qF rfl rfl)|exact Or.inl rfl|exact Or.inr rfl|exact Or.inr (congrArg some (qh _ _ _ _))|exact ⟨Or.inl rfl,rfl⟩|exact ⟨Or.inr rfl,rfl⟩),rfl⟩,?_⟩));refine qB ?_;(first|(refine zM S ?_<;>refine qf ⟨⟨by (first|exact True.intro|exact Or.inr (qG rfl rfl)|exact Or.inr (qF rfl rfl)|exact Or.inl rfl|exact Or.inr rfl|exact Or.inr (congrArg some (qh _ _ _ _))|exact ⟨Or.inl rfl,rfl⟩|exact ⟨Or.inr rfl,rfl⟩),rfl⟩,?_⟩)|(refine qW S rfl rfl ?_<;>refine qf ⟨⟨by (first|exact True.intro|exact Or.inr (qG rfl rfl)|exact Or.inr (qF rfl rfl)|exact Or.inl rfl|exact Or.inr rfl|exact Or.inr (congrArg some (qh _ _ _ _))|exact ⟨Or.inl rfl,rfl⟩|exact ⟨Or.inr rfl,rfl⟩),rfl⟩,?_⟩));refine qB ?_;(first|(refine lB S rfl rfl ?_<;>refine qf ⟨⟨by (first|exact True.intro|exact Or.inr (qG rfl rfl)|exact Or.inr (qF rfl rfl)|exact Or.inl rfl|exact Or.inr rfl|exact Or.inr (congrArg some (qh _ _ _ _))|exact ⟨Or.inl rfl,rfl⟩|exact ⟨Or.inr rfl,rfl⟩),rfl⟩,?_⟩)|(refine qE S rfl rfl ?_<;>refine qf ⟨⟨by (first|exact True.intro|exact Or.inr (qG rfl rfl)|exact Or.inr (qF rfl rfl)|exact Or.inl rfl|exact Or.inr rfl|exact Or.inr (congrArg some (qh _ _ _ _))|exact ⟨Or.inl rfl,rfl⟩|exact ⟨Or.inr rfl,rfl⟩),rfl⟩,?_⟩)|(refine qO S ?_<;>refine qf ⟨⟨by (first|exact True.intro|exact Or.inr (qG rfl rfl)|exact Or.inr (qF rfl rfl)|exact Or.inl rfl|exact Or.inr rfl|exact Or.inr (congrArg some (qh _ _ _ _))|exact ⟨Or.inl rfl,rfl⟩|exact ⟨Or.inr rfl,rfl⟩),rfl⟩,?_⟩)|(refine lH S ?_<;>refine qf ⟨⟨by (first|exact True.intro|exact Or.inr (qG rfl rfl)|exact Or.inr (qF rfl rfl)|exact Or.inl rfl|exact Or.inr rfl|exact Or.inr (congrArg some (qh _ _ _ _))|exact ⟨Or.inl rfl,rfl⟩|exact ⟨Or.inr rfl,rfl⟩),rfl⟩,?_⟩));refine qB ?_;(first|(refine mv ?_<;>refine qf ⟨⟨by (first|exact True.intro|exact Or.inr (qG rfl rfl)|exact Or.inr (qF rfl rfl)|exact Or.inl rfl|exact Or.inr rfl|exact Or.inr (congrArg some (qh _ _ _ _))|exact ⟨Or.inl rfl,rfl⟩|exact ⟨Or.inr rfl,rfl⟩),rfl⟩,?_⟩));refine qB ?_;(first|(refine zM S ?_<;>refine qf ⟨⟨by (first|exact True.intro|exact Or.inr (qG rfl rfl)|exact Or.inr (qF rfl rfl)|exact Or.inl rfl|exact Or.inr rfl|exact Or.inr (congrArg some (qh _ _ _ _))|exact ⟨Or.inl rfl,rfl⟩|exact ⟨Or.inr rfl,rfl⟩),rfl⟩,?_⟩)|(refine qW S rfl rfl ?_<;>refine qf ⟨⟨by (first|exact True.intro|exact Or.inr (qG rfl rfl)|exact Or.inr (qF rfl rfl)|exact Or.inl rfl|exact Or.inr rfl|exact Or.inr (congrArg some (qh _ _ _ _))|exact ⟨Or.inl rfl,rfl⟩|exact ⟨Or.inr rfl,rfl⟩),rfl⟩,?_⟩));refine qB ?_;(first|(refine lB S rfl rfl ?_<;>refine qf ⟨⟨by (first|exact True.intro|exact Or.inr (qG rfl rfl)|exact Or.inr (qF rfl rfl)|exact Or.inl rfl|exact Or.inr rfl|exact Or.inr (congrArg some (qh _ _ _ _))|exact ⟨Or.inl rfl,rfl⟩|exact ⟨Or.inr rfl,rfl⟩),rfl⟩,?_⟩)|(refine qE S rfl rfl ?_<;>refine qf ⟨⟨by (first|exact True.intro|exact Or.inr (qG rfl rfl)|exact Or.inr (qF rfl rfl)|exact Or.inl rfl|exact Or.inr rfl|exact Or.inr (congrArg some (qh _ _ _ _))|exact ⟨Or.inl rfl,rfl⟩|exact ⟨Or.inr rfl,rfl⟩),rfl⟩,?_⟩)|(refine qO S ?_<;>refine qf ⟨⟨by (first|exact True.intro|exact Or.inr (qG rfl rfl)|exact Or.inr (qF rfl rfl)|exact Or.inl rfl|exact Or.inr rfl|exact Or.inr (congrArg some (qh _ _ _ _))|exact ⟨Or.inl rfl,rfl⟩|exact ⟨Or.inr rfl,rfl⟩),rfl⟩,?_⟩)|(refine lH S ?_<;>refine qf ⟨⟨by (first|exact True.intro|exact Or.inr (qG rfl rfl)|exact Or.inr (qF rfl rfl)|exact Or.inl rfl|exact Or.inr rfl|exact Or.inr (congrArg some (qh _ _ _ _))|exact ⟨Or.inl rfl,rfl⟩|exact ⟨Or.inr rfl,rfl⟩),rfl⟩,?_⟩));refine qB ?_;(first|(refine tl ?_<;>refine qf ⟨⟨by (first|exact True.intro|exact Or.inr (qG rfl rfl)|exact Or.inr (qF rfl rfl)|exact Or.inl rfl|exact Or.inr rfl|exact Or.inr (congrArg some (qh _ _ _ _))|exact ⟨Or.inl rfl,rfl⟩|exact ⟨Or.inr rfl,rfl⟩),rfl⟩,?_⟩));refine qB ?_;(first|(refine sb ?_<;>refine qf ⟨⟨by (first|exact True.intro|exact Or.inr (qG rfl rfl)|exact Or.inr (qF rfl rfl)|exact Or.inl rfl|exact Or.inr rfl|exact Or.inr (congrArg some (qh _ _ _ _))|exact ⟨Or.inl rfl,rfl⟩|exact ⟨Or.inr rfl,rfl⟩),rfl⟩,?_⟩)|(refine vl ?_<;>refine qf ⟨⟨by (first|exact True.intro|exact Or.inr (qG rfl rfl)|exact Or.inr (qF rfl rfl)|exact Or.inl rfl|exact Or.inr rfl|exact Or.inr (congrArg some (qh _ _ _ _))|exact ⟨Or.inl rfl,rfl⟩|exact ⟨Or.inr rfl,rfl⟩),rfl⟩,?_⟩));refine qB ?_;(first|(refine ti ?_<;>refine qf ⟨⟨by (first|exact True.intro|exact Or.inr (qG rfl rfl)|exact Or.inr (qF rfl rfl)|exact Or.inl rfl|exact Or.inr rfl|exact Or.inr (congrArg some (qh _ _ _ _))|exact ⟨Or.inl rfl,rfl⟩|exact ⟨Or.inr rfl,rfl⟩),rfl⟩,?_⟩)|(refine vl ?_<;>refine qf ⟨⟨by (first|exact True.intro|exact Or.inr (qG rfl rfl)|exact Or.inr (qF rfl rfl)|exact Or.inl rfl|exact Or.inr rfl|exact Or.inr (congrArg some (qh _ _ _ _))|exact ⟨Or.inl rfl,rfl⟩|exact ⟨Or.inr rfl,rfl⟩),rfl⟩,?_⟩));refine qB ?_;(first|(refine cT ?_<;>refine qf ⟨⟨by (first|exact True.intro|exact Or.inr (qG rfl rfl)|exact Or.inr (qF rfl rfl)|exact Or.inl rfl|exact Or.inr rfl|exact Or.inr (congrArg some (qh _ _ _ _))|exact ⟨Or.inl rfl,rfl⟩|exact ⟨Or.inr rfl,rfl⟩),rfl⟩,?_⟩)|(refine cF ?_<;>refine qf ⟨⟨by (first|exact True.intro|exact Or.inr (qG rfl rfl)|exact Or.inr (qF rfl rfl)|exact Or.inl rfl|exact Or.inr rfl|exact Or.inr (congrArg some (qh _ _ _ _))|exact ⟨Or.inl rfl,rfl⟩|exact ⟨Or.inr rfl,rfl⟩),rfl⟩,?_⟩)|((refine cS ?_ ?_<;>intro hc)<;>refine qf ⟨⟨by (first|exact True.intro|exact Or.inr (qG rfl rfl)|exact Or.inr (qF rfl rfl)|exact Or.inl rfl|exact Or.inr rfl|exact Or.inr (congrArg some (qh _ _ _ _))|exact ⟨Or.inl rfl,rfl⟩|exact ⟨Or.inr rfl,rfl⟩),rfl⟩,?_⟩))<;>(refine qB ?_;(first|(refine mv ?_<;>refine qf ⟨⟨by (first|exact True.intro|exact Or.inr (qG rfl rfl)|exact Or.inr (qF rfl rfl)|exact Or.inl rfl|exact Or.inr rfl|exact Or.inr (congrArg some (qh _ _ _ _))|exact ⟨Or.inl rfl,rfl⟩|exact ⟨Or.inr rfl,rfl⟩),rfl⟩,?_⟩));refine qB ?_;refine drB S rfl rfl ?_;clear S;intro vq S hvb;obtain ⟨⟨qp,qn,qc⟩,rfl⟩:=S.sV vq;have hvq:=hvb.2 (by assumption);refine qf ⟨⟨by (first|exact Or.inr (congrArg some (yD _ _ _))|(first|exact True.intro|exact Or.inr (qG rfl rfl)|exact Or.inr (qF rfl rfl)|exact Or.inl rfl|exact Or.inr rfl|exact Or.inr (congrArg some (qh _ _ _ _))|exact ⟨Or.inl rfl,rfl⟩|exact ⟨Or.inr rfl,rfl⟩)),rfl⟩,?_⟩;refine qB ?_;(first|(refine vl ?_<;>refine qf ⟨⟨by (first|exact True.intro|exact Or.inr (qG rfl rfl)|exact Or.inr (qF rfl rfl)|exact Or.inl rfl|exact Or.inr rfl|exact Or.inr (congrArg some (qh _ _ _ _))|exact ⟨Or.inl rfl,rfl⟩|exact ⟨Or.inr rfl,rfl⟩),rfl⟩,?_⟩));refine qB ?_;(first|((refine sB S rfl rfl ?_;have S0:=S;clear S;intro h S);refine qf ⟨⟨True.intro,?_⟩,?_⟩;(focus ((show keepsX _ _ _ _ _;simp only [keepsX];(repeat' (first|exact True.intro|refine And.intro ?_ ?_));all_goals (intro hw;first|exact True.intro|exact absurd hw (by decide +kernel)|exact (S.gB).trans (S0.gB).symm|exact absurd hw (by decide +kernel)))));clear S0)|((refine jm S rfl rfl ?_;have S0:=S;clear S;intro h S);refine qf ⟨⟨True.intro,?_⟩,?_⟩;(focus ((show keepsX _ _ _ _ _;simp only [keepsX];(repeat' (first|exact True.intro|refine And.intro ?_ ?_));all_goals (intro hw;first|exact True.intro|exact absurd hw (by decide +kernel)|exact (S.gB).trans (S0.gB).symm|exact absurd hw (by decide +kernel)))));clear S0));refine qB ?_;(first|(refine mv ?_<;>refine qf ⟨⟨by (first|exact True.intro|exact Or.inr (qG rfl rfl)|exact Or.inr (qF rfl rfl)|exact Or.inl rfl|exact Or.inr rfl|exact Or.inr (congrArg some (qh _ _ _ _))|exact ⟨Or.inl rfl,rfl⟩|exact ⟨Or.inr rfl,rfl⟩),rfl⟩,?_⟩));refine JI ?_)))
   all_goals (all_goals (repeat' (first|refine qA ?_|refine qw rfl ?_|refine qx ?_|refine qy ?_|refine qo ?_|refine qi ?_|refine qj ?_|(refine qg 0 ?_;(refine al S ?_;clear S;intro b h S);refine mv ?_;refine qf ?_)|(refine qg 1 ?_;refine mv ?_;(first|refine Zq S ?_|refine Zp S rfl rfl ?_);(first|refine cT ?_|refine cF ?_|(refine cS ?_ ?_<;>intro hc))<;>(refine qf ?_))|(refine qg 2 ?_;refine vl ?_;(first|(refine sB S rfl rfl ?_;clear S;intro h S)|(refine jm S rfl rfl ?_;clear S;intro h S));refine mv ?_;refine qf ?_)|(refine qg 3 ?_;refine mv ?_;(first|refine zM S ?_|refine qW S rfl rfl ?_);(first|refine lB S rfl rfl ?_|refine qE S rfl rfl ?_|refine qO S ?_|refine lH S ?_))|(refine qg 4 ?_;refine mv ?_;(first|refine zM S ?_|refine qW S rfl rfl ?_);(first|refine lB S rfl rfl ?_|refine qE S rfl rfl ?_|refine qO S ?_|refine lH S ?_))|(refine qg 5 ?_;refine mv ?_;(first|refine zM S ?_|refine qW S rfl rfl ?_);(first|refine lB S rfl rfl ?_|refine qE S rfl rfl ?_|refine qO S ?_|refine lH S ?_);refine tc ?_;refine tc ?_)|(refine qg 6 ?_;refine mv ?_;refine vl ?_;refine mv ?_;(first|refine off ?_|refine mv ?_);(first|refine off ?_|refine vl ?_);refine vl ?_;refine mv ?_;(first|refine off ?_|refine mv ?_);(first|refine off ?_|(first|refine cT ?_|refine cF ?_|(refine cS ?_ ?_<;>intro hc)))<;>(refine vl ?_;refine qf ?_))|(refine qg 7 ?_;refine vl ?_;(first|(refine sB S rfl rfl ?_;clear S;intro h S)|(refine jm S rfl rfl ?_;clear S;intro h S));refine mv ?_;refine qf ?_))))
   all_goals (refine qH ⟨_,qN S rfl (by first|exact .here|exact .there .here|exact .there (.there .here)|exact .there (.there (.there .here))|exact .there (.there (.there (.there .here)))|exact .there (.there (.there (.there (.there .here))))|exact .there (.there (.there (.there (.there (.there .here)))))|exact .there (.there (.there (.there (.there (.there (.there .here))))))|exact .there (.there (.there (.there (.there (.there (.there (.there .here)))))))|exact .there (.there (.there (.there (.there (.there (.there (.there (.there .here))))))))|exact .there (.there (.there (.there (.there (.there (.there (.there (.there (.there .here)))))))))|exact .there (.there (.there (.there (.there (.there (.there (.there (.there (.there (.there .here))))))))))|exact .there (.there (.there (.there (.there (.there (.there (.there (.there (.there (.there (.there .here)))))))))))) (by exact rfl) (by exact rfl),?_⟩)
   all_goals
    refine .inr ⟨⟨h8,p1,p2,fp⟩,⟨qp,qn,qc⟩,?_,S.tail⟩
    unfold jP
    first
     | (rw [decide_eq_true (f1.1 (by assumption)),decide_eq_true (f2.1 (by assumption))];rfl)
     | (rw [decide_eq_true (f1.1 (by assumption)),decide_eq_false (fun q=>absurd (f2.2 q) (by assumption))];rfl)
     | (rw [decide_eq_false (fun q=>absurd (f1.2 q) (by assumption)),decide_eq_true (f2.1 (by assumption))];rfl)
     | (rw [decide_eq_false (fun q=>absurd (f1.2 q) (by assumption)),decide_eq_false (fun q=>absurd (f2.2 q) (by assumption))];rfl)
end Go.Proofs.Xx
namespace Go.Proofs.Xx
open Go Go.Proofs
theorem wL {c:UInt8} {s:List UInt8} {i:Nat} (h:i<s.length):zT c (s.drop i)=if s.getD i 0=c then [] :: zT c (s.drop (i+1)) else XT [s.getD i 0] (zT c (s.drop (i+1))):=by
 rw [List.drop_eq_getElem_cons h]
 have e:s.getD i 0=s[i]:=by simp [List.getD_eq_getElem?_getD,h]
 rw [e];rfl
theorem qbC {c:UInt8} {s:List UInt8}:zT c (s.drop s.length)=[[]]:=by rw [List.drop_length];rfl
theorem yc {a w:List UInt8} {r:List (List UInt8)}:XT a (w :: r)=(a ++ w) :: r:=rfl
def PcsL (c:UInt8) (s:List UInt8) (st i:Nat) (out:List (List UInt8)):Prop:=st≤i∧i≤s.length∧zT c s=out ++ XT ((s.drop st).take (i - st)) (zT c (s.drop i))∧out.length≤i
theorem take_snoc {s:List UInt8} {st i:Nat} (h1:st≤i) (h2:i<s.length):(s.drop st).take (i+1 - st)=(s.drop st).take (i - st) ++ [s.getD i 0]:=by
 rw [show i+1 - st=(i - st)+1 by omega,List.take_add_one,List.getElem?_drop,show st+(i - st)=i by omega,List.getElem?_eq_getElem h2]
 simp [List.getD_eq_getElem?_getD,h2]
theorem PcsL.zero (c:UInt8) (s:List UInt8):PcsL c s 0 0 []:=⟨Nat.le_refl _,Nat.zero_le _,by rw [List.nil_append,Nat.sub_self,List.take_zero,ku (ZY _ _),List.drop_zero],Nat.le_refl _⟩
theorem PcsL.no {c:UInt8} {s:List UInt8} {st i:Nat} {out:List (List UInt8)} (p:PcsL c s st i out) (hi:i<s.length) (hx:¬ s.getD i 0=c):PcsL c s st (i+1) out:=by
 obtain ⟨p1,p2,p3,p4⟩:=p
 rw [wL hi,if_neg hx,Py (ZY _ _),← take_snoc p1 hi] at p3
 exact ⟨by omega,hi,p3,by omega⟩
theorem PcsL.yes {c:UInt8} {s:List UInt8} {st i:Nat} {out:List (List UInt8)} (p:PcsL c s st i out) (hi:i<s.length) (hx:s.getD i 0=c):zT c s=out ++ (s.drop st).take (i - st) :: zT c (s.drop (i+1))∧PcsL c s (i+1) (i+1) (out ++ [(s.drop st).take (i - st)]):=by
 obtain ⟨p1,p2,p3,p4⟩:=p
 rw [wL hi,if_pos hx,yc,List.append_nil] at p3
 exact ⟨p3,Nat.le_refl _,hi,by rw [Nat.sub_self,List.take_zero,ku (ZY _ _),List.append_assoc];exact p3,by simp;omega⟩
theorem PcsL.fin {c:UInt8} {s:List UInt8} {st:Nat} {out:List (List UInt8)} (p:PcsL c s st s.length out):zT c s=out ++ [s.drop st]:=by
 obtain ⟨p1,p2,p3,p4⟩:=p
 rw [qbC,yc,List.append_nil,List.take_of_length_le (by simp)] at p3
 exact p3
theorem qcl {x c:UInt8} (h:¬ (x.toNat:Int)=c.toNat):¬ x=c:=fun q=>h (by rw [q])
variable [Flag]
theorem Pv {h0:AH} (w:WfH h0) (s:List UInt8) (hs:s.length≤100000):Fn Tryz.prog Xh 54 [str s] h0 (fun v h'=>∃ u b l,v = .tuple #[u,.bool b]∧((b=false∧∃ ini w,l=ini ++ [w]∧zT 10 s=l∧w≠[])∨(b=true∧zT 10 s=l ++ [[]]))∧Hs h0 h' [.sl u 9 1 eS l]):=by
 have S:=Hs.start w
 refine zD rfl Tryz.func54 rfl rfl ?_
 all_goals (repeat' (first|refine qA ?_|refine qw rfl ?_|refine qx ?_|refine qy ?_|refine qo ?_|refine qi ?_|refine qj ?_|(refine qg 0 ?_;refine mv ?_;refine mv ?_;refine qf ?_)|(refine qg 1 ?_;refine mv ?_;refine qf ?_)|(refine qg 2 ?_;refine mv ?_;refine qf ?_)|(refine qg 3 ?_;refine mv ?_;refine qf ?_)))
 refine zU (σ:=Nat×Nat×List (List UInt8)×Value) (fun (i,st,out,vo) h'=>Hs h0 h' [.sl vo 9 1 eS out]∧PcsL 10 s st i out) (fun (i,st,out,vo)=>s.length - i) (fun (i,st,out,vo)=>[(0,str s),(4,vo),(5,.int .i64 st),(6,.int .i64 i)]) (0,0,[],.slice none 0 0) zy ?_ ?_
 ·exact ⟨S.YU,.zero _ _⟩
 clear S
 rintro ⟨i,st,out,vo⟩ h ⟨S,P⟩
 have p1:=P.1
 have p2:=P.2.1
 have p4:=P.2.2.2
 all_goals (repeat' (first|refine qA ?_|refine qw rfl ?_|refine qx ?_|refine qy ?_|refine qo ?_|refine qi ?_|refine qj ?_|(refine qg 4 ?_;refine mv ?_;refine mv ?_;refine tl ?_;(first|refine cT ?_|refine cF ?_|(refine cS ?_ ?_<;>intro hc))<;>(refine qf ?_))|(refine qg 6 ?_;refine mv ?_;refine mv ?_;(first|refine ti ?_|refine vl ?_);(first|refine cT ?_|refine cF ?_|(refine cS ?_ ?_<;>intro hc))<;>(refine qf ?_))))
 ·have hi:i<s.length:=by omega
  (try simp only [Int.toNat_natCast] at *)
  obtain ⟨-,P2⟩:=P.yes hi (Gy (c:=10) hc)
  all_goals (repeat' (first|refine qA ?_|refine qw rfl ?_|refine qx ?_|refine qy ?_|refine qo ?_|refine qi ?_|refine qj ?_|(refine qg 7 ?_;(iterate 4 refine mv ?_);refine wF ?_;(refine one 1 S ?_;clear S;intro u h S))))
  refine app (y0:=((s.drop st).take (i - st))) S rfl rfl ?_;clear S;intro v h S;refine mv ?_;refine qf ?_
  all_goals (repeat' (first|refine qA ?_|refine qw rfl ?_|refine qx ?_|refine qy ?_|refine qo ?_|refine qi ?_|refine qj ?_|(refine qg 5 ?_;refine mv ?_;(first|refine ad ?_|refine vl ?_);refine mv ?_;refine qf ?_)|(refine qg 7 ?_;(iterate 4 refine mv ?_);refine wF ?_;(refine one 1 S ?_;clear S;intro u h S))|(refine qg 8 ?_;refine mv ?_;(first|refine ad ?_|refine vl ?_);refine mv ?_;refine qf ?_)))
  refine ⟨(i+1,i+1,out ++ [(s.drop st).take (i - st)],v),?_,?_,zy⟩
  ·show s.length - (i+1)<s.length - i;omega
  ·exact ⟨S,P2⟩
 ·have hi:i<s.length:=by omega
  (try simp only [Int.toNat_natCast] at *)
  all_goals (repeat' (first|refine qA ?_|refine qw rfl ?_|refine qx ?_|refine qy ?_|refine qo ?_|refine qi ?_|refine qj ?_|(refine qg 5 ?_;refine mv ?_;(first|refine ad ?_|refine vl ?_);refine mv ?_;refine qf ?_)))
  refine ⟨(i+1,st,out,vo),?_,?_,zy⟩
  ·show s.length - (i+1)<s.length - i;omega
  ·exact ⟨S,P.no hi (qcl hc)⟩
 ·obtain rfl:i=s.length:=by omega
  have p3:=P.fin
  have e:(s.drop st).take (s.length - st)=s.drop st:=List.take_of_length_le (by simp)
  skip
  all_goals (repeat' (first|refine qA ?_|refine qw rfl ?_|refine qx ?_|refine qy ?_|refine qo ?_|refine qi ?_|refine qj ?_|(refine qg 9 ?_;refine mv ?_;refine mv ?_;refine tl ?_;(first|refine cT ?_|refine cF ?_|(refine cS ?_ ?_<;>intro hc))<;>(refine qf ?_))|(refine qg 10 ?_;(iterate 3 refine mv ?_);refine wF ?_;(refine one 1 S ?_;clear S;intro u h S))|(refine qg 11 ?_;(iterate 3 refine mv ?_);refine qf ?_)))
  ·refine app (y0:=((s.drop st).take (s.length - st))) S rfl rfl ?_;clear S;intro v h S;refine mv ?_;refine mv ?_;refine qf ?_
   rw [e] at S
   all_goals (repeat' (first|refine qA ?_|refine qw rfl ?_|refine qx ?_|refine qy ?_|refine qo ?_|refine qi ?_|refine qj ?_))
   refine qH ⟨_,rfl,?_⟩
   have hl:0<(s.drop st).length:=by simp;omega
   exact ⟨_,false,_,rfl,.inl ⟨rfl,out,s.drop st,rfl,p3,fun q=>by rw [q] at hl;simp at hl⟩,S⟩
  ·refine qH ⟨_,rfl,?_⟩
   have hn:s.drop st=[]:=List.drop_of_length_le (by omega)
   rw [hn] at p3
   exact ⟨_,true,_,rfl,.inr ⟨rfl,p3⟩,S⟩
theorem Pq {h0:AH} (w:WfH h0) (s:List UInt8) (hs:s.length≤100000):Fn Tryz.prog Xh 65 [str s] h0 (fun v h'=>([] ∉ zT 32 s∧∃ u,v = .tuple #[u,.bool true]∧Hs h0 h' [.sl u 9 1 eS (zT 32 s)])∨([]∈zT 32 s∧v = .tuple #[.slice none 0 0,.bool false]∧Hs h0 h' [])):=by
 have S:=Hs.start w
 refine zD rfl Tryz.func65 rfl rfl ?_
 all_goals (repeat' (first|refine qA ?_|refine qw rfl ?_|refine qx ?_|refine qy ?_|refine qo ?_|refine qi ?_|refine qj ?_|(refine qg 0 ?_;refine mv ?_;refine mv ?_;refine qf ?_)|(refine qg 1 ?_;refine mv ?_;refine qf ?_)|(refine qg 2 ?_;refine mv ?_;refine qf ?_)|(refine qg 3 ?_;refine mv ?_;refine qf ?_)))
 refine zU (σ:=Nat×Nat×List (List UInt8)×Value) (fun (i,st,out,vo) h'=>Hs h0 h' [.sl vo 9 1 eS out]∧PcsL 32 s st i out∧[] ∉ out) (fun (i,st,out,vo)=>s.length - i) (fun (i,st,out,vo)=>[(0,str s),(4,vo),(5,.int .i64 st),(6,.int .i64 i)]) (0,0,[],.slice none 0 0) zy ?_ ?_
 ·exact ⟨S.YU,.zero _ _,by simp⟩
 clear S
 rintro ⟨i,st,out,vo⟩ h ⟨S,P,hne⟩
 have p1:=P.1
 have p2:=P.2.1
 have p4:=P.2.2.2
 all_goals (repeat' (first|refine qA ?_|refine qw rfl ?_|refine qx ?_|refine qy ?_|refine qo ?_|refine qi ?_|refine qj ?_|(refine qg 4 ?_;refine mv ?_;refine mv ?_;refine tl ?_;(first|refine cT ?_|refine cF ?_|(refine cS ?_ ?_<;>intro hc))<;>(refine qf ?_))|(refine qg 6 ?_;refine mv ?_;refine mv ?_;(first|refine ti ?_|refine vl ?_);(first|refine cT ?_|refine cF ?_|(refine cS ?_ ?_<;>intro hc))<;>(refine qf ?_))))
 ·have hi:i<s.length:=by omega
  (try simp only [Int.toNat_natCast] at *)
  obtain ⟨P1,P2⟩:=P.yes hi (Gy (c:=32) hc)
  all_goals (repeat' (first|refine qA ?_|refine qw rfl ?_|refine qx ?_|refine qy ?_|refine qo ?_|refine qi ?_|refine qj ?_|(refine qg 7 ?_;refine mv ?_;refine mv ?_;(first|refine cT ?_|refine cF ?_|(refine cS ?_ ?_<;>intro hc))<;>(refine qf ?_))|(refine qg 8 ?_;refine mv ?_;refine mv ?_;refine qf ?_)))
  ·have hst:st=i:=by omega
   refine qH ⟨_,rfl,?_⟩
   refine .inr ⟨?_,rfl,S.drop⟩
   rw [P1,hst,Nat.sub_self,List.take_zero];simp
  ·all_goals (repeat' (first|refine qA ?_|refine qw rfl ?_|refine qx ?_|refine qy ?_|refine qo ?_|refine qi ?_|refine qj ?_|(refine qg 9 ?_;(iterate 4 refine mv ?_);refine wF ?_;(refine one 1 S ?_;clear S;intro u h S))))
   refine app (y0:=((s.drop st).take (i - st))) S rfl rfl ?_;clear S;intro v h S;refine mv ?_;refine qf ?_
   all_goals (repeat' (first|refine qA ?_|refine qw rfl ?_|refine qx ?_|refine qy ?_|refine qo ?_|refine qi ?_|refine qj ?_|(refine qg 5 ?_;refine mv ?_;(first|refine ad ?_|refine vl ?_);refine mv ?_;refine qf ?_)|(refine qg 9 ?_;(iterate 4 refine mv ?_);refine wF ?_;(refine one 1 S ?_;clear S;intro u h S))|(refine qg 10 ?_;refine mv ?_;(first|refine ad ?_|refine vl ?_);refine mv ?_;refine qf ?_)))
   refine ⟨(i+1,i+1,out ++ [(s.drop st).take (i - st)],v),?_,?_,zy⟩
   ·show s.length - (i+1)<s.length - i;omega
   ·refine ⟨S,P2,fun q=>?_⟩
    rcases List.mem_append.1 q with q|q
    ·exact hne q
    ·have:=congrArg List.length (List.mem_singleton.1 q)
     simp at this;omega
 ·have hi:i<s.length:=by omega
  (try simp only [Int.toNat_natCast] at *)
  all_goals (repeat' (first|refine qA ?_|refine qw rfl ?_|refine qx ?_|refine qy ?_|refine qo ?_|refine qi ?_|refine qj ?_|(refine qg 5 ?_;refine mv ?_;(first|refine ad ?_|refine vl ?_);refine mv ?_;refine qf ?_)))
  refine ⟨(i+1,st,out,vo),?_,?_,zy⟩
  ·show s.length - (i+1)<s.length - i;omega
  ·exact ⟨S,P.no hi (qcl hc),hne⟩
 ·obtain rfl:i=s.length:=by omega
  have p3:=P.fin
  have e:(s.drop st).take (s.length - st)=s.drop st:=List.take_of_length_le (by simp)
  skip
  all_goals (repeat' (first|refine qA ?_|refine qw rfl ?_|refine qx ?_|refine qy ?_|refine qo ?_|refine qi ?_|refine qj ?_|(refine qg 11 ?_;refine mv ?_;refine mv ?_;refine tl ?_;(first|refine cT ?_|refine cF ?_|(refine cS ?_ ?_<;>intro hc))<;>(refine qf ?_))|(refine qg 12 ?_;refine mv ?_;refine mv ?_;refine qf ?_)|(refine qg 13 ?_;(iterate 3 refine mv ?_);refine wF ?_;(refine one 1 S ?_;clear S;intro u h S))))
  ·refine qH ⟨_,rfl,?_⟩
   refine .inr ⟨?_,rfl,S.drop⟩
   have hn:s.drop st=[]:=List.drop_of_length_le (by omega)
   rw [p3,hn];simp
  ·refine app (y0:=((s.drop st).take (s.length - st))) S rfl rfl ?_;clear S;intro v h S;refine mv ?_;refine mv ?_;refine qf ?_
   rw [e] at S
   all_goals (repeat' (first|refine qA ?_|refine qw rfl ?_|refine qx ?_|refine qy ?_|refine qo ?_|refine qi ?_|refine qj ?_))
   refine qH ⟨_,rfl,?_⟩
   refine .inl ⟨fun q=>?_,_,rfl,by rw [p3];exact S⟩
   rw [p3] at q
   rcases List.mem_append.1 q with q|q
   ·exact hne q
   ·have:=congrArg List.length (List.mem_singleton.1 q)
    simp at this;omega
end Go.Proofs.Xx
namespace Go.Proofs.Xx
open Go Go.Proofs
variable [Flag]
end Go.Proofs.Xx
namespace Go.Proofs.Xx
open Go Go.Proofs
theorem RO.add {r:Rl} (H:RO r) {g:Gu} (h:(ZF r g).2=0):RO (ZF r g).1:=by
 obtain ⟨h1,h2,h3,h4⟩:=P8 h
 rw [h4]
 have hm:∀ n,Xx.gat r.us n≠none→Xx.gat (r.us ++ [g]) n≠none:=fun n q=>by
  rw [vF] at q ⊢
  obtain ⟨k,k1,k2⟩:=q
  exact ⟨k,by simp [k1],k2⟩
 refine ⟨fun k hk=>?_,fun i j hij hj=>?_,by simp;omega,H.ts,fun t ht=>?_,H.l256⟩
 ·rcases List.mem_append.1 hk with q|q
  ·exact H.chk k q
  ·rw [List.mem_singleton.1 q];exact h1
 ·simp only [List.length_append,List.length_singleton] at hj
  rw [VA (show i<r.us.length by omega)]
  rcases Nat.lt_or_ge j r.us.length with q|q
  ·rw [VA q];exact H.nd i j hij q
  ·rw [PR q,show j - r.us.length=0 by omega]
   exact QZ.1 h2 _ (qR (by omega))
 ·obtain ⟨t1,t2,t3,t4⟩:=H.tt t ht
  exact ⟨t1,t2,hm _ t3,hm _ t4⟩
def ncN:List UInt8:=[110,101,119,99,111,109,101,114]
def ncG:ZC:=⟨⟨ncN,[],[],0,0,[],false,false,[]⟩,⟨none,0,0⟩⟩
end Go.Proofs.Xx
