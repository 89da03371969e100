/-
  What a line makes of a roll: plain.
-/
import Derived.Test.YtidmdnenlgjpeaaGreatDoorM11
import Derived.Test.YtidmdnenlgjpeaaGreatDoorM10
import Derived.Test.YtidmdnenlgjpeaaGreatDoorM7
set_option linter.unusedSimpArgs false
set_option linter.unusedVariables false
set_option linter.unusedSectionVars false
set_option maxRecDepth 100000
set_option maxHeartbeats 4000000
namespace Go.Proofs.Xx
open Go Go.Proofs
abbrev ZG (ws:List (List UInt8)) (i:Nat):List UInt8:=ws.getD i default
def Q9:List UInt8:=[103,117,101,115,116]
def jV:List UInt8:=[102,114,105,101,110,100]
def JR:List UInt8:=[102,101,117,100]
def VO (w:List UInt8):Prop:=w=[45]∨w=[104]∨w=[97]∨w=[104,97]
instance (w:List UInt8):Decidable (VO w):=inferInstanceAs (Decidable (_∨_))
def QA (w:List UInt8):List UInt8:=if w=[45] then [] else w
def GP (ws:List (List UInt8)):Prop:=8≤ws.length∧qbx (ZG ws 4)∧qbx (ZG ws 5)∧VO (ZG ws 7)
def JC (ws:List (List UInt8)):Gu:={ name:=ZG ws 1,rank:=QA (ZG ws 2),court:=QA (ZG ws 3),since:=ZY (ZG ws 4),side:=ZY (ZG ws 5),diet:=QA (ZG ws 6),host:=decide (ZG ws 7=[104]∨ZG ws 7=[104,97]),access:=decide (ZG ws 7=[97]∨ZG ws 7=[104,97]),tg:=ws.drop 8 }
open Classical in
noncomputable def QD (r:Rl) (ws:List (List UInt8)):Rl×Int :=
 if ZG ws 0=Q9 then (if GP ws then JI r (JC ws) else (r,3))
 else if ZG ws 0=jV∨ZG ws 0=JR then (if ws.length=3 then QL r (ZG ws 1) (ZG ws 2) (if ZG ws 0=jV then 1 else 2) else (r,3))
 else (r,3)
theorem VL {r:Rl} {ws:List (List UInt8)} (h:ZG ws 0=Q9) (g:GP ws):QD r ws=JI r (JC ws):=by unfold QD;rw [if_pos h,if_pos g]
theorem qaH {r:Rl} {ws:List (List UInt8)} (h:ZG ws 0=Q9) (g:¬ GP ws):QD r ws=(r,3):=by unfold QD;rw [if_pos h,if_neg g]
theorem qeA:jV≠Q9:=by decide
theorem qez:JR≠Q9:=by decide
theorem qfy:JR≠jV:=by decide
theorem YH {r:Rl} {ws:List (List UInt8)} (h:ZG ws 0=jV) (hl:ws.length=3):QD r ws=QL r (ZG ws 1) (ZG ws 2) 1:=by
 unfold QD;rw [h,if_neg qeA,if_pos (.inl rfl),if_pos hl,if_pos rfl]
theorem WY {r:Rl} {ws:List (List UInt8)} (h:ZG ws 0=JR) (hl:ws.length=3):QD r ws=QL r (ZG ws 1) (ZG ws 2) 2:=by
 unfold QD;rw [h,if_neg qez,if_pos (.inr rfl),if_pos hl,if_neg qfy]
theorem yV {r:Rl} {ws:List (List UInt8)} (h:ZG ws 0=jV∨ZG ws 0=JR) (hl:¬ ws.length=3):QD r ws=(r,3):=by
 unfold QD;rw [if_neg (by rcases h with h|h<;>rw [h];exact qeA;exact qez),if_pos h,if_neg hl]
theorem pF {r:Rl} {ws:List (List UInt8)} (h1:ZG ws 0≠Q9) (h2:ZG ws 0≠jV) (h3:ZG ws 0≠JR):QD r ws=(r,3):=by
 unfold QD;rw [if_neg h1,if_neg (by rintro (h|h);exact h2 h;exact h3 h)]
def flagS:List UInt8:=[32,45,32,104,32,97,32,104,97,32]
theorem Kt {c:UInt8}:∀ {w a b:List UInt8},c ∉ w→c ∉ a→(w ++ [c]).isPrefixOf (a ++ c :: b)=true→w=a
 | [],[],_,_,_,_=>rfl
 | [],x :: a,b,_,h,p=>by simp [List.isPrefixOf] at p h;exact absurd p h.1
 | x :: w,[],b,h,_,p=>by simp [List.isPrefixOf] at p h;exact absurd p.1.symm h.1
 | x :: w,y :: a,b,h1,h2,p=>by
  simp only [zE7,not_or] at h1 h2;simp only [zC6,List.isPrefixOf,zA8,beq_iff_eq] at p;rw [p.1,Kt h1.2 h2.2 p.2]
theorem qcY {w:List UInt8} (h:(32:UInt8) ∉ w) (hw:w≠[]):(∀ j,j≤flagS.length→Lib.occAt flagS ([32] ++ w ++ [32]) j=false)↔¬ VO w:=by
 constructor
 ·rintro k (rfl|rfl|rfl|rfl)
  ·have:=k 0 (by decide);revert this;decide
  ·have:=k 2 (by decide);revert this;decide
  ·have:=k 4 (by decide);revert this;decide
  ·have:=k 6 (by decide);revert this;decide
 ·intro hf j hj;cases hq:Lib.occAt flagS ([32] ++ w ++ [32]) j with
  | false=>rfl
  | true =>
   exfalso
   unfold Lib.occAt at hq;have hj:j≤10:=hj;have key:∀ a b:List UInt8,(32:UInt8) ∉ a→flagS.drop j=32 :: (a ++ 32 :: b)→VO a∨a=[]→False:=fun a b ha e hfa=>by
    rw [e,zF1,List.singleton_append,List.isPrefixOf] at hq;simp only [BEq.rfl,Bool.true_and] at hq;have:=Kt h ha hq;rcases hfa with q|q
    ·exact hf (this ▸ q)
    ·exact hw (this.trans q)
   have nk:∀ x t,flagS.drop j=x :: t→x≠32→False:=fun x t e hx=>by
    rw [e,zF1,List.singleton_append,List.isPrefixOf] at hq;simp only [zA8,beq_iff_eq] at hq;exact hx hq.1.symm
   rcases (show j=0∨j=1∨j=2∨j=3∨j=4∨j=5∨j=6∨j=7∨j=8∨j=9∨j=10 by omega) with rfl|rfl|rfl|rfl|rfl|rfl|rfl|rfl|rfl|rfl|rfl
   ·exact key [45] [104,32,97,32,104,97,32] (by decide) rfl (.inl (by decide))
   ·exact nk 45 _ rfl (by decide)
   ·exact key [104] [97,32,104,97,32] (by decide) rfl (.inl (by decide))
   ·exact nk 104 _ rfl (by decide)
   ·exact key [97] [104,97,32] (by decide) rfl (.inl (by decide))
   ·exact nk 97 _ rfl (by decide)
   ·exact key [104,97] [] (by decide) rfl (.inl (by decide))
   ·exact nk 104 _ rfl (by decide)
   ·exact nk 97 _ rfl (by decide)
   ·have hl:=(List.isPrefixOf_iff_prefix.1 hq).length_le;simp [flagS] at hl
   ·have hl:=(List.isPrefixOf_iff_prefix.1 hq).length_le;simp [flagS] at hl
theorem pO {w:List UInt8} (h:(32:UInt8) ∉ w) (hw:w≠[]):Lib.index flagS ([32] ++ w ++ [32])<0↔¬ VO w:=by
 rw [← qcY h hw];constructor
 ·intro q j hj;cases hq:Lib.occAt flagS ([32] ++ w ++ [32]) j with
  | false=>rfl
  | true =>
   exfalso
   have ex:∃ n,n≤j∧Lib.occAt flagS ([32] ++ w ++ [32]) n=true∧∀ m,m<n→Lib.occAt flagS ([32] ++ w ++ [32]) m=false:=by
    clear q hj;induction j using Nat.strongRecOn with
    | _ j ih =>
     by_cases z:∃ m,m<j∧Lib.occAt flagS ([32] ++ w ++ [32]) m=true
     ·obtain ⟨m,m1,m2⟩:=z;obtain ⟨n,n1,n2,n3⟩:=ih m m1 m2;exact ⟨n,by omega,n2,n3⟩
     ·refine ⟨j,zA3 _,hq,fun m hm=>?_⟩;cases hb:Lib.occAt flagS ([32] ++ w ++ [32]) m with
      | false=>rfl
      | true=>exact absurd ⟨m,hm,hb⟩ z
   obtain ⟨n,n1,n2,n3⟩:=ex;have:=Lib.index_first (s:=flagS) (by omega) n2 n3;omega
 ·intro k;have:=Lib.index_none (s:=flagS) k;omega
theorem jW {c:UInt8}:∀ {s w:List UInt8},w∈jv c s→c ∉ w
 | [],w,h=>by simp [jv] at h;subst h;simp
 | x :: s,w,h=>by
  unfold jv at h;split at h
  ·rcases zE7.1 h with rfl|h
   ·simp
   ·exact jW h
  ·rename_i hx
   cases hs:jv c s with
   | nil=>exact absurd hs (Jv c s)
   | cons u r =>
    rw [hs] at h;simp only [Yf,List.singleton_append] at h;rcases zE7.1 h with rfl|h
    ·have:=jW (c:=c) (s:=s) (w:=u) (by rw [hs];simp);intro q;rcases zE7.1 q with q|q
     ·exact hx q.symm
     ·exact this q
    ·exact jW (c:=c) (s:=s) (by rw [hs];simp [h])
theorem Yb (c:UInt8):∀ s:List UInt8,∀ w∈jv c s,w.length≤s.length
 | [],w,h=>by simp [jv] at h;subst h;simp
 | x :: s,w,h=>by
  unfold jv at h;split at h
  ·rcases zE7.1 h with rfl|h
   ·simp
   ·have:=Yb c s w h;simp;omega
  ·cases hs:jv c s with
   | nil=>exact absurd hs (Jv c s)
   | cons u r =>
    rw [hs] at h;simp only [Yf,List.singleton_append] at h;rcases zE7.1 h with rfl|h
    ·have:=Yb c s u (by rw [hs];simp);simp;omega
    ·have:=Yb c s w (by rw [hs];simp [h]);simp;omega
theorem pR {w:List UInt8} (h:VO w):(((w.getD 0 0).toNat:Int)=104↔w=[104]∨w=[104,97])∧(((w.getD (w.length - 1) 0).toNat:Int)=97↔w=[97]∨w=[104,97])∧0<w.length:=by
 rcases h with rfl|rfl|rfl|rfl<;>decide
variable [Flag]
theorem Vg {h0:AH} (w:WfH h0) (s:List UInt8):Fn Tryz.prog Xh 151 [str s] h0 (fun v h'=>v=str (QA s)∧Hs h0 h' []):=by
 have S:=Hs.start w;refine zB rfl Tryz.func151 rfl rfl ?_;all_goals (repeat' (first|refine qA ?_|refine qw rfl ?_|refine qx ?_|refine qy ?_|refine qi ?_|refine qj ?_|refine qo ?_|(refine qf 0 ?_;refine mv ?_;refine qg ?_)|(refine qf 1 ?_;refine mv ?_;(refine tS ?_ ?_<;>intro hc)<;>(refine qg ?_))|(refine qf 2 ?_;refine mv ?_;refine qg ?_)|(refine qf 3 ?_;refine mv ?_;refine mv ?_;refine qg ?_)))
 all_goals (refine qE ⟨_,rfl,?_⟩)
 ·exact ⟨by unfold QA;rw [if_pos hc];rfl,S⟩
 ·exact ⟨by unfold QA;rw [if_neg hc];rfl,S⟩
structure WsOk (ws:List (List UInt8)):Prop where
 len:ws.length≤1000001
 wl:∀ w∈ws,w.length≤1000000
 ne:[] ∉ ws
 sp:∀ w∈ws,(32:UInt8) ∉ w
 pos:0<ws.length
theorem qbN {h0 h:AH} {rs:List Rs} {v:SlV} {ws:List (List UInt8)} (S:Hs h0 h (.sl v.val 9 1 eS ws :: rs)) (W:WsOk ws):Fn Tryz.prog Xh 121 [v.val] h (fun u h'=>(¬ GP ws∧u = .tuple #[gV ⟨default,⟨none,0,0⟩⟩,.bool false]∧Hs h0 h' rs)∨(GP ws∧∃ tv:SlV,u = .tuple #[gV ⟨JC ws,tv⟩,.bool true]∧Hs h0 h' (.sl tv.val 9 1 eS (ws.drop 8) :: rs))):=by
 have hwl:=W.len;have hpos:=W.pos;have hne:=S.qfD .here hpos;have hw:∀ i,i<ws.length→(ws.getD i default).length≤1000000:=fun i hi=>W.wl _ (qK hi);refine zB rfl Tryz.func121 rfl rfl ?_;all_goals (repeat' (first|refine qA ?_|refine qw rfl ?_|refine qx ?_|refine qy ?_|refine qi ?_|refine qj ?_|refine qo ?_|(refine qf 0 ?_;(refine al S ?_;clear S;intro b h S);refine mv ?_;refine qg ?_)))
 obtain ⟨b2,hnm⟩:∃ x,x=b:=⟨_,rfl⟩;subst hnm;all_goals (repeat' (first|refine qA ?_|refine qw rfl ?_|refine qx ?_|refine qy ?_|refine qi ?_|refine qj ?_|refine qo ?_|(refine qf 1 ?_;refine mv ?_;(first|refine ZH S ?_|refine XD S rfl rfl ?_);(first|refine cT ?_|refine cF ?_|(refine cS ?_ ?_<;>intro hc))<;>(refine qg ?_))))
 ·all_goals (repeat' (first|refine qA ?_|refine qw rfl ?_|refine qx ?_|refine qy ?_|refine qi ?_|refine qj ?_|refine qo ?_|(refine qf 2 ?_;refine vl ?_;(first|(refine sB S rfl rfl ?_;clear S;intro h S)|(refine JU S rfl rfl ?_;clear S;intro h S));refine mv ?_;refine qg ?_)))
  refine qE ⟨_,zQ S rfl (by first|exact .here|exact .there .here|exact .there (.there .here)|exact .there (.there (.there .here))|exact .there (.there (.there (.there .here)))|exact .there (.there (.there (.there (.there .here))))|exact .there (.there (.there (.there (.there (.there .here)))))|exact .there (.there (.there (.there (.there (.there (.there .here))))))|exact .there (.there (.there (.there (.there (.there (.there (.there .here)))))))|exact .there (.there (.there (.there (.there (.there (.there (.there (.there .here))))))))|exact .there (.there (.there (.there (.there (.there (.there (.there (.there (.there .here)))))))))|exact .there (.there (.there (.there (.there (.there (.there (.there (.there (.there (.there .here))))))))))|exact .there (.there (.there (.there (.there (.there (.there (.there (.there (.there (.there (.there .here)))))))))))) (by exact rfl) (by exact rfl),?_⟩;exact .inl ⟨fun q=>by have:=q.1;omega,rfl,S.tail.tail⟩
 ·have h8:8≤ws.length:=by omega
  all_goals (repeat' (first|refine qA ?_|refine qw rfl ?_|refine qx ?_|refine qy ?_|refine qi ?_|refine qj ?_|refine qo ?_|(refine qf 3 ?_;refine mv ?_;(first|refine Qd S ?_|refine zZ S rfl rfl ?_);(first|refine lB S rfl rfl ?_|refine qH S rfl rfl ?_|refine qZ S ?_|refine lH S ?_))))
  (refine qI rfl rfl rfl rfl rfl ((xn S.wf _ (hw 4 (by omega))).mono ?_);rintro _ h ⟨k1,c1,rfl,n1,x⟩)<;>(replace S:=S.zk x;clear x;refine mv ?_;refine vl ?_;refine vl ?_;refine mv ?_;refine mv ?_;refine qg ?_)
  all_goals (repeat' (first|refine qA ?_|refine qw rfl ?_|refine qx ?_|refine qy ?_|refine qi ?_|refine qj ?_|refine qo ?_|(refine qf 4 ?_;refine mv ?_;(first|refine Qd S ?_|refine zZ S rfl rfl ?_);(first|refine lB S rfl rfl ?_|refine qH S rfl rfl ?_|refine qZ S ?_|refine lH S ?_))))
  (refine qI rfl rfl rfl rfl rfl ((xn S.wf _ (hw 5 (by omega))).mono ?_);rintro _ h ⟨k2,c2,rfl,n2,x⟩)<;>(replace S:=S.zk x;clear x;refine mv ?_;refine vl ?_;refine vl ?_;refine mv ?_;refine mv ?_;refine qg ?_)
  all_goals (repeat' (first|refine qA ?_|refine qw rfl ?_|refine qx ?_|refine qy ?_|refine qi ?_|refine qj ?_|refine qo ?_|(refine qf 5 ?_;refine mv ?_;(first|refine Qd S ?_|refine zZ S rfl rfl ?_);(first|refine lB S rfl rfl ?_|refine qH S rfl rfl ?_|refine qZ S ?_|refine lH S ?_);refine tc ?_;refine tc ?_)))
  (refine qI rfl rfl rfl rfl rfl ((WI flagS ([32] ++ ws.getD 7 default ++ [32]) (by decide)).mono ?_);rintro _ _ ⟨rfl,rfl⟩)<;>(refine mv ?_;refine qg ?_)
  have hf:=pO (W.sp _ (qK (show 7<ws.length by omega))) (fun q=>W.ne (q ▸ qK (show 7<ws.length by omega)));rcases n1 with ⟨rfl,p1,rfl⟩|⟨rfl,p1⟩
  rotate_left
  ·all_goals (repeat' (first|refine qA ?_|refine qw rfl ?_|refine qx ?_|refine qy ?_|refine qi ?_|refine qj ?_|refine qo ?_|(refine qf 6 ?_;refine mv ?_;refine vl ?_;refine mv ?_;(first|refine off ?_|refine mv ?_);(first|refine off ?_|refine vl ?_);refine vl ?_;refine mv ?_;(first|refine off ?_|refine mv ?_);(first|refine off ?_|(first|refine cT ?_|refine cF ?_|(refine cS ?_ ?_<;>intro hc)))<;>(refine vl ?_;refine qg ?_))|(refine qf 7 ?_;refine vl ?_;(first|(refine sB S rfl rfl ?_;clear S;intro h S)|(refine JU S rfl rfl ?_;clear S;intro h S));refine mv ?_;refine qg ?_)))
   refine qE ⟨_,zQ S rfl (by first|exact .here|exact .there .here|exact .there (.there .here)|exact .there (.there (.there .here))|exact .there (.there (.there (.there .here)))|exact .there (.there (.there (.there (.there .here))))|exact .there (.there (.there (.there (.there (.there .here)))))|exact .there (.there (.there (.there (.there (.there (.there .here))))))|exact .there (.there (.there (.there (.there (.there (.there (.there .here)))))))|exact .there (.there (.there (.there (.there (.there (.there (.there (.there .here))))))))|exact .there (.there (.there (.there (.there (.there (.there (.there (.there (.there .here)))))))))|exact .there (.there (.there (.there (.there (.there (.there (.there (.there (.there (.there .here))))))))))|exact .there (.there (.there (.there (.there (.there (.there (.there (.there (.there (.there (.there .here)))))))))))) (by exact rfl) (by exact rfl),?_⟩;exact .inl ⟨fun q=>p1 q.2.1,rfl,S.tail.tail⟩
  rcases n2 with ⟨rfl,p2,rfl⟩|⟨rfl,p2⟩
  rotate_left
  ·all_goals (repeat' (first|refine qA ?_|refine qw rfl ?_|refine qx ?_|refine qy ?_|refine qi ?_|refine qj ?_|refine qo ?_|(refine qf 6 ?_;refine mv ?_;refine vl ?_;refine mv ?_;(first|refine off ?_|refine mv ?_);(first|refine off ?_|refine vl ?_);refine vl ?_;refine mv ?_;(first|refine off ?_|refine mv ?_);(first|refine off ?_|(first|refine cT ?_|refine cF ?_|(refine cS ?_ ?_<;>intro hc)))<;>(refine vl ?_;refine qg ?_))|(refine qf 7 ?_;refine vl ?_;(first|(refine sB S rfl rfl ?_;clear S;intro h S)|(refine JU S rfl rfl ?_;clear S;intro h S));refine mv ?_;refine qg ?_)))
   refine qE ⟨_,zQ S rfl (by first|exact .here|exact .there .here|exact .there (.there .here)|exact .there (.there (.there .here))|exact .there (.there (.there (.there .here)))|exact .there (.there (.there (.there (.there .here))))|exact .there (.there (.there (.there (.there (.there .here)))))|exact .there (.there (.there (.there (.there (.there (.there .here))))))|exact .there (.there (.there (.there (.there (.there (.there (.there .here)))))))|exact .there (.there (.there (.there (.there (.there (.there (.there (.there .here))))))))|exact .there (.there (.there (.there (.there (.there (.there (.there (.there (.there .here)))))))))|exact .there (.there (.there (.there (.there (.there (.there (.there (.there (.there (.there .here))))))))))|exact .there (.there (.there (.there (.there (.there (.there (.there (.there (.there (.there (.there .here)))))))))))) (by exact rfl) (by exact rfl),?_⟩;exact .inl ⟨fun q=>p2 q.2.2.1,rfl,S.tail.tail⟩
  all_goals (repeat' (first|refine qA ?_|refine qw rfl ?_|refine qx ?_|refine qy ?_|refine qi ?_|refine qj ?_|refine qo ?_|(refine qf 6 ?_;refine mv ?_;refine vl ?_;refine mv ?_;(first|refine off ?_|refine mv ?_);(first|refine off ?_|refine vl ?_);refine vl ?_;refine mv ?_;(first|refine off ?_|refine mv ?_);(first|refine off ?_|(first|refine cT ?_|refine cF ?_|(refine cS ?_ ?_<;>intro hc)))<;>(refine vl ?_;refine qg ?_))|(refine qf 7 ?_;refine vl ?_;(first|(refine sB S rfl rfl ?_;clear S;intro h S)|(refine JU S rfl rfl ?_;clear S;intro h S));refine mv ?_;refine qg ?_)))
  ·refine qE ⟨_,zQ S rfl (by first|exact .here|exact .there .here|exact .there (.there .here)|exact .there (.there (.there .here))|exact .there (.there (.there (.there .here)))|exact .there (.there (.there (.there (.there .here))))|exact .there (.there (.there (.there (.there (.there .here)))))|exact .there (.there (.there (.there (.there (.there (.there .here))))))|exact .there (.there (.there (.there (.there (.there (.there (.there .here)))))))|exact .there (.there (.there (.there (.there (.there (.there (.there (.there .here))))))))|exact .there (.there (.there (.there (.there (.there (.there (.there (.there (.there .here)))))))))|exact .there (.there (.there (.there (.there (.there (.there (.there (.there (.there (.there .here))))))))))|exact .there (.there (.there (.there (.there (.there (.there (.there (.there (.there (.there (.there .here)))))))))))) (by exact rfl) (by exact rfl),?_⟩;exact .inl ⟨fun q=>(hf.1 hc) q.2.2.2,rfl,S.tail.tail⟩
  ·have fp:VO (ws.getD 7 default):=zF2.1 fun q=>hc (hf.2 q);obtain ⟨f1,f2,f3⟩:=pR fp;have f3':0<(ws.getD (Int.toNat 7) default).length:=f3;replace f2:(((ws.getD (Int.toNat 7) default).getD ((((ws.getD (Int.toNat 7) default).length:Nat):Int) - 1).toNat 0).toNat:Int)=97↔ws.getD 7 default=[97]∨ws.getD 7 default=[104,97]:=by
    rw [show ((((ws.getD (Int.toNat 7) default).length:Nat):Int) - 1).toNat=(ws.getD 7 default).length - 1 by show ((((ws.getD 7 default).length:Nat):Int) - 1).toNat=_;omega];exact f2
   refine K.le (L':=[(0,v.val),(2,.pointer (some ⟨b2,0,none⟩)),(4,.int .i64 (ZY (ws.getD (Int.toNat 4) default):Nat)),(6,.int .i64 (ZY (ws.getD (Int.toNat 5) default):Nat))]) (zh) ?_;(repeat (refine qA ?_));refine JM (id:=8) [(2,(0,3)),(9,(0,1)),(15,(0,2)),(19,(0,3)),(24,(0,3)),(27,(0,3)),(33,(0,3))] [some (Jp v.val),some (Jp v.val),some (Jp v.val),some (Jp v.val),some (Jp v.val),some (Jp v.val),some (Jp v.val)] ?_;refine qB ?_;(first|(refine mv ?_<;>refine qg ⟨⟨by (first|exact True.intro|exact Or.inr (qW rfl rfl)|exact Or.inr (qV rfl rfl)|exact Or.inl rfl|exact Or.inr rfl|exact Or.inr (congrArg some (qh _ _ _ _))|exact ⟨Or.inl rfl,rfl⟩|exact ⟨Or.inr rfl,rfl⟩),rfl⟩,?_⟩));refine qB ?_;(first|(refine Qd S ?_<;>refine qg ⟨⟨by (first|exact True.intro|exact Or.inr (qW rfl rfl)|exact Or.inr (qV rfl rfl)|exact Or.inl rfl|exact Or.inr rfl|exact Or.inr (congrArg some (qh _ _ _ _))|exact ⟨Or.inl rfl,rfl⟩|exact ⟨Or.inr rfl,rfl⟩),rfl⟩,?_⟩)|(refine zZ S rfl rfl ?_<;>refine qg ⟨⟨by (first|exact True.intro|exact Or.inr (qW rfl rfl)|exact Or.inr (qV rfl rfl)|exact Or.inl rfl|exact Or.inr rfl|exact Or.inr (congrArg some (qh _ _ _ _))|exact ⟨Or.inl rfl,rfl⟩|exact ⟨Or.inr rfl,rfl⟩),rfl⟩,?_⟩));refine qB ?_;(first|(refine lB S rfl rfl ?_<;>refine qg ⟨⟨by (first|exact True.intro|exact Or.inr (qW rfl rfl)|exact Or.inr (qV rfl rfl)|exact Or.inl rfl|exact Or.inr rfl|exact Or.inr (congrArg some (qh _ _ _ _))|exact ⟨Or.inl rfl,rfl⟩|exact ⟨Or.inr rfl,rfl⟩),rfl⟩,?_⟩)|(refine qH S rfl rfl ?_<;>refine qg ⟨⟨by (first|exact True.intro|exact Or.inr (qW rfl rfl)|exact Or.inr (qV rfl rfl)|exact Or.inl rfl|exact Or.inr rfl|exact Or.inr (congrArg some (qh _ _ _ _))|exact ⟨Or.inl rfl,rfl⟩|exact ⟨Or.inr rfl,rfl⟩),rfl⟩,?_⟩)|(refine qZ S ?_<;>refine qg ⟨⟨by (first|exact True.intro|exact Or.inr (qW rfl rfl)|exact Or.inr (qV rfl rfl)|exact Or.inl rfl|exact Or.inr rfl|exact Or.inr (congrArg some (qh _ _ _ _))|exact ⟨Or.inl rfl,rfl⟩|exact ⟨Or.inr rfl,rfl⟩),rfl⟩,?_⟩)|(refine lH S ?_<;>refine qg ⟨⟨by (first|exact True.intro|exact Or.inr (qW rfl rfl)|exact Or.inr (qV rfl rfl)|exact Or.inl rfl|exact Or.inr rfl|exact Or.inr (congrArg some (qh _ _ _ _))|exact ⟨Or.inl rfl,rfl⟩|exact ⟨Or.inr rfl,rfl⟩),rfl⟩,?_⟩));refine qB ?_;(first|(refine mv ?_<;>refine qg ⟨⟨by (first|exact True.intro|exact Or.inr (qW rfl rfl)|exact Or.inr (qV rfl rfl)|exact Or.inl rfl|exact Or.inr rfl|exact Or.inr (congrArg some (qh _ _ _ _))|exact ⟨Or.inl rfl,rfl⟩|exact ⟨Or.inr rfl,rfl⟩),rfl⟩,?_⟩));refine qB ?_;(first|(refine Qd S ?_<;>refine qg ⟨⟨by (first|exact True.intro|exact Or.inr (qW rfl rfl)|exact Or.inr (qV rfl rfl)|exact Or.inl rfl|exact Or.inr rfl|exact Or.inr (congrArg some (qh _ _ _ _))|exact ⟨Or.inl rfl,rfl⟩|exact ⟨Or.inr rfl,rfl⟩),rfl⟩,?_⟩)|(refine zZ S rfl rfl ?_<;>refine qg ⟨⟨by (first|exact True.intro|exact Or.inr (qW rfl rfl)|exact Or.inr (qV rfl rfl)|exact Or.inl rfl|exact Or.inr rfl|exact Or.inr (congrArg some (qh _ _ _ _))|exact ⟨Or.inl rfl,rfl⟩|exact ⟨Or.inr rfl,rfl⟩),rfl⟩,?_⟩));refine qB ?_;(first|(refine lB S rfl rfl ?_<;>refine qg ⟨⟨by (first|exact True.intro|exact Or.inr (qW rfl rfl)|exact Or.inr (qV rfl rfl)|exact Or.inl rfl|exact Or.inr rfl|exact Or.inr (congrArg some (qh _ _ _ _))|exact ⟨Or.inl rfl,rfl⟩|exact ⟨Or.inr rfl,rfl⟩),rfl⟩,?_⟩)|(refine qH S rfl rfl ?_<;>refine qg ⟨⟨by (first|exact True.intro|exact Or.inr (qW rfl rfl)|exact Or.inr (qV rfl rfl)|exact Or.inl rfl|exact Or.inr rfl|exact Or.inr (congrArg some (qh _ _ _ _))|exact ⟨Or.inl rfl,rfl⟩|exact ⟨Or.inr rfl,rfl⟩),rfl⟩,?_⟩)|(refine qZ S ?_<;>refine qg ⟨⟨by (first|exact True.intro|exact Or.inr (qW rfl rfl)|exact Or.inr (qV rfl rfl)|exact Or.inl rfl|exact Or.inr rfl|exact Or.inr (congrArg some (qh _ _ _ _))|exact ⟨Or.inl rfl,rfl⟩|exact ⟨Or.inr rfl,rfl⟩),rfl⟩,?_⟩)|(refine lH S ?_<;>refine qg ⟨⟨by (first|exact True.intro|exact Or.inr (qW rfl rfl)|exact Or.inr (qV rfl rfl)|exact Or.inl rfl|exact Or.inr rfl|exact Or.inr (congrArg some (qh _ _ _ _))|exact ⟨Or.inl rfl,rfl⟩|exact ⟨Or.inr rfl,rfl⟩),rfl⟩,?_⟩));((refine qB ?_;first|refine qI rfl rfl rfl rfl rfl ((Vg S.wf _).mono ?_));rintro _ h ⟨rfl,x⟩)<;>((refine qg ⟨⟨True.intro,?_⟩,?_⟩;(focus ((show keepsX _ _ _ _ _;simp only [keepsX];(repeat' (first|exact True.intro|refine And.intro ?_ ?_));all_goals (intro hw;first|exact True.intro|exact rfl|exact absurd hw (by decide +kernel)|exact x.ext.old _ S.bB|exact x.ext.old _ (S.bR (by first|omega|grind))|exact x.ext.old _ (S.bX (by assumption) (by assumption) (by first|omega|grind))|exact x.ext.old _ (S.bY (by assumption) (by assumption))|(refine x.ext.old _ ?_;assumption)|exact absurd hw (by decide +kernel))))));replace S:=S.zk x;clear x;refine qB ?_;(first|(refine mv ?_<;>refine qg ⟨⟨by (first|exact True.intro|exact Or.inr (qW rfl rfl)|exact Or.inr (qV rfl rfl)|exact Or.inl rfl|exact Or.inr rfl|exact Or.inr (congrArg some (qh _ _ _ _))|exact ⟨Or.inl rfl,rfl⟩|exact ⟨Or.inr rfl,rfl⟩),rfl⟩,?_⟩));refine qB ?_;(first|(refine Qd S ?_<;>refine qg ⟨⟨by (first|exact True.intro|exact Or.inr (qW rfl rfl)|exact Or.inr (qV rfl rfl)|exact Or.inl rfl|exact Or.inr rfl|exact Or.inr (congrArg some (qh _ _ _ _))|exact ⟨Or.inl rfl,rfl⟩|exact ⟨Or.inr rfl,rfl⟩),rfl⟩,?_⟩)|(refine zZ S rfl rfl ?_<;>refine qg ⟨⟨by (first|exact True.intro|exact Or.inr (qW rfl rfl)|exact Or.inr (qV rfl rfl)|exact Or.inl rfl|exact Or.inr rfl|exact Or.inr (congrArg some (qh _ _ _ _))|exact ⟨Or.inl rfl,rfl⟩|exact ⟨Or.inr rfl,rfl⟩),rfl⟩,?_⟩));refine qB ?_;(first|(refine lB S rfl rfl ?_<;>refine qg ⟨⟨by (first|exact True.intro|exact Or.inr (qW rfl rfl)|exact Or.inr (qV rfl rfl)|exact Or.inl rfl|exact Or.inr rfl|exact Or.inr (congrArg some (qh _ _ _ _))|exact ⟨Or.inl rfl,rfl⟩|exact ⟨Or.inr rfl,rfl⟩),rfl⟩,?_⟩)|(refine qH S rfl rfl ?_<;>refine qg ⟨⟨by (first|exact True.intro|exact Or.inr (qW rfl rfl)|exact Or.inr (qV rfl rfl)|exact Or.inl rfl|exact Or.inr rfl|exact Or.inr (congrArg some (qh _ _ _ _))|exact ⟨Or.inl rfl,rfl⟩|exact ⟨Or.inr rfl,rfl⟩),rfl⟩,?_⟩)|(refine qZ S ?_<;>refine qg ⟨⟨by (first|exact True.intro|exact Or.inr (qW rfl rfl)|exact Or.inr (qV rfl rfl)|exact Or.inl rfl|exact Or.inr rfl|exact Or.inr (congrArg some (qh _ _ _ _))|exact ⟨Or.inl rfl,rfl⟩|exact ⟨Or.inr rfl,rfl⟩),rfl⟩,?_⟩)|(refine lH S ?_<;>refine qg ⟨⟨by (first|exact True.intro|exact Or.inr (qW rfl rfl)|exact Or.inr (qV rfl rfl)|exact Or.inl rfl|exact Or.inr rfl|exact Or.inr (congrArg some (qh _ _ _ _))|exact ⟨Or.inl rfl,rfl⟩|exact ⟨Or.inr rfl,rfl⟩),rfl⟩,?_⟩)))
   ((refine qB ?_;first|refine qI rfl rfl rfl rfl rfl ((Vg S.wf _).mono ?_));rintro _ h ⟨rfl,x⟩)<;>((refine qg ⟨⟨True.intro,?_⟩,?_⟩;(focus ((show keepsX _ _ _ _ _;simp only [keepsX];(repeat' (first|exact True.intro|refine And.intro ?_ ?_));all_goals (intro hw;first|exact True.intro|exact rfl|exact absurd hw (by decide +kernel)|exact x.ext.old _ S.bB|exact x.ext.old _ (S.bR (by first|omega|grind))|exact x.ext.old _ (S.bX (by assumption) (by assumption) (by first|omega|grind))|exact x.ext.old _ (S.bY (by assumption) (by assumption))|(refine x.ext.old _ ?_;assumption)|exact absurd hw (by decide +kernel))))));replace S:=S.zk x;clear x;refine qB ?_;(first|(refine mv ?_<;>refine qg ⟨⟨by (first|exact True.intro|exact Or.inr (qW rfl rfl)|exact Or.inr (qV rfl rfl)|exact Or.inl rfl|exact Or.inr rfl|exact Or.inr (congrArg some (qh _ _ _ _))|exact ⟨Or.inl rfl,rfl⟩|exact ⟨Or.inr rfl,rfl⟩),rfl⟩,?_⟩));refine qB ?_;(first|(refine mv ?_<;>refine qg ⟨⟨by (first|exact True.intro|exact Or.inr (qW rfl rfl)|exact Or.inr (qV rfl rfl)|exact Or.inl rfl|exact Or.inr rfl|exact Or.inr (congrArg some (qh _ _ _ _))|exact ⟨Or.inl rfl,rfl⟩|exact ⟨Or.inr rfl,rfl⟩),rfl⟩,?_⟩));refine qB ?_;(first|(refine mv ?_<;>refine qg ⟨⟨by (first|exact True.intro|exact Or.inr (qW rfl rfl)|exact Or.inr (qV rfl rfl)|exact Or.inl rfl|exact Or.inr rfl|exact Or.inr (congrArg some (qh _ _ _ _))|exact ⟨Or.inl rfl,rfl⟩|exact ⟨Or.inr rfl,rfl⟩),rfl⟩,?_⟩));refine qB ?_;(first|(refine Qd S ?_<;>refine qg ⟨⟨by (first|exact True.intro|exact Or.inr (qW rfl rfl)|exact Or.inr (qV rfl rfl)|exact Or.inl rfl|exact Or.inr rfl|exact Or.inr (congrArg some (qh _ _ _ _))|exact ⟨Or.inl rfl,rfl⟩|exact ⟨Or.inr rfl,rfl⟩),rfl⟩,?_⟩)|(refine zZ S rfl rfl ?_<;>refine qg ⟨⟨by (first|exact True.intro|exact Or.inr (qW rfl rfl)|exact Or.inr (qV rfl rfl)|exact Or.inl rfl|exact Or.inr rfl|exact Or.inr (congrArg some (qh _ _ _ _))|exact ⟨Or.inl rfl,rfl⟩|exact ⟨Or.inr rfl,rfl⟩),rfl⟩,?_⟩));refine qB ?_;(first|(refine lB S rfl rfl ?_<;>refine qg ⟨⟨by (first|exact True.intro|exact Or.inr (qW rfl rfl)|exact Or.inr (qV rfl rfl)|exact Or.inl rfl|exact Or.inr rfl|exact Or.inr (congrArg some (qh _ _ _ _))|exact ⟨Or.inl rfl,rfl⟩|exact ⟨Or.inr rfl,rfl⟩),rfl⟩,?_⟩)|(refine qH S rfl rfl ?_<;>refine qg ⟨⟨by (first|exact True.intro|exact Or.inr (qW rfl rfl)|exact Or.inr (qV rfl rfl)|exact Or.inl rfl|exact Or.inr rfl|exact Or.inr (congrArg some (qh _ _ _ _))|exact ⟨Or.inl rfl,rfl⟩|exact ⟨Or.inr rfl,rfl⟩),rfl⟩,?_⟩)|(refine qZ S ?_<;>refine qg ⟨⟨by (first|exact True.intro|exact Or.inr (qW rfl rfl)|exact Or.inr (qV rfl rfl)|exact Or.inl rfl|exact Or.inr rfl|exact Or.inr (congrArg some (qh _ _ _ _))|exact ⟨Or.inl rfl,rfl⟩|exact ⟨Or.inr rfl,rfl⟩),rfl⟩,?_⟩)|(refine lH S ?_<;>refine qg ⟨⟨by (first|exact True.intro|exact Or.inr (qW rfl rfl)|exact Or.inr (qV rfl rfl)|exact Or.inl rfl|exact Or.inr rfl|exact Or.inr (congrArg some (qh _ _ _ _))|exact ⟨Or.inl rfl,rfl⟩|exact ⟨Or.inr rfl,rfl⟩),rfl⟩,?_⟩)))
   ((refine qB ?_;first|refine qI rfl rfl rfl rfl rfl ((Vg S.wf _).mono ?_));rintro _ h ⟨rfl,x⟩)<;>((refine qg ⟨⟨True.intro,?_⟩,?_⟩;(focus ((show keepsX _ _ _ _ _;simp only [keepsX];(repeat' (first|exact True.intro|refine And.intro ?_ ?_));all_goals (intro hw;first|exact True.intro|exact rfl|exact absurd hw (by decide +kernel)|exact x.ext.old _ S.bB|exact x.ext.old _ (S.bR (by first|omega|grind))|exact x.ext.old _ (S.bX (by assumption) (by assumption) (by first|omega|grind))|exact x.ext.old _ (S.bY (by assumption) (by assumption))|(refine x.ext.old _ ?_;assumption)|exact absurd hw (by decide +kernel))))));replace S:=S.zk x;clear x;refine qB ?_;(first|(refine mv ?_<;>refine qg ⟨⟨by (first|exact True.intro|exact Or.inr (qW rfl rfl)|exact Or.inr (qV rfl rfl)|exact Or.inl rfl|exact Or.inr rfl|exact Or.inr (congrArg some (qh _ _ _ _))|exact ⟨Or.inl rfl,rfl⟩|exact ⟨Or.inr rfl,rfl⟩),rfl⟩,?_⟩));refine qB ?_;(first|(refine Qd S ?_<;>refine qg ⟨⟨by (first|exact True.intro|exact Or.inr (qW rfl rfl)|exact Or.inr (qV rfl rfl)|exact Or.inl rfl|exact Or.inr rfl|exact Or.inr (congrArg some (qh _ _ _ _))|exact ⟨Or.inl rfl,rfl⟩|exact ⟨Or.inr rfl,rfl⟩),rfl⟩,?_⟩)|(refine zZ S rfl rfl ?_<;>refine qg ⟨⟨by (first|exact True.intro|exact Or.inr (qW rfl rfl)|exact Or.inr (qV rfl rfl)|exact Or.inl rfl|exact Or.inr rfl|exact Or.inr (congrArg some (qh _ _ _ _))|exact ⟨Or.inl rfl,rfl⟩|exact ⟨Or.inr rfl,rfl⟩),rfl⟩,?_⟩));refine qB ?_;(first|(refine lB S rfl rfl ?_<;>refine qg ⟨⟨by (first|exact True.intro|exact Or.inr (qW rfl rfl)|exact Or.inr (qV rfl rfl)|exact Or.inl rfl|exact Or.inr rfl|exact Or.inr (congrArg some (qh _ _ _ _))|exact ⟨Or.inl rfl,rfl⟩|exact ⟨Or.inr rfl,rfl⟩),rfl⟩,?_⟩)|(refine qH S rfl rfl ?_<;>refine qg ⟨⟨by (first|exact True.intro|exact Or.inr (qW rfl rfl)|exact Or.inr (qV rfl rfl)|exact Or.inl rfl|exact Or.inr rfl|exact Or.inr (congrArg some (qh _ _ _ _))|exact ⟨Or.inl rfl,rfl⟩|exact ⟨Or.inr rfl,rfl⟩),rfl⟩,?_⟩)|(refine qZ S ?_<;>refine qg ⟨⟨by (first|exact True.intro|exact Or.inr (qW rfl rfl)|exact Or.inr (qV rfl rfl)|exact Or.inl rfl|exact Or.inr rfl|exact Or.inr (congrArg some (qh _ _ _ _))|exact ⟨Or.inl rfl,rfl⟩|exact ⟨Or.inr rfl,rfl⟩),rfl⟩,?_⟩)|(refine lH S ?_<;>refine qg ⟨⟨by (first|exact True.intro|exact Or.inr (qW rfl rfl)|exact Or.inr (qV rfl rfl)|exact Or.inl rfl|exact Or.inr rfl|exact Or.inr (congrArg some (qh _ _ _ _))|exact ⟨Or.inl rfl,rfl⟩|exact ⟨Or.inr rfl,rfl⟩),rfl⟩,?_⟩));refine qB ?_;(first|(refine ti ?_<;>refine qg ⟨⟨by (first|exact True.intro|exact Or.inr (qW rfl rfl)|exact Or.inr (qV rfl rfl)|exact Or.inl rfl|exact Or.inr rfl|exact Or.inr (congrArg some (qh _ _ _ _))|exact ⟨Or.inl rfl,rfl⟩|exact ⟨Or.inr rfl,rfl⟩),rfl⟩,?_⟩)|(refine vl ?_<;>refine qg ⟨⟨by (first|exact True.intro|exact Or.inr (qW rfl rfl)|exact Or.inr (qV rfl rfl)|exact Or.inl rfl|exact Or.inr rfl|exact Or.inr (congrArg some (qh _ _ _ _))|exact ⟨Or.inl rfl,rfl⟩|exact ⟨Or.inr rfl,rfl⟩),rfl⟩,?_⟩));refine qB ?_;(first|(refine cT ?_<;>refine qg ⟨⟨by (first|exact True.intro|exact Or.inr (qW rfl rfl)|exact Or.inr (qV rfl rfl)|exact Or.inl rfl|exact Or.inr rfl|exact Or.inr (congrArg some (qh _ _ _ _))|exact ⟨Or.inl rfl,rfl⟩|exact ⟨Or.inr rfl,rfl⟩),rfl⟩,?_⟩)|(refine cF ?_<;>refine qg ⟨⟨by (first|exact True.intro|exact Or.inr (qW rfl rfl)|exact Or.inr (qV rfl rfl)|exact Or.inl rfl|exact Or.inr rfl|exact Or.inr (congrArg some (qh _ _ _ _))|exact ⟨Or.inl rfl,rfl⟩|exact ⟨Or.inr rfl,rfl⟩),rfl⟩,?_⟩)|((refine cS ?_ ?_<;>intro hc)<;>refine qg ⟨⟨by (first|exact True.intro|exact Or.inr (qW rfl rfl)|exact Or.inr (qV rfl rfl)|exact Or.inl rfl|exact Or.inr rfl|exact Or.inr (congrArg some (qh _ _ _ _))|exact ⟨Or.inl rfl,rfl⟩|exact ⟨Or.inr rfl,rfl⟩),rfl⟩,?_⟩))<;>(refine qB ?_;(first|(refine mv ?_<;>refine qg ⟨⟨by (first|exact True.intro|exact Or.inr (qW rfl rfl)|exact Or.inr (qV rfl rfl)|exact Or.inl rfl|exact Or.inr rfl|exact Or.inr (congrArg some (qh _ _ _ _))|exact ⟨Or.inl rfl,rfl⟩|exact ⟨Or.inr rfl,rfl⟩),rfl⟩,?_⟩));refine qB ?_;(first|(refine Qd S ?_<;>refine qg ⟨⟨by (first|exact True.intro|exact Or.inr (qW rfl rfl)|exact Or.inr (qV rfl rfl)|exact Or.inl rfl|exact Or.inr rfl|exact Or.inr (congrArg some (qh _ _ _ _))|exact ⟨Or.inl rfl,rfl⟩|exact ⟨Or.inr rfl,rfl⟩),rfl⟩,?_⟩)|(refine zZ S rfl rfl ?_<;>refine qg ⟨⟨by (first|exact True.intro|exact Or.inr (qW rfl rfl)|exact Or.inr (qV rfl rfl)|exact Or.inl rfl|exact Or.inr rfl|exact Or.inr (congrArg some (qh _ _ _ _))|exact ⟨Or.inl rfl,rfl⟩|exact ⟨Or.inr rfl,rfl⟩),rfl⟩,?_⟩));refine qB ?_;(first|(refine lB S rfl rfl ?_<;>refine qg ⟨⟨by (first|exact True.intro|exact Or.inr (qW rfl rfl)|exact Or.inr (qV rfl rfl)|exact Or.inl rfl|exact Or.inr rfl|exact Or.inr (congrArg some (qh _ _ _ _))|exact ⟨Or.inl rfl,rfl⟩|exact ⟨Or.inr rfl,rfl⟩),rfl⟩,?_⟩)|(refine qH S rfl rfl ?_<;>refine qg ⟨⟨by (first|exact True.intro|exact Or.inr (qW rfl rfl)|exact Or.inr (qV rfl rfl)|exact Or.inl rfl|exact Or.inr rfl|exact Or.inr (congrArg some (qh _ _ _ _))|exact ⟨Or.inl rfl,rfl⟩|exact ⟨Or.inr rfl,rfl⟩),rfl⟩,?_⟩)|(refine qZ S ?_<;>refine qg ⟨⟨by (first|exact True.intro|exact Or.inr (qW rfl rfl)|exact Or.inr (qV rfl rfl)|exact Or.inl rfl|exact Or.inr rfl|exact Or.inr (congrArg some (qh _ _ _ _))|exact ⟨Or.inl rfl,rfl⟩|exact ⟨Or.inr rfl,rfl⟩),rfl⟩,?_⟩)|(refine lH S ?_<;>refine qg ⟨⟨by (first|exact True.intro|exact Or.inr (qW rfl rfl)|exact Or.inr (qV rfl rfl)|exact Or.inl rfl|exact Or.inr rfl|exact Or.inr (congrArg some (qh _ _ _ _))|exact ⟨Or.inl rfl,rfl⟩|exact ⟨Or.inr rfl,rfl⟩),rfl⟩,?_⟩));refine qB ?_;(first|(refine mv ?_<;>refine qg ⟨⟨by (first|exact True.intro|exact Or.inr (qW rfl rfl)|exact Or.inr (qV rfl rfl)|exact Or.inl rfl|exact Or.inr rfl|exact Or.inr (congrArg some (qh _ _ _ _))|exact ⟨Or.inl rfl,rfl⟩|exact ⟨Or.inr rfl,rfl⟩),rfl⟩,?_⟩));refine qB ?_;(first|(refine Qd S ?_<;>refine qg ⟨⟨by (first|exact True.intro|exact Or.inr (qW rfl rfl)|exact Or.inr (qV rfl rfl)|exact Or.inl rfl|exact Or.inr rfl|exact Or.inr (congrArg some (qh _ _ _ _))|exact ⟨Or.inl rfl,rfl⟩|exact ⟨Or.inr rfl,rfl⟩),rfl⟩,?_⟩)|(refine zZ S rfl rfl ?_<;>refine qg ⟨⟨by (first|exact True.intro|exact Or.inr (qW rfl rfl)|exact Or.inr (qV rfl rfl)|exact Or.inl rfl|exact Or.inr rfl|exact Or.inr (congrArg some (qh _ _ _ _))|exact ⟨Or.inl rfl,rfl⟩|exact ⟨Or.inr rfl,rfl⟩),rfl⟩,?_⟩));refine qB ?_;(first|(refine lB S rfl rfl ?_<;>refine qg ⟨⟨by (first|exact True.intro|exact Or.inr (qW rfl rfl)|exact Or.inr (qV rfl rfl)|exact Or.inl rfl|exact Or.inr rfl|exact Or.inr (congrArg some (qh _ _ _ _))|exact ⟨Or.inl rfl,rfl⟩|exact ⟨Or.inr rfl,rfl⟩),rfl⟩,?_⟩)|(refine qH S rfl rfl ?_<;>refine qg ⟨⟨by (first|exact True.intro|exact Or.inr (qW rfl rfl)|exact Or.inr (qV rfl rfl)|exact Or.inl rfl|exact Or.inr rfl|exact Or.inr (congrArg some (qh _ _ _ _))|exact ⟨Or.inl rfl,rfl⟩|exact ⟨Or.inr rfl,rfl⟩),rfl⟩,?_⟩)|(refine qZ S ?_<;>refine qg ⟨⟨by (first|exact True.intro|exact Or.inr (qW rfl rfl)|exact Or.inr (qV rfl rfl)|exact Or.inl rfl|exact Or.inr rfl|exact Or.inr (congrArg some (qh _ _ _ _))|exact ⟨Or.inl rfl,rfl⟩|exact ⟨Or.inr rfl,rfl⟩),rfl⟩,?_⟩)|(refine lH S ?_<;>refine qg ⟨⟨by (first|exact True.intro|exact Or.inr (qW rfl rfl)|exact Or.inr (qV rfl rfl)|exact Or.inl rfl|exact Or.inr rfl|exact Or.inr (congrArg some (qh _ _ _ _))|exact ⟨Or.inl rfl,rfl⟩|exact ⟨Or.inr rfl,rfl⟩),rfl⟩,?_⟩));refine qB ?_;(first|(refine tl ?_<;>refine qg ⟨⟨by (first|exact True.intro|exact Or.inr (qW rfl rfl)|exact Or.inr (qV rfl rfl)|exact Or.inl rfl|exact Or.inr rfl|exact Or.inr (congrArg some (qh _ _ _ _))|exact ⟨Or.inl rfl,rfl⟩|exact ⟨Or.inr rfl,rfl⟩),rfl⟩,?_⟩));refine qB ?_;(first|(refine sb ?_<;>refine qg ⟨⟨by (first|exact True.intro|exact Or.inr (qW rfl rfl)|exact Or.inr (qV rfl rfl)|exact Or.inl rfl|exact Or.inr rfl|exact Or.inr (congrArg some (qh _ _ _ _))|exact ⟨Or.inl rfl,rfl⟩|exact ⟨Or.inr rfl,rfl⟩),rfl⟩,?_⟩)|(refine vl ?_<;>refine qg ⟨⟨by (first|exact True.intro|exact Or.inr (qW rfl rfl)|exact Or.inr (qV rfl rfl)|exact Or.inl rfl|exact Or.inr rfl|exact Or.inr (congrArg some (qh _ _ _ _))|exact ⟨Or.inl rfl,rfl⟩|exact ⟨Or.inr rfl,rfl⟩),rfl⟩,?_⟩));refine qB ?_;(first|(refine ti ?_<;>refine qg ⟨⟨by (first|exact True.intro|exact Or.inr (qW rfl rfl)|exact Or.inr (qV rfl rfl)|exact Or.inl rfl|exact Or.inr rfl|exact Or.inr (congrArg some (qh _ _ _ _))|exact ⟨Or.inl rfl,rfl⟩|exact ⟨Or.inr rfl,rfl⟩),rfl⟩,?_⟩)|(refine vl ?_<;>refine qg ⟨⟨by (first|exact True.intro|exact Or.inr (qW rfl rfl)|exact Or.inr (qV rfl rfl)|exact Or.inl rfl|exact Or.inr rfl|exact Or.inr (congrArg some (qh _ _ _ _))|exact ⟨Or.inl rfl,rfl⟩|exact ⟨Or.inr rfl,rfl⟩),rfl⟩,?_⟩));refine qB ?_;(first|(refine cT ?_<;>refine qg ⟨⟨by (first|exact True.intro|exact Or.inr (qW rfl rfl)|exact Or.inr (qV rfl rfl)|exact Or.inl rfl|exact Or.inr rfl|exact Or.inr (congrArg some (qh _ _ _ _))|exact ⟨Or.inl rfl,rfl⟩|exact ⟨Or.inr rfl,rfl⟩),rfl⟩,?_⟩)|(refine cF ?_<;>refine qg ⟨⟨by (first|exact True.intro|exact Or.inr (qW rfl rfl)|exact Or.inr (qV rfl rfl)|exact Or.inl rfl|exact Or.inr rfl|exact Or.inr (congrArg some (qh _ _ _ _))|exact ⟨Or.inl rfl,rfl⟩|exact ⟨Or.inr rfl,rfl⟩),rfl⟩,?_⟩)|((refine cS ?_ ?_<;>intro hc)<;>refine qg ⟨⟨by (first|exact True.intro|exact Or.inr (qW rfl rfl)|exact Or.inr (qV rfl rfl)|exact Or.inl rfl|exact Or.inr rfl|exact Or.inr (congrArg some (qh _ _ _ _))|exact ⟨Or.inl rfl,rfl⟩|exact ⟨Or.inr rfl,rfl⟩),rfl⟩,?_⟩))<;>(refine qB ?_;(first|(refine mv ?_<;>refine qg ⟨⟨by (first|exact True.intro|exact Or.inr (qW rfl rfl)|exact Or.inr (qV rfl rfl)|exact Or.inl rfl|exact Or.inr rfl|exact Or.inr (congrArg some (qh _ _ _ _))|exact ⟨Or.inl rfl,rfl⟩|exact ⟨Or.inr rfl,rfl⟩),rfl⟩,?_⟩));refine qB ?_;refine drB S rfl rfl ?_;clear S;intro vq S hvb;obtain ⟨⟨qp,qn,qc⟩,rfl⟩:=S.sV vq;have hvq:=hvb.2 (by assumption);refine qg ⟨⟨by (first|exact Or.inr (congrArg some (qaX _ _ _))|(first|exact True.intro|exact Or.inr (qW rfl rfl)|exact Or.inr (qV rfl rfl)|exact Or.inl rfl|exact Or.inr rfl|exact Or.inr (congrArg some (qh _ _ _ _))|exact ⟨Or.inl rfl,rfl⟩|exact ⟨Or.inr rfl,rfl⟩)),rfl⟩,?_⟩;refine qB ?_;(first|(refine vl ?_<;>refine qg ⟨⟨by (first|exact True.intro|exact Or.inr (qW rfl rfl)|exact Or.inr (qV rfl rfl)|exact Or.inl rfl|exact Or.inr rfl|exact Or.inr (congrArg some (qh _ _ _ _))|exact ⟨Or.inl rfl,rfl⟩|exact ⟨Or.inr rfl,rfl⟩),rfl⟩,?_⟩));refine qB ?_;(first|((refine sB S rfl rfl ?_;have S0:=S;clear S;intro h S);refine qg ⟨⟨True.intro,?_⟩,?_⟩;(focus ((show keepsX _ _ _ _ _;simp only [keepsX];(repeat' (first|exact True.intro|refine And.intro ?_ ?_));all_goals (intro hw;first|exact True.intro|exact absurd hw (by decide +kernel)|exact (S.gB).trans (S0.gB).symm|exact absurd hw (by decide +kernel)))));clear S0)|((refine JU S rfl rfl ?_;have S0:=S;clear S;intro h S);refine qg ⟨⟨True.intro,?_⟩,?_⟩;(focus ((show keepsX _ _ _ _ _;simp only [keepsX];(repeat' (first|exact True.intro|refine And.intro ?_ ?_));all_goals (intro hw;first|exact True.intro|exact absurd hw (by decide +kernel)|exact (S.gB).trans (S0.gB).symm|exact absurd hw (by decide +kernel)))));clear S0));refine qB ?_;(first|(refine mv ?_<;>refine qg ⟨⟨by (first|exact True.intro|exact Or.inr (qW rfl rfl)|exact Or.inr (qV rfl rfl)|exact Or.inl rfl|exact Or.inr rfl|exact Or.inr (congrArg some (qh _ _ _ _))|exact ⟨Or.inl rfl,rfl⟩|exact ⟨Or.inr rfl,rfl⟩),rfl⟩,?_⟩));refine Xw ?_)))
   all_goals (all_goals (repeat' (first|refine qA ?_|refine qw rfl ?_|refine qx ?_|refine qy ?_|refine qi ?_|refine qj ?_|refine qo ?_|(refine qf 0 ?_;(refine al S ?_;clear S;intro b h S);refine mv ?_;refine qg ?_)|(refine qf 1 ?_;refine mv ?_;(first|refine ZH S ?_|refine XD S rfl rfl ?_);(first|refine cT ?_|refine cF ?_|(refine cS ?_ ?_<;>intro hc))<;>(refine qg ?_))|(refine qf 2 ?_;refine vl ?_;(first|(refine sB S rfl rfl ?_;clear S;intro h S)|(refine JU S rfl rfl ?_;clear S;intro h S));refine mv ?_;refine qg ?_)|(refine qf 3 ?_;refine mv ?_;(first|refine Qd S ?_|refine zZ S rfl rfl ?_);(first|refine lB S rfl rfl ?_|refine qH S rfl rfl ?_|refine qZ S ?_|refine lH S ?_))|(refine qf 4 ?_;refine mv ?_;(first|refine Qd S ?_|refine zZ S rfl rfl ?_);(first|refine lB S rfl rfl ?_|refine qH S rfl rfl ?_|refine qZ S ?_|refine lH S ?_))|(refine qf 5 ?_;refine mv ?_;(first|refine Qd S ?_|refine zZ S rfl rfl ?_);(first|refine lB S rfl rfl ?_|refine qH S rfl rfl ?_|refine qZ S ?_|refine lH S ?_);refine tc ?_;refine tc ?_)|(refine qf 6 ?_;refine mv ?_;refine vl ?_;refine mv ?_;(first|refine off ?_|refine mv ?_);(first|refine off ?_|refine vl ?_);refine vl ?_;refine mv ?_;(first|refine off ?_|refine mv ?_);(first|refine off ?_|(first|refine cT ?_|refine cF ?_|(refine cS ?_ ?_<;>intro hc)))<;>(refine vl ?_;refine qg ?_))|(refine qf 7 ?_;refine vl ?_;(first|(refine sB S rfl rfl ?_;clear S;intro h S)|(refine JU S rfl rfl ?_;clear S;intro h S));refine mv ?_;refine qg ?_))))
   all_goals (refine qE ⟨_,zQ S rfl (by first|exact .here|exact .there .here|exact .there (.there .here)|exact .there (.there (.there .here))|exact .there (.there (.there (.there .here)))|exact .there (.there (.there (.there (.there .here))))|exact .there (.there (.there (.there (.there (.there .here)))))|exact .there (.there (.there (.there (.there (.there (.there .here))))))|exact .there (.there (.there (.there (.there (.there (.there (.there .here)))))))|exact .there (.there (.there (.there (.there (.there (.there (.there (.there .here))))))))|exact .there (.there (.there (.there (.there (.there (.there (.there (.there (.there .here)))))))))|exact .there (.there (.there (.there (.there (.there (.there (.there (.there (.there (.there .here))))))))))|exact .there (.there (.there (.there (.there (.there (.there (.there (.there (.there (.there (.there .here)))))))))))) (by exact rfl) (by exact rfl),?_⟩)
   all_goals
    refine .inr ⟨⟨h8,p1,p2,fp⟩,⟨qp,qn,qc⟩,?_,S.tail⟩;unfold JC;first
     | (rw [decide_eq_true (f1.1 (by assumption)),decide_eq_true (f2.1 (by assumption))];rfl)
     | (rw [decide_eq_true (f1.1 (by assumption)),decide_eq_false (fun q=>absurd (f2.2 q) (by assumption))];rfl)
     | (rw [decide_eq_false (fun q=>absurd (f1.2 q) (by assumption)),decide_eq_true (f2.1 (by assumption))];rfl)
     | (rw [decide_eq_false (fun q=>absurd (f1.2 q) (by assumption)),decide_eq_false (fun q=>absurd (f2.2 q) (by assumption))];rfl)
end Go.Proofs.Xx
namespace Go.Proofs.Xx
open Go Go.Proofs
theorem qbf {c:UInt8} {s:List UInt8} {i:Nat} (h:i<s.length):jv c (s.drop i)=if s.getD i 0=c then [] :: jv c (s.drop (i+1)) else Yf [s.getD i 0] (jv c (s.drop (i+1))):=by
 rw [zG6 h];have e:s.getD i 0=s[i]:=by simp [zA2,h]
 rw [e];rfl
theorem qcE {c:UInt8} {s:List UInt8}:jv c (s.drop s.length)=[[]]:=by rw [List.drop_length];rfl
theorem qay {a w:List UInt8} {r:List (List UInt8)}:Yf a (w :: r)=(a ++ w) :: r:=rfl
def PcsL (c:UInt8) (s:List UInt8) (st i:Nat) (out:List (List UInt8)):Prop:=st≤i∧i≤s.length∧jv c s=out ++ Yf ((s.drop st).take (i - st)) (jv c (s.drop i))∧out.length≤i
theorem take_snoc {s:List UInt8} {st i:Nat} (h1:st≤i) (h2:i<s.length):(s.drop st).take (i+1 - st)=(s.drop st).take (i - st) ++ [s.getD i 0]:=by
 rw [show i+1 - st=(i - st)+1 by omega,List.take_add_one,zC3,show st+(i - st)=i by omega,zA4 h2];simp [zA2,h2]
theorem PcsL.zero (c:UInt8) (s:List UInt8):PcsL c s 0 0 []:=⟨zA3 _,zB0 _,by rw [zC0,zG5,List.take_zero,qbq (Jv _ _),List.drop_zero],zA3 _⟩
theorem PcsL.no {c:UInt8} {s:List UInt8} {st i:Nat} {out:List (List UInt8)} (p:PcsL c s st i out) (hi:i<s.length) (hx:¬ s.getD i 0=c):PcsL c s st (i+1) out:=by
 obtain ⟨p1,p2,p3,p4⟩:=p;rw [qbf hi,if_neg hx,qax (Jv _ _),← take_snoc p1 hi] at p3;exact ⟨by omega,hi,p3,by omega⟩
theorem PcsL.fin {c:UInt8} {s:List UInt8} {st:Nat} {out:List (List UInt8)} (p:PcsL c s st s.length out):jv c s=out ++ [s.drop st]:=by
 obtain ⟨p1,p2,p3,p4⟩:=p;rw [qcE,qay,zD7,zF7 (by simp)] at p3;exact p3
variable [Flag]
end Go.Proofs.Xx
namespace Go.Proofs.Xx
open Go Go.Proofs
variable [Flag]
end Go.Proofs.Xx
namespace Go.Proofs.Xx
open Go Go.Proofs
theorem RO.add {r:Rl} (H:RO r) {g:Gu} (h:(JI r g).2=0):RO (JI r g).1:=by
 obtain ⟨h1,h2,h3,h4⟩:=XK h;rw [h4];have hm:∀ n,Xx.gat r.us n≠none→Xx.gat (r.us ++ [g]) n≠none:=fun n q=>by
  rw [XG] at q ⊢;obtain ⟨k,k1,k2⟩:=q;exact ⟨k,by simp [k1],k2⟩
 refine ⟨fun k hk=>?_,fun i j hij hj=>?_,by simp;omega,H.ts,fun t ht=>?_,H.l256⟩
 ·rcases zB8.1 hk with q|q
  ·exact H.chk k q
  ·rw [zB5.1 q];exact h1
 ·simp only [zB2,zD5] at hj;rw [YZ (show i<r.us.length by omega)];rcases zA7 j r.us.length with q|q
  ·rw [YZ q];exact H.nd i j hij q
  ·rw [pM q,show j - r.us.length=0 by omega];exact Qh.1 h2 _ (qK (by omega))
 ·obtain ⟨t1,t2,t3,t4⟩:=H.tt t ht;exact ⟨t1,t2,hm _ t3,hm _ t4⟩
def ncN:List UInt8:=[110,101,119,99,111,109,101,114]
def ncG:JO:=⟨⟨ncN,[],[],0,0,[],false,false,[]⟩,⟨none,0,0⟩⟩
def qfO (ws:List (List UInt8)) (hh aa:Bool):Gu:={ name:=ZG ws 1,rank:=QA (ZG ws 2),court:=QA (ZG ws 3),since:=ZY (ZG ws 4),side:=ZY (ZG ws 5),diet:=QA (ZG ws 6),host:=hh,access:=aa,tg:=ws.drop 8 }
section
variable {P:Program} {X:Extern} {sz:Nat} {L:Ks} {h h0:AH} {rs:List Rs} {ops:Array Oper} {os:List Oper} {o:Oper} {R:Ks→AH→Prop}
end
variable [Flag]
end Go.Proofs.Xx
namespace Go.Proofs.Xx
open Go Go.Proofs
noncomputable def Zd (r:Rl) (s:List UInt8):Rl×Int :=
 open Classical in if s.getLast? = some 10∧[] ∉ jv 32 (Z7 s) then QD r (jv 32 (Z7 s)) else (r,3)
theorem WsOk.of {s:List UInt8} (hs:s.length≤1000000) (h:[] ∉ jv 32 s):WsOk (jv 32 s):=by
 refine ⟨?_,fun w hw=>zD0 (Yb 32 s w hw) hs,h,fun w hw=>jW hw,List.length_pos_iff.2 (Jv 32 s)⟩;rw [Zv];have:s.countP (· == 32)≤s.length:=List.countP_le_length;omega
variable [Flag]
theorem qcW {h0 h:AH} {rs:List Rs} {p:Nat} {r:Rl} (S:Hs h0 h (jT p r :: rs)) (H:RO r) (s:List UInt8) (hs:s.length≤1000000):Fn Tryz.prog Xh 64 [.pointer (some ⟨p,0,none⟩),str s] h (fun v h'=>v = .int .i64 (Zd r s).2∧Hs h0 h' (jT p (Zd r s).1 :: rs)):=by
 have h64:=H.l64;have h256:=H.l256;have hcl:=qab s;refine zB rfl Tryz.func64 rfl rfl ?_;all_goals (repeat' (first|refine qA ?_|refine qw rfl ?_|refine qx ?_|refine qy ?_|refine qi ?_|refine qj ?_|refine qo ?_|(refine qf 0 ?_;refine mv ?_;refine qg ?_)))
 all_goals (repeat' (first|refine qA ?_|refine qw rfl ?_|refine qx ?_|refine qy ?_|refine qi ?_|refine qj ?_|refine qo ?_|(refine qf 1 ?_;refine mv ?_)))
 (refine qI rfl rfl rfl rfl rfl ((qa6 S.wf s hs).mono ?_);rintro _ h ⟨u,b,rfl,hb,x⟩)<;>(replace S:=S.XY x;clear x;obtain ⟨sv,rfl⟩:=S.sV u;refine mv ?_;refine vl ?_;refine vl ?_;refine mv ?_;refine mv ?_;refine qg ?_)
 cases b with
 | false =>
  have e:Zd r s=(r,3):=by
   unfold Zd;rw [if_neg];intro q;have:=hb.2 q;cases this
  rw [e];all_goals (repeat' (first|refine qA ?_|refine qw rfl ?_|refine qx ?_|refine qy ?_|refine qi ?_|refine qj ?_|refine qo ?_|(refine qf 2 ?_;refine mv ?_;refine vl ?_;refine qg ?_)|(refine qf 3 ?_;refine mv ?_;refine qg ?_)))
  refine qE ⟨_,rfl,?_⟩;exact ⟨rfl,S.tail⟩
 | true =>
  obtain ⟨hb1,hb2⟩:=hb.1 rfl;have W:=WsOk.of (s:=Z7 s) (by omega) hb2;obtain ⟨ws,hws⟩:∃ ws,ws=jv 32 (Z7 s):=⟨_,rfl⟩
  have e:Zd r s=QD r ws:=by unfold Zd;rw [if_pos ⟨hb1,hb2⟩,hws]
  rw [← hws] at S W;rw [e];clear e hb hb1 hb2 hws;have hpos:=W.pos;have hwl:=W.len;have hwz:ZG ws 0=ws.getD (Int.toNat 0) default:=rfl;all_goals (repeat' (first|refine qA ?_|refine qw rfl ?_|refine qx ?_|refine qy ?_|refine qi ?_|refine qj ?_|refine qo ?_|(refine qf 2 ?_;refine mv ?_;refine vl ?_;refine qg ?_)|(refine qf 4 ?_;refine mv ?_;refine qg ?_)|(refine qf 5 ?_;refine mv ?_;(first|refine Qd S ?_|refine zZ S rfl rfl ?_);(first|refine lB S rfl rfl ?_|refine qH S rfl rfl ?_|refine qZ S ?_|refine lH S ?_);refine qg ?_)|(refine qf 6 ?_;(refine tS ?_ ?_<;>intro hc)<;>(refine mv ?_;refine qg ?_))|(refine qf 7 ?_;(refine tS ?_ ?_<;>intro hc)<;>(refine mv ?_;refine qg ?_))|(refine qf 8 ?_;(refine tS ?_ ?_<;>intro hc)<;>(refine mv ?_;refine qg ?_))))
  ·have hg:ZG ws 0=Q9:=hc;all_goals (repeat' (first|refine qA ?_|refine qw rfl ?_|refine qx ?_|refine qy ?_|refine qi ?_|refine qj ?_|refine qo ?_|(refine qf 9 ?_;refine mv ?_)))
   (refine qI rfl rfl rfl rfl rfl ((qbN S W).mono ?_);rintro _ h (⟨hG,rfl,S⟩|⟨hG,tv,rfl,S⟩))<;>(refine mv ?_;refine vl ?_;refine vl ?_;(refine al S ?_;clear S;intro b h S);(first|(refine sB S rfl rfl ?_;clear S;intro h S)|(refine JU S rfl rfl ?_;clear S;intro h S));refine mv ?_;refine qg ?_)
   ·all_goals (repeat' (first|refine qA ?_|refine qw rfl ?_|refine qx ?_|refine qy ?_|refine qi ?_|refine qj ?_|refine qo ?_|(refine qf 9 ?_;refine mv ?_)|(refine qf 10 ?_;refine mv ?_;refine vl ?_;refine qg ?_)|(refine qf 11 ?_;refine mv ?_;refine qg ?_)))
    refine qE ⟨_,rfl,?_⟩;rw [qaH hg hG];exact ⟨rfl,S.tail⟩
   ·all_goals (repeat' (first|refine qA ?_|refine qw rfl ?_|refine qx ?_|refine qy ?_|refine qi ?_|refine qj ?_|refine qo ?_|(refine qf 9 ?_;refine mv ?_)|(refine qf 10 ?_;refine mv ?_;refine vl ?_;refine qg ?_)))
    obtain ⟨b8,hnm⟩:∃ x,x=b:=⟨_,rfl⟩;subst hnm;replace S:Hs h0 h (.blk b8 (eG ⟨JC ws,tv⟩) 24 :: .sl tv.val 9 1 eS (ws.drop 8) :: jT p r :: rs):=S;have S:=(show Hs h0 h (jT p r :: .blk b8 (eG ⟨JC ws,tv⟩) 24 :: .sl tv.val 9 1 eS (ws.drop 8) :: rs) from S.pick)
    have hl8:(JC ws).tg.length≤9223372036854775807:=by show (ws.drop 8).length≤_;rw [zB4];omega
    all_goals (repeat' (first|refine qA ?_|refine qw rfl ?_|refine qx ?_|refine qy ?_|refine qi ?_|refine qj ?_|refine qo ?_|(refine qf 12 ?_;refine mv ?_;(first|refine lB S rfl rfl ?_|refine qH S rfl rfl ?_|refine qZ S ?_|refine lH S ?_))))
    (refine qI rfl rfl rfl rfl rfl ((qce S ⟨JC ws,tv⟩ (fun h' S'=>Rd.JW S' (.there .here)) hl8 h64).mono ?_);rintro _ h ⟨rfl,S⟩)<;>(refine mv ?_;refine qg ?_)
    all_goals (repeat' (first|refine qA ?_|refine qw rfl ?_|refine qx ?_|refine qy ?_|refine qi ?_|refine qj ?_|refine qo ?_|(refine qf 12 ?_;refine mv ?_;(first|refine lB S rfl rfl ?_|refine qH S rfl rfl ?_|refine qZ S ?_|refine lH S ?_))))
    refine qE ⟨_,rfl,?_⟩;rw [VL hg hG];exact ⟨rfl,S.pick⟩
  ·have hf:ZG ws 0=jV:=hc;all_goals (repeat' (first|refine qA ?_|refine qw rfl ?_|refine qx ?_|refine qy ?_|refine qi ?_|refine qj ?_|refine qo ?_|(refine qf 13 ?_;refine mv ?_;refine qg ?_)|(refine qf 14 ?_;refine mv ?_;(first|refine ZH S ?_|refine XD S rfl rfl ?_);(first|refine cT ?_|refine cF ?_|(refine cS ?_ ?_<;>intro hc))<;>(refine qg ?_))|(refine qf 15 ?_;refine mv ?_;refine qg ?_)))
   ·refine qE ⟨_,rfl,?_⟩;rw [yV (.inl hf) (by omega)];exact ⟨rfl,S.tail⟩
   ·have S:=(show Hs h0 h (jT p r :: .sl sv.val 9 1 eS ws :: rs) from S.pick)
    have h3:ws.length=3:=by omega
    all_goals (repeat' (first|refine qA ?_|refine qw rfl ?_|refine qx ?_|refine qy ?_|refine qi ?_|refine qj ?_|refine qo ?_|(refine zG 16 ?_;refine mv ?_;refine mv ?_;(first|refine Qd S ?_|refine zZ S rfl rfl ?_);(first|refine lB S rfl rfl ?_|refine qH S rfl rfl ?_|refine qZ S ?_|refine lH S ?_);refine mv ?_;(first|refine Qd S ?_|refine zZ S rfl rfl ?_);(first|refine lB S rfl rfl ?_|refine qH S rfl rfl ?_|refine qZ S ?_|refine lH S ?_);refine mv ?_)))
    (refine qI rfl rfl rfl rfl rfl ((vP S (ZG ws 1) (ZG ws 2) 1 h256 H.ts).mono ?_);rintro _ h ⟨rfl,S⟩)<;>(refine mv ?_;refine qg ?_)
    all_goals (repeat' (first|refine qA ?_|refine qw rfl ?_|refine qx ?_|refine qy ?_|refine qi ?_|refine qj ?_|refine qo ?_|(refine zG 16 ?_;refine mv ?_;refine mv ?_;(first|refine Qd S ?_|refine zZ S rfl rfl ?_);(first|refine lB S rfl rfl ?_|refine qH S rfl rfl ?_|refine qZ S ?_|refine lH S ?_);refine mv ?_;(first|refine Qd S ?_|refine zZ S rfl rfl ?_);(first|refine lB S rfl rfl ?_|refine qH S rfl rfl ?_|refine qZ S ?_|refine lH S ?_);refine mv ?_)))
    refine qE ⟨_,rfl,?_⟩;rw [YH hf h3];exact ⟨rfl,S.pick⟩
  ·have hf:ZG ws 0=JR:=hc;all_goals (repeat' (first|refine qA ?_|refine qw rfl ?_|refine qx ?_|refine qy ?_|refine qi ?_|refine qj ?_|refine qo ?_|(refine qf 14 ?_;refine mv ?_;(first|refine ZH S ?_|refine XD S rfl rfl ?_);(first|refine cT ?_|refine cF ?_|(refine cS ?_ ?_<;>intro hc))<;>(refine qg ?_))|(refine qf 15 ?_;refine mv ?_;refine qg ?_)))
   ·refine qE ⟨_,rfl,?_⟩;rw [yV (.inr hf) (by omega)];exact ⟨rfl,S.tail⟩
   ·have S:=(show Hs h0 h (jT p r :: .sl sv.val 9 1 eS ws :: rs) from S.pick)
    have h3:ws.length=3:=by omega
    all_goals (repeat' (first|refine qA ?_|refine qw rfl ?_|refine qx ?_|refine qy ?_|refine qi ?_|refine qj ?_|refine qo ?_|(refine zG 16 ?_;refine mv ?_;refine mv ?_;(first|refine Qd S ?_|refine zZ S rfl rfl ?_);(first|refine lB S rfl rfl ?_|refine qH S rfl rfl ?_|refine qZ S ?_|refine lH S ?_);refine mv ?_;(first|refine Qd S ?_|refine zZ S rfl rfl ?_);(first|refine lB S rfl rfl ?_|refine qH S rfl rfl ?_|refine qZ S ?_|refine lH S ?_);refine mv ?_)))
    (refine qI rfl rfl rfl rfl rfl ((vP S (ZG ws 1) (ZG ws 2) 2 h256 H.ts).mono ?_);rintro _ h ⟨rfl,S⟩)<;>(refine mv ?_;refine qg ?_)
    all_goals (repeat' (first|refine qA ?_|refine qw rfl ?_|refine qx ?_|refine qy ?_|refine qi ?_|refine qj ?_|refine qo ?_|(refine zG 16 ?_;refine mv ?_;refine mv ?_;(first|refine Qd S ?_|refine zZ S rfl rfl ?_);(first|refine lB S rfl rfl ?_|refine qH S rfl rfl ?_|refine qZ S ?_|refine lH S ?_);refine mv ?_;(first|refine Qd S ?_|refine zZ S rfl rfl ?_);(first|refine lB S rfl rfl ?_|refine qH S rfl rfl ?_|refine qZ S ?_|refine lH S ?_);refine mv ?_)))
    refine qE ⟨_,rfl,?_⟩;rw [WY hf h3];exact ⟨rfl,S.pick⟩
  ·skip
   all_goals (repeat' (first|refine qA ?_|refine qw rfl ?_|refine qx ?_|refine qy ?_|refine qi ?_|refine qj ?_|refine qo ?_|(refine qf 17 ?_;refine mv ?_;refine qg ?_)))
   refine qE ⟨_,rfl,?_⟩;rw [pF (by assumption) (by assumption) (by assumption)];exact ⟨rfl,S.tail⟩
end Go.Proofs.Xx
namespace Go.Proofs.Xx
open Go Go.Proofs
def zY:List (List UInt8)→List (List UInt8)
 | []=>[]
 | [w]=>if w=[] then [] else [w]
 | w :: u :: r=>(w ++ [10]) :: zY (u :: r)
theorem Ye {w:List UInt8} {r:List (List UInt8)} (h:r≠[]):zY (w :: r)=(w ++ [10]) :: zY r:=by
 match r,h with
 | u :: r,_=>rfl
theorem yS:∀ r:List (List UInt8),(zY r).length≤r.length
 | []=>zA3 _
 | [w]=>by unfold zY;split<;>simp
 | w :: u :: r=>by have:=yS (u :: r);simp only [zY,zC4] at this ⊢;omega
theorem PQ:zY (jv 10 [])=[]:=by simp [jv,zY]
theorem qbn {t:List UInt8} (ht:t≠[]) (h:QH 10 t=none):zY (jv 10 t)=[t]:=by
 rw [Xc (Yk.1 h),zY,if_neg ht]
theorem qbm {t:List UInt8} {m:Nat} (h:QH 10 t=some m):zY (jv 10 t)=t.take (m+1) :: zY (jv 10 (t.drop (m+1))):=by
 obtain ⟨h1,h2,h3⟩:=ZE h;rw [gz h,Ye (Jv 10 _)];congr 1
 have e:t[m]? = some 10:=by
  conv=>lhs;rw [h3]
  rw [List.getElem?_append_right (by simp;omega),zA9,Nat.min_eq_left (by omega),zG5];rfl
 rw [List.take_add_one,e];rfl
inductive PB where
 | ok (r:Rl)
 | bad (i:Nat) (e:Int)
open Classical in
noncomputable def Xi:Rl→Nat→List (List UInt8)→PB
 | r,i,[]=>.ok r
 | r,i,s :: l=>if (Zd r s).2≠0 then .bad i (Zd r s).2 else Xi (Zd r s).1 (i+1) l
theorem Kr {r:Rl} {i:Nat} {s:List UInt8} {l:List (List UInt8)} (h:(Zd r s).2≠0):Xi r i (s :: l) = .bad i (Zd r s).2:=by rw [Xi,if_pos h]
theorem wE {r:Rl} {i:Nat} {s:List UInt8} {l:List (List UInt8)} (h:(Zd r s).2=0):Xi r i (s :: l)=Xi (Zd r s).1 (i+1) l:=by rw [Xi,if_neg (by simpa using h)]
noncomputable def Z4 (s:List UInt8):PB:=if 65536<s.length then .bad 0 7 else Xi ⟨[],[]⟩ 0 (zY (jv 10 s))
def PD (h0:AH) [Flag] (l:Nat) (ls:List (List UInt8)) (RS:Nat→List Rs→Prop) (RB:List Rs→Prop):Prop :=
 ∀ k rs own h,k<ls.length→RS k rs→Hs h0 h (rs ++ own)→Yd Tryz.prog Xh l [.int .i64 k,str (ls.getD k default)] h (fun r h'=>(r = .bool true∧∃ rs',RS (k+1) rs'∧Hs h0 h' (rs' ++ own))∨(r = .bool false∧∃ rs',RB rs'∧Hs h0 h' (rs' ++ own)))
variable [Flag]
theorem qaG {h0 h:AH} {rs:List Rs} {b1 l:Nat} (s:List UInt8) (hs:s.length≤1000000) (S:Hs h0 h (.blk b1 [str s] 9 :: rs)) (RS:Nat→List Rs→Prop) (RB:List Rs→Prop) (hr:RS 0 rs) (Y:PD h0 l (zY (jv 10 s)) RS RB) :
 Fn Tryz.prog Xh 118 [yv l,.pointer (some ⟨b1,0,none⟩)] h (fun _ h'=>(∃ rs',RS (zY (jv 10 s)).length rs'∧Hs h0 h' rs')∨(∃ rs',RB rs'∧Hs h0 h' rs')):=by
 obtain ⟨ls,hls⟩:∃ ls,ls=zY (jv 10 s):=⟨_,rfl⟩
 rw [← hls] at Y ⊢;have hll:ls.length≤1000001:=by
  have h1:=yS (jv 10 s);have h2:=Zv 10 s;have h3:s.countP (· == 10)≤s.length:=List.countP_le_length;rw [← hls] at h1;omega
 refine zB rfl Tryz.func118 rfl rfl ?_;all_goals (repeat' (first|refine qA ?_|refine qw rfl ?_|refine qx ?_|refine qy ?_|refine qi ?_|refine qj ?_|refine qo ?_|(refine qf 0 ?_;refine mv ?_;refine qg ?_)))
 refine zL (σ:=Nat×List UInt8) (fun (k,t) h'=>k≤ls.length∧t.length≤1000000∧ls.drop k=zY (jv 10 t)∧∃ rs',RS k rs'∧Hs h0 h' (.blk b1 [str t] 9 :: rs')) (fun (k,t)=>t.length) (fun (k,t)=>[(0,yv l),(1,.pointer (some ⟨b1,0,none⟩)),(3,.int .i64 k)]) (0,s) zh ?_ ?_
 ·exact ⟨zB0 _,hs,by rw [hls];rfl,rs,hr,S⟩
 clear S hr;rintro ⟨k,t⟩ h ⟨k1,t1,hk,rs,hr,S⟩;all_goals (repeat' (first|refine qA ?_|refine qw rfl ?_|refine qx ?_|refine qy ?_|refine qi ?_|refine qj ?_|refine qo ?_|(refine qf 1 ?_;(first|refine lB S rfl rfl ?_|refine qH S rfl rfl ?_|refine qZ S ?_|refine lH S ?_);(refine tS ?_ ?_<;>intro hc)<;>(refine qg ?_))))
 ·subst hc;rw [PQ] at hk;have:ls.length≤k:=List.drop_eq_nil_iff.1 hk;obtain rfl:k=ls.length:=by omega
  refine ⟨_,rfl,?_⟩;exact .inl ⟨rs,hr,S.tail⟩
 ·have perm:∀ x:Rs,(x :: rs).Perm (rs ++ [x]):=fun x=>List.perm_append_comm (l₁:=[x]) (l₂:=rs);have tp:0<t.length:=List.length_pos_iff.2 (by assumption);all_goals (repeat' (first|refine qA ?_|refine qw rfl ?_|refine qx ?_|refine qy ?_|refine qi ?_|refine qj ?_|refine qo ?_|(refine qf 3 ?_;(first|refine lB S rfl rfl ?_|refine qH S rfl rfl ?_|refine qZ S ?_|refine lH S ?_))))
  (refine qI rfl rfl rfl rfl rfl ((GV t 10).mono ?_);rintro _ h ⟨rfl,rfl⟩)<;>((first|refine ad ?_|refine vl ?_);refine mv ?_;refine qg ?_)
  rcases hf:QH 10 t with _|m
  ·rw [qaP hf];rw [qbn (by assumption) hf] at hk;have hkl:k<ls.length:=by
    have:=congrArg List.length hk;simp at this;omega
   have hg:ls.getD k default=t:=by
    rw [zG6 hkl] at hk;rw [zA2,zA4 hkl];exact (List.cons.inj hk).1
   all_goals (repeat' (first|refine qA ?_|refine qw rfl ?_|refine qx ?_|refine qy ?_|refine qi ?_|refine qj ?_|refine qo ?_|(refine qf 3 ?_;(first|refine lB S rfl rfl ?_|refine qH S rfl rfl ?_|refine qZ S ?_|refine lH S ?_))))
   try rw [show IntKind.i64.wrap (-1+1)=0 from by decide]
   all_goals (repeat' (first|refine qA ?_|refine qw rfl ?_|refine qx ?_|refine qy ?_|refine qi ?_|refine qj ?_|refine qo ?_|(refine qf 4 ?_;refine mv ?_;(first|refine cT ?_|refine cF ?_|(refine cS ?_ ?_<;>intro hc))<;>(refine qg ?_))|(refine qf 5 ?_;(first|refine lB S rfl rfl ?_|refine qH S rfl rfl ?_|refine qZ S ?_|refine lH S ?_);refine tl ?_;refine mv ?_;refine qg ?_)|(refine qf 6 ?_;refine mv ?_;refine mv ?_;(first|refine lB S rfl rfl ?_|refine qH S rfl rfl ?_|refine qZ S ?_|refine lH S ?_);refine mv ?_;refine tsl ?_)))
   have e2:(t.drop 0).take (t.length - 0)=t:=by simp
   rw [e2];refine Gn rfl rfl rfl rfl (((show Yd Tryz.prog Xh l [.int .i64 k,str t] h _ from hg ▸ Y k rs [.blk b1 [str t] 9] h hkl hr (S.perm (perm _)))).mono ?_);rintro _ h (⟨rfl,rs',hr',S⟩|⟨rfl,rs',hr',S⟩);all_goals (refine vl ?_;refine qg ?_)
   ·replace S:=S.perm (List.perm_append_comm (l₁:=rs') (l₂:=[.blk b1 [str t] 9]));replace S:Hs h0 h (.blk b1 [str t] 9 :: rs'):=S;all_goals (repeat' (first|refine qA ?_|refine qw rfl ?_|refine qx ?_|refine qy ?_|refine qi ?_|refine qj ?_|refine qo ?_|(refine qf 2 ?_;refine mv ?_;(first|refine ad ?_|refine vl ?_);refine mv ?_;refine qg ?_)|(refine qf 7 ?_;(first|refine lB S rfl rfl ?_|refine qH S rfl rfl ?_|refine qZ S ?_|refine lH S ?_);refine mv ?_;refine tsl ?_;(first|(refine sB S rfl rfl ?_;clear S;intro h S)|(refine JU S rfl rfl ?_;clear S;intro h S));refine qg ?_)))
    have e3:(t.drop t.length).take (t.length - t.length)=[]:=by simp
    rw [e3] at S;refine ⟨(k+1,[]),?_,?_,zh⟩
    ·exact tp
    ·refine ⟨by (try dsimp only);omega,by simp,?_,rs',hr',S⟩;rw [PQ,← List.drop_drop,hk];rfl
   ·replace S:=S.perm (List.perm_append_comm (l₁:=rs') (l₂:=[.blk b1 [str t] 9]));all_goals (repeat' (first|refine qA ?_|refine qw rfl ?_|refine qx ?_|refine qy ?_|refine qi ?_|refine qj ?_|refine qo ?_|(refine qf 1 ?_;(first|refine lB S rfl rfl ?_|refine qH S rfl rfl ?_|refine qZ S ?_|refine lH S ?_);(refine tS ?_ ?_<;>intro hc)<;>(refine qg ?_))|(refine qf 2 ?_;refine mv ?_;(first|refine ad ?_|refine vl ?_);refine mv ?_;refine qg ?_)|(refine qf 3 ?_;(first|refine lB S rfl rfl ?_|refine qH S rfl rfl ?_|refine qZ S ?_|refine lH S ?_))|(refine qf 4 ?_;refine mv ?_;(first|refine cT ?_|refine cF ?_|(refine cS ?_ ?_<;>intro hc))<;>(refine qg ?_))|(refine qf 5 ?_;(first|refine lB S rfl rfl ?_|refine qH S rfl rfl ?_|refine qZ S ?_|refine lH S ?_);refine tl ?_;refine mv ?_;refine qg ?_)|(refine qf 6 ?_;refine mv ?_;refine mv ?_;(first|refine lB S rfl rfl ?_|refine qH S rfl rfl ?_|refine qZ S ?_|refine lH S ?_);refine mv ?_;refine tsl ?_)|(refine qf 7 ?_;(first|refine lB S rfl rfl ?_|refine qH S rfl rfl ?_|refine qZ S ?_|refine lH S ?_);refine mv ?_;refine tsl ?_;(first|(refine sB S rfl rfl ?_;clear S;intro h S)|(refine JU S rfl rfl ?_;clear S;intro h S));refine qg ?_)))
    refine qE ⟨_,rfl,?_⟩;exact .inr ⟨rs',hr',Hs.tail (r:=.blk b1 [str t] 9) S⟩
  ·rw [vz hf];rw [qbm hf] at hk;obtain ⟨m1,m2,m3⟩:=ZE hf;have hkl:k<ls.length:=by
    have:=congrArg List.length hk;simp at this;omega
   have hg:ls.getD k default=t.take (m+1):=by
    rw [zG6 hkl] at hk;rw [zA2,zA4 hkl];exact (List.cons.inj hk).1
   have hk2:ls.drop (k+1)=zY (jv 10 (t.drop (m+1))):=by
    rw [zG6 hkl] at hk;exact (List.cons.inj hk).2
   all_goals (repeat' (first|refine qA ?_|refine qw rfl ?_|refine qx ?_|refine qy ?_|refine qi ?_|refine qj ?_|refine qo ?_|(refine qf 3 ?_;(first|refine lB S rfl rfl ?_|refine qH S rfl rfl ?_|refine qZ S ?_|refine lH S ?_))))
   rw [wrap_i64 (by omega) (by omega)];all_goals (repeat' (first|refine qA ?_|refine qw rfl ?_|refine qx ?_|refine qy ?_|refine qi ?_|refine qj ?_|refine qo ?_|(refine qf 4 ?_;refine mv ?_;(first|refine cT ?_|refine cF ?_|(refine cS ?_ ?_<;>intro hc))<;>(refine qg ?_))))
   all_goals first|(exfalso;omega)|skip
   all_goals (repeat' (first|refine qA ?_|refine qw rfl ?_|refine qx ?_|refine qy ?_|refine qi ?_|refine qj ?_|refine qo ?_|(refine qf 6 ?_;refine mv ?_;refine mv ?_;(first|refine lB S rfl rfl ?_|refine qH S rfl rfl ?_|refine qZ S ?_|refine lH S ?_);refine mv ?_;refine tsl ?_)))
   have e2:(t.drop 0).take (m+1 - 0)=t.take (m+1):=by simp
   rw [e2];refine Gn rfl rfl rfl rfl (((show Yd Tryz.prog Xh l [.int .i64 k,str (t.take (m+1))] h _ from hg ▸ Y k rs [.blk b1 [str t] 9] h hkl hr (S.perm (perm _)))).mono ?_);rintro _ h (⟨rfl,rs',hr',S⟩|⟨rfl,rs',hr',S⟩);all_goals (refine vl ?_;refine qg ?_)
   ·replace S:=S.perm (List.perm_append_comm (l₁:=rs') (l₂:=[.blk b1 [str t] 9]));replace S:Hs h0 h (.blk b1 [str t] 9 :: rs'):=S;all_goals (repeat' (first|refine qA ?_|refine qw rfl ?_|refine qx ?_|refine qy ?_|refine qi ?_|refine qj ?_|refine qo ?_|(refine qf 2 ?_;refine mv ?_;(first|refine ad ?_|refine vl ?_);refine mv ?_;refine qg ?_)|(refine qf 7 ?_;(first|refine lB S rfl rfl ?_|refine qH S rfl rfl ?_|refine qZ S ?_|refine lH S ?_);refine mv ?_;refine tsl ?_;(first|(refine sB S rfl rfl ?_;clear S;intro h S)|(refine JU S rfl rfl ?_;clear S;intro h S));refine qg ?_)))
    have e3:(t.drop (m+1)).take (t.length - (m+1))=t.drop (m+1):=zF7 (by simp);rw [e3] at S;refine ⟨(k+1,t.drop (m+1)),?_,?_,zh⟩
    ·show (t.drop (m+1)).length<t.length;rw [zB4];omega
    ·exact ⟨by (try dsimp only);omega,by (try dsimp only);rw [zB4];omega,hk2,rs',hr',S⟩
   ·replace S:=S.perm (List.perm_append_comm (l₁:=rs') (l₂:=[.blk b1 [str t] 9]));all_goals (repeat' (first|refine qA ?_|refine qw rfl ?_|refine qx ?_|refine qy ?_|refine qi ?_|refine qj ?_|refine qo ?_|(refine qf 2 ?_;refine mv ?_;(first|refine ad ?_|refine vl ?_);refine mv ?_;refine qg ?_)|(refine qf 7 ?_;(first|refine lB S rfl rfl ?_|refine qH S rfl rfl ?_|refine qZ S ?_|refine lH S ?_);refine mv ?_;refine tsl ?_;(first|(refine sB S rfl rfl ?_;clear S;intro h S)|(refine JU S rfl rfl ?_;clear S;intro h S));refine qg ?_)))
    refine qE ⟨_,rfl,?_⟩;exact .inr ⟨rs',hr',Hs.tail (r:=.blk b1 [str t] 9) S⟩
end Go.Proofs.Xx
namespace Go.Proofs.Xx
open Go Go.Proofs
theorem Y6:∀ l:List (List UInt8),zY (l ++ [[]])=l.map (· ++ [10])
 | []=>rfl
 | w :: r=>by
  rw [zC6,Ye (by simp),Y6 r];rfl
theorem Kq {w:List UInt8} (hw:w≠[]):∀ ini:List (List UInt8),zY (ini ++ [w])=ini.map (· ++ [10]) ++ [w]
 | []=>by simp [zY,hw]
 | u :: r=>by
  rw [zC6,Ye (by simp),Kq hw r];rfl
theorem PW (w:List UInt8):(w ++ [10]).getLast? = some 10:=by simp
theorem qee (w:List UInt8):Z7 (w ++ [10])=w:=by
 unfold Z7;rw [if_pos (PW w)];simp
theorem qdh {r:Rl} {w:List UInt8} (h:[] ∉ jv 32 w):Zd r (w ++ [10])=QD r (jv 32 w):=by
 unfold Zd;rw [qee,if_pos ⟨PW w,h⟩]
structure LnsOk (s:List UInt8) (l:List (List UInt8)) (b:Bool) (ls:List (List UInt8)):Prop where
 len:ls.length=l.length
 fr:∀ k,k<l.length→(10:UInt8) ∉ l.getD k default∧(l.getD k default).length≤s.length
 nl:∀ k,k<l.length→(b=true∨k+1<l.length)→ls.getD k default=l.getD k default ++ [10]
 no:∀ k,k<l.length→b=false→¬ k+1<l.length→ls.getD k default=l.getD k default
theorem LnsOk.whole {s:List UInt8} {l:List (List UInt8)} (h:jv 10 s=l ++ [[]]):LnsOk s l true (zY (jv 10 s)):=by
 have e:zY (jv 10 s)=l.map (· ++ [10]):=by rw [h,Y6]
 rw [e];refine ⟨by simp,fun k hk=>?_,fun k hk _=>?_,fun k hk q=>by cases q⟩
 ·have:l.getD k default∈jv 10 s:=by rw [h];exact List.mem_append_left _ (qK hk)
  exact ⟨jW this,Yb 10 s _ this⟩
 ·rw [zA2,zH8,zA2,zA4 hk];rfl
theorem LnsOk.part {s:List UInt8} {ini:List (List UInt8)} {w:List UInt8} (h:jv 10 s=ini ++ [w]) (hw:w≠[]):LnsOk s (ini ++ [w]) false (zY (jv 10 s)):=by
 have e:zY (jv 10 s)=ini.map (· ++ [10]) ++ [w]:=by rw [h,Kq hw]
 rw [e];refine ⟨by simp,fun k hk=>?_,fun k hk q=>?_,fun k hk _ q=>?_⟩
 ·have:(ini ++ [w]).getD k default∈jv 10 s:=by rw [h];exact qK hk
  exact ⟨jW this,Yb 10 s _ this⟩
 ·rcases q with q|q
  ·cases q
  ·simp only [zB2,zD5] at q;have hk2:k<ini.length:=by omega
   rw [zA2,zA2,zH7 (by simpa using hk2),zH7 hk2,zH8,zA4 hk2];rfl
 ·simp only [zB2,zD5] at q hk;obtain rfl:k=ini.length:=by omega
  rw [zA2,zA2,List.getElem?_append_right (by simp),List.getElem?_append_right (zA3 _)];simp
theorem qbF {r:Rl} (H:RO r) {ws:List (List UInt8)} (h:(QD r ws).2=0):RO (QD r ws).1:=by
 unfold QD at h ⊢;split
 ·rename_i h1
  rw [if_pos h1] at h;split
  ·rename_i h2;rw [if_pos h2] at h;exact H.add h
  ·exact H
 ·rename_i h1
  rw [if_neg h1] at h;split
  ·rename_i h2
   rw [if_pos h2] at h;split
   ·rename_i h3;rw [if_pos h3] at h;exact H.tie h
   ·exact H
  ·exact H
theorem qdg {r:Rl} (H:RO r) {s:List UInt8} (h:(Zd r s).2=0):RO (Zd r s).1:=by
 unfold Zd at h ⊢;split
 ·rename_i h1;rw [if_pos h1] at h;exact qbF H h
 ·exact H
theorem qfw:RO ⟨[],[]⟩:=by
 refine ⟨?_,?_,?_,?_,?_,?_⟩<;>simp [TS]
theorem WP:∀ {P:List (List UInt8)} {s:List UInt8},s∈zY P→∃ w∈P,s.length≤w.length+1
 | [],s,h=>by cases h
 | [w],s,h=>by
  unfold zY at h;split at h
  ·cases h
  ·rw [zB5.1 h];exact ⟨w,by simp,by omega⟩
 | w :: u :: r,s,h=>by
  rcases zE7.1 (show s∈(w ++ [10]) :: zY (u :: r) from h) with rfl|h
  ·exact ⟨w,by simp,by simp⟩
  ·obtain ⟨x,x1,x2⟩:=WP h;exact ⟨x,List.mem_cons_of_mem _ x1,x2⟩
def rlV0:RlV:=⟨⟨none,0,0⟩,⟨none,0,0⟩,[]⟩
def PaR (o:jB) (l b5 b4 b3 b2 p:Nat) (ls:List (List UInt8)) (k:Nat) (rs:List Rs):Prop :=
 ∃ r,RO r∧Xi ⟨[],[]⟩ 0 ls=Xi r k (ls.drop k)∧rs=[Gq l o,jT p r,.blk b5 [.pointer (some ⟨p,0,none⟩)] 40,.blk b4 [.int .i64 0] 25,.blk b3 [.int .i64 0] 3,.blk b2 [.slice none 0 0,.slice none 0 0] 32]
def PaB (o:jB) (l b4 b3 b2:Nat) (ls:List (List UInt8)) (rs:List Rs):Prop :=
 ∃ (i:Nat) (e:Int),Xi ⟨[],[]⟩ 0 ls = .bad i e∧rs=[Gq l o,.blk b4 [.int .i64 e] 25,.blk b3 [.int .i64 i] 3,.blk b2 [.slice none 0 0,.slice none 0 0] 32]
variable [Flag]
theorem pz {h0 h:AH} {rs:List Rs} {b1 l:Nat} (s:List UInt8) (ls:List (List UInt8)) (hls:ls=zY (jv 10 s)) (hs:s.length≤1000000) (S:Hs h0 h (.blk b1 [str s] 9 :: rs)) (RS:Nat→List Rs→Prop) (RB:List Rs→Prop) (hr:RS 0 rs) (Y:PD h0 l ls RS RB) :
 Fn Tryz.prog Xh 118 [yv l,.pointer (some ⟨b1,0,none⟩)] h (fun _ h'=>(∃ rs',RS ls.length rs'∧Hs h0 h' rs')∨(∃ rs',RB rs'∧Hs h0 h' rs')):=by
 subst hls;exact qaG s hs S RS RB hr Y
def qbV:jB→jB
 | .loop _ _ sz t ps a b=>.loop .done (some .ret) sz t ps a b
 | o=>o
theorem qbE {h0 h:AH} {b1 l b5 b4 b3 b2 p:Nat} {o:jB} (s:List UInt8) (ls:List (List UInt8)) (hls:ls=zY (jv 10 s)) (hs:s.length≤1000000) (S:Hs h0 h [.blk b1 [str s] 9,Gq l o,jT p ⟨[],[]⟩,.blk b5 [.pointer (some ⟨p,0,none⟩)] 40,.blk b4 [.int .i64 0] 25,.blk b3 [.int .i64 0] 3,.blk b2 [.slice none 0 0,.slice none 0 0] 32])
 (Y:PD h0 l ls (PaR o l b5 b4 b3 b2 p ls) (PaB (qbV o) l b4 b3 b2 ls)) :
 Fn Tryz.prog Xh 118 [yv l,.pointer (some ⟨b1,0,none⟩)] h (fun _ h'=>(∃ rs',PaR o l b5 b4 b3 b2 p ls ls.length rs'∧Hs h0 h' rs')∨(∃ rs',PaB (qbV o) l b4 b3 b2 ls rs'∧Hs h0 h' rs')) :=
 pz s ls hls hs S _ _ ⟨⟨[],[]⟩,qfw,rfl,rfl⟩ Y
theorem qaM {h0:AH} (w:WfH h0) (s:List UInt8):Fn Tryz.prog Xh 63 [str s] h0 (fun v h'=>∃ b,v = .func (.func 118) #[] #[.pointer (some ⟨b,0,none⟩)]∧Hs h0 h' [.blk b [str s] 9]):=by
 have S:=Hs.start w;refine zB rfl Tryz.func63 rfl rfl ?_;all_goals (repeat' (first|refine qA ?_|refine qw rfl ?_|refine qx ?_|refine qy ?_|refine qi ?_|refine qj ?_|refine qo ?_|(refine qf 0 ?_;(refine bx S ?_;clear S;intro b h S);refine mv ?_;refine qg ?_)|(refine qf 1 ?_;refine vl ?_;refine mv ?_;refine qg ?_)))
 refine qE ⟨_,rfl,?_⟩;exact ⟨_,rfl,S⟩
theorem y8 {h0:AH} (w:WfH h0) (s:List UInt8):Fn Tryz.prog Xh 20 [str s] h0 (fun u h'=>(∃ (r:Rl) (v:RlV),Z4 s = .ok r∧RO r∧u = .tuple #[v.val,.int .i64 0,.int .i64 0]∧v.gs.map (·.toGu)=r.us∧Hs h0 h' (wB v r.ts))∨(∃ (i:Nat) (e:Int),Z4 s = .bad i e∧u = .tuple #[rlV0.val,.int .i64 i,.int .i64 e]∧Hs h0 h' [])):=by
 have S:=Hs.start w;refine zB rfl Tryz.func20 rfl rfl ?_;all_goals (repeat' (first|refine qA ?_|refine qw rfl ?_|refine qx ?_|refine qy ?_|refine qi ?_|refine qj ?_|refine qo ?_|(refine qf 0 ?_;(refine al S ?_;clear S;intro b h S);(refine al S ?_;clear S;intro b h S);(refine al S ?_;clear S;intro b h S);refine qg ?_)))
 obtain ⟨b4,hnm⟩:∃ x,x=b:=⟨_,rfl⟩;subst hnm;obtain ⟨b3,hnm⟩:∃ x,x=b:=⟨_,rfl⟩;subst hnm;obtain ⟨b2,hnm⟩:∃ x,x=b:=⟨_,rfl⟩;subst hnm;replace S:Hs h0 h [.blk b4 [.int .i64 0] 25,.blk b3 [.int .i64 0] 3,.blk b2 [.slice none 0 0,.slice none 0 0] 32]:=S;all_goals (repeat' (first|refine qA ?_|refine qw rfl ?_|refine qx ?_|refine qy ?_|refine qi ?_|refine qj ?_|refine qo ?_|(refine qf 1 ?_;refine mv ?_;refine tl ?_;(first|refine cT ?_|refine cF ?_|(refine cS ?_ ?_<;>intro hc))<;>(refine qg ?_))|(refine qf 2 ?_;refine vl ?_;(first|(refine sB S rfl rfl ?_;clear S;intro h S)|(refine JU S rfl rfl ?_;clear S;intro h S));(first|(refine sB S rfl rfl ?_;clear S;intro h S)|(refine JU S rfl rfl ?_;clear S;intro h S));(first|(refine sB S rfl rfl ?_;clear S;intro h S)|(refine JU S rfl rfl ?_;clear S;intro h S));refine qg ?_)))
 ·refine qE ⟨_,zQ S rfl (by first|exact .here|exact .there .here|exact .there (.there .here)|exact .there (.there (.there .here))|exact .there (.there (.there (.there .here)))|exact .there (.there (.there (.there (.there .here))))|exact .there (.there (.there (.there (.there (.there .here)))))|exact .there (.there (.there (.there (.there (.there (.there .here))))))|exact .there (.there (.there (.there (.there (.there (.there (.there .here)))))))|exact .there (.there (.there (.there (.there (.there (.there (.there (.there .here))))))))|exact .there (.there (.there (.there (.there (.there (.there (.there (.there (.there .here)))))))))|exact .there (.there (.there (.there (.there (.there (.there (.there (.there (.there (.there .here))))))))))|exact .there (.there (.there (.there (.there (.there (.there (.there (.there (.there (.there (.there .here)))))))))))) (by exact rfl) (zQ S rfl (by first|exact .here|exact .there .here|exact .there (.there .here)|exact .there (.there (.there .here))|exact .there (.there (.there (.there .here)))|exact .there (.there (.there (.there (.there .here))))|exact .there (.there (.there (.there (.there (.there .here)))))|exact .there (.there (.there (.there (.there (.there (.there .here))))))|exact .there (.there (.there (.there (.there (.there (.there (.there .here)))))))|exact .there (.there (.there (.there (.there (.there (.there (.there (.there .here))))))))|exact .there (.there (.there (.there (.there (.there (.there (.there (.there (.there .here)))))))))|exact .there (.there (.there (.there (.there (.there (.there (.there (.there (.there (.there .here))))))))))|exact .there (.there (.there (.there (.there (.there (.there (.there (.there (.there (.there (.there .here)))))))))))) (by exact rfl) (zQ S rfl (by first|exact .here|exact .there .here|exact .there (.there .here)|exact .there (.there (.there .here))|exact .there (.there (.there (.there .here)))|exact .there (.there (.there (.there (.there .here))))|exact .there (.there (.there (.there (.there (.there .here)))))|exact .there (.there (.there (.there (.there (.there (.there .here))))))|exact .there (.there (.there (.there (.there (.there (.there (.there .here)))))))|exact .there (.there (.there (.there (.there (.there (.there (.there (.there .here))))))))|exact .there (.there (.there (.there (.there (.there (.there (.there (.there (.there .here)))))))))|exact .there (.there (.there (.there (.there (.there (.there (.there (.there (.there (.there .here))))))))))|exact .there (.there (.there (.there (.there (.there (.there (.there (.there (.there (.there (.there .here)))))))))))) (by exact rfl) (by exact rfl))),?_⟩;have:65536<s.length:=by omega
  exact .inr ⟨0,7,by unfold Z4;rw [if_pos this],rfl,S.drop⟩
 ·have hs:¬ 65536<s.length:=by omega
  have hpb:Z4 s=Xi ⟨[],[]⟩ 0 (zY (jv 10 s)):=by unfold Z4;rw [if_neg hs]
  rw [hpb];all_goals (repeat' (first|refine qA ?_|refine qw rfl ?_|refine qx ?_|refine qy ?_|refine qi ?_|refine qj ?_|refine qo ?_|(refine qf 3 ?_;skip)))
  (refine qI rfl rfl rfl rfl rfl ((qbA S.wf).mono ?_);rintro _ h ⟨p,rfl,x⟩)<;>(replace S:=S.XY x;clear x;(refine al S ?_;clear S;intro b h S);(first|(refine sB S rfl rfl ?_;clear S;intro h S)|(refine JU S rfl rfl ?_;clear S;intro h S));refine qg ?_)
  obtain ⟨b5,hnm⟩:∃ x,x=b:=⟨_,rfl⟩;subst hnm;replace S:Hs h0 h [.blk b5 [.pointer (some ⟨p,0,none⟩)] 40,jT p ⟨[],[]⟩,.blk b4 [.int .i64 0] 25,.blk b3 [.int .i64 0] 3,.blk b2 [.slice none 0 0,.slice none 0 0] 32]:=S;all_goals (repeat' (first|refine qA ?_|refine qw rfl ?_|refine qx ?_|refine qy ?_|refine qi ?_|refine qj ?_|refine qo ?_|(refine qf 4 ?_;refine mv ?_)))
  (refine qI rfl rfl rfl rfl rfl ((qaM S.wf s).mono ?_);rintro _ h ⟨b1,rfl,x⟩)<;>(replace S:=S.XY x;clear x;refine qg ?_)
  obtain ⟨ls,hls⟩:∃ ls,ls=zY (jv 10 s):=⟨_,rfl⟩
  rw [← hls];have hln:∀ k,k<ls.length→(ls.getD k default).length≤1000000:=fun k hk=>by
   obtain ⟨x,x1,x2⟩:=WP (show ls.getD k default∈zY (jv 10 s) from hls ▸ qK hk);have:=Yb 10 s x x1;omega
  all_goals (repeat' (first|refine qA ?_|refine qw rfl ?_|refine qx ?_|refine qy ?_|refine qi ?_|refine qj ?_|refine qo ?_|(refine qf 0 ?_;(refine al S ?_;clear S;intro b h S);(refine al S ?_;clear S;intro b h S);(refine al S ?_;clear S;intro b h S);refine qg ?_)|(refine qf 1 ?_;refine mv ?_;refine tl ?_;(first|refine cT ?_|refine cF ?_|(refine cS ?_ ?_<;>intro hc))<;>(refine qg ?_))|(refine qf 2 ?_;refine vl ?_;(first|(refine sB S rfl rfl ?_;clear S;intro h S)|(refine JU S rfl rfl ?_;clear S;intro h S));(first|(refine sB S rfl rfl ?_;clear S;intro h S)|(refine JU S rfl rfl ?_;clear S;intro h S));(first|(refine sB S rfl rfl ?_;clear S;intro h S)|(refine JU S rfl rfl ?_;clear S;intro h S));refine qg ?_)|(refine qf 3 ?_;skip)|(refine qf 4 ?_;refine mv ?_)))
  refine qcp S rfl ?_;intro l tt h1 hk S1;clear S;have S:=S1.front (.there .here);replace S:=S.front (.there (.there (.there .here)));replace S:=S.front (.there (.there .here));replace S:=S.front (.there (.there .here));refine (qbE s ls hls (by omega) S ?_).mono ?_
  ·rintro k rs own h hkl ⟨r,H,hp,rfl⟩ S;simp only [zC6,zC0] at S;refine qfU hk S rfl rfl ?_;all_goals (repeat' (first|refine qA ?_|refine qw rfl ?_|refine qx ?_|refine qy ?_|refine qi ?_|refine qj ?_|refine qo ?_|(refine qf 5 ?_;refine mv ?_;refine qg ?_)|(refine qf 6 ?_;refine mv ?_;refine qg ?_)))
   refine ⟨rfl,_,S,?_⟩;clear S;intro h S;have S:=S.front (.there .here);all_goals (repeat' (first|refine qA ?_|refine qw rfl ?_|refine qx ?_|refine qy ?_|refine qi ?_|refine qj ?_|refine qo ?_|(refine qf 7 ?_;(first|refine lB S rfl rfl ?_|refine qH S rfl rfl ?_|refine qZ S ?_|refine lH S ?_);refine mv ?_)))
   (refine qI rfl rfl rfl rfl rfl ((qcW S H (ls.getD k default) (hln k hkl)).mono ?_);rintro _ h ⟨rfl,S⟩)<;>(refine mv ?_;refine qg ?_)
   have hd:ls.drop k=ls.getD k default :: ls.drop (k+1):=by rw [zG6 hkl,zA2,zA4 hkl];rfl
   rw [hd] at hp;all_goals (repeat' (first|refine qA ?_|refine qw rfl ?_|refine qx ?_|refine qy ?_|refine qi ?_|refine qj ?_|refine qo ?_|(refine qf 7 ?_;(first|refine lB S rfl rfl ?_|refine qH S rfl rfl ?_|refine qZ S ?_|refine lH S ?_);refine mv ?_)|(refine qf 8 ?_;refine mv ?_;(first|refine cT ?_|refine cF ?_|(refine cS ?_ ?_<;>intro hc))<;>(refine qg ?_))))
   ·all_goals (repeat' (first|refine qA ?_|refine qw rfl ?_|refine qx ?_|refine qy ?_|refine qi ?_|refine qj ?_|refine qo ?_|(refine qf 9 ?_;refine vl ?_;refine mv ?_;refine mv ?_;(first|(refine sB S rfl rfl ?_;clear S;intro h S)|(refine JU S rfl rfl ?_;clear S;intro h S));(first|(refine sB S rfl rfl ?_;clear S;intro h S)|(refine JU S rfl rfl ?_;clear S;intro h S));(first|(refine sB S rfl rfl ?_;clear S;intro h S)|(refine JU S rfl rfl ?_;clear S;intro h S));refine qg ?_)))
    refine qE ?_;replace S:=(S.tail).del (.there .here);exact ⟨_,S,.inr ⟨rfl,fun h4 S=>.inr ⟨rfl,_,⟨k,(Zd r (ls.getD k default)).2,hp.trans (Kr hc),rfl⟩,S⟩⟩⟩
   ·have hz:(Zd r (ls.getD k default)).2=0:=zF2.1 hc;replace S:=S.front (.there .here);refine ⟨_,S,.inl ⟨rfl,fun h4 S=>.inl ⟨rfl,_,⟨(Zd r (ls.getD k default)).1,qdg H hz,hp.trans (wE hz),rfl⟩,S⟩⟩⟩
  ·clear S S1;rintro _ h (⟨_,⟨r,H,hp,rfl⟩,S⟩|⟨_,⟨i,e,hp,rfl⟩,S⟩)
   ·refine ⟨_,.inl ⟨S,?_⟩⟩;clear S;intro h S;all_goals (repeat' (first|refine qA ?_|refine qw rfl ?_|refine qx ?_|refine qy ?_|refine qi ?_|refine qj ?_|refine qo ?_|(refine qf 10 ?_;(first|refine lB S rfl rfl ?_|refine qH S rfl rfl ?_|refine qZ S ?_|refine lH S ?_))))
    (refine qI rfl rfl rfl rfl rfl ((qcG S.wf (Hs.qfS S) H).mono ?_);rintro _ h ⟨⟨vg,vt,gs⟩,rfl,hu,x⟩)<;>(replace S:=S.join x;clear x;dsimp only [wB,List.cons_append,List.nil_append] at S;unfold RlV.val;dsimp only;dsimp only at hu;(first|(refine sB S rfl rfl ?_;clear S;intro h S)|(refine JU S rfl rfl ?_;clear S;intro h S));(first|(refine sB S rfl rfl ?_;clear S;intro h S)|(refine JU S rfl rfl ?_;clear S;intro h S));(first|(refine sB S rfl rfl ?_;clear S;intro h S)|(refine JU S rfl rfl ?_;clear S;intro h S));refine qg ?_)
    all_goals (repeat' (first|refine qA ?_|refine qw rfl ?_|refine qx ?_|refine qy ?_|refine qi ?_|refine qj ?_|refine qo ?_|(refine qf 10 ?_;(first|refine lB S rfl rfl ?_|refine qH S rfl rfl ?_|refine qZ S ?_|refine lH S ?_))))
    rw [List.drop_length] at hp;replace S:Hs h0 h [.sl vg.val 24 9 eG gs,.sl vt.val 111 3 Qn r.ts,tgO gs,jT p r,.blk b5 [.pointer (some ⟨p,0,none⟩)] 40,.blk b4 [.int .i64 0] 25,.blk b3 [.int .i64 0] 3,.blk b2 [vg.val,vt.val] 32]:=S;refine qE ⟨_,zQ S rfl (by first|exact .here|exact .there .here|exact .there (.there .here)|exact .there (.there (.there .here))|exact .there (.there (.there (.there .here)))|exact .there (.there (.there (.there (.there .here))))|exact .there (.there (.there (.there (.there (.there .here)))))|exact .there (.there (.there (.there (.there (.there (.there .here))))))|exact .there (.there (.there (.there (.there (.there (.there (.there .here)))))))|exact .there (.there (.there (.there (.there (.there (.there (.there (.there .here))))))))|exact .there (.there (.there (.there (.there (.there (.there (.there (.there (.there .here)))))))))|exact .there (.there (.there (.there (.there (.there (.there (.there (.there (.there (.there .here))))))))))|exact .there (.there (.there (.there (.there (.there (.there (.there (.there (.there (.there (.there .here)))))))))))) (by exact rfl) (zQ S rfl (by first|exact .here|exact .there .here|exact .there (.there .here)|exact .there (.there (.there .here))|exact .there (.there (.there (.there .here)))|exact .there (.there (.there (.there (.there .here))))|exact .there (.there (.there (.there (.there (.there .here)))))|exact .there (.there (.there (.there (.there (.there (.there .here))))))|exact .there (.there (.there (.there (.there (.there (.there (.there .here)))))))|exact .there (.there (.there (.there (.there (.there (.there (.there (.there .here))))))))|exact .there (.there (.there (.there (.there (.there (.there (.there (.there (.there .here)))))))))|exact .there (.there (.there (.there (.there (.there (.there (.there (.there (.there (.there .here))))))))))|exact .there (.there (.there (.there (.there (.there (.there (.there (.there (.there (.there (.there .here)))))))))))) (by exact rfl) (zQ S rfl (by first|exact .here|exact .there .here|exact .there (.there .here)|exact .there (.there (.there .here))|exact .there (.there (.there (.there .here)))|exact .there (.there (.there (.there (.there .here))))|exact .there (.there (.there (.there (.there (.there .here)))))|exact .there (.there (.there (.there (.there (.there (.there .here))))))|exact .there (.there (.there (.there (.there (.there (.there (.there .here)))))))|exact .there (.there (.there (.there (.there (.there (.there (.there (.there .here))))))))|exact .there (.there (.there (.there (.there (.there (.there (.there (.there (.there .here)))))))))|exact .there (.there (.there (.there (.there (.there (.there (.there (.there (.there (.there .here))))))))))|exact .there (.there (.there (.there (.there (.there (.there (.there (.there (.there (.there (.there .here)))))))))))) (by exact rfl) (by exact rfl))),?_⟩;exact .inl ⟨r,⟨vg,vt,gs⟩,hp,H,rfl,hu,S.pick⟩
   ·refine ⟨_,.inr ⟨S,?_⟩⟩;clear S;intro h S;refine ⟨_,zQ S rfl (by first|exact .here|exact .there .here|exact .there (.there .here)|exact .there (.there (.there .here))|exact .there (.there (.there (.there .here)))|exact .there (.there (.there (.there (.there .here))))|exact .there (.there (.there (.there (.there (.there .here)))))|exact .there (.there (.there (.there (.there (.there (.there .here))))))|exact .there (.there (.there (.there (.there (.there (.there (.there .here)))))))|exact .there (.there (.there (.there (.there (.there (.there (.there (.there .here))))))))|exact .there (.there (.there (.there (.there (.there (.there (.there (.there (.there .here)))))))))|exact .there (.there (.there (.there (.there (.there (.there (.there (.there (.there (.there .here))))))))))|exact .there (.there (.there (.there (.there (.there (.there (.there (.there (.there (.there (.there .here)))))))))))) (by exact rfl) (zQ S rfl (by first|exact .here|exact .there .here|exact .there (.there .here)|exact .there (.there (.there .here))|exact .there (.there (.there (.there .here)))|exact .there (.there (.there (.there (.there .here))))|exact .there (.there (.there (.there (.there (.there .here)))))|exact .there (.there (.there (.there (.there (.there (.there .here))))))|exact .there (.there (.there (.there (.there (.there (.there (.there .here)))))))|exact .there (.there (.there (.there (.there (.there (.there (.there (.there .here))))))))|exact .there (.there (.there (.there (.there (.there (.there (.there (.there (.there .here)))))))))|exact .there (.there (.there (.there (.there (.there (.there (.there (.there (.there (.there .here))))))))))|exact .there (.there (.there (.there (.there (.there (.there (.there (.there (.there (.there (.there .here)))))))))))) (by exact rfl) (zQ S rfl (by first|exact .here|exact .there .here|exact .there (.there .here)|exact .there (.there (.there .here))|exact .there (.there (.there (.there .here)))|exact .there (.there (.there (.there (.there .here))))|exact .there (.there (.there (.there (.there (.there .here)))))|exact .there (.there (.there (.there (.there (.there (.there .here))))))|exact .there (.there (.there (.there (.there (.there (.there (.there .here)))))))|exact .there (.there (.there (.there (.there (.there (.there (.there (.there .here))))))))|exact .there (.there (.there (.there (.there (.there (.there (.there (.there (.there .here)))))))))|exact .there (.there (.there (.there (.there (.there (.there (.there (.there (.there (.there .here))))))))))|exact .there (.there (.there (.there (.there (.there (.there (.there (.there (.there (.there (.there .here)))))))))))) (by exact rfl) (by exact rfl))),?_⟩;exact .inr ⟨i,e,hp,rfl,S.drop⟩
end Go.Proofs.Xx
namespace Go.Proofs.Xx
open Go Go.Proofs
variable [Flag]
end Go.Proofs.Xx
namespace Go.Proofs.Xx
open Go Go.Proofs
variable [Flag]
end Go.Proofs.Xx
