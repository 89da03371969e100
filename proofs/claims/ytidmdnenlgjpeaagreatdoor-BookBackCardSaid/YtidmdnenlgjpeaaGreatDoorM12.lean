/-
  Numbers that are read.
-/
import Derived.Test.YtidmdnenlgjpeaaGreatDoorM11
import Derived.Test.YtidmdnenlgjpeaaGreatDoorM10
import Derived.Test.YtidmdnenlgjpeaaGreatDoorM7
import Derived.Test.YtidmdnenlgjpeaaGreatDoorM9
set_option linter.unusedSimpArgs false
set_option linter.unusedVariables false
set_option linter.unusedSectionVars false
set_option maxRecDepth 100000
set_option maxHeartbeats 4000000
namespace Go.Proofs.Xx
open Go Go.Proofs
def qfW (s:List UInt8) (k:Int) (b:Bool):Prop:=(b=true∧qbt s∧k=Ja s)∨(b=false∧¬ qbt s)
theorem qdw {x c:UInt8} (h:(x.toNat:Int)=c.toNat):x=c:=UInt8.toNat.inj (by omega)
theorem qcs {s:List UInt8} {i:Nat} (h:∀ j,j<i→YT (s.getD j default)) (hi:i≤9∧i≤s.length):Ja (s.take i)<1000000000:=by
 have key:∀ k,k≤i→Ja (s.take k)<10 ^ k:=fun k hk=>by
  induction k with
  | zero=>simp [Ja]
  | succ k ih =>
   have:=ih (by omega);have d:=h k (by omega);unfold YT at d;rw [yx (by omega),Nat.pow_succ];omega
 have h1:=key i (zA3 _);have h2:10 ^ i≤10 ^ 9:=Nat.pow_le_pow_right (by decide) hi.1;omega
variable [Flag]
theorem W9 {h0:AH} (w:WfH h0) (s:List UInt8) (hs:s.length≤1000000):Fn Tryz.prog Xh 149 [str s] h0 (fun v h'=>∃ k b,v = .tuple #[.int .i64 k,.bool b]∧qfW s k b∧Hs h0 h' []):=by
 have S:=Hs.start w;refine zF rfl Tryz.func149 rfl rfl ?_;all_goals (repeat' (first|refine qx ?_|refine qi rfl ?_|refine qw ?_|refine qA ?_|refine qh ?_|refine qj ?_|refine qo ?_|(refine qf 0 ?_;refine mv ?_;refine mv ?_;refine qg ?_)))
 (repeat (refine qx ?_));first|refine qdr (σ:=Unit) (fun _ h'=>Hs h0 h' []∧1≤s.length∧s.length≤9∧(1<s.length→s.getD 0 default≠48)) (fun _=>[(0,str s)]) ?_ ?_|refine Yo (σ:=Unit) (fun _ h'=>Hs h0 h' []∧1≤s.length∧s.length≤9∧(1<s.length→s.getD 0 default≠48)) (fun _=>[(0,str s)]) ?_ ?_
 ·all_goals (repeat' (first|refine qx ?_|refine qi rfl ?_|refine qw ?_|refine qA ?_|refine qh ?_|refine qj ?_|refine qo ?_|(refine qf 1 ?_;refine mv ?_;refine tl ?_;(first|refine cT ?_|refine cF ?_|(refine cS ?_ ?_<;>intro hc))<;>(refine mv ?_;(first|refine off ?_|refine mv ?_);(first|refine off ?_|refine tl ?_);(first|refine off ?_|(first|refine cT ?_|refine cF ?_|(refine cS ?_ ?_<;>intro hc)))<;>(refine vl ?_;refine mv ?_;(first|refine off ?_|refine mv ?_);(first|refine off ?_|refine tl ?_);(first|refine off ?_|(first|refine cT ?_|refine cF ?_|(refine cS ?_ ?_<;>intro hc)))<;>((first|refine off ?_|refine mv ?_);(first|refine off ?_|refine mv ?_);(first|refine off ?_|(first|refine ti ?_|refine vl ?_));(first|refine off ?_|(first|refine cT ?_|refine cF ?_|(refine cS ?_ ?_<;>intro hc)))<;>((first|refine off ?_|refine vl ?_);refine vl ?_;refine qg ?_)))))|(refine qf 2 ?_;refine mv ?_;refine mv ?_;refine qg ?_)))
  ·refine qF ⟨_,rfl,?_⟩;exact ⟨0,false,rfl,.inr ⟨rfl,fun q=>by have:=q.1;omega⟩,S⟩
  ·refine qF ⟨_,rfl,?_⟩;exact ⟨0,false,rfl,.inr ⟨rfl,fun q=>by have:=q.2.1;omega⟩,S⟩
  ·refine qF ⟨_,rfl,?_⟩;have hz:=qdw (c:=48) hc;exact ⟨0,false,rfl,.inr ⟨rfl,fun q=>q.2.2.1 (by omega) hz⟩,S⟩
  ·exact ⟨(),⟨S,by omega,by omega,fun _ q=>hc (by rw [show s.getD (Int.toNat 0) 0=s.getD 0 default from rfl,q];rfl)⟩,(zf)⟩
  ·exact ⟨(),⟨S,by omega,by omega,fun q=>by omega⟩,(zf)⟩
 clear S;rintro - h ⟨S,l1,l2,l3⟩;all_goals (repeat' (first|refine qx ?_|refine qi rfl ?_|refine qw ?_|refine qA ?_|refine qh ?_|refine qj ?_|refine qo ?_|(refine qf 3 ?_;refine mv ?_;refine qg ?_)|(refine qf 4 ?_;refine mv ?_;refine tl ?_;refine mv ?_;refine qg ?_)))
 refine zK (σ:=Nat) (fun i h'=>Hs h0 h' []∧i≤s.length∧∀ j,j<i→YT (s.getD j default)) (fun i=>s.length - i) (fun i=>[(0,str s),(4,.int .i64 (Ja (s.take i):Nat)),(25,.int .i64 s.length),(26,.int .i64 i)]) 0 zf ?_ ?_
 ·exact ⟨S,zB0 _,fun j hj=>absurd hj (zB7 _)⟩
 clear S;rintro i h ⟨S,h1,h2⟩;have hb:=qcs (s:=s) h2 (by omega);all_goals (repeat' (first|refine qx ?_|refine qi rfl ?_|refine qw ?_|refine qA ?_|refine qh ?_|refine qj ?_|refine qo ?_|(refine qf 5 ?_;(first|refine cT ?_|refine cF ?_|(refine cS ?_ ?_<;>intro hc))<;>(refine qg ?_))|(refine qf 6 ?_;refine mv ?_;refine mv ?_;refine qg ?_)|(refine qf 7 ?_;refine mv ?_;refine mv ?_;(first|refine ti ?_|refine vl ?_);(first|refine cT ?_|refine cF ?_|(refine cS ?_ ?_<;>intro hc))<;>(refine mv ?_;(first|refine off ?_|refine mv ?_);(first|refine off ?_|refine mv ?_);(first|refine off ?_|(first|refine ti ?_|refine vl ?_));(first|refine off ?_|(first|refine cT ?_|refine cF ?_|(refine cS ?_ ?_<;>intro hc)))<;>(refine vl ?_;refine qg ?_)))|(refine qf 8 ?_;refine mv ?_;refine mv ?_;refine qg ?_)))
 ·(try simp only [zA0] at *)
  refine qF ⟨_,rfl,?_⟩;exact ⟨0,false,rfl,.inr ⟨rfl,fun q=>by have:=q.2.2.2 i (by omega);unfold YT at this;rw [VG] at this;omega⟩,S⟩
 ·(try simp only [zA0] at *)
  refine qF ⟨_,rfl,?_⟩;exact ⟨0,false,rfl,.inr ⟨rfl,fun q=>by have:=q.2.2.2 i (by omega);unfold YT at this;rw [VG] at this;omega⟩,S⟩
 ·all_goals (repeat' (first|refine qx ?_|refine qi rfl ?_|refine qw ?_|refine qA ?_|refine qh ?_|refine qj ?_|refine qo ?_|(refine qf 9 ?_;refine mv ?_;(first|refine ml ?_|refine vl ?_);refine mv ?_;refine mv ?_;(first|refine ti ?_|refine vl ?_);(first|refine sU ?_|refine vl ?_);(first|refine cI ?_|refine vl ?_);(first|refine ad ?_|refine vl ?_);refine mv ?_;refine qg ?_)|(refine qf 10 ?_;(first|refine ad ?_|refine vl ?_);refine mv ?_;refine qg ?_)))
  (try simp only [zA0] at *)
  have hi:i<s.length:=by omega
  have hd:YT (s.getD i default):=by unfold YT;rw [VG];omega
  have e:=yx hi;rw [VG] at e;have e2:(10:Int)*(Ja (s.take i):Nat)+(((s.getD i 0).toNat:Int) - 48)=(Ja (s.take (i+1)):Nat):=by
   unfold YT at hd;rw [VG] at hd;omega
  rw [e2];refine ⟨i+1,?_,?_,zf⟩
  ·show s.length - (i+1)<s.length - i;omega
  ·exact ⟨S,by omega,Vd h2 hd⟩
 ·have hi:i=s.length:=by omega
  subst hi;rw [zD4];all_goals (repeat' (first|refine qx ?_|refine qi rfl ?_|refine qw ?_|refine qA ?_|refine qh ?_|refine qj ?_|refine qo ?_|(refine qf 11 ?_;(iterate 3 refine mv ?_);refine qg ?_)))
  refine qF ⟨_,rfl,?_⟩;exact ⟨_,true,rfl,.inl ⟨rfl,⟨l1,l2,l3,h2⟩,rfl⟩,S⟩
end Go.Proofs.Xx
namespace Go.Proofs.Xx
open Go Go.Proofs
abbrev ZJ (ws:List (List UInt8)) (i:Nat):List UInt8:=ws.getD i default
def Zw:List UInt8:=[103,117,101,115,116]
def jW:List UInt8:=[102,114,105,101,110,100]
def JY:List UInt8:=[102,101,117,100]
def VT (w:List UInt8):Prop:=w=[45]∨w=[104]∨w=[97]∨w=[104,97]
instance (w:List UInt8):Decidable (VT w):=inferInstanceAs (Decidable (_∨_))
def Qy (w:List UInt8):List UInt8:=if w=[45] then [] else w
def GP (ws:List (List UInt8)):Prop:=8≤ws.length∧qbt (ZJ ws 4)∧qbt (ZJ ws 5)∧VT (ZJ ws 7)
def JK (ws:List (List UInt8)):Gu:={ name:=ZJ ws 1,rank:=Qy (ZJ ws 2),court:=Qy (ZJ ws 3),since:=Ja (ZJ ws 4),side:=Ja (ZJ ws 5),diet:=Qy (ZJ ws 6),host:=decide (ZJ ws 7=[104]∨ZJ ws 7=[104,97]),access:=decide (ZJ ws 7=[97]∨ZJ ws 7=[104,97]),tg:=ws.drop 8 }
open Classical in
noncomputable def QD (r:Rl) (ws:List (List UInt8)):Rl×Int :=
 if ZJ ws 0=Zw then (if GP ws then J9 r (JK ws) else (r,3))
 else if ZJ ws 0=jW∨ZJ ws 0=JY then (if ws.length=3 then QZ r (ZJ ws 1) (ZJ ws 2) (if ZJ ws 0=jW then 1 else 2) else (r,3))
 else (r,3)
theorem VP {r:Rl} {ws:List (List UInt8)} (h:ZJ ws 0=Zw) (g:GP ws):QD r ws=J9 r (JK ws):=by unfold QD;rw [if_pos h,if_pos g]
theorem qaC {r:Rl} {ws:List (List UInt8)} (h:ZJ ws 0=Zw) (g:¬ GP ws):QD r ws=(r,3):=by unfold QD;rw [if_pos h,if_neg g]
theorem qeC:jW≠Zw:=by decide
theorem qeB:JY≠Zw:=by decide
theorem qfz:JY≠jW:=by decide
theorem YH {r:Rl} {ws:List (List UInt8)} (h:ZJ ws 0=jW) (hl:ws.length=3):QD r ws=QZ r (ZJ ws 1) (ZJ ws 2) 1:=by
 unfold QD;rw [h,if_neg qeC,if_pos (.inl rfl),if_pos hl,if_pos rfl]
theorem WS {r:Rl} {ws:List (List UInt8)} (h:ZJ ws 0=JY) (hl:ws.length=3):QD r ws=QZ r (ZJ ws 1) (ZJ ws 2) 2:=by
 unfold QD;rw [h,if_neg qeB,if_pos (.inr rfl),if_pos hl,if_neg qfz]
theorem yQ {r:Rl} {ws:List (List UInt8)} (h:ZJ ws 0=jW∨ZJ ws 0=JY) (hl:¬ ws.length=3):QD r ws=(r,3):=by
 unfold QD;rw [if_neg (by rcases h with h|h<;>rw [h];exact qeC;exact qeB),if_pos h,if_neg hl]
theorem pJ {r:Rl} {ws:List (List UInt8)} (h1:ZJ ws 0≠Zw) (h2:ZJ ws 0≠jW) (h3:ZJ ws 0≠JY):QD r ws=(r,3):=by
 unfold QD;rw [if_neg h1,if_neg (by rintro (h|h);exact h2 h;exact h3 h)]
def flagS:List UInt8:=[32,45,32,104,32,97,32,104,97,32]
theorem gZ {c:UInt8}:∀ {w a b:List UInt8},c ∉ w→c ∉ a→(w ++ [c]).isPrefixOf (a ++ c :: b)=true→w=a
 | [],[],_,_,_,_=>rfl
 | [],x :: a,b,_,h,p=>by simp [List.isPrefixOf] at p h;exact absurd p h.1
 | x :: w,[],b,h,_,p=>by simp [List.isPrefixOf] at p h;exact absurd p.1.symm h.1
 | x :: w,y :: a,b,h1,h2,p=>by
  simp only [zE8,not_or] at h1 h2;simp only [zC6,List.isPrefixOf,zA8,beq_iff_eq] at p;rw [p.1,gZ h1.2 h2.2 p.2]
theorem qcV {w:List UInt8} (h:(32:UInt8) ∉ w) (hw:w≠[]):(∀ j,j≤flagS.length→Lib.occAt flagS ([32] ++ w ++ [32]) j=false)↔¬ VT w:=by
 constructor
 ·rintro k (rfl|rfl|rfl|rfl)
  ·have:=k 0 (by decide);revert this;decide
  ·have:=k 2 (by decide);revert this;decide
  ·have:=k 4 (by decide);revert this;decide
  ·have:=k 6 (by decide);revert this;decide
 ·intro hf j hj;cases hq:Lib.occAt flagS ([32] ++ w ++ [32]) j with
  | false=>rfl
  | true =>
   exfalso
   unfold Lib.occAt at hq;have hj:j≤10:=hj;have key:∀ a b:List UInt8,(32:UInt8) ∉ a→flagS.drop j=32 :: (a ++ 32 :: b)→VT a∨a=[]→False:=fun a b ha e hfa=>by
    rw [e,zF2,List.singleton_append,List.isPrefixOf] at hq;simp only [BEq.rfl,Bool.true_and] at hq;have:=gZ h ha hq;rcases hfa with q|q
    ·exact hf (this ▸ q)
    ·exact hw (this.trans q)
   have nk:∀ x t,flagS.drop j=x :: t→x≠32→False:=fun x t e hx=>by
    rw [e,zF2,List.singleton_append,List.isPrefixOf] at hq;simp only [zA8,beq_iff_eq] at hq;exact hx hq.1.symm
   rcases (show j=0∨j=1∨j=2∨j=3∨j=4∨j=5∨j=6∨j=7∨j=8∨j=9∨j=10 by omega) with rfl|rfl|rfl|rfl|rfl|rfl|rfl|rfl|rfl|rfl|rfl
   ·exact key [45] [104,32,97,32,104,97,32] (by decide) rfl (.inl (by decide))
   ·exact nk 45 _ rfl (by decide)
   ·exact key [104] [97,32,104,97,32] (by decide) rfl (.inl (by decide))
   ·exact nk 104 _ rfl (by decide)
   ·exact key [97] [104,97,32] (by decide) rfl (.inl (by decide))
   ·exact nk 97 _ rfl (by decide)
   ·exact key [104,97] [] (by decide) rfl (.inl (by decide))
   ·exact nk 104 _ rfl (by decide)
   ·exact nk 97 _ rfl (by decide)
   ·have hl:=(List.isPrefixOf_iff_prefix.1 hq).length_le;simp [flagS] at hl
   ·have hl:=(List.isPrefixOf_iff_prefix.1 hq).length_le;simp [flagS] at hl
theorem pU {w:List UInt8} (h:(32:UInt8) ∉ w) (hw:w≠[]):Lib.index flagS ([32] ++ w ++ [32])<0↔¬ VT w:=by
 rw [← qcV h hw];constructor
 ·intro q j hj;cases hq:Lib.occAt flagS ([32] ++ w ++ [32]) j with
  | false=>rfl
  | true =>
   exfalso
   have ex:∃ n,n≤j∧Lib.occAt flagS ([32] ++ w ++ [32]) n=true∧∀ m,m<n→Lib.occAt flagS ([32] ++ w ++ [32]) m=false:=by
    clear q hj;induction j using Nat.strongRecOn with
    | _ j ih =>
     by_cases z:∃ m,m<j∧Lib.occAt flagS ([32] ++ w ++ [32]) m=true
     ·obtain ⟨m,m1,m2⟩:=z;obtain ⟨n,n1,n2,n3⟩:=ih m m1 m2;exact ⟨n,by omega,n2,n3⟩
     ·refine ⟨j,zA3 _,hq,fun m hm=>?_⟩;cases hb:Lib.occAt flagS ([32] ++ w ++ [32]) m with
      | false=>rfl
      | true=>exact absurd ⟨m,hm,hb⟩ z
   obtain ⟨n,n1,n2,n3⟩:=ex;have:=Lib.index_first (s:=flagS) (by omega) n2 n3;omega
 ·intro k;have:=Lib.index_none (s:=flagS) k;omega
theorem jX {c:UInt8}:∀ {s w:List UInt8},w∈jm c s→c ∉ w
 | [],w,h=>by simp [jm] at h;subst h;simp
 | x :: s,w,h=>by
  unfold jm at h;split at h
  ·rcases zE8.1 h with rfl|h
   ·simp
   ·exact jX h
  ·rename_i hx
   cases hs:jm c s with
   | nil=>exact absurd hs (Jc c s)
   | cons u r =>
    rw [hs] at h;simp only [Yc,List.singleton_append] at h;rcases zE8.1 h with rfl|h
    ·have:=jX (c:=c) (s:=s) (w:=u) (by rw [hs];simp);intro q;rcases zE8.1 q with q|q
     ·exact hx q.symm
     ·exact this q
    ·exact jX (c:=c) (s:=s) (by rw [hs];simp [h])
theorem X9 (c:UInt8):∀ s:List UInt8,∀ w∈jm c s,w.length≤s.length
 | [],w,h=>by simp [jm] at h;subst h;simp
 | x :: s,w,h=>by
  unfold jm at h;split at h
  ·rcases zE8.1 h with rfl|h
   ·simp
   ·have:=X9 c s w h;simp;omega
  ·cases hs:jm c s with
   | nil=>exact absurd hs (Jc c s)
   | cons u r =>
    rw [hs] at h;simp only [Yc,List.singleton_append] at h;rcases zE8.1 h with rfl|h
    ·have:=X9 c s u (by rw [hs];simp);simp;omega
    ·have:=X9 c s w (by rw [hs];simp [h]);simp;omega
theorem pV {w:List UInt8} (h:VT w):(((w.getD 0 0).toNat:Int)=104↔w=[104]∨w=[104,97])∧(((w.getD (w.length - 1) 0).toNat:Int)=97↔w=[97]∨w=[104,97])∧0<w.length:=by
 rcases h with rfl|rfl|rfl|rfl<;>decide
variable [Flag]
theorem Vk {h0:AH} (w:WfH h0) (s:List UInt8):Fn Tryz.prog Xh 151 [str s] h0 (fun v h'=>v=str (Qy s)∧Hs h0 h' []):=by
 have S:=Hs.start w;refine zF rfl Tryz.func151 rfl rfl ?_;all_goals (repeat' (first|refine qx ?_|refine qi rfl ?_|refine qw ?_|refine qA ?_|refine qh ?_|refine qj ?_|refine qo ?_|(refine qf 0 ?_;refine mv ?_;refine qg ?_)|(refine qf 1 ?_;refine mv ?_;(refine tS ?_ ?_<;>intro hc)<;>(refine qg ?_))|(refine qf 2 ?_;refine mv ?_;refine qg ?_)|(refine qf 3 ?_;refine mv ?_;refine mv ?_;refine qg ?_)))
 all_goals (refine qF ⟨_,rfl,?_⟩)
 ·exact ⟨by unfold Qy;rw [if_pos hc];rfl,S⟩
 ·exact ⟨by unfold Qy;rw [if_neg hc];rfl,S⟩
structure WsOk (ws:List (List UInt8)):Prop where
 len:ws.length≤1000001
 wl:∀ w∈ws,w.length≤1000000
 ne:[] ∉ ws
 sp:∀ w∈ws,(32:UInt8) ∉ w
 pos:0<ws.length
theorem qbK {h0 h:AH} {rs:List Rs} {v:SlV} {ws:List (List UInt8)} (S:Hs h0 h (.sl v.val 9 1 eS ws :: rs)) (W:WsOk ws):Fn Tryz.prog Xh 121 [v.val] h (fun u h'=>(¬ GP ws∧u = .tuple #[gV ⟨default,⟨none,0,0⟩⟩,.bool false]∧Hs h0 h' rs)∨(GP ws∧∃ tv:SlV,u = .tuple #[gV ⟨JK ws,tv⟩,.bool true]∧Hs h0 h' (.sl tv.val 9 1 eS (ws.drop 8) :: rs))):=by
 have hwl:=W.len;have hpos:=W.pos;have hne:=S.qfE .here hpos;have hw:∀ i,i<ws.length→(ws.getD i default).length≤1000000:=fun i hi=>W.wl _ (qJ hi);refine zF rfl Tryz.func121 rfl rfl ?_;all_goals (repeat' (first|refine qx ?_|refine qi rfl ?_|refine qw ?_|refine qA ?_|refine qh ?_|refine qj ?_|refine qo ?_|(refine qf 0 ?_;(refine al S ?_;clear S;intro b h S);refine mv ?_;refine qg ?_)))
 obtain ⟨b2,hnm⟩:∃ x,x=b:=⟨_,rfl⟩;subst hnm;all_goals (repeat' (first|refine qx ?_|refine qi rfl ?_|refine qw ?_|refine qA ?_|refine qh ?_|refine qj ?_|refine qo ?_|(refine qf 1 ?_;refine mv ?_;(first|refine Zg S ?_|refine J5 S rfl rfl ?_);(first|refine cT ?_|refine cF ?_|(refine cS ?_ ?_<;>intro hc))<;>(refine qg ?_))))
 ·all_goals (repeat' (first|refine qx ?_|refine qi rfl ?_|refine qw ?_|refine qA ?_|refine qh ?_|refine qj ?_|refine qo ?_|(refine qf 2 ?_;refine vl ?_;(first|(refine sB S rfl rfl ?_;clear S;intro h S)|(refine J3 S rfl rfl ?_;clear S;intro h S));refine mv ?_;refine qg ?_)))
  refine qF ⟨_,zJ S rfl (by first|exact .here|exact .there .here|exact .there (.there .here)|exact .there (.there (.there .here))|exact .there (.there (.there (.there .here)))|exact .there (.there (.there (.there (.there .here))))|exact .there (.there (.there (.there (.there (.there .here)))))|exact .there (.there (.there (.there (.there (.there (.there .here))))))|exact .there (.there (.there (.there (.there (.there (.there (.there .here)))))))|exact .there (.there (.there (.there (.there (.there (.there (.there (.there .here))))))))|exact .there (.there (.there (.there (.there (.there (.there (.there (.there (.there .here)))))))))|exact .there (.there (.there (.there (.there (.there (.there (.there (.there (.there (.there .here))))))))))|exact .there (.there (.there (.there (.there (.there (.there (.there (.there (.there (.there (.there .here)))))))))))) (by exact rfl) (by exact rfl),?_⟩;exact .inl ⟨fun q=>by have:=q.1;omega,rfl,S.tail.tail⟩
 ·have h8:8≤ws.length:=by omega
  all_goals (repeat' (first|refine qx ?_|refine qi rfl ?_|refine qw ?_|refine qA ?_|refine qh ?_|refine qj ?_|refine qo ?_|(refine qf 3 ?_;refine mv ?_;(first|refine Za S ?_|refine jQ S rfl rfl ?_);(first|refine lB S rfl rfl ?_|refine zh S rfl rfl ?_|refine zU S ?_|refine lH S ?_))))
  (refine qH rfl rfl rfl rfl rfl ((W9 S.wf _ (hw 4 (by omega))).mono ?_);rintro _ h ⟨k1,c1,rfl,n1,x⟩)<;>(replace S:=S.zn x;clear x;refine mv ?_;refine vl ?_;refine vl ?_;refine mv ?_;refine mv ?_;refine qg ?_)
  all_goals (repeat' (first|refine qx ?_|refine qi rfl ?_|refine qw ?_|refine qA ?_|refine qh ?_|refine qj ?_|refine qo ?_|(refine qf 4 ?_;refine mv ?_;(first|refine Za S ?_|refine jQ S rfl rfl ?_);(first|refine lB S rfl rfl ?_|refine zh S rfl rfl ?_|refine zU S ?_|refine lH S ?_))))
  (refine qH rfl rfl rfl rfl rfl ((W9 S.wf _ (hw 5 (by omega))).mono ?_);rintro _ h ⟨k2,c2,rfl,n2,x⟩)<;>(replace S:=S.zn x;clear x;refine mv ?_;refine vl ?_;refine vl ?_;refine mv ?_;refine mv ?_;refine qg ?_)
  all_goals (repeat' (first|refine qx ?_|refine qi rfl ?_|refine qw ?_|refine qA ?_|refine qh ?_|refine qj ?_|refine qo ?_|(refine qf 5 ?_;refine mv ?_;(first|refine Za S ?_|refine jQ S rfl rfl ?_);(first|refine lB S rfl rfl ?_|refine zh S rfl rfl ?_|refine zU S ?_|refine lH S ?_);refine tc ?_;refine tc ?_)))
  (refine qH rfl rfl rfl rfl rfl ((WF flagS ([32] ++ ws.getD 7 default ++ [32]) (by decide)).mono ?_);rintro _ _ ⟨rfl,rfl⟩)<;>(refine mv ?_;refine qg ?_)
  have hf:=pU (W.sp _ (qJ (show 7<ws.length by omega))) (fun q=>W.ne (q ▸ qJ (show 7<ws.length by omega)));rcases n1 with ⟨rfl,p1,rfl⟩|⟨rfl,p1⟩
  rotate_left
  ·all_goals (repeat' (first|refine qx ?_|refine qi rfl ?_|refine qw ?_|refine qA ?_|refine qh ?_|refine qj ?_|refine qo ?_|(refine qf 6 ?_;refine mv ?_;refine vl ?_;refine mv ?_;(first|refine off ?_|refine mv ?_);(first|refine off ?_|refine vl ?_);refine vl ?_;refine mv ?_;(first|refine off ?_|refine mv ?_);(first|refine off ?_|(first|refine cT ?_|refine cF ?_|(refine cS ?_ ?_<;>intro hc)))<;>(refine vl ?_;refine qg ?_))|(refine qf 7 ?_;refine vl ?_;(first|(refine sB S rfl rfl ?_;clear S;intro h S)|(refine J3 S rfl rfl ?_;clear S;intro h S));refine mv ?_;refine qg ?_)))
   refine qF ⟨_,zJ S rfl (by first|exact .here|exact .there .here|exact .there (.there .here)|exact .there (.there (.there .here))|exact .there (.there (.there (.there .here)))|exact .there (.there (.there (.there (.there .here))))|exact .there (.there (.there (.there (.there (.there .here)))))|exact .there (.there (.there (.there (.there (.there (.there .here))))))|exact .there (.there (.there (.there (.there (.there (.there (.there .here)))))))|exact .there (.there (.there (.there (.there (.there (.there (.there (.there .here))))))))|exact .there (.there (.there (.there (.there (.there (.there (.there (.there (.there .here)))))))))|exact .there (.there (.there (.there (.there (.there (.there (.there (.there (.there (.there .here))))))))))|exact .there (.there (.there (.there (.there (.there (.there (.there (.there (.there (.there (.there .here)))))))))))) (by exact rfl) (by exact rfl),?_⟩;exact .inl ⟨fun q=>p1 q.2.1,rfl,S.tail.tail⟩
  rcases n2 with ⟨rfl,p2,rfl⟩|⟨rfl,p2⟩
  rotate_left
  ·all_goals (repeat' (first|refine qx ?_|refine qi rfl ?_|refine qw ?_|refine qA ?_|refine qh ?_|refine qj ?_|refine qo ?_|(refine qf 6 ?_;refine mv ?_;refine vl ?_;refine mv ?_;(first|refine off ?_|refine mv ?_);(first|refine off ?_|refine vl ?_);refine vl ?_;refine mv ?_;(first|refine off ?_|refine mv ?_);(first|refine off ?_|(first|refine cT ?_|refine cF ?_|(refine cS ?_ ?_<;>intro hc)))<;>(refine vl ?_;refine qg ?_))|(refine qf 7 ?_;refine vl ?_;(first|(refine sB S rfl rfl ?_;clear S;intro h S)|(refine J3 S rfl rfl ?_;clear S;intro h S));refine mv ?_;refine qg ?_)))
   refine qF ⟨_,zJ S rfl (by first|exact .here|exact .there .here|exact .there (.there .here)|exact .there (.there (.there .here))|exact .there (.there (.there (.there .here)))|exact .there (.there (.there (.there (.there .here))))|exact .there (.there (.there (.there (.there (.there .here)))))|exact .there (.there (.there (.there (.there (.there (.there .here))))))|exact .there (.there (.there (.there (.there (.there (.there (.there .here)))))))|exact .there (.there (.there (.there (.there (.there (.there (.there (.there .here))))))))|exact .there (.there (.there (.there (.there (.there (.there (.there (.there (.there .here)))))))))|exact .there (.there (.there (.there (.there (.there (.there (.there (.there (.there (.there .here))))))))))|exact .there (.there (.there (.there (.there (.there (.there (.there (.there (.there (.there (.there .here)))))))))))) (by exact rfl) (by exact rfl),?_⟩;exact .inl ⟨fun q=>p2 q.2.2.1,rfl,S.tail.tail⟩
  all_goals (repeat' (first|refine qx ?_|refine qi rfl ?_|refine qw ?_|refine qA ?_|refine qh ?_|refine qj ?_|refine qo ?_|(refine qf 6 ?_;refine mv ?_;refine vl ?_;refine mv ?_;(first|refine off ?_|refine mv ?_);(first|refine off ?_|refine vl ?_);refine vl ?_;refine mv ?_;(first|refine off ?_|refine mv ?_);(first|refine off ?_|(first|refine cT ?_|refine cF ?_|(refine cS ?_ ?_<;>intro hc)))<;>(refine vl ?_;refine qg ?_))|(refine qf 7 ?_;refine vl ?_;(first|(refine sB S rfl rfl ?_;clear S;intro h S)|(refine J3 S rfl rfl ?_;clear S;intro h S));refine mv ?_;refine qg ?_)))
  ·refine qF ⟨_,zJ S rfl (by first|exact .here|exact .there .here|exact .there (.there .here)|exact .there (.there (.there .here))|exact .there (.there (.there (.there .here)))|exact .there (.there (.there (.there (.there .here))))|exact .there (.there (.there (.there (.there (.there .here)))))|exact .there (.there (.there (.there (.there (.there (.there .here))))))|exact .there (.there (.there (.there (.there (.there (.there (.there .here)))))))|exact .there (.there (.there (.there (.there (.there (.there (.there (.there .here))))))))|exact .there (.there (.there (.there (.there (.there (.there (.there (.there (.there .here)))))))))|exact .there (.there (.there (.there (.there (.there (.there (.there (.there (.there (.there .here))))))))))|exact .there (.there (.there (.there (.there (.there (.there (.there (.there (.there (.there (.there .here)))))))))))) (by exact rfl) (by exact rfl),?_⟩;exact .inl ⟨fun q=>(hf.1 hc) q.2.2.2,rfl,S.tail.tail⟩
  ·have fp:VT (ws.getD 7 default):=zF3.1 fun q=>hc (hf.2 q);obtain ⟨f1,f2,f3⟩:=pV fp;have f3':0<(ws.getD (Int.toNat 7) default).length:=f3;replace f2:(((ws.getD (Int.toNat 7) default).getD ((((ws.getD (Int.toNat 7) default).length:Nat):Int) - 1).toNat 0).toNat:Int)=97↔ws.getD 7 default=[97]∨ws.getD 7 default=[104,97]:=by
    rw [show ((((ws.getD (Int.toNat 7) default).length:Nat):Int) - 1).toNat=(ws.getD 7 default).length - 1 by show ((((ws.getD 7 default).length:Nat):Int) - 1).toNat=_;omega];exact f2
   refine K.le (L':=[(0,v.val),(2,.pointer (some ⟨b2,0,none⟩)),(4,.int .i64 (Ja (ws.getD (Int.toNat 4) default):Nat)),(6,.int .i64 (Ja (ws.getD (Int.toNat 5) default):Nat))]) (zf) ?_;(repeat (refine qx ?_));refine Z9 (id:=8) [(2,(0,3)),(9,(0,1)),(15,(0,2)),(19,(0,3)),(24,(0,3)),(27,(0,3)),(33,(0,3))] [some (ZK v.val),some (ZK v.val),some (ZK v.val),some (ZK v.val),some (ZK v.val),some (ZK v.val),some (ZK v.val)] ?_;refine qB ?_;(first|(refine mv ?_<;>refine qg ⟨⟨by (first|exact True.intro|exact Or.inr (qV rfl rfl)|exact Or.inr (qU rfl rfl)|exact Or.inl rfl|exact Or.inr rfl|exact Or.inr (congrArg some (qy _ _ _ _))|exact ⟨Or.inl rfl,rfl⟩|exact ⟨Or.inr rfl,rfl⟩),rfl⟩,?_⟩));refine qB ?_;(first|(refine Za S ?_<;>refine qg ⟨⟨by (first|exact True.intro|exact Or.inr (qV rfl rfl)|exact Or.inr (qU rfl rfl)|exact Or.inl rfl|exact Or.inr rfl|exact Or.inr (congrArg some (qy _ _ _ _))|exact ⟨Or.inl rfl,rfl⟩|exact ⟨Or.inr rfl,rfl⟩),rfl⟩,?_⟩)|(refine jQ S rfl rfl ?_<;>refine qg ⟨⟨by (first|exact True.intro|exact Or.inr (qV rfl rfl)|exact Or.inr (qU rfl rfl)|exact Or.inl rfl|exact Or.inr rfl|exact Or.inr (congrArg some (qy _ _ _ _))|exact ⟨Or.inl rfl,rfl⟩|exact ⟨Or.inr rfl,rfl⟩),rfl⟩,?_⟩));refine qB ?_;(first|(refine lB S rfl rfl ?_<;>refine qg ⟨⟨by (first|exact True.intro|exact Or.inr (qV rfl rfl)|exact Or.inr (qU rfl rfl)|exact Or.inl rfl|exact Or.inr rfl|exact Or.inr (congrArg some (qy _ _ _ _))|exact ⟨Or.inl rfl,rfl⟩|exact ⟨Or.inr rfl,rfl⟩),rfl⟩,?_⟩)|(refine zh S rfl rfl ?_<;>refine qg ⟨⟨by (first|exact True.intro|exact Or.inr (qV rfl rfl)|exact Or.inr (qU rfl rfl)|exact Or.inl rfl|exact Or.inr rfl|exact Or.inr (congrArg some (qy _ _ _ _))|exact ⟨Or.inl rfl,rfl⟩|exact ⟨Or.inr rfl,rfl⟩),rfl⟩,?_⟩)|(refine zU S ?_<;>refine qg ⟨⟨by (first|exact True.intro|exact Or.inr (qV rfl rfl)|exact Or.inr (qU rfl rfl)|exact Or.inl rfl|exact Or.inr rfl|exact Or.inr (congrArg some (qy _ _ _ _))|exact ⟨Or.inl rfl,rfl⟩|exact ⟨Or.inr rfl,rfl⟩),rfl⟩,?_⟩)|(refine lH S ?_<;>refine qg ⟨⟨by (first|exact True.intro|exact Or.inr (qV rfl rfl)|exact Or.inr (qU rfl rfl)|exact Or.inl rfl|exact Or.inr rfl|exact Or.inr (congrArg some (qy _ _ _ _))|exact ⟨Or.inl rfl,rfl⟩|exact ⟨Or.inr rfl,rfl⟩),rfl⟩,?_⟩));refine qB ?_;(first|(refine mv ?_<;>refine qg ⟨⟨by (first|exact True.intro|exact Or.inr (qV rfl rfl)|exact Or.inr (qU rfl rfl)|exact Or.inl rfl|exact Or.inr rfl|exact Or.inr (congrArg some (qy _ _ _ _))|exact ⟨Or.inl rfl,rfl⟩|exact ⟨Or.inr rfl,rfl⟩),rfl⟩,?_⟩));refine qB ?_;(first|(refine Za S ?_<;>refine qg ⟨⟨by (first|exact True.intro|exact Or.inr (qV rfl rfl)|exact Or.inr (qU rfl rfl)|exact Or.inl rfl|exact Or.inr rfl|exact Or.inr (congrArg some (qy _ _ _ _))|exact ⟨Or.inl rfl,rfl⟩|exact ⟨Or.inr rfl,rfl⟩),rfl⟩,?_⟩)|(refine jQ S rfl rfl ?_<;>refine qg ⟨⟨by (first|exact True.intro|exact Or.inr (qV rfl rfl)|exact Or.inr (qU rfl rfl)|exact Or.inl rfl|exact Or.inr rfl|exact Or.inr (congrArg some (qy _ _ _ _))|exact ⟨Or.inl rfl,rfl⟩|exact ⟨Or.inr rfl,rfl⟩),rfl⟩,?_⟩));refine qB ?_;(first|(refine lB S rfl rfl ?_<;>refine qg ⟨⟨by (first|exact True.intro|exact Or.inr (qV rfl rfl)|exact Or.inr (qU rfl rfl)|exact Or.inl rfl|exact Or.inr rfl|exact Or.inr (congrArg some (qy _ _ _ _))|exact ⟨Or.inl rfl,rfl⟩|exact ⟨Or.inr rfl,rfl⟩),rfl⟩,?_⟩)|(refine zh S rfl rfl ?_<;>refine qg ⟨⟨by (first|exact True.intro|exact Or.inr (qV rfl rfl)|exact Or.inr (qU rfl rfl)|exact Or.inl rfl|exact Or.inr rfl|exact Or.inr (congrArg some (qy _ _ _ _))|exact ⟨Or.inl rfl,rfl⟩|exact ⟨Or.inr rfl,rfl⟩),rfl⟩,?_⟩)|(refine zU S ?_<;>refine qg ⟨⟨by (first|exact True.intro|exact Or.inr (qV rfl rfl)|exact Or.inr (qU rfl rfl)|exact Or.inl rfl|exact Or.inr rfl|exact Or.inr (congrArg some (qy _ _ _ _))|exact ⟨Or.inl rfl,rfl⟩|exact ⟨Or.inr rfl,rfl⟩),rfl⟩,?_⟩)|(refine lH S ?_<;>refine qg ⟨⟨by (first|exact True.intro|exact Or.inr (qV rfl rfl)|exact Or.inr (qU rfl rfl)|exact Or.inl rfl|exact Or.inr rfl|exact Or.inr (congrArg some (qy _ _ _ _))|exact ⟨Or.inl rfl,rfl⟩|exact ⟨Or.inr rfl,rfl⟩),rfl⟩,?_⟩));((refine qB ?_;first|refine qH rfl rfl rfl rfl rfl ((Vk S.wf _).mono ?_));rintro _ h ⟨rfl,x⟩)<;>((refine qg ⟨⟨True.intro,?_⟩,?_⟩;(focus ((show keepsX _ _ _ _ _;simp only [keepsX];(repeat' (first|exact True.intro|refine And.intro ?_ ?_));all_goals (intro hw;first|exact True.intro|exact rfl|exact absurd hw (by decide +kernel)|exact x.ext.old _ S.bB|exact x.ext.old _ (S.bR (by first|omega|grind))|exact x.ext.old _ (S.bX (by assumption) (by assumption) (by first|omega|grind))|exact x.ext.old _ (S.bY (by assumption) (by assumption))|(refine x.ext.old _ ?_;assumption)|exact absurd hw (by decide +kernel))))));replace S:=S.zn x;clear x;refine qB ?_;(first|(refine mv ?_<;>refine qg ⟨⟨by (first|exact True.intro|exact Or.inr (qV rfl rfl)|exact Or.inr (qU rfl rfl)|exact Or.inl rfl|exact Or.inr rfl|exact Or.inr (congrArg some (qy _ _ _ _))|exact ⟨Or.inl rfl,rfl⟩|exact ⟨Or.inr rfl,rfl⟩),rfl⟩,?_⟩));refine qB ?_;(first|(refine Za S ?_<;>refine qg ⟨⟨by (first|exact True.intro|exact Or.inr (qV rfl rfl)|exact Or.inr (qU rfl rfl)|exact Or.inl rfl|exact Or.inr rfl|exact Or.inr (congrArg some (qy _ _ _ _))|exact ⟨Or.inl rfl,rfl⟩|exact ⟨Or.inr rfl,rfl⟩),rfl⟩,?_⟩)|(refine jQ S rfl rfl ?_<;>refine qg ⟨⟨by (first|exact True.intro|exact Or.inr (qV rfl rfl)|exact Or.inr (qU rfl rfl)|exact Or.inl rfl|exact Or.inr rfl|exact Or.inr (congrArg some (qy _ _ _ _))|exact ⟨Or.inl rfl,rfl⟩|exact ⟨Or.inr rfl,rfl⟩),rfl⟩,?_⟩));refine qB ?_;(first|(refine lB S rfl rfl ?_<;>refine qg ⟨⟨by (first|exact True.intro|exact Or.inr (qV rfl rfl)|exact Or.inr (qU rfl rfl)|exact Or.inl rfl|exact Or.inr rfl|exact Or.inr (congrArg some (qy _ _ _ _))|exact ⟨Or.inl rfl,rfl⟩|exact ⟨Or.inr rfl,rfl⟩),rfl⟩,?_⟩)|(refine zh S rfl rfl ?_<;>refine qg ⟨⟨by (first|exact True.intro|exact Or.inr (qV rfl rfl)|exact Or.inr (qU rfl rfl)|exact Or.inl rfl|exact Or.inr rfl|exact Or.inr (congrArg some (qy _ _ _ _))|exact ⟨Or.inl rfl,rfl⟩|exact ⟨Or.inr rfl,rfl⟩),rfl⟩,?_⟩)|(refine zU S ?_<;>refine qg ⟨⟨by (first|exact True.intro|exact Or.inr (qV rfl rfl)|exact Or.inr (qU rfl rfl)|exact Or.inl rfl|exact Or.inr rfl|exact Or.inr (congrArg some (qy _ _ _ _))|exact ⟨Or.inl rfl,rfl⟩|exact ⟨Or.inr rfl,rfl⟩),rfl⟩,?_⟩)|(refine lH S ?_<;>refine qg ⟨⟨by (first|exact True.intro|exact Or.inr (qV rfl rfl)|exact Or.inr (qU rfl rfl)|exact Or.inl rfl|exact Or.inr rfl|exact Or.inr (congrArg some (qy _ _ _ _))|exact ⟨Or.inl rfl,rfl⟩|exact ⟨Or.inr rfl,rfl⟩),rfl⟩,?_⟩)))
   ((refine qB ?_;first|refine qH rfl rfl rfl rfl rfl ((Vk S.wf _).mono ?_));rintro _ h ⟨rfl,x⟩)<;>((refine qg ⟨⟨True.intro,?_⟩,?_⟩;(focus ((show keepsX _ _ _ _ _;simp only [keepsX];(repeat' (first|exact True.intro|refine And.intro ?_ ?_));all_goals (intro hw;first|exact True.intro|exact rfl|exact absurd hw (by decide +kernel)|exact x.ext.old _ S.bB|exact x.ext.old _ (S.bR (by first|omega|grind))|exact x.ext.old _ (S.bX (by assumption) (by assumption) (by first|omega|grind))|exact x.ext.old _ (S.bY (by assumption) (by assumption))|(refine x.ext.old _ ?_;assumption)|exact absurd hw (by decide +kernel))))));replace S:=S.zn x;clear x;refine qB ?_;(first|(refine mv ?_<;>refine qg ⟨⟨by (first|exact True.intro|exact Or.inr (qV rfl rfl)|exact Or.inr (qU rfl rfl)|exact Or.inl rfl|exact Or.inr rfl|exact Or.inr (congrArg some (qy _ _ _ _))|exact ⟨Or.inl rfl,rfl⟩|exact ⟨Or.inr rfl,rfl⟩),rfl⟩,?_⟩));refine qB ?_;(first|(refine mv ?_<;>refine qg ⟨⟨by (first|exact True.intro|exact Or.inr (qV rfl rfl)|exact Or.inr (qU rfl rfl)|exact Or.inl rfl|exact Or.inr rfl|exact Or.inr (congrArg some (qy _ _ _ _))|exact ⟨Or.inl rfl,rfl⟩|exact ⟨Or.inr rfl,rfl⟩),rfl⟩,?_⟩));refine qB ?_;(first|(refine mv ?_<;>refine qg ⟨⟨by (first|exact True.intro|exact Or.inr (qV rfl rfl)|exact Or.inr (qU rfl rfl)|exact Or.inl rfl|exact Or.inr rfl|exact Or.inr (congrArg some (qy _ _ _ _))|exact ⟨Or.inl rfl,rfl⟩|exact ⟨Or.inr rfl,rfl⟩),rfl⟩,?_⟩));refine qB ?_;(first|(refine Za S ?_<;>refine qg ⟨⟨by (first|exact True.intro|exact Or.inr (qV rfl rfl)|exact Or.inr (qU rfl rfl)|exact Or.inl rfl|exact Or.inr rfl|exact Or.inr (congrArg some (qy _ _ _ _))|exact ⟨Or.inl rfl,rfl⟩|exact ⟨Or.inr rfl,rfl⟩),rfl⟩,?_⟩)|(refine jQ S rfl rfl ?_<;>refine qg ⟨⟨by (first|exact True.intro|exact Or.inr (qV rfl rfl)|exact Or.inr (qU rfl rfl)|exact Or.inl rfl|exact Or.inr rfl|exact Or.inr (congrArg some (qy _ _ _ _))|exact ⟨Or.inl rfl,rfl⟩|exact ⟨Or.inr rfl,rfl⟩),rfl⟩,?_⟩));refine qB ?_;(first|(refine lB S rfl rfl ?_<;>refine qg ⟨⟨by (first|exact True.intro|exact Or.inr (qV rfl rfl)|exact Or.inr (qU rfl rfl)|exact Or.inl rfl|exact Or.inr rfl|exact Or.inr (congrArg some (qy _ _ _ _))|exact ⟨Or.inl rfl,rfl⟩|exact ⟨Or.inr rfl,rfl⟩),rfl⟩,?_⟩)|(refine zh S rfl rfl ?_<;>refine qg ⟨⟨by (first|exact True.intro|exact Or.inr (qV rfl rfl)|exact Or.inr (qU rfl rfl)|exact Or.inl rfl|exact Or.inr rfl|exact Or.inr (congrArg some (qy _ _ _ _))|exact ⟨Or.inl rfl,rfl⟩|exact ⟨Or.inr rfl,rfl⟩),rfl⟩,?_⟩)|(refine zU S ?_<;>refine qg ⟨⟨by (first|exact True.intro|exact Or.inr (qV rfl rfl)|exact Or.inr (qU rfl rfl)|exact Or.inl rfl|exact Or.inr rfl|exact Or.inr (congrArg some (qy _ _ _ _))|exact ⟨Or.inl rfl,rfl⟩|exact ⟨Or.inr rfl,rfl⟩),rfl⟩,?_⟩)|(refine lH S ?_<;>refine qg ⟨⟨by (first|exact True.intro|exact Or.inr (qV rfl rfl)|exact Or.inr (qU rfl rfl)|exact Or.inl rfl|exact Or.inr rfl|exact Or.inr (congrArg some (qy _ _ _ _))|exact ⟨Or.inl rfl,rfl⟩|exact ⟨Or.inr rfl,rfl⟩),rfl⟩,?_⟩)))
   ((refine qB ?_;first|refine qH rfl rfl rfl rfl rfl ((Vk S.wf _).mono ?_));rintro _ h ⟨rfl,x⟩)<;>((refine qg ⟨⟨True.intro,?_⟩,?_⟩;(focus ((show keepsX _ _ _ _ _;simp only [keepsX];(repeat' (first|exact True.intro|refine And.intro ?_ ?_));all_goals (intro hw;first|exact True.intro|exact rfl|exact absurd hw (by decide +kernel)|exact x.ext.old _ S.bB|exact x.ext.old _ (S.bR (by first|omega|grind))|exact x.ext.old _ (S.bX (by assumption) (by assumption) (by first|omega|grind))|exact x.ext.old _ (S.bY (by assumption) (by assumption))|(refine x.ext.old _ ?_;assumption)|exact absurd hw (by decide +kernel))))));replace S:=S.zn x;clear x;refine qB ?_;(first|(refine mv ?_<;>refine qg ⟨⟨by (first|exact True.intro|exact Or.inr (qV rfl rfl)|exact Or.inr (qU rfl rfl)|exact Or.inl rfl|exact Or.inr rfl|exact Or.inr (congrArg some (qy _ _ _ _))|exact ⟨Or.inl rfl,rfl⟩|exact ⟨Or.inr rfl,rfl⟩),rfl⟩,?_⟩));refine qB ?_;(first|(refine Za S ?_<;>refine qg ⟨⟨by (first|exact True.intro|exact Or.inr (qV rfl rfl)|exact Or.inr (qU rfl rfl)|exact Or.inl rfl|exact Or.inr rfl|exact Or.inr (congrArg some (qy _ _ _ _))|exact ⟨Or.inl rfl,rfl⟩|exact ⟨Or.inr rfl,rfl⟩),rfl⟩,?_⟩)|(refine jQ S rfl rfl ?_<;>refine qg ⟨⟨by (first|exact True.intro|exact Or.inr (qV rfl rfl)|exact Or.inr (qU rfl rfl)|exact Or.inl rfl|exact Or.inr rfl|exact Or.inr (congrArg some (qy _ _ _ _))|exact ⟨Or.inl rfl,rfl⟩|exact ⟨Or.inr rfl,rfl⟩),rfl⟩,?_⟩));refine qB ?_;(first|(refine lB S rfl rfl ?_<;>refine qg ⟨⟨by (first|exact True.intro|exact Or.inr (qV rfl rfl)|exact Or.inr (qU rfl rfl)|exact Or.inl rfl|exact Or.inr rfl|exact Or.inr (congrArg some (qy _ _ _ _))|exact ⟨Or.inl rfl,rfl⟩|exact ⟨Or.inr rfl,rfl⟩),rfl⟩,?_⟩)|(refine zh S rfl rfl ?_<;>refine qg ⟨⟨by (first|exact True.intro|exact Or.inr (qV rfl rfl)|exact Or.inr (qU rfl rfl)|exact Or.inl rfl|exact Or.inr rfl|exact Or.inr (congrArg some (qy _ _ _ _))|exact ⟨Or.inl rfl,rfl⟩|exact ⟨Or.inr rfl,rfl⟩),rfl⟩,?_⟩)|(refine zU S ?_<;>refine qg ⟨⟨by (first|exact True.intro|exact Or.inr (qV rfl rfl)|exact Or.inr (qU rfl rfl)|exact Or.inl rfl|exact Or.inr rfl|exact Or.inr (congrArg some (qy _ _ _ _))|exact ⟨Or.inl rfl,rfl⟩|exact ⟨Or.inr rfl,rfl⟩),rfl⟩,?_⟩)|(refine lH S ?_<;>refine qg ⟨⟨by (first|exact True.intro|exact Or.inr (qV rfl rfl)|exact Or.inr (qU rfl rfl)|exact Or.inl rfl|exact Or.inr rfl|exact Or.inr (congrArg some (qy _ _ _ _))|exact ⟨Or.inl rfl,rfl⟩|exact ⟨Or.inr rfl,rfl⟩),rfl⟩,?_⟩));refine qB ?_;(first|(refine ti ?_<;>refine qg ⟨⟨by (first|exact True.intro|exact Or.inr (qV rfl rfl)|exact Or.inr (qU rfl rfl)|exact Or.inl rfl|exact Or.inr rfl|exact Or.inr (congrArg some (qy _ _ _ _))|exact ⟨Or.inl rfl,rfl⟩|exact ⟨Or.inr rfl,rfl⟩),rfl⟩,?_⟩)|(refine vl ?_<;>refine qg ⟨⟨by (first|exact True.intro|exact Or.inr (qV rfl rfl)|exact Or.inr (qU rfl rfl)|exact Or.inl rfl|exact Or.inr rfl|exact Or.inr (congrArg some (qy _ _ _ _))|exact ⟨Or.inl rfl,rfl⟩|exact ⟨Or.inr rfl,rfl⟩),rfl⟩,?_⟩));refine qB ?_;(first|(refine cT ?_<;>refine qg ⟨⟨by (first|exact True.intro|exact Or.inr (qV rfl rfl)|exact Or.inr (qU rfl rfl)|exact Or.inl rfl|exact Or.inr rfl|exact Or.inr (congrArg some (qy _ _ _ _))|exact ⟨Or.inl rfl,rfl⟩|exact ⟨Or.inr rfl,rfl⟩),rfl⟩,?_⟩)|(refine cF ?_<;>refine qg ⟨⟨by (first|exact True.intro|exact Or.inr (qV rfl rfl)|exact Or.inr (qU rfl rfl)|exact Or.inl rfl|exact Or.inr rfl|exact Or.inr (congrArg some (qy _ _ _ _))|exact ⟨Or.inl rfl,rfl⟩|exact ⟨Or.inr rfl,rfl⟩),rfl⟩,?_⟩)|((refine cS ?_ ?_<;>intro hc)<;>refine qg ⟨⟨by (first|exact True.intro|exact Or.inr (qV rfl rfl)|exact Or.inr (qU rfl rfl)|exact Or.inl rfl|exact Or.inr rfl|exact Or.inr (congrArg some (qy _ _ _ _))|exact ⟨Or.inl rfl,rfl⟩|exact ⟨Or.inr rfl,rfl⟩),rfl⟩,?_⟩))<;>(refine qB ?_;(first|(refine mv ?_<;>refine qg ⟨⟨by (first|exact True.intro|exact Or.inr (qV rfl rfl)|exact Or.inr (qU rfl rfl)|exact Or.inl rfl|exact Or.inr rfl|exact Or.inr (congrArg some (qy _ _ _ _))|exact ⟨Or.inl rfl,rfl⟩|exact ⟨Or.inr rfl,rfl⟩),rfl⟩,?_⟩));refine qB ?_;(first|(refine Za S ?_<;>refine qg ⟨⟨by (first|exact True.intro|exact Or.inr (qV rfl rfl)|exact Or.inr (qU rfl rfl)|exact Or.inl rfl|exact Or.inr rfl|exact Or.inr (congrArg some (qy _ _ _ _))|exact ⟨Or.inl rfl,rfl⟩|exact ⟨Or.inr rfl,rfl⟩),rfl⟩,?_⟩)|(refine jQ S rfl rfl ?_<;>refine qg ⟨⟨by (first|exact True.intro|exact Or.inr (qV rfl rfl)|exact Or.inr (qU rfl rfl)|exact Or.inl rfl|exact Or.inr rfl|exact Or.inr (congrArg some (qy _ _ _ _))|exact ⟨Or.inl rfl,rfl⟩|exact ⟨Or.inr rfl,rfl⟩),rfl⟩,?_⟩));refine qB ?_;(first|(refine lB S rfl rfl ?_<;>refine qg ⟨⟨by (first|exact True.intro|exact Or.inr (qV rfl rfl)|exact Or.inr (qU rfl rfl)|exact Or.inl rfl|exact Or.inr rfl|exact Or.inr (congrArg some (qy _ _ _ _))|exact ⟨Or.inl rfl,rfl⟩|exact ⟨Or.inr rfl,rfl⟩),rfl⟩,?_⟩)|(refine zh S rfl rfl ?_<;>refine qg ⟨⟨by (first|exact True.intro|exact Or.inr (qV rfl rfl)|exact Or.inr (qU rfl rfl)|exact Or.inl rfl|exact Or.inr rfl|exact Or.inr (congrArg some (qy _ _ _ _))|exact ⟨Or.inl rfl,rfl⟩|exact ⟨Or.inr rfl,rfl⟩),rfl⟩,?_⟩)|(refine zU S ?_<;>refine qg ⟨⟨by (first|exact True.intro|exact Or.inr (qV rfl rfl)|exact Or.inr (qU rfl rfl)|exact Or.inl rfl|exact Or.inr rfl|exact Or.inr (congrArg some (qy _ _ _ _))|exact ⟨Or.inl rfl,rfl⟩|exact ⟨Or.inr rfl,rfl⟩),rfl⟩,?_⟩)|(refine lH S ?_<;>refine qg ⟨⟨by (first|exact True.intro|exact Or.inr (qV rfl rfl)|exact Or.inr (qU rfl rfl)|exact Or.inl rfl|exact Or.inr rfl|exact Or.inr (congrArg some (qy _ _ _ _))|exact ⟨Or.inl rfl,rfl⟩|exact ⟨Or.inr rfl,rfl⟩),rfl⟩,?_⟩));refine qB ?_;(first|(refine mv ?_<;>refine qg ⟨⟨by (first|exact True.intro|exact Or.inr (qV rfl rfl)|exact Or.inr (qU rfl rfl)|exact Or.inl rfl|exact Or.inr rfl|exact Or.inr (congrArg some (qy _ _ _ _))|exact ⟨Or.inl rfl,rfl⟩|exact ⟨Or.inr rfl,rfl⟩),rfl⟩,?_⟩));refine qB ?_;(first|(refine Za S ?_<;>refine qg ⟨⟨by (first|exact True.intro|exact Or.inr (qV rfl rfl)|exact Or.inr (qU rfl rfl)|exact Or.inl rfl|exact Or.inr rfl|exact Or.inr (congrArg some (qy _ _ _ _))|exact ⟨Or.inl rfl,rfl⟩|exact ⟨Or.inr rfl,rfl⟩),rfl⟩,?_⟩)|(refine jQ S rfl rfl ?_<;>refine qg ⟨⟨by (first|exact True.intro|exact Or.inr (qV rfl rfl)|exact Or.inr (qU rfl rfl)|exact Or.inl rfl|exact Or.inr rfl|exact Or.inr (congrArg some (qy _ _ _ _))|exact ⟨Or.inl rfl,rfl⟩|exact ⟨Or.inr rfl,rfl⟩),rfl⟩,?_⟩));refine qB ?_;(first|(refine lB S rfl rfl ?_<;>refine qg ⟨⟨by (first|exact True.intro|exact Or.inr (qV rfl rfl)|exact Or.inr (qU rfl rfl)|exact Or.inl rfl|exact Or.inr rfl|exact Or.inr (congrArg some (qy _ _ _ _))|exact ⟨Or.inl rfl,rfl⟩|exact ⟨Or.inr rfl,rfl⟩),rfl⟩,?_⟩)|(refine zh S rfl rfl ?_<;>refine qg ⟨⟨by (first|exact True.intro|exact Or.inr (qV rfl rfl)|exact Or.inr (qU rfl rfl)|exact Or.inl rfl|exact Or.inr rfl|exact Or.inr (congrArg some (qy _ _ _ _))|exact ⟨Or.inl rfl,rfl⟩|exact ⟨Or.inr rfl,rfl⟩),rfl⟩,?_⟩)|(refine zU S ?_<;>refine qg ⟨⟨by (first|exact True.intro|exact Or.inr (qV rfl rfl)|exact Or.inr (qU rfl rfl)|exact Or.inl rfl|exact Or.inr rfl|exact Or.inr (congrArg some (qy _ _ _ _))|exact ⟨Or.inl rfl,rfl⟩|exact ⟨Or.inr rfl,rfl⟩),rfl⟩,?_⟩)|(refine lH S ?_<;>refine qg ⟨⟨by (first|exact True.intro|exact Or.inr (qV rfl rfl)|exact Or.inr (qU rfl rfl)|exact Or.inl rfl|exact Or.inr rfl|exact Or.inr (congrArg some (qy _ _ _ _))|exact ⟨Or.inl rfl,rfl⟩|exact ⟨Or.inr rfl,rfl⟩),rfl⟩,?_⟩));refine qB ?_;(first|(refine tl ?_<;>refine qg ⟨⟨by (first|exact True.intro|exact Or.inr (qV rfl rfl)|exact Or.inr (qU rfl rfl)|exact Or.inl rfl|exact Or.inr rfl|exact Or.inr (congrArg some (qy _ _ _ _))|exact ⟨Or.inl rfl,rfl⟩|exact ⟨Or.inr rfl,rfl⟩),rfl⟩,?_⟩));refine qB ?_;(first|(refine sb ?_<;>refine qg ⟨⟨by (first|exact True.intro|exact Or.inr (qV rfl rfl)|exact Or.inr (qU rfl rfl)|exact Or.inl rfl|exact Or.inr rfl|exact Or.inr (congrArg some (qy _ _ _ _))|exact ⟨Or.inl rfl,rfl⟩|exact ⟨Or.inr rfl,rfl⟩),rfl⟩,?_⟩)|(refine vl ?_<;>refine qg ⟨⟨by (first|exact True.intro|exact Or.inr (qV rfl rfl)|exact Or.inr (qU rfl rfl)|exact Or.inl rfl|exact Or.inr rfl|exact Or.inr (congrArg some (qy _ _ _ _))|exact ⟨Or.inl rfl,rfl⟩|exact ⟨Or.inr rfl,rfl⟩),rfl⟩,?_⟩));refine qB ?_;(first|(refine ti ?_<;>refine qg ⟨⟨by (first|exact True.intro|exact Or.inr (qV rfl rfl)|exact Or.inr (qU rfl rfl)|exact Or.inl rfl|exact Or.inr rfl|exact Or.inr (congrArg some (qy _ _ _ _))|exact ⟨Or.inl rfl,rfl⟩|exact ⟨Or.inr rfl,rfl⟩),rfl⟩,?_⟩)|(refine vl ?_<;>refine qg ⟨⟨by (first|exact True.intro|exact Or.inr (qV rfl rfl)|exact Or.inr (qU rfl rfl)|exact Or.inl rfl|exact Or.inr rfl|exact Or.inr (congrArg some (qy _ _ _ _))|exact ⟨Or.inl rfl,rfl⟩|exact ⟨Or.inr rfl,rfl⟩),rfl⟩,?_⟩));refine qB ?_;(first|(refine cT ?_<;>refine qg ⟨⟨by (first|exact True.intro|exact Or.inr (qV rfl rfl)|exact Or.inr (qU rfl rfl)|exact Or.inl rfl|exact Or.inr rfl|exact Or.inr (congrArg some (qy _ _ _ _))|exact ⟨Or.inl rfl,rfl⟩|exact ⟨Or.inr rfl,rfl⟩),rfl⟩,?_⟩)|(refine cF ?_<;>refine qg ⟨⟨by (first|exact True.intro|exact Or.inr (qV rfl rfl)|exact Or.inr (qU rfl rfl)|exact Or.inl rfl|exact Or.inr rfl|exact Or.inr (congrArg some (qy _ _ _ _))|exact ⟨Or.inl rfl,rfl⟩|exact ⟨Or.inr rfl,rfl⟩),rfl⟩,?_⟩)|((refine cS ?_ ?_<;>intro hc)<;>refine qg ⟨⟨by (first|exact True.intro|exact Or.inr (qV rfl rfl)|exact Or.inr (qU rfl rfl)|exact Or.inl rfl|exact Or.inr rfl|exact Or.inr (congrArg some (qy _ _ _ _))|exact ⟨Or.inl rfl,rfl⟩|exact ⟨Or.inr rfl,rfl⟩),rfl⟩,?_⟩))<;>(refine qB ?_;(first|(refine mv ?_<;>refine qg ⟨⟨by (first|exact True.intro|exact Or.inr (qV rfl rfl)|exact Or.inr (qU rfl rfl)|exact Or.inl rfl|exact Or.inr rfl|exact Or.inr (congrArg some (qy _ _ _ _))|exact ⟨Or.inl rfl,rfl⟩|exact ⟨Or.inr rfl,rfl⟩),rfl⟩,?_⟩));refine qB ?_;refine drB S rfl rfl ?_;clear S;intro vq S hvb;obtain ⟨⟨qp,qn,qc⟩,rfl⟩:=S.sV vq;have hvq:=hvb.2 (by assumption);refine qg ⟨⟨by (first|exact Or.inr (congrArg some (qaU _ _ _))|(first|exact True.intro|exact Or.inr (qV rfl rfl)|exact Or.inr (qU rfl rfl)|exact Or.inl rfl|exact Or.inr rfl|exact Or.inr (congrArg some (qy _ _ _ _))|exact ⟨Or.inl rfl,rfl⟩|exact ⟨Or.inr rfl,rfl⟩)),rfl⟩,?_⟩;refine qB ?_;(first|(refine vl ?_<;>refine qg ⟨⟨by (first|exact True.intro|exact Or.inr (qV rfl rfl)|exact Or.inr (qU rfl rfl)|exact Or.inl rfl|exact Or.inr rfl|exact Or.inr (congrArg some (qy _ _ _ _))|exact ⟨Or.inl rfl,rfl⟩|exact ⟨Or.inr rfl,rfl⟩),rfl⟩,?_⟩));refine qB ?_;(first|((refine sB S rfl rfl ?_;have S0:=S;clear S;intro h S);refine qg ⟨⟨True.intro,?_⟩,?_⟩;(focus ((show keepsX _ _ _ _ _;simp only [keepsX];(repeat' (first|exact True.intro|refine And.intro ?_ ?_));all_goals (intro hw;first|exact True.intro|exact absurd hw (by decide +kernel)|exact (S.gB).trans (S0.gB).symm|exact absurd hw (by decide +kernel)))));clear S0)|((refine J3 S rfl rfl ?_;have S0:=S;clear S;intro h S);refine qg ⟨⟨True.intro,?_⟩,?_⟩;(focus ((show keepsX _ _ _ _ _;simp only [keepsX];(repeat' (first|exact True.intro|refine And.intro ?_ ?_));all_goals (intro hw;first|exact True.intro|exact absurd hw (by decide +kernel)|exact (S.gB).trans (S0.gB).symm|exact absurd hw (by decide +kernel)))));clear S0));refine qB ?_;(first|(refine mv ?_<;>refine qg ⟨⟨by (first|exact True.intro|exact Or.inr (qV rfl rfl)|exact Or.inr (qU rfl rfl)|exact Or.inl rfl|exact Or.inr rfl|exact Or.inr (congrArg some (qy _ _ _ _))|exact ⟨Or.inl rfl,rfl⟩|exact ⟨Or.inr rfl,rfl⟩),rfl⟩,?_⟩));refine Xz ?_)))
   all_goals (all_goals (repeat' (first|refine qx ?_|refine qi rfl ?_|refine qw ?_|refine qA ?_|refine qh ?_|refine qj ?_|refine qo ?_|(refine qf 0 ?_;(refine al S ?_;clear S;intro b h S);refine mv ?_;refine qg ?_)|(refine qf 1 ?_;refine mv ?_;(first|refine Zg S ?_|refine J5 S rfl rfl ?_);(first|refine cT ?_|refine cF ?_|(refine cS ?_ ?_<;>intro hc))<;>(refine qg ?_))|(refine qf 2 ?_;refine vl ?_;(first|(refine sB S rfl rfl ?_;clear S;intro h S)|(refine J3 S rfl rfl ?_;clear S;intro h S));refine mv ?_;refine qg ?_)|(refine qf 3 ?_;refine mv ?_;(first|refine Za S ?_|refine jQ S rfl rfl ?_);(first|refine lB S rfl rfl ?_|refine zh S rfl rfl ?_|refine zU S ?_|refine lH S ?_))|(refine qf 4 ?_;refine mv ?_;(first|refine Za S ?_|refine jQ S rfl rfl ?_);(first|refine lB S rfl rfl ?_|refine zh S rfl rfl ?_|refine zU S ?_|refine lH S ?_))|(refine qf 5 ?_;refine mv ?_;(first|refine Za S ?_|refine jQ S rfl rfl ?_);(first|refine lB S rfl rfl ?_|refine zh S rfl rfl ?_|refine zU S ?_|refine lH S ?_);refine tc ?_;refine tc ?_)|(refine qf 6 ?_;refine mv ?_;refine vl ?_;refine mv ?_;(first|refine off ?_|refine mv ?_);(first|refine off ?_|refine vl ?_);refine vl ?_;refine mv ?_;(first|refine off ?_|refine mv ?_);(first|refine off ?_|(first|refine cT ?_|refine cF ?_|(refine cS ?_ ?_<;>intro hc)))<;>(refine vl ?_;refine qg ?_))|(refine qf 7 ?_;refine vl ?_;(first|(refine sB S rfl rfl ?_;clear S;intro h S)|(refine J3 S rfl rfl ?_;clear S;intro h S));refine mv ?_;refine qg ?_))))
   all_goals (refine qF ⟨_,zJ S rfl (by first|exact .here|exact .there .here|exact .there (.there .here)|exact .there (.there (.there .here))|exact .there (.there (.there (.there .here)))|exact .there (.there (.there (.there (.there .here))))|exact .there (.there (.there (.there (.there (.there .here)))))|exact .there (.there (.there (.there (.there (.there (.there .here))))))|exact .there (.there (.there (.there (.there (.there (.there (.there .here)))))))|exact .there (.there (.there (.there (.there (.there (.there (.there (.there .here))))))))|exact .there (.there (.there (.there (.there (.there (.there (.there (.there (.there .here)))))))))|exact .there (.there (.there (.there (.there (.there (.there (.there (.there (.there (.there .here))))))))))|exact .there (.there (.there (.there (.there (.there (.there (.there (.there (.there (.there (.there .here)))))))))))) (by exact rfl) (by exact rfl),?_⟩)
   all_goals
    refine .inr ⟨⟨h8,p1,p2,fp⟩,⟨qp,qn,qc⟩,?_,S.tail⟩;unfold JK;first
     | (rw [decide_eq_true (f1.1 (by assumption)),decide_eq_true (f2.1 (by assumption))];rfl)
     | (rw [decide_eq_true (f1.1 (by assumption)),decide_eq_false (fun q=>absurd (f2.2 q) (by assumption))];rfl)
     | (rw [decide_eq_false (fun q=>absurd (f1.2 q) (by assumption)),decide_eq_true (f2.1 (by assumption))];rfl)
     | (rw [decide_eq_false (fun q=>absurd (f1.2 q) (by assumption)),decide_eq_false (fun q=>absurd (f2.2 q) (by assumption))];rfl)
end Go.Proofs.Xx
namespace Go.Proofs.Xx
open Go Go.Proofs
theorem gq {c:UInt8} {s:List UInt8} {i:Nat} (h:i<s.length):jm c (s.drop i)=if s.getD i 0=c then [] :: jm c (s.drop (i+1)) else Yc [s.getD i 0] (jm c (s.drop (i+1))):=by
 rw [zG7 h];have e:s.getD i 0=s[i]:=by simp [zA2,h]
 rw [e];rfl
theorem qcC {c:UInt8} {s:List UInt8}:jm c (s.drop s.length)=[[]]:=by rw [List.drop_length];rfl
theorem yN {a w:List UInt8} {r:List (List UInt8)}:Yc a (w :: r)=(a ++ w) :: r:=rfl
def PcsL (c:UInt8) (s:List UInt8) (st i:Nat) (out:List (List UInt8)):Prop:=st≤i∧i≤s.length∧jm c s=out ++ Yc ((s.drop st).take (i - st)) (jm c (s.drop i))∧out.length≤i
theorem take_snoc {s:List UInt8} {st i:Nat} (h1:st≤i) (h2:i<s.length):(s.drop st).take (i+1 - st)=(s.drop st).take (i - st) ++ [s.getD i 0]:=by
 rw [show i+1 - st=(i - st)+1 by omega,List.take_add_one,zC3,show st+(i - st)=i by omega,zA4 h2];simp [zA2,h2]
theorem PcsL.zero (c:UInt8) (s:List UInt8):PcsL c s 0 0 []:=⟨zA3 _,zB0 _,by rw [zC0,zG6,List.take_zero,gY (Jc _ _),List.drop_zero],zA3 _⟩
theorem PcsL.no {c:UInt8} {s:List UInt8} {st i:Nat} {out:List (List UInt8)} (p:PcsL c s st i out) (hi:i<s.length) (hx:¬ s.getD i 0=c):PcsL c s st (i+1) out:=by
 obtain ⟨p1,p2,p3,p4⟩:=p;rw [gq hi,if_neg hx,qav (Jc _ _),← take_snoc p1 hi] at p3;exact ⟨by omega,hi,p3,by omega⟩
theorem PcsL.yes {c:UInt8} {s:List UInt8} {st i:Nat} {out:List (List UInt8)} (p:PcsL c s st i out) (hi:i<s.length) (hx:s.getD i 0=c):jm c s=out ++ (s.drop st).take (i - st) :: jm c (s.drop (i+1))∧PcsL c s (i+1) (i+1) (out ++ [(s.drop st).take (i - st)]):=by
 obtain ⟨p1,p2,p3,p4⟩:=p;rw [gq hi,if_pos hx,yN,zD7] at p3;exact ⟨p3,zA3 _,hi,by rw [zG6,List.take_zero,gY (Jc _ _),zF2];exact p3,by simp;omega⟩
theorem PcsL.fin {c:UInt8} {s:List UInt8} {st:Nat} {out:List (List UInt8)} (p:PcsL c s st s.length out):jm c s=out ++ [s.drop st]:=by
 obtain ⟨p1,p2,p3,p4⟩:=p;rw [qcC,yN,zD7,zF8 (by simp)] at p3;exact p3
theorem qeF {x c:UInt8} (h:¬ (x.toNat:Int)=c.toNat):¬ x=c:=fun q=>h (by rw [q])
variable [Flag]
theorem qat {h0:AH} (w:WfH h0) (s:List UInt8) (hs:s.length≤100000):Fn Tryz.prog Xh 54 [str s] h0 (fun v h'=>∃ u b l,v = .tuple #[u,.bool b]∧((b=false∧∃ ini w,l=ini ++ [w]∧jm 10 s=l∧w≠[])∨(b=true∧jm 10 s=l ++ [[]]))∧Hs h0 h' [.sl u 9 1 eS l]):=by
 have S:=Hs.start w;refine zF rfl Tryz.func54 rfl rfl ?_;all_goals (repeat' (first|refine qx ?_|refine qi rfl ?_|refine qw ?_|refine qA ?_|refine qh ?_|refine qj ?_|refine qo ?_|(refine qf 0 ?_;refine mv ?_;refine mv ?_;refine qg ?_)|(refine qf 1 ?_;refine mv ?_;refine qg ?_)|(refine qf 2 ?_;refine mv ?_;refine qg ?_)|(refine qf 3 ?_;refine mv ?_;refine qg ?_)))
 refine zK (σ:=Nat×Nat×List (List UInt8)×Value) (fun (i,st,out,vo) h'=>Hs h0 h' [.sl vo 9 1 eS out]∧PcsL 10 s st i out) (fun (i,st,out,vo)=>s.length - i) (fun (i,st,out,vo)=>[(0,str s),(4,vo),(5,.int .i64 st),(6,.int .i64 i)]) (0,0,[],.slice none 0 0) zf ?_ ?_
 ·exact ⟨S.x8,.zero _ _⟩
 clear S;rintro ⟨i,st,out,vo⟩ h ⟨S,P⟩;have p1:=P.1;have p2:=P.2.1;have p4:=P.2.2.2;all_goals (repeat' (first|refine qx ?_|refine qi rfl ?_|refine qw ?_|refine qA ?_|refine qh ?_|refine qj ?_|refine qo ?_|(refine qf 4 ?_;refine mv ?_;refine mv ?_;refine tl ?_;(first|refine cT ?_|refine cF ?_|(refine cS ?_ ?_<;>intro hc))<;>(refine qg ?_))|(refine qf 6 ?_;refine mv ?_;refine mv ?_;(first|refine ti ?_|refine vl ?_);(first|refine cT ?_|refine cF ?_|(refine cS ?_ ?_<;>intro hc))<;>(refine qg ?_))))
 ·have hi:i<s.length:=by omega
  (try simp only [zA0] at *)
  obtain ⟨-,P2⟩:=P.yes hi (qdw (c:=10) hc);all_goals (repeat' (first|refine qx ?_|refine qi rfl ?_|refine qw ?_|refine qA ?_|refine qh ?_|refine qj ?_|refine qo ?_|(refine qf 7 ?_;(iterate 4 refine mv ?_);refine kS ?_;(refine one 1 S ?_;clear S;intro u h S))))
  refine app (y0:=((s.drop st).take (i - st))) S rfl rfl ?_;clear S;intro v h S;refine mv ?_;refine qg ?_;all_goals (repeat' (first|refine qx ?_|refine qi rfl ?_|refine qw ?_|refine qA ?_|refine qh ?_|refine qj ?_|refine qo ?_|(refine qf 5 ?_;refine mv ?_;(first|refine ad ?_|refine vl ?_);refine mv ?_;refine qg ?_)|(refine qf 7 ?_;(iterate 4 refine mv ?_);refine kS ?_;(refine one 1 S ?_;clear S;intro u h S))|(refine qf 8 ?_;refine mv ?_;(first|refine ad ?_|refine vl ?_);refine mv ?_;refine qg ?_)))
  refine ⟨(i+1,i+1,out ++ [(s.drop st).take (i - st)],v),?_,?_,zf⟩
  ·show s.length - (i+1)<s.length - i;omega
  ·exact ⟨S,P2⟩
 ·have hi:i<s.length:=by omega
  (try simp only [zA0] at *)
  all_goals (repeat' (first|refine qx ?_|refine qi rfl ?_|refine qw ?_|refine qA ?_|refine qh ?_|refine qj ?_|refine qo ?_|(refine qf 5 ?_;refine mv ?_;(first|refine ad ?_|refine vl ?_);refine mv ?_;refine qg ?_)))
  refine ⟨(i+1,st,out,vo),?_,?_,zf⟩
  ·show s.length - (i+1)<s.length - i;omega
  ·exact ⟨S,P.no hi (qeF hc)⟩
 ·obtain rfl:i=s.length:=by omega
  have p3:=P.fin;have e:(s.drop st).take (s.length - st)=s.drop st:=zF8 (by simp);all_goals (repeat' (first|refine qx ?_|refine qi rfl ?_|refine qw ?_|refine qA ?_|refine qh ?_|refine qj ?_|refine qo ?_|(refine qf 9 ?_;refine mv ?_;refine mv ?_;refine tl ?_;(first|refine cT ?_|refine cF ?_|(refine cS ?_ ?_<;>intro hc))<;>(refine qg ?_))|(refine qf 10 ?_;(iterate 3 refine mv ?_);refine kS ?_;(refine one 1 S ?_;clear S;intro u h S))|(refine qf 11 ?_;(iterate 3 refine mv ?_);refine qg ?_)))
  ·refine app (y0:=((s.drop st).take (s.length - st))) S rfl rfl ?_;clear S;intro v h S;refine mv ?_;refine mv ?_;refine qg ?_;rw [e] at S;all_goals (repeat' (first|refine qx ?_|refine qi rfl ?_|refine qw ?_|refine qA ?_|refine qh ?_|refine qj ?_|refine qo ?_))
   refine qF ⟨_,rfl,?_⟩;have hl:0<(s.drop st).length:=by simp;omega
   exact ⟨_,false,_,rfl,.inl ⟨rfl,out,s.drop st,rfl,p3,fun q=>by rw [q] at hl;simp at hl⟩,S⟩
  ·refine qF ⟨_,rfl,?_⟩;have hn:s.drop st=[]:=List.drop_of_length_le (by omega);rw [hn] at p3;exact ⟨_,true,_,rfl,.inr ⟨rfl,p3⟩,S⟩
end Go.Proofs.Xx
namespace Go.Proofs.Xx
open Go Go.Proofs
variable [Flag]
end Go.Proofs.Xx
namespace Go.Proofs.Xx
open Go Go.Proofs
theorem RO.add {r:Rl} (H:RO r) {g:Gu} (h:(J9 r g).2=0):RO (J9 r g).1:=by
 obtain ⟨h1,h2,h3,h4⟩:=XL h;rw [h4];have hm:∀ n,Xx.gat r.us n≠none→Xx.gat (r.us ++ [g]) n≠none:=fun n q=>by
  rw [JM] at q ⊢;obtain ⟨k,k1,k2⟩:=q;exact ⟨k,by simp [k1],k2⟩
 refine ⟨fun k hk=>?_,fun i j hij hj=>?_,by simp;omega,H.ts,fun t ht=>?_,H.l256⟩
 ·rcases zB8.1 hk with q|q
  ·exact H.chk k q
  ·rw [zB5.1 q];exact h1
 ·simp only [zB2,zD5] at hj;rw [YL (show i<r.us.length by omega)];rcases zA7 j r.us.length with q|q
  ·rw [YL q];exact H.nd i j hij q
  ·rw [Gt q,show j - r.us.length=0 by omega];exact Q5.1 h2 _ (qJ (by omega))
 ·obtain ⟨t1,t2,t3,t4⟩:=H.tt t ht;exact ⟨t1,t2,hm _ t3,hm _ t4⟩
def ncN:List UInt8:=[110,101,119,99,111,109,101,114]
def ncG:ZL:=⟨⟨ncN,[],[],0,0,[],false,false,[]⟩,⟨none,0,0⟩⟩
def qfO (ws:List (List UInt8)) (hh aa:Bool):Gu:={ name:=ZJ ws 1,rank:=Qy (ZJ ws 2),court:=Qy (ZJ ws 3),since:=Ja (ZJ ws 4),side:=Ja (ZJ ws 5),diet:=Qy (ZJ ws 6),host:=hh,access:=aa,tg:=ws.drop 8 }
section
variable {P:Program} {X:Extern} {sz:Nat} {L:Ks} {h h0:AH} {rs:List Rs} {ops:Array Oper} {os:List Oper} {o:Oper} {R:Ks→AH→Prop}
end
variable [Flag]
end Go.Proofs.Xx
namespace Go.Proofs.Xx
open Go Go.Proofs
noncomputable def QL (r:Rl) (s:List UInt8):Rl×Int :=
 open Classical in if s.getLast? = some 10∧[] ∉ jm 32 (Je s) then QD r (jm 32 (Je s)) else (r,3)
theorem WsOk.of {s:List UInt8} (hs:s.length≤1000000) (h:[] ∉ jm 32 s):WsOk (jm 32 s):=by
 refine ⟨?_,fun w hw=>zD0 (X9 32 s w hw) hs,h,fun w hw=>jX hw,List.length_pos_iff.2 (Jc 32 s)⟩;rw [Zy];have:s.countP (· == 32)≤s.length:=List.countP_le_length;omega
variable [Flag]
theorem qcU {h0 h:AH} {rs:List Rs} {p:Nat} {r:Rl} (S:Hs h0 h (jU p r :: rs)) (H:RO r) (s:List UInt8) (hs:s.length≤1000000):Fn Tryz.prog Xh 64 [.pointer (some ⟨p,0,none⟩),str s] h (fun v h'=>v = .int .i64 (QL r s).2∧Hs h0 h' (jU p (QL r s).1 :: rs)):=by
 have h64:=H.l64;have h256:=H.l256;have hcl:=qaa s;refine zF rfl Tryz.func64 rfl rfl ?_;all_goals (repeat' (first|refine qx ?_|refine qi rfl ?_|refine qw ?_|refine qA ?_|refine qh ?_|refine qj ?_|refine qo ?_|(refine qf 0 ?_;refine mv ?_;refine qg ?_)))
 all_goals (repeat' (first|refine qx ?_|refine qi rfl ?_|refine qw ?_|refine qA ?_|refine qh ?_|refine qj ?_|refine qo ?_|(refine qf 1 ?_;refine mv ?_)))
 (refine qH rfl rfl rfl rfl rfl ((qa3 S.wf s hs).mono ?_);rintro _ h ⟨u,b,rfl,hb,x⟩)<;>(replace S:=S.Xo x;clear x;obtain ⟨sv,rfl⟩:=S.sV u;refine mv ?_;refine vl ?_;refine vl ?_;refine mv ?_;refine mv ?_;refine qg ?_)
 cases b with
 | false =>
  have e:QL r s=(r,3):=by
   unfold QL;rw [if_neg];intro q;have:=hb.2 q;cases this
  rw [e];all_goals (repeat' (first|refine qx ?_|refine qi rfl ?_|refine qw ?_|refine qA ?_|refine qh ?_|refine qj ?_|refine qo ?_|(refine qf 2 ?_;refine mv ?_;refine vl ?_;refine qg ?_)|(refine qf 3 ?_;refine mv ?_;refine qg ?_)))
  refine qF ⟨_,rfl,?_⟩;exact ⟨rfl,S.tail⟩
 | true =>
  obtain ⟨hb1,hb2⟩:=hb.1 rfl;have W:=WsOk.of (s:=Je s) (by omega) hb2;obtain ⟨ws,hws⟩:∃ ws,ws=jm 32 (Je s):=⟨_,rfl⟩
  have e:QL r s=QD r ws:=by unfold QL;rw [if_pos ⟨hb1,hb2⟩,hws]
  rw [← hws] at S W;rw [e];clear e hb hb1 hb2 hws;have hpos:=W.pos;have hwl:=W.len;have hwz:ZJ ws 0=ws.getD (Int.toNat 0) default:=rfl;all_goals (repeat' (first|refine qx ?_|refine qi rfl ?_|refine qw ?_|refine qA ?_|refine qh ?_|refine qj ?_|refine qo ?_|(refine qf 2 ?_;refine mv ?_;refine vl ?_;refine qg ?_)|(refine qf 4 ?_;refine mv ?_;refine qg ?_)|(refine qf 5 ?_;refine mv ?_;(first|refine Za S ?_|refine jQ S rfl rfl ?_);(first|refine lB S rfl rfl ?_|refine zh S rfl rfl ?_|refine zU S ?_|refine lH S ?_);refine qg ?_)|(refine qf 6 ?_;(refine tS ?_ ?_<;>intro hc)<;>(refine mv ?_;refine qg ?_))|(refine qf 7 ?_;(refine tS ?_ ?_<;>intro hc)<;>(refine mv ?_;refine qg ?_))|(refine qf 8 ?_;(refine tS ?_ ?_<;>intro hc)<;>(refine mv ?_;refine qg ?_))))
  ·have hg:ZJ ws 0=Zw:=hc;all_goals (repeat' (first|refine qx ?_|refine qi rfl ?_|refine qw ?_|refine qA ?_|refine qh ?_|refine qj ?_|refine qo ?_|(refine qf 9 ?_;refine mv ?_)))
   (refine qH rfl rfl rfl rfl rfl ((qbK S W).mono ?_);rintro _ h (⟨hG,rfl,S⟩|⟨hG,tv,rfl,S⟩))<;>(refine mv ?_;refine vl ?_;refine vl ?_;(refine al S ?_;clear S;intro b h S);(first|(refine sB S rfl rfl ?_;clear S;intro h S)|(refine J3 S rfl rfl ?_;clear S;intro h S));refine mv ?_;refine qg ?_)
   ·all_goals (repeat' (first|refine qx ?_|refine qi rfl ?_|refine qw ?_|refine qA ?_|refine qh ?_|refine qj ?_|refine qo ?_|(refine qf 9 ?_;refine mv ?_)|(refine qf 10 ?_;refine mv ?_;refine vl ?_;refine qg ?_)|(refine qf 11 ?_;refine mv ?_;refine qg ?_)))
    refine qF ⟨_,rfl,?_⟩;rw [qaC hg hG];exact ⟨rfl,S.tail⟩
   ·all_goals (repeat' (first|refine qx ?_|refine qi rfl ?_|refine qw ?_|refine qA ?_|refine qh ?_|refine qj ?_|refine qo ?_|(refine qf 9 ?_;refine mv ?_)|(refine qf 10 ?_;refine mv ?_;refine vl ?_;refine qg ?_)))
    obtain ⟨b8,hnm⟩:∃ x,x=b:=⟨_,rfl⟩;subst hnm;replace S:Hs h0 h (.blk b8 (eG ⟨JK ws,tv⟩) 24 :: .sl tv.val 9 1 eS (ws.drop 8) :: jU p r :: rs):=S;have S:=(show Hs h0 h (jU p r :: .blk b8 (eG ⟨JK ws,tv⟩) 24 :: .sl tv.val 9 1 eS (ws.drop 8) :: rs) from S.pick)
    have hl8:(JK ws).tg.length≤9223372036854775807:=by show (ws.drop 8).length≤_;rw [zB4];omega
    all_goals (repeat' (first|refine qx ?_|refine qi rfl ?_|refine qw ?_|refine qA ?_|refine qh ?_|refine qj ?_|refine qo ?_|(refine qf 12 ?_;refine mv ?_;(first|refine lB S rfl rfl ?_|refine zh S rfl rfl ?_|refine zU S ?_|refine lH S ?_))))
    (refine qH rfl rfl rfl rfl rfl ((qb9 S ⟨JK ws,tv⟩ (fun h' S'=>Rd.Zf S' (.there .here)) hl8 h64).mono ?_);rintro _ h ⟨rfl,S⟩)<;>(refine mv ?_;refine qg ?_)
    all_goals (repeat' (first|refine qx ?_|refine qi rfl ?_|refine qw ?_|refine qA ?_|refine qh ?_|refine qj ?_|refine qo ?_|(refine qf 12 ?_;refine mv ?_;(first|refine lB S rfl rfl ?_|refine zh S rfl rfl ?_|refine zU S ?_|refine lH S ?_))))
    refine qF ⟨_,rfl,?_⟩;rw [VP hg hG];exact ⟨rfl,S.pick⟩
  ·have hf:ZJ ws 0=jW:=hc;all_goals (repeat' (first|refine qx ?_|refine qi rfl ?_|refine qw ?_|refine qA ?_|refine qh ?_|refine qj ?_|refine qo ?_|(refine qf 13 ?_;refine mv ?_;refine qg ?_)|(refine qf 14 ?_;refine mv ?_;(first|refine Zg S ?_|refine J5 S rfl rfl ?_);(first|refine cT ?_|refine cF ?_|(refine cS ?_ ?_<;>intro hc))<;>(refine qg ?_))|(refine qf 15 ?_;refine mv ?_;refine qg ?_)))
   ·refine qF ⟨_,rfl,?_⟩;rw [yQ (.inl hf) (by omega)];exact ⟨rfl,S.tail⟩
   ·have S:=(show Hs h0 h (jU p r :: .sl sv.val 9 1 eS ws :: rs) from S.pick)
    have h3:ws.length=3:=by omega
    all_goals (repeat' (first|refine qx ?_|refine qi rfl ?_|refine qw ?_|refine qA ?_|refine qh ?_|refine qj ?_|refine qo ?_|(refine ji 16 ?_;refine mv ?_;refine mv ?_;(first|refine Za S ?_|refine jQ S rfl rfl ?_);(first|refine lB S rfl rfl ?_|refine zh S rfl rfl ?_|refine zU S ?_|refine lH S ?_);refine mv ?_;(first|refine Za S ?_|refine jQ S rfl rfl ?_);(first|refine lB S rfl rfl ?_|refine zh S rfl rfl ?_|refine zU S ?_|refine lH S ?_);refine mv ?_)))
    (refine qH rfl rfl rfl rfl rfl ((vH S (ZJ ws 1) (ZJ ws 2) 1 h256 H.ts).mono ?_);rintro _ h ⟨rfl,S⟩)<;>(refine mv ?_;refine qg ?_)
    all_goals (repeat' (first|refine qx ?_|refine qi rfl ?_|refine qw ?_|refine qA ?_|refine qh ?_|refine qj ?_|refine qo ?_|(refine ji 16 ?_;refine mv ?_;refine mv ?_;(first|refine Za S ?_|refine jQ S rfl rfl ?_);(first|refine lB S rfl rfl ?_|refine zh S rfl rfl ?_|refine zU S ?_|refine lH S ?_);refine mv ?_;(first|refine Za S ?_|refine jQ S rfl rfl ?_);(first|refine lB S rfl rfl ?_|refine zh S rfl rfl ?_|refine zU S ?_|refine lH S ?_);refine mv ?_)))
    refine qF ⟨_,rfl,?_⟩;rw [YH hf h3];exact ⟨rfl,S.pick⟩
  ·have hf:ZJ ws 0=JY:=hc;all_goals (repeat' (first|refine qx ?_|refine qi rfl ?_|refine qw ?_|refine qA ?_|refine qh ?_|refine qj ?_|refine qo ?_|(refine qf 14 ?_;refine mv ?_;(first|refine Zg S ?_|refine J5 S rfl rfl ?_);(first|refine cT ?_|refine cF ?_|(refine cS ?_ ?_<;>intro hc))<;>(refine qg ?_))|(refine qf 15 ?_;refine mv ?_;refine qg ?_)))
   ·refine qF ⟨_,rfl,?_⟩;rw [yQ (.inr hf) (by omega)];exact ⟨rfl,S.tail⟩
   ·have S:=(show Hs h0 h (jU p r :: .sl sv.val 9 1 eS ws :: rs) from S.pick)
    have h3:ws.length=3:=by omega
    all_goals (repeat' (first|refine qx ?_|refine qi rfl ?_|refine qw ?_|refine qA ?_|refine qh ?_|refine qj ?_|refine qo ?_|(refine ji 16 ?_;refine mv ?_;refine mv ?_;(first|refine Za S ?_|refine jQ S rfl rfl ?_);(first|refine lB S rfl rfl ?_|refine zh S rfl rfl ?_|refine zU S ?_|refine lH S ?_);refine mv ?_;(first|refine Za S ?_|refine jQ S rfl rfl ?_);(first|refine lB S rfl rfl ?_|refine zh S rfl rfl ?_|refine zU S ?_|refine lH S ?_);refine mv ?_)))
    (refine qH rfl rfl rfl rfl rfl ((vH S (ZJ ws 1) (ZJ ws 2) 2 h256 H.ts).mono ?_);rintro _ h ⟨rfl,S⟩)<;>(refine mv ?_;refine qg ?_)
    all_goals (repeat' (first|refine qx ?_|refine qi rfl ?_|refine qw ?_|refine qA ?_|refine qh ?_|refine qj ?_|refine qo ?_|(refine ji 16 ?_;refine mv ?_;refine mv ?_;(first|refine Za S ?_|refine jQ S rfl rfl ?_);(first|refine lB S rfl rfl ?_|refine zh S rfl rfl ?_|refine zU S ?_|refine lH S ?_);refine mv ?_;(first|refine Za S ?_|refine jQ S rfl rfl ?_);(first|refine lB S rfl rfl ?_|refine zh S rfl rfl ?_|refine zU S ?_|refine lH S ?_);refine mv ?_)))
    refine qF ⟨_,rfl,?_⟩;rw [WS hf h3];exact ⟨rfl,S.pick⟩
  ·skip
   all_goals (repeat' (first|refine qx ?_|refine qi rfl ?_|refine qw ?_|refine qA ?_|refine qh ?_|refine qj ?_|refine qo ?_|(refine qf 17 ?_;refine mv ?_;refine qg ?_)))
   refine qF ⟨_,rfl,?_⟩;rw [pJ (by assumption) (by assumption) (by assumption)];exact ⟨rfl,S.tail⟩
end Go.Proofs.Xx
namespace Go.Proofs.Xx
open Go Go.Proofs
def zY:List (List UInt8)→List (List UInt8)
 | []=>[]
 | [w]=>if w=[] then [] else [w]
 | w :: u :: r=>(w ++ [10]) :: zY (u :: r)
theorem Yb {w:List UInt8} {r:List (List UInt8)} (h:r≠[]):zY (w :: r)=(w ++ [10]) :: zY r:=by
 match r,h with
 | u :: r,_=>rfl
theorem yM:∀ r:List (List UInt8),(zY r).length≤r.length
 | []=>zA3 _
 | [w]=>by unfold zY;split<;>simp
 | w :: u :: r=>by have:=yM (u :: r);simp only [zY,zC4] at this ⊢;omega
theorem PN:zY (jm 10 [])=[]:=by simp [jm,zY]
theorem qbl {t:List UInt8} (ht:t≠[]) (h:QH 10 t=none):zY (jm 10 t)=[t]:=by
 rw [Jl (Yh.1 h),zY,if_neg ht]
theorem qbk {t:List UInt8} {m:Nat} (h:QH 10 t=some m):zY (jm 10 t)=t.take (m+1) :: zY (jm 10 (t.drop (m+1))):=by
 obtain ⟨h1,h2,h3⟩:=ZH h;rw [gu h,Yb (Jc 10 _)];congr 1
 have e:t[m]? = some 10:=by
  conv=>lhs;rw [h3]
  rw [List.getElem?_append_right (by simp;omega),zA9,zE5 (by omega),zG6];rfl
 rw [List.take_add_one,e];rfl
inductive PB where
 | ok (r:Rl)
 | bad (i:Nat) (e:Int)
open Classical in
noncomputable def ZC:Rl→Nat→List (List UInt8)→PB
 | r,i,[]=>.ok r
 | r,i,s :: l=>if (QL r s).2≠0 then .bad i (QL r s).2 else ZC (QL r s).1 (i+1) l
theorem YE {r:Rl} {i:Nat} {s:List UInt8} {l:List (List UInt8)} (h:(QL r s).2≠0):ZC r i (s :: l) = .bad i (QL r s).2:=by rw [ZC,if_pos h]
theorem XF {r:Rl} {i:Nat} {s:List UInt8} {l:List (List UInt8)} (h:(QL r s).2=0):ZC r i (s :: l)=ZC (QL r s).1 (i+1) l:=by rw [ZC,if_neg (by simpa using h)]
noncomputable def QB (s:List UInt8):PB:=if 65536<s.length then .bad 0 7 else ZC ⟨[],[]⟩ 0 (zY (jm 10 s))
def Pz (h0:AH) [Flag] (l:Nat) (ls:List (List UInt8)) (RS:Nat→List Rs→Prop) (RB:List Rs→Prop):Prop :=
 ∀ k rs own h,k<ls.length→RS k rs→Hs h0 h (rs ++ own)→Yd Tryz.prog Xh l [.int .i64 k,str (ls.getD k default)] h (fun r h'=>(r = .bool true∧∃ rs',RS (k+1) rs'∧Hs h0 h' (rs' ++ own))∨(r = .bool false∧∃ rs',RB rs'∧Hs h0 h' (rs' ++ own)))
variable [Flag]
theorem qaB {h0 h:AH} {rs:List Rs} {b1 l:Nat} (s:List UInt8) (hs:s.length≤1000000) (S:Hs h0 h (.blk b1 [str s] 9 :: rs)) (RS:Nat→List Rs→Prop) (RB:List Rs→Prop) (hr:RS 0 rs) (Y:Pz h0 l (zY (jm 10 s)) RS RB) :
 Fn Tryz.prog Xh 118 [yv l,.pointer (some ⟨b1,0,none⟩)] h (fun _ h'=>(∃ rs',RS (zY (jm 10 s)).length rs'∧Hs h0 h' rs')∨(∃ rs',RB rs'∧Hs h0 h' rs')):=by
 obtain ⟨ls,hls⟩:∃ ls,ls=zY (jm 10 s):=⟨_,rfl⟩
 rw [← hls] at Y ⊢;have hll:ls.length≤1000001:=by
  have h1:=yM (jm 10 s);have h2:=Zy 10 s;have h3:s.countP (· == 10)≤s.length:=List.countP_le_length;rw [← hls] at h1;omega
 refine zF rfl Tryz.func118 rfl rfl ?_;all_goals (repeat' (first|refine qx ?_|refine qi rfl ?_|refine qw ?_|refine qA ?_|refine qh ?_|refine qj ?_|refine qo ?_|(refine qf 0 ?_;refine mv ?_;refine qg ?_)))
 refine zK (σ:=Nat×List UInt8) (fun (k,t) h'=>k≤ls.length∧t.length≤1000000∧ls.drop k=zY (jm 10 t)∧∃ rs',RS k rs'∧Hs h0 h' (.blk b1 [str t] 9 :: rs')) (fun (k,t)=>t.length) (fun (k,t)=>[(0,yv l),(1,.pointer (some ⟨b1,0,none⟩)),(3,.int .i64 k)]) (0,s) zf ?_ ?_
 ·exact ⟨zB0 _,hs,by rw [hls];rfl,rs,hr,S⟩
 clear S hr;rintro ⟨k,t⟩ h ⟨k1,t1,hk,rs,hr,S⟩;all_goals (repeat' (first|refine qx ?_|refine qi rfl ?_|refine qw ?_|refine qA ?_|refine qh ?_|refine qj ?_|refine qo ?_|(refine qf 1 ?_;(first|refine lB S rfl rfl ?_|refine zh S rfl rfl ?_|refine zU S ?_|refine lH S ?_);(refine tS ?_ ?_<;>intro hc)<;>(refine qg ?_))))
 ·subst hc;rw [PN] at hk;have:ls.length≤k:=List.drop_eq_nil_iff.1 hk;obtain rfl:k=ls.length:=by omega
  refine ⟨_,rfl,?_⟩;exact .inl ⟨rs,hr,S.tail⟩
 ·have perm:∀ x:Rs,(x :: rs).Perm (rs ++ [x]):=fun x=>List.perm_append_comm (l₁:=[x]) (l₂:=rs);have tp:0<t.length:=List.length_pos_iff.2 (by assumption);all_goals (repeat' (first|refine qx ?_|refine qi rfl ?_|refine qw ?_|refine qA ?_|refine qh ?_|refine qj ?_|refine qo ?_|(refine qf 3 ?_;(first|refine lB S rfl rfl ?_|refine zh S rfl rfl ?_|refine zU S ?_|refine lH S ?_))))
  (refine qH rfl rfl rfl rfl rfl ((GX t 10).mono ?_);rintro _ h ⟨rfl,rfl⟩)<;>((first|refine ad ?_|refine vl ?_);refine mv ?_;refine qg ?_)
  rcases hf:QH 10 t with _|m
  ·rw [qaN hf];rw [qbl (by assumption) hf] at hk;have hkl:k<ls.length:=by
    have:=congrArg List.length hk;simp at this;omega
   have hg:ls.getD k default=t:=by
    rw [zG7 hkl] at hk;rw [zA2,zA4 hkl];exact (List.cons.inj hk).1
   all_goals (repeat' (first|refine qx ?_|refine qi rfl ?_|refine qw ?_|refine qA ?_|refine qh ?_|refine qj ?_|refine qo ?_|(refine qf 3 ?_;(first|refine lB S rfl rfl ?_|refine zh S rfl rfl ?_|refine zU S ?_|refine lH S ?_))))
   try rw [show IntKind.i64.wrap (-1+1)=0 from by decide]
   all_goals (repeat' (first|refine qx ?_|refine qi rfl ?_|refine qw ?_|refine qA ?_|refine qh ?_|refine qj ?_|refine qo ?_|(refine qf 4 ?_;refine mv ?_;(first|refine cT ?_|refine cF ?_|(refine cS ?_ ?_<;>intro hc))<;>(refine qg ?_))|(refine qf 5 ?_;(first|refine lB S rfl rfl ?_|refine zh S rfl rfl ?_|refine zU S ?_|refine lH S ?_);refine tl ?_;refine mv ?_;refine qg ?_)|(refine qf 6 ?_;refine mv ?_;refine mv ?_;(first|refine lB S rfl rfl ?_|refine zh S rfl rfl ?_|refine zU S ?_|refine lH S ?_);refine mv ?_;refine kS ?_)))
   have e2:(t.drop 0).take (t.length - 0)=t:=by simp
   rw [e2];refine Gn rfl rfl rfl rfl (((show Yd Tryz.prog Xh l [.int .i64 k,str t] h _ from hg ▸ Y k rs [.blk b1 [str t] 9] h hkl hr (S.perm (perm _)))).mono ?_);rintro _ h (⟨rfl,rs',hr',S⟩|⟨rfl,rs',hr',S⟩);all_goals (refine vl ?_;refine qg ?_)
   ·replace S:=S.perm (List.perm_append_comm (l₁:=rs') (l₂:=[.blk b1 [str t] 9]));replace S:Hs h0 h (.blk b1 [str t] 9 :: rs'):=S;all_goals (repeat' (first|refine qx ?_|refine qi rfl ?_|refine qw ?_|refine qA ?_|refine qh ?_|refine qj ?_|refine qo ?_|(refine qf 2 ?_;refine mv ?_;(first|refine ad ?_|refine vl ?_);refine mv ?_;refine qg ?_)|(refine qf 7 ?_;(first|refine lB S rfl rfl ?_|refine zh S rfl rfl ?_|refine zU S ?_|refine lH S ?_);refine mv ?_;refine kS ?_;(first|(refine sB S rfl rfl ?_;clear S;intro h S)|(refine J3 S rfl rfl ?_;clear S;intro h S));refine qg ?_)))
    have e3:(t.drop t.length).take (t.length - t.length)=[]:=by simp
    rw [e3] at S;refine ⟨(k+1,[]),?_,?_,zf⟩
    ·exact tp
    ·refine ⟨by (try dsimp only);omega,by simp,?_,rs',hr',S⟩;rw [PN,← List.drop_drop,hk];rfl
   ·replace S:=S.perm (List.perm_append_comm (l₁:=rs') (l₂:=[.blk b1 [str t] 9]));all_goals (repeat' (first|refine qx ?_|refine qi rfl ?_|refine qw ?_|refine qA ?_|refine qh ?_|refine qj ?_|refine qo ?_|(refine qf 1 ?_;(first|refine lB S rfl rfl ?_|refine zh S rfl rfl ?_|refine zU S ?_|refine lH S ?_);(refine tS ?_ ?_<;>intro hc)<;>(refine qg ?_))|(refine qf 2 ?_;refine mv ?_;(first|refine ad ?_|refine vl ?_);refine mv ?_;refine qg ?_)|(refine qf 3 ?_;(first|refine lB S rfl rfl ?_|refine zh S rfl rfl ?_|refine zU S ?_|refine lH S ?_))|(refine qf 4 ?_;refine mv ?_;(first|refine cT ?_|refine cF ?_|(refine cS ?_ ?_<;>intro hc))<;>(refine qg ?_))|(refine qf 5 ?_;(first|refine lB S rfl rfl ?_|refine zh S rfl rfl ?_|refine zU S ?_|refine lH S ?_);refine tl ?_;refine mv ?_;refine qg ?_)|(refine qf 6 ?_;refine mv ?_;refine mv ?_;(first|refine lB S rfl rfl ?_|refine zh S rfl rfl ?_|refine zU S ?_|refine lH S ?_);refine mv ?_;refine kS ?_)|(refine qf 7 ?_;(first|refine lB S rfl rfl ?_|refine zh S rfl rfl ?_|refine zU S ?_|refine lH S ?_);refine mv ?_;refine kS ?_;(first|(refine sB S rfl rfl ?_;clear S;intro h S)|(refine J3 S rfl rfl ?_;clear S;intro h S));refine qg ?_)))
    refine qF ⟨_,rfl,?_⟩;exact .inr ⟨rs',hr',Hs.tail (r:=.blk b1 [str t] 9) S⟩
  ·rw [yZ hf];rw [qbk hf] at hk;obtain ⟨m1,m2,m3⟩:=ZH hf;have hkl:k<ls.length:=by
    have:=congrArg List.length hk;simp at this;omega
   have hg:ls.getD k default=t.take (m+1):=by
    rw [zG7 hkl] at hk;rw [zA2,zA4 hkl];exact (List.cons.inj hk).1
   have hk2:ls.drop (k+1)=zY (jm 10 (t.drop (m+1))):=by
    rw [zG7 hkl] at hk;exact (List.cons.inj hk).2
   all_goals (repeat' (first|refine qx ?_|refine qi rfl ?_|refine qw ?_|refine qA ?_|refine qh ?_|refine qj ?_|refine qo ?_|(refine qf 3 ?_;(first|refine lB S rfl rfl ?_|refine zh S rfl rfl ?_|refine zU S ?_|refine lH S ?_))))
   rw [wrap_i64 (by omega) (by omega)];all_goals (repeat' (first|refine qx ?_|refine qi rfl ?_|refine qw ?_|refine qA ?_|refine qh ?_|refine qj ?_|refine qo ?_|(refine qf 4 ?_;refine mv ?_;(first|refine cT ?_|refine cF ?_|(refine cS ?_ ?_<;>intro hc))<;>(refine qg ?_))))
   all_goals first|(exfalso;omega)|skip
   all_goals (repeat' (first|refine qx ?_|refine qi rfl ?_|refine qw ?_|refine qA ?_|refine qh ?_|refine qj ?_|refine qo ?_|(refine qf 6 ?_;refine mv ?_;refine mv ?_;(first|refine lB S rfl rfl ?_|refine zh S rfl rfl ?_|refine zU S ?_|refine lH S ?_);refine mv ?_;refine kS ?_)))
   have e2:(t.drop 0).take (m+1 - 0)=t.take (m+1):=by simp
   rw [e2];refine Gn rfl rfl rfl rfl (((show Yd Tryz.prog Xh l [.int .i64 k,str (t.take (m+1))] h _ from hg ▸ Y k rs [.blk b1 [str t] 9] h hkl hr (S.perm (perm _)))).mono ?_);rintro _ h (⟨rfl,rs',hr',S⟩|⟨rfl,rs',hr',S⟩);all_goals (refine vl ?_;refine qg ?_)
   ·replace S:=S.perm (List.perm_append_comm (l₁:=rs') (l₂:=[.blk b1 [str t] 9]));replace S:Hs h0 h (.blk b1 [str t] 9 :: rs'):=S;all_goals (repeat' (first|refine qx ?_|refine qi rfl ?_|refine qw ?_|refine qA ?_|refine qh ?_|refine qj ?_|refine qo ?_|(refine qf 2 ?_;refine mv ?_;(first|refine ad ?_|refine vl ?_);refine mv ?_;refine qg ?_)|(refine qf 7 ?_;(first|refine lB S rfl rfl ?_|refine zh S rfl rfl ?_|refine zU S ?_|refine lH S ?_);refine mv ?_;refine kS ?_;(first|(refine sB S rfl rfl ?_;clear S;intro h S)|(refine J3 S rfl rfl ?_;clear S;intro h S));refine qg ?_)))
    have e3:(t.drop (m+1)).take (t.length - (m+1))=t.drop (m+1):=zF8 (by simp);rw [e3] at S;refine ⟨(k+1,t.drop (m+1)),?_,?_,zf⟩
    ·show (t.drop (m+1)).length<t.length;rw [zB4];omega
    ·exact ⟨by (try dsimp only);omega,by (try dsimp only);rw [zB4];omega,hk2,rs',hr',S⟩
   ·replace S:=S.perm (List.perm_append_comm (l₁:=rs') (l₂:=[.blk b1 [str t] 9]));all_goals (repeat' (first|refine qx ?_|refine qi rfl ?_|refine qw ?_|refine qA ?_|refine qh ?_|refine qj ?_|refine qo ?_|(refine qf 2 ?_;refine mv ?_;(first|refine ad ?_|refine vl ?_);refine mv ?_;refine qg ?_)|(refine qf 7 ?_;(first|refine lB S rfl rfl ?_|refine zh S rfl rfl ?_|refine zU S ?_|refine lH S ?_);refine mv ?_;refine kS ?_;(first|(refine sB S rfl rfl ?_;clear S;intro h S)|(refine J3 S rfl rfl ?_;clear S;intro h S));refine qg ?_)))
    refine qF ⟨_,rfl,?_⟩;exact .inr ⟨rs',hr',Hs.tail (r:=.blk b1 [str t] 9) S⟩
end Go.Proofs.Xx
namespace Go.Proofs.Xx
open Go Go.Proofs
theorem Y7:∀ l:List (List UInt8),zY (l ++ [[]])=l.map (· ++ [10])
 | []=>rfl
 | w :: r=>by
  rw [zC6,Yb (by simp),Y7 r];rfl
theorem WH {w:List UInt8} (hw:w≠[]):∀ ini:List (List UInt8),zY (ini ++ [w])=ini.map (· ++ [10]) ++ [w]
 | []=>by simp [zY,hw]
 | u :: r=>by
  rw [zC6,Yb (by simp),WH hw r];rfl
theorem PU (w:List UInt8):(w ++ [10]).getLast? = some 10:=by simp
theorem qec (w:List UInt8):Je (w ++ [10])=w:=by
 unfold Je;rw [if_pos (PU w)];simp
theorem qdg {r:Rl} {w:List UInt8} (h:[] ∉ jm 32 w):QL r (w ++ [10])=QD r (jm 32 w):=by
 unfold QL;rw [qec,if_pos ⟨PU w,h⟩]
theorem qdh {r:Rl} {w:List UInt8} (h:(10:UInt8) ∉ w):QL r w=(r,3):=by
 unfold QL;rw [if_neg];intro q;exact h (List.mem_of_getLast? q.1)
structure LnsOk (s:List UInt8) (l:List (List UInt8)) (b:Bool) (ls:List (List UInt8)):Prop where
 len:ls.length=l.length
 fr:∀ k,k<l.length→(10:UInt8) ∉ l.getD k default∧(l.getD k default).length≤s.length
 nl:∀ k,k<l.length→(b=true∨k+1<l.length)→ls.getD k default=l.getD k default ++ [10]
 no:∀ k,k<l.length→b=false→¬ k+1<l.length→ls.getD k default=l.getD k default
theorem LnsOk.whole {s:List UInt8} {l:List (List UInt8)} (h:jm 10 s=l ++ [[]]):LnsOk s l true (zY (jm 10 s)):=by
 have e:zY (jm 10 s)=l.map (· ++ [10]):=by rw [h,Y7]
 rw [e];refine ⟨by simp,fun k hk=>?_,fun k hk _=>?_,fun k hk q=>by cases q⟩
 ·have:l.getD k default∈jm 10 s:=by rw [h];exact List.mem_append_left _ (qJ hk)
  exact ⟨jX this,X9 10 s _ this⟩
 ·rw [zA2,zH9,zA2,zA4 hk];rfl
theorem LnsOk.part {s:List UInt8} {ini:List (List UInt8)} {w:List UInt8} (h:jm 10 s=ini ++ [w]) (hw:w≠[]):LnsOk s (ini ++ [w]) false (zY (jm 10 s)):=by
 have e:zY (jm 10 s)=ini.map (· ++ [10]) ++ [w]:=by rw [h,WH hw]
 rw [e];refine ⟨by simp,fun k hk=>?_,fun k hk q=>?_,fun k hk _ q=>?_⟩
 ·have:(ini ++ [w]).getD k default∈jm 10 s:=by rw [h];exact qJ hk
  exact ⟨jX this,X9 10 s _ this⟩
 ·rcases q with q|q
  ·cases q
  ·simp only [zB2,zD5] at q;have hk2:k<ini.length:=by omega
   rw [zA2,zA2,zH8 (by simpa using hk2),zH8 hk2,zH9,zA4 hk2];rfl
 ·simp only [zB2,zD5] at q hk;obtain rfl:k=ini.length:=by omega
  rw [zA2,zA2,List.getElem?_append_right (by simp),List.getElem?_append_right (zA3 _)];simp
end Go.Proofs.Xx
