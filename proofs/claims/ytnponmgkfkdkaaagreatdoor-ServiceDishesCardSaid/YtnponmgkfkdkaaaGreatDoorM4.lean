/-
  The checked run is sound.
-/
import Derived.Test.YtnponmgkfkdkaaaGreatDoorM3
import Derived.Calls
import Derived.Laws.Externs
import Derived.IntWalk
import Derived.Below
import Derived.ChangeSame
import Derived.ChangeArms
import Derived.OpenShut
import Derived.WideShapes
import Derived.ChangeShapes
set_option linter.unusedSectionVars false
set_option linter.unusedSimpArgs false
set_option linter.unusedVariables false
namespace Go.Proofs.Xx
open Go
theorem ZE:∀ (l:List Nat) (n i b:Nat),Qk (numbered n l) i=some b→n≤b∧b<n+l.length∧l[b - n]? = some i
 | [],n,i,b,h=>by cases h
 | j :: r,n,i,b,h=>by
  simp only [numbered,Qk] at h;split at h
  ·rename_i hj
   cases h
   have:=zA6 hj;subst this;exact ⟨zA3 _,by simp,by simp⟩
  ·obtain ⟨h1,h2,h3⟩:=ZE r (n+1) i b h;refine ⟨by omega,by simp;omega,?_⟩;rw [show b - n=(b - (n+1))+1 by omega,zH4];exact h3
theorem Y9:∀ (l:List Nat) (n i:Nat),yF l i=true→∃ b,Qk (numbered n l) i=some b
 | [],n,i,h=>by cases h
 | j :: r,n,i,h=>by
  simp only [numbered,Qk];cases hj:Nat.beq j i with
  | true=>exact ⟨n,rfl⟩
  | false =>
   simp only;refine Y9 r (n+1) i ?_;rw [yE] at h ⊢;rw [zE7] at h;rcases h with h|h
   ·subst h;simp at hj
   ·exact h
section
variable {P:Program}
theorem Rel.qgb [Glob] {B:Bs} {e:Emb} {h:AH} {w:World} (r:Rel B e h w) (o:Qz):Rel B e (h.add o) w∧Turn e h w e (h.add o) w:=by
 have hne:∀ b L,e b=some L→b≠h.next:=fun b L q=>by have:=r.dom b L q;omega
 refine ⟨⟨fun b L q=>Nat.lt_succ_of_lt (r.dom b L q),fun b hb=>?_,r.rng,fun b L p q1 q2=>?_,fun k M p k' M' p' e1 e2 e3 e4 e5 e6 e7=>?_,fun b L p q1 q2 q3=>?_,r.base,r.keep,r.glob⟩,
  ⟨e.le_refl,Nat.le_succ _,zA3 _,fun _ _ q _=>q,fun b L q n=>(by rw [n] at q;cases q),zA3 _,fun _ _ _=>rfl,fun b hb _=>?_,rfl,rfl,rfl⟩⟩
 ·have hb':h.next+1≤b:=hb
  rw [AH.zf,if_neg (by omega)];exact r.wf b (by omega)
 ·rw [AH.zf,if_neg (hne b L q1)] at q2;exact r.obj b L p q1 q2
 ·rw [AH.zf,if_neg (hne k M e1)] at e2;rw [AH.zf,if_neg (hne k' M' e3)] at e4;exact r.inj k M p k' M' p' e1 e2 e3 e4 e5 e6 e7
 ·rw [AH.zf,if_neg (hne b L q1)] at q2;exact r.own b L p q1 q2 q3
 ·rw [AH.zf,if_neg (by omega)]
theorem Rel.qe9 [Glob] {B:Bs} {e:Emb} {w:World}:∀ (os:List Qz) (h:AH),Rel B e h w→Rel B e (os.foldl AH.add h) w∧Turn e h w e (os.foldl AH.add h) w∧(os.foldl AH.add h).next=h.next+os.length
 | [],h,r=>⟨r,Turn.refl _ _ _,rfl⟩
 | o :: os,h,r=>by
  obtain ⟨r1,u1⟩:=r.qgb o;obtain ⟨r2,u2,n2⟩:=Rel.qe9 os (h.add o) r1;refine ⟨r2,u1.trans u2 r.dom,?_⟩;rw [List.foldl_cons,n2];simp only [AH.add,zC4];omega
theorem Wp [Glob] {X:Extern} {run:zI} (hm:P.follows .mixedOrders=true) (hC:CallOk P (Qe P X run)) (hY:Yk P (Zq run)) {sz:Nat} {ops:Array Oper} {fl:List Nat} {ids:List (Nat×Nat)}
 {t t':Tr Value} {h h0 h':AH} (hp:YI ops (masks ops.toList []) fl=true) (ho:JJ P X run sz ops (masks ops.toList []) fl ids t h0=some (t',h'))
 (ids1:∀ i,yF fl i=true→∃ b,Qk ids i=some b) (ids2:∀ i b,Qk ids i=some b→yF fl i=true∧h.next≤b∧b<h0.next) (ids3:∀ i j b,Qk ids i=some b→Qk ids j=some b→i=j)
 {B:Bs} {e:Emb} {w:World} {tm:Array Value} (r:Rel B e h w) (r0:Rel B e h0 w) (u0:Turn e h w e h0 w) (T:TR e sz t tm) (tv:Nat) :
 ∃ e' w' tm',Rel B e' h' w'∧Turn e h w e' h' w'∧TR e' sz t' tm'∧∀ (fn:FuncId) (ro:Option Nat) (k:List Item) (ds:List Deferred) (cs:List Frame),
  Steps P (lone (fr fn ro tm (.inRegion ops (Region.schedule (P.follows .mixedOrders) ops tv) :: k) ds) cs w) (lone (fr fn ro tm' (.inRegion ops [] :: k) ds) cs w'):=by
 unfold JJ at ho;split at ho
 rotate_left
 ·cases ho
 rename_i l t1 h1 hr
 simp only at ho;have hkey:t1=t'∧h1=h'∧qfh P ops ids (masks ops.toList []) fl ((List.range ops.size).filter (qG ops fl)) (h0 :: ((List.range ops.size).filter (qG ops fl)).map fun i=>hpAt l h1 (i+1)) l:=by
  split at ho
  ·rename_i hall
   cases ho
   refine ⟨rfl,rfl,fun i hi hc o s hoo hs hgo hcalm m k hm hf=>?_⟩;rw [zC8] at hall;have h1:=hall i (zE2.2 hi);unfold gJ at h1;rw [hc,hoo,hs] at h1;simp only [Bool.false_or,hgo,Bool.not_true,hcalm,zC8] at h1;have h2:=h1 m (zE2.2 (zD5.1 hm).1);rw [hf,hm] at h2;exact OkAtP.of (by simpa using h2)
  ·split at ho
   ·rename_i hst
    cases ho
    exact ⟨rfl,rfl,hst⟩
   ·cases ho
 obtain ⟨rfl,rfl,hall⟩:=hkey;obtain ⟨q1,q2,q3,q4⟩:=JH ops.toList 0 t h0 l t1 h1 hr;have c:Canon P X run sz ops ids fl l t t1 h h0 h1:={
  plan:=hp
  startT:=q1
  startH:=q2
  len:=q3.trans zC2
  step:=fun k o hk=>by
   obtain ⟨s,s1,s2⟩:=q4 k o (by rw [zC1];exact hk);refine ⟨s,s1,?_⟩;rw [zG1] at s2;exact s2
  checked:=hall
  ids1:=ids1
  ids2:=ids2
  ids3:=ids3 }
 have hk0:kk l h0 h1 (([]:List Nat).filter (qG ops fl))=h0:=rfl;have S:St B ops ids fl l t h h0 h1 sz e w [] e w tm:={
  rel:=r0
  tr:=T
  turn:=u0
  next:=zA3 _
  free:=fun j b hj _=>by
   cases he:e b with
   | none=>rfl
   | some L =>
    have:=r.dom b L he;have:=(ids2 j b hj).2.1;omega }
 obtain ⟨e',w',tm',p1,p2,p3,p4⟩:=c.go hC hY r.dom ops.size tv (Array.replicate ops.size false) [] (by simp) (by simp) (fun i hi=>by simp [Array.getElem?_replicate,hi]) (Valid.nil ops) e w tm S;refine ⟨e',w',tm',p1,p2,p3,fun fn ro k ds cs=>?_⟩;simp only [Region.schedule,hm,Bool.true_or,if_true];exact p4 fn ro k ds cs
theorem qfY [Glob] {X:Extern} {run:zI} (hm:P.follows .mixedOrders=true) (hX:Yl P X) (hN:∀ (f:FuncId) (fn:Func),P.funcs[f]? = some fn→fn.body.isSome=true→(fn.name == "runtime.NumGoroutine")=false)
 (hR:Z4 P run):GV P X run:=by
 have hC:=QM hX hN hR;have hY:=JZ hR;intro sz ops t h t' h' ho B e w tm r T tv;unfold WN at ho;simp only at ho;split at ho
 rotate_left
 ·cases ho
 rename_i hp
 split at ho
 ·rename_i hfl
  rw [hfl] at hp;refine Wp hm hC hY hp ho (fun i q=>by cases q) (fun i b q=>by cases q) (fun i j b q=>by cases q) r r (Turn.refl _ _ _) T tv
 ·rename_i j rest hfl
  rw [hfl] at hp;obtain ⟨r0,u0,n0⟩:=Rel.qe9 ((j :: rest).map (Ye P ops sz h t)) h r;refine Wp hm hC hY hp ho (fun i q=>Y9 _ _ _ q) (fun i b q=>?_) (fun i k b q1 q2=>?_) r r0 u0 T tv
  ·obtain ⟨a1,a2,a3⟩:=ZE _ _ _ _ q;refine ⟨yE.2 (List.mem_of_getElem? a3),a1,?_⟩;rw [n0,zC5];exact a2
  ·obtain ⟨a1,a2,a3⟩:=ZE _ _ _ _ q1;obtain ⟨b1,b2,b3⟩:=ZE _ _ _ _ q2;rw [a3] at b3;exact Option.some.inj b3
theorem ZW [Glob] {X:Extern} (hm:P.follows .mixedOrders=true) (hX:Yl P X) (hN:∀ (f:FuncId) (fn:Func),P.funcs[f]? = some fn→fn.body.isSome=true→(fn.name == "runtime.NumGoroutine")=false) (n:Nat) :
 Z4 P (exec P X n):=Gf hX hN (fun run hR=>qfY hm hX hN hR) n
end
end Go.Proofs.Xx
namespace Go.Proofs.Xx
open Go Go.RowKit
section
variable {P:Program}
theorem qae [Glob] {X:Extern} {run:zI} (hR:Z4 P run) {f:FuncId} {args:List Value} {h h':AH} {v:Value} (hc:Qe P X run f args h=some (v,h')) (hXn:X f args h=none)
 {fn:Func} {body:Code} (hfn:P.funcs[f]? = some fn) (hb:fn.body=some body) {B:Bs} {e:Emb} {w:World} {args':List Value} (r:Rel B e h w) (hargs:VRs e args args') :
 ∃ e' v' w',Rel B e' h' w'∧Turn e h w e' h' w'∧VR e' v v'∧Calls P f args'.toArray w (fun en w''=>en = .returned v'∧w''=w'):=by
 unfold Qe at hc;rw [hXn,hfn] at hc;simp only [hb] at hc;have hlen:=hargs.length;have hent:Frame.enter P f args'.toArray .normal=fr f none (args'.toArray ++ Array.replicate (fn.ntmps - args'.length) undef) [.code body] []:=by
  simp [Frame.enter,fr,hfn,hb]
 have T:TR e (args.length+(fn.ntmps - args.length)) (zZ 0 args .e) (args'.toArray ++ Array.replicate (fn.ntmps - args'.length) undef):=by
  refine QD ⟨by simp [hlen],fun k u hk=>by rw [Tr.XL] at hk;cases hk⟩ hargs (by omega) fun j hj=>?_;rw [zG1,Array.getElem?_append_left (by simpa using hj)];simp
 split at hc
 ·cases hc
 rotate_left
 ·cases hc
 rename_i x t h1 hx hrun
 split at hc
 rotate_left
 ·cases hc
 rename_i vs hvs
 cases hc
 obtain ⟨e1,w1,tm1,dn,r1,u1,T1,m1,-,a1⟩:=hR _ _ _ _ _ _ _ _ hrun B e w _ f none r T (fun _=>rfl);obtain ⟨rs,d1,d2,d3⟩:=m1.ex;obtain ⟨w2,b2,st2⟩:=J5 (P:=P) (N:=w.heap.size) (e:=e1) (fn:=f) (tm:=tm1) rs w1 d2 d3;have r2:=r1.beside b2 r.base;obtain ⟨vs',p1,p2⟩:=QR (P:=P) r2 T1 hvs;have main:∀ cs,∃ todo,Steps P (lone (fr f none (args'.toArray ++ Array.replicate (fn.ntmps - args'.length) undef) [.code body] []) cs w) (lone (gone f tm1 todo dn) cs w1):=by
  cases x with
  | norm =>
   refine fun cs=>⟨[],?_⟩
   have:=a1 [] [] cs;rw [zD6] at this;exact Steps.trans this (.one qdK)
  | exit id=>exact (hx id rfl).elim
  | ret =>
   refine fun cs=>?_;obtain ⟨k',hk⟩:=a1 [] [] cs;rw [zD6] at hk;exact ⟨_,Steps.trans hk (.one qaC)⟩
 refine ⟨e1,_,w2,r2,u1.beside b2,JK p2,fun cs=>?_⟩;obtain ⟨todo,hst⟩:=main cs;refine ⟨_,w2,gone f tm1 todo [],⟨rfl,rfl⟩,?_,rfl,rfl,rfl,rfl,fn,hfn,?_⟩
 ·rw [hent];rw [d1] at hst;exact Steps.trans hst (st2 todo cs)
 ·rw [show (gone f tm1 todo []).tmps=tm1 from rfl,YH,zA5,Array.mapM_eq_mapM_toList,Sem.run_map,p1];rfl
theorem Rel.empty [Glob] {B:Bs} {e:Emb} {h:AH} {w:World} (r:Rel B e h w):Rel B (fun _=>none) ⟨.e,0,0⟩ w :=
 ⟨fun b L q=>(by cases q),fun b _=>Tr.XL b,fun b L q=>(by cases q),fun b L o q=>(by cases q),fun b L o b' L' o' q=>(by cases q),fun b L o q=>(by cases q),r.base,r.keep,r.glob⟩
def XZ (X:Extern) (f:FuncId) (v:Bool):Extern:=fun g args h=>match Nat.beq g f,args with
 | true,[]=>some (.bool v,h)
 | _,_=>X g args h
theorem kT [Glob] {X X1:Extern} {run:zI} (hX:Yl P X) (hC:CallOk P (Qe P X1 run)) {f:FuncId} {h':AH} {v:Bool} (hc:Qe P X1 run f [] ⟨.e,0,0⟩=some (.bool v,h')):Yl P (XZ X f v):=by
 intro g args h u h1 hx B e w args' r hargs;unfold XZ at hx;split at hx
 ·rename_i hg
  cases hx
  have:=zA6 hg;subst this;have:=hargs.jv;subst this;obtain ⟨e1,v1,w1,r1,u1,hv,hs⟩:=hC _ _ _ _ _ hc _ _ w [] r.empty .nil;cases hv
  have hk:∀ k,k<w.heap.size→w1.heap[k]? = w.heap[k]?:=fun k hk=>u1.keep k hk fun b L q=>by cases q
  refine ⟨e,.bool v,w1,?_,?_,.bool v,hs⟩
  ·exact ⟨r.dom,r.wf,fun b L q=>zE3 (r.rng b L q) u1.size,fun b L o q1 q2=>(r.obj b L o q1 q2).world (hk _ (r.rng b L q1)),r.inj,r.own,zD0 r.base u1.size,fun k q=>(hk k (by have:=r.base;omega)).trans (r.keep k q),r.glob⟩
  ·exact ⟨e.le_refl,zA3 _,zA3 _,fun _ _ q _=>q,fun b L q n=>(by rw [n] at q;cases q),u1.size,fun k q _=>hk k q,fun _ _ _=>rfl,u1.os,u1.tape,u1.output⟩
 ·exact hX _ _ _ _ _ hx B e w args' r hargs
def QZ (n:Nat):Extern:=fun f args h=>match Nat.beq f n,args with
 | true,[x]=>some (x,h)
 | _,_=>none
theorem Vm [Glob] {n:Nat} {fn:Func} (hfn:P.funcs[n]? = some fn) (hname:(fn.name == "runtime.NumGoroutine")=false) (hb:fn.body.isNone=true) (hn:Extern.findNext fn=none)
 (he:Extern.find fn=some Extern.AbiNoEscape.same):Yl P (QZ n):=by
 intro f args h v h' hx B e w args' r hargs;unfold QZ at hx;split at hx
 ·rename_i x hf
  cases hx
  have:=zA6 hf;subst this;obtain ⟨x',r',rfl,hx',hr'⟩:=hargs.cons_inv;have:=hr'.jv;subst this;refine ⟨e,x',w,r,Turn.refl _ _ _,hx',.inl ?_⟩;rw [run_callFunc_extern hfn hname hb hn he];rfl
 ·cases hx
end
end Go.Proofs.Xx
namespace Go.Proofs.Xx
open Go
def RLe (r r':zI):Prop:=∀ a b c d e x,r a b c d e=some x→r' a b c d e=some x
section
variable {P:Program} {X:Extern} {r r':zI}
theorem ZY (h:RLe r r') {f:FuncId} {args:List Value} {m:AH} {x:Value×AH} (hc:Qe P X r f args m=some x):Qe P X r' f args m=some x:=by
 unfold Qe at hc ⊢;cases hX:X f args m with
 | some y=>rw [hX] at hc;exact hc
 | none =>
  rw [hX] at hc;simp only at hc ⊢;cases hfn:P.funcs[f]? with
  | none=>rw [hfn] at hc;cases hc
  | some fn =>
   rw [hfn] at hc;simp only at hc ⊢;cases hb:fn.body with
   | none=>rw [hb] at hc;cases hc
   | some body =>
    rw [hb] at hc;simp only at hc ⊢;cases hr:r false (args.length+(fn.ntmps - args.length)) body (zZ 0 args .e) m with
    | none=>rw [hr] at hc;cases hc
    | some q=>rw [h _ _ _ _ _ _ hr];rw [hr] at hc;exact hc
theorem GZ (h:RLe r r') {l:Nat} {args:List Value} {m:AH} {x:Value×AH} (hc:Zq r l args m=some x):Zq r' l args m=some x:=by
 unfold Zq at hc ⊢;split at hc
 rotate_left
 ·cases hc
 rename_i sz tm ps asg bo hg
 try rw [hg]
 try simp only
 split at hc
 rotate_left
 ·cases hc
 rename_i t0 h1 h2
 try rw [h1,h2]
 try simp only
 split at hc
 rotate_left
 ·cases hc
 rename_i t1 m1 hr
 rw [h _ _ _ _ _ _ hr];try simp only
 split at hc
 rotate_left
 ·cases hc
 rename_i a b c d e hg1
 try rw [hg1]
 try simp only
 split at hc
 rotate_left
 ·cases hc
 rename_i q t2 m2 hr2
 rw [h _ _ _ _ _ _ hr2];exact hc
theorem Pz (h:RLe r r') {t:Tr Value} {m:AH} {op:Op} {x:Value×AH} (hc:yg P X r t m op=some x):yg P X r' t m op=some x:=by
 unfold yg at hc ⊢;split at hc
 ·rename_i e;(try rw [e]);exact hc
 ·rename_i e;(try rw [e]);exact hc
 ·rename_i e;(try rw [e]);exact ZY h hc
 ·rename_i e;(try rw [e]);exact GZ h hc
 ·cases hc
theorem ZL (h:RLe r r') {sz:Nat} {ops:Array Oper}:∀ (os:List Oper) (t:Tr Value) (m:AH) (x:Tr Value×AH),XB P X r sz ops os t m=some x→XB P X r' sz ops os t m=some x
 | [],t,m,x,hc=>hc
 | o :: os,t,m,x,hc=>by
  simp only [XB] at hc ⊢;split at hc
  ·rename_i e;(try rw [e])
   try simp only
   split at hc
   ·rename_i v m' e2
    rw [Pz h e2];try simp only
    split at hc
    ·rename_i t' e3
     try rw [e3]
     exact ZL h os _ _ _ hc
    ·cases hc
   ·cases hc
  ·rename_i e;(try rw [e])
   try simp only
   split at hc
   ·rename_i t' e3
    try rw [e3]
    exact ZL h os _ _ _ hc
   ·cases hc
  ·cases hc
theorem qaB (h:RLe r r') {ids:List (Nat×Nat)} {pl:Bool} {i:Nat} {op:Op} {t:Tr Value} {m:AH} {x:Value×AH} (hc:stepD P X r ids pl i op t m=some x):stepD P X r' ids pl i op t m=some x:=by
 unfold stepD at hc ⊢;split
 ·rename_i b e;rw [e] at hc;exact hc
 ·rename_i e;rw [e] at hc;exact Pz h hc
theorem X8 (h:RLe r r') {sz:Nat} {ops:Array Oper} {ids:List (Nat×Nat)} {pl:Bool}:∀ (os:List Oper) (i:Nat) (t:Tr Value) (m:AH) (x:List zH×Tr Value×AH),ZR P X r sz ops ids pl i os t m=some x→ZR P X r' sz ops ids pl i os t m=some x
 | [],i,t,m,x,hc=>hc
 | o :: os,i,t,m,x,hc=>by
  have key:∀ (s:zH) (t1:Tr Value) (m1:AH),JR s (ZR P X r sz ops ids pl (i+1) os t1 m1)=some x→JR s (ZR P X r' sz ops ids pl (i+1) os t1 m1)=some x:=by
   intro s t1 m1 hk;cases hd:ZR P X r sz ops ids pl (i+1) os t1 m1 with
   | none=>rw [hd] at hk;cases hk
   | some q=>rw [X8 h os _ _ _ _ hd];rw [hd] at hk;exact hk
  simp only [ZR] at hc ⊢;split at hc
  ·rename_i e;(try rw [e])
   try simp only
   split at hc
   ·rename_i v m' e2
    rw [qaB h e2];try simp only
    split at hc
    ·rename_i t' e3
     try rw [e3]
     exact key _ _ _ hc
    ·cases hc
   ·cases hc
  ·rename_i e;(try rw [e])
   try simp only
   split at hc
   ·rename_i t' e3
    try rw [e3]
    exact key _ _ _ hc
   ·cases hc
  ·cases hc
theorem yc (h:RLe r r') {sz:Nat} {ops:Array Oper} {ms fl:List Nat} {ids:List (Nat×Nat)} {t:Tr Value} {m:AH} {x:Tr Value×AH} (hc:JJ P X r sz ops ms fl ids t m=some x):JJ P X r' sz ops ms fl ids t m=some x:=by
 unfold JJ at hc ⊢;split at hc
 ·rename_i l t' h' e
  rw [X8 h _ _ _ _ _ e];exact hc
 ·cases hc
theorem qcK (h:RLe r r') {sz:Nat} {ops:Array Oper} {t:Tr Value} {m:AH} {x:Tr Value×AH} (hc:WN P X r sz ops t m=some x):WN P X r' sz ops t m=some x:=by
 unfold WN at hc ⊢;simp only at hc ⊢;split at hc
 rotate_left
 ·cases hc
 rename_i hp
 try rw [hp]
 try simp only
 split at hc
 ·rename_i hf
  try rw [hf]
  exact yc h hc
 ·rename_i j rr hf
  try rw [hf]
  try simp only
  exact yc h hc
theorem vW (h:RLe r r'):RLe (zD P X r) (zD P X r'):=by
 intro inR sz c t m x hc;unfold zD at hc ⊢;cases c with
 | skip=>exact hc
 | label l=>exact hc
 | seq a b =>
  simp only at hc ⊢;split at hc
  ·rename_i t1 m1 e
   rw [h _ _ _ _ _ _ e];exact h _ _ _ _ _ _ hc
  ·rename_i hne
   cases hr:r inR sz a t m with
   | none=>rw [hr] at hc;cases hc
   | some q =>
    rw [h _ _ _ _ _ _ hr];rw [hr] at hc;cases hc
    obtain ⟨ax,t1,m1⟩:=x;cases ax with
    | norm=>exact absurd hr (hne _ _)
    | exit id=>rfl
    | ret=>rfl
 | cond c a b =>
  simp only at hc ⊢;split at hc
  ·rename_i e;(try rw [e]);exact h _ _ _ _ _ _ hc
  ·rename_i e;(try rw [e]);exact h _ _ _ _ _ _ hc
  ·cases hc
 | block id body =>
  simp only at hc ⊢;cases hr:r inR sz body t m with
  | none=>rw [hr] at hc;cases hc
  | some q=>rw [h _ _ _ _ _ _ hr];rw [hr] at hc;exact hc
 | loop body =>
  simp only at hc ⊢;cases hr:r inR sz body t m with
  | none=>rw [hr] at hc;cases hc
  | some q =>
   rw [h _ _ _ _ _ _ hr];rw [hr] at hc;obtain ⟨ax,t1,m1⟩:=q;cases ax with
   | norm=>exact h _ _ _ _ _ _ hc
   | exit id=>exact hc
   | ret=>exact hc
 | scope body=>exact h _ _ _ _ _ _ hc
 | exit id=>exact hc
 | ret=>exact hc
 | region id ops dr =>
  cases dr with
  | false =>
   simp only at hc ⊢;split at hc
   ·rename_i t1 m1 e
    rw [ZL h _ _ _ _ e];exact hc
   ·cases hc
  | true =>
   simp only at hc ⊢;split at hc
   ·rename_i t1 m1 e
    rw [qcK h e];exact hc
   ·cases hc
 | rangeFunc f ps asg bo =>
  simp only at hc ⊢;split at hc
  ·rename_i g first captured e
   try rw [e]
   try simp only
   split at hc
   ·rename_i v m1 e2
    rw [ZY h e2];exact hc
   ·cases hc
  ·cases hc
 | _=>cases hc
theorem qcY (n:Nat):RLe (exec P X n) (exec P X (n+1)):=by
 induction n with
 | zero=>intro _ _ _ _ _ _ h;cases h
 | succ n ih=>exact vW ih
theorem QC {n m:Nat} (hnm:n≤m):RLe (exec P X n) (exec P X m):=by
 induction hnm with
 | refl=>exact fun _ _ _ _ _ _ h=>h
 | step _ ih=>exact fun _ _ _ _ _ _ h=>qcY _ _ _ _ _ _ _ (ih _ _ _ _ _ _ h)
end
end Go.Proofs.Xx
namespace Go.Proofs.Xx
open Go
section
variable (P:Program) (X:Extern)
def W (inR:Bool) (sz:Nat) (c:Code) (t:Tr Value) (h:AH) (Q:AX→Tr Value→AH→Prop):Prop:=∃ n x t' h',exec P X n inR sz c t h=some (x,t',h')∧Q x t' h'
def WO (sz:Nat) (ops:Array Oper) (os:List Oper) (t:Tr Value) (h:AH) (Q:Tr Value→AH→Prop):Prop:=∃ n t' h',XB P X (exec P X n) sz ops os t h=some (t',h')∧Q t' h'
def Fn (f:FuncId) (args:List Value) (h:AH) (Q:Value→AH→Prop):Prop:=∃ n v h',Qe P X (exec P X n) f args h=some (v,h')∧Q v h'
end
section
variable {P:Program} {X:Extern} {inR:Bool} {sz:Nat} {t:Tr Value} {h:AH} {Q:AX→Tr Value→AH→Prop}
theorem Qo (n:Nat) (c:Code):exec P X (n+1) inR sz c t h=zD P X (exec P X n) inR sz c t h:=rfl
theorem W.mono {c:Code} {Q':AX→Tr Value→AH→Prop} (w:W P X inR sz c t h Q) (hq:∀ x t' h',Q x t' h'→Q' x t' h'):W P X inR sz c t h Q':=by
 obtain ⟨n,x,t',h',h1,h2⟩:=w;exact ⟨n,x,t',h',h1,hq _ _ _ h2⟩
theorem qhP (hq:Q .norm t h):W P X inR sz .skip t h Q:=⟨1,_,_,_,rfl,hq⟩
theorem qhR {id:Nat} (hq:Q (.exit id) t h):W P X inR sz (.exit id) t h Q:=⟨1,_,_,_,rfl,hq⟩
theorem qjM (hq:Q .ret t h):W P X inR sz .ret t h Q:=⟨1,_,_,_,rfl,hq⟩
theorem qgh {l:Nat} (hq:Q .norm t h):W P X inR sz (.label l) t h Q:=⟨1,_,_,_,rfl,hq⟩
def qil (P:Program) (X:Extern) (inR:Bool) (sz:Nat) (b:Code) (Q:AX→Tr Value→AH→Prop):AX→Tr Value→AH→Prop
 | .norm,t,h=>W P X inR sz b t h Q
 | x,t,h=>Q x t h
theorem qjL {a b:Code} (w:W P X inR sz a t h (qil P X inR sz b Q)):W P X inR sz (.seq a b) t h Q:=by
 obtain ⟨n,x,t',h',h1,h2⟩:=w;cases x with
 | norm =>
  obtain ⟨m,x2,t2,h3,h4,h5⟩:=h2;refine ⟨max n m+1,x2,t2,h3,?_,h5⟩;rw [Qo];simp only [zD];rw [QC (Nat.le_max_left n m) _ _ _ _ _ _ h1];exact QC (Nat.le_max_right n m) _ _ _ _ _ _ h4
 | exit id =>
  refine ⟨n+1,_,_,_,?_,h2⟩;rw [Qo];simp only [zD];rw [h1]
 | ret =>
  refine ⟨n+1,_,_,_,?_,h2⟩;rw [Qo];simp only [zD];rw [h1]
theorem qhT {c:Operand} {a b:Code} {v:Bool} (hc:zY t c=some (.bool v)) (w:W P X inR sz (if v then a else b) t h Q):W P X inR sz (.cond c a b) t h Q:=by
 obtain ⟨n,x,t',h',h1,h2⟩:=w;refine ⟨n+1,x,t',h',?_,h2⟩;rw [Qo];simp only [zD,hc];cases v<;>exact h1
def qbk (id:Nat) (Q:AX→Tr Value→AH→Prop):AX→Tr Value→AH→Prop
 | .exit id',t,h=>if id'=id then Q .norm t h else Q (.exit id') t h
 | x,t,h=>Q x t h
theorem qgi {id:Nat} {body:Code} (w:W P X inR sz body t h (qbk id Q)):W P X inR sz (.block id body) t h Q:=by
 obtain ⟨n,x,t',h',h1,h2⟩:=w;cases x with
 | norm=>exact ⟨n+1,_,_,_,by rw [Qo];simp only [zD];rw [h1],h2⟩
 | ret=>exact ⟨n+1,_,_,_,by rw [Qo];simp only [zD];rw [h1],h2⟩
 | exit id' =>
  simp only [qbk] at h2;by_cases hid:id'=id
  ·subst hid;rw [if_pos rfl] at h2;refine ⟨n+1,_,_,_,?_,h2⟩;rw [Qo];simp only [zD];rw [h1];simp
  ·rw [if_neg hid] at h2;refine ⟨n+1,_,_,_,?_,h2⟩;have:Nat.beq id' id=false:=by
    cases hb:Nat.beq id' id with
    | false=>rfl
    | true=>exact absurd (zA6 hb) hid
   rw [Qo];simp only [zD];rw [h1];simp only [this]
theorem qgg {body:Code} (w:W P X inR sz body t h Q):W P X inR sz (.scope body) t h Q:=by
 obtain ⟨n,x,t',h',h1,h2⟩:=w;exact ⟨n+1,_,_,_,by rw [Qo];simp only [zD];exact h1,h2⟩
def qi3 (I:Nat→Tr Value→AH→Prop) (m:Nat) (Q:AX→Tr Value→AH→Prop):AX→Tr Value→AH→Prop
 | .norm,t,h=>∃ k,k<m∧I k t h
 | x,t,h=>Q x t h
theorem qhQ {body:Code} (I:Nat→Tr Value→AH→Prop) (hb:∀ m t h,I m t h→W P X inR sz body t h (qi3 I m Q)):∀ (m:Nat) (t:Tr Value) (h:AH),I m t h→W P X inR sz (.loop body) t h Q:=by
 intro m;induction m using Nat.strongRecOn with
 | _ m ih =>
  intro t h hi;obtain ⟨n,x,t',h',h1,h2⟩:=hb m t h hi;cases x with
  | norm =>
   obtain ⟨k,hk,hi'⟩:=h2;obtain ⟨n2,x2,t2,h3,h4,h5⟩:=ih k hk t' h' hi';refine ⟨max n n2+1,x2,t2,h3,?_,h5⟩;rw [Qo];simp only [zD];rw [QC (Nat.le_max_left n n2) _ _ _ _ _ _ h1];exact QC (Nat.le_max_right n n2) _ _ _ _ _ _ h4
  | exit id=>exact ⟨n+1,_,_,_,by rw [Qo];simp only [zD];rw [h1],h2⟩
  | ret=>exact ⟨n+1,_,_,_,by rw [Qo];simp only [zD];rw [h1],h2⟩
theorem qff {id:Nat} {ops:Array Oper} (w:WO P X sz ops ops.toList t h (Q .norm)):W P X inR sz (.region id ops false) t h Q:=by
 obtain ⟨n,t',h',h1,h2⟩:=w;exact ⟨n+1,_,_,_,by rw [Qo];simp only [zD];rw [h1],h2⟩
variable {ops:Array Oper} {os:List Oper} {o:Oper} {R:Tr Value→AH→Prop}
theorem qhW (hq:R t h):WO P X sz ops [] t h R:=⟨0,_,_,rfl,hq⟩
theorem qhU {t':Tr Value} {h':AH} {v:Value} (hg:qp ops t o.guard=some true) (ha:ja P t h o.op=some (.val v h')) (hp:XA sz t o.dst v=some t') (w:WO P X sz ops os t' h' R):WO P X sz ops (o :: os) t h R:=by
 obtain ⟨n,t2,h2,h1,h3⟩:=w;refine ⟨n,t2,h2,?_,h3⟩;simp only [XB,hg,yg,ha,hp];exact h1
theorem qgj {t':Tr Value} {h':AH} (hg:qp ops t o.guard=some true) (ha:ja P t h o.op=some (.skip h')) (hp:XA sz t o.dst (.tuple #[])=some t') (w:WO P X sz ops os t' h' R):WO P X sz ops (o :: os) t h R:=by
 obtain ⟨n,t2,h2,h1,h3⟩:=w;refine ⟨n,t2,h2,?_,h3⟩;simp only [XB,hg,yg,ha,hp];exact h1
theorem qhV {t':Tr Value} (hg:qp ops t o.guard=some false) (hp:XA sz t o.dst (.tuple #[])=some t') (w:WO P X sz ops os t' h R):WO P X sz ops (o :: os) t h R:=by
 obtain ⟨n,t2,h2,h1,h3⟩:=w;refine ⟨n,t2,h2,?_,h3⟩;simp only [XB,hg,hp];exact h1
theorem qgk {f:FuncId} {args:List Value} {d:Tmp} (hg:qp ops t o.guard=some true) (ha:ja P t h o.op=some (.call f args)) (hd:o.dst=some d) (hs:Nat.blt d sz=true)
 (w:Fn P X f args h (fun v h'=>WO P X sz ops os (t.set d v) h' R)):WO P X sz ops (o :: os) t h R:=by
 obtain ⟨n,v,h1,hc,n2,t2,h2,h3,h4⟩:=w;refine ⟨max n n2,t2,h2,?_,h4⟩;simp only [XB,hg,yg,ha,hd,XA,hs,ZY (QC (Nat.le_max_left n n2)) hc];exact ZL (QC (Nat.le_max_right n n2)) _ _ _ _ h3
theorem Fn.mono {f:FuncId} {args:List Value} {R R':Value→AH→Prop} (w:Fn P X f args h R) (hr:∀ v h',R v h'→R' v h'):Fn P X f args h R':=by
 obtain ⟨n,v,h',h1,h2⟩:=w;exact ⟨n,v,h',h1,hr _ _ h2⟩
def qj1 (P:Program) (rs:List ResultVar) (R:Value→AH→Prop):AX→Tr Value→AH→Prop
 | .exit _,_,_=>False
 | _,t,h=>∃ vs,jr P t h rs=some vs∧R (ji vs) h
theorem qgq {f:FuncId} {fn:Func} {body:Code} {args:List Value} {R:Value→AH→Prop} (hX:X f args h=none) (hf:P.funcs[f]? = some fn) (hb:fn.body=some body)
 (w:W P X false (args.length+(fn.ntmps - args.length)) body (zZ 0 args .e) h (qj1 P fn.results.toList R)):Fn P X f args h R:=by
 obtain ⟨n,x,t',h',h1,h2⟩:=w;cases x with
 | exit id=>exact h2.elim
 | norm =>
  obtain ⟨vs,h3,h4⟩:=h2;refine ⟨n,_,_,?_,h4⟩;unfold Qe;rw [hX,hf];simp only [hb];rw [h1];simp only [h3]
 | ret =>
  obtain ⟨vs,h3,h4⟩:=h2;refine ⟨n,_,_,?_,h4⟩;unfold Qe;rw [hX,hf];simp only [hb];rw [h1];simp only [h3]
theorem JW {f:FuncId} {args:List Value} {R:Value→AH→Prop} {v:Value} {h':AH} (hX:X f args h=some (v,h')) (hq:R v h'):Fn P X f args h R:=⟨0,v,h',by unfold Qe;rw [hX],hq⟩
def qbe (ops:Array Oper):Bool :=
 YI ops (masks ops.toList []) [] && (XP ops (masks ops.toList [])).isEmpty &&
  (List.range ops.size).all fun i=>qG ops [] i || match ops[i]? with|some o=>XW [] (masks ops.toList []) ((List.range ops.size).filter (qG ops [])) i o.op|none=>false
theorem VF {run:zI}:∀ (os:List Oper) (i:Nat) (t:Tr Value) (h:AH) (t':Tr Value) (h':AH),XB P X run sz ops os t h=some (t',h')→∃ l,ZR P X run sz ops [] false i os t h=some (l,t',h')
 | [],i,t,h,t',h',hr=>by cases hr;exact ⟨[],rfl⟩
 | o :: r,i,t,h,t',h',hr=>by
  simp only [XB] at hr;split at hr
  ·rename_i hg
   split at hr
   ·rename_i v h1 ho
    split at hr
    ·rename_i t1 hp
     obtain ⟨l,hl⟩:=VF r (i+1) t1 h1 t' h' hr;exact ⟨⟨t,h,true,v⟩ :: l,by simp only [ZR,hg,stepD,Qk,ho,hp,hl,JR]⟩
    ·cases hr
   ·cases hr
  ·rename_i hg
   split at hr
   ·rename_i t1 hp
    obtain ⟨l,hl⟩:=VF r (i+1) t1 h t' h' hr;exact ⟨⟨t,h,false,.tuple #[]⟩ :: l,by simp only [ZR,hg,hp,hl,JR]⟩
   ·cases hr
  ·cases hr
theorem qhS {id:Nat} (hd:qbe ops=true) (w:WO P X sz ops ops.toList t h (Q .norm)):W P X inR sz (.region id ops true) t h Q:=by
 obtain ⟨n,t',h',h1,h2⟩:=w;refine ⟨n+1,_,_,_,?_,h2⟩;unfold qbe at hd;rw [zA8,zA8,List.isEmpty_iff,zC8] at hd;obtain ⟨⟨hp,hf⟩,hs⟩:=hd;rw [Qo];simp only [zD];obtain ⟨l,hl⟩:=VF ops.toList 0 t h t' h' h1;obtain ⟨q1,q2,q3,q4⟩:=JH ops.toList 0 t h l t' h' hl;have:WN P X (exec P X n) sz ops t h=some (t',h'):=by
  unfold WN;simp only [hf,hp];unfold JJ;rw [hl];simp only;have:(List.range ops.size).all (gJ P ops [] (masks ops.toList []) [] ((List.range ops.size).filter (qG ops [])) (h :: ((List.range ops.size).filter (qG ops [])).map fun i=>hpAt l h' (i+1)) l)=true:=by
   rw [zC8];intro i hi;have hi':=zE2.1 hi;have h3:=hs i hi;unfold gJ;have ho:ops[i]? = some ops[i]:=zE1 hi';obtain ⟨s,s1,-⟩:=q4 i _ (by rw [zC1];exact ho);rw [ho] at h3 ⊢;rw [s1];rw [zG8] at h3 ⊢;rcases h3 with h3|h3
   ·exact .inl h3
   ·refine .inr ?_;simp only at h3 ⊢;rw [h3];simp
  rw [this]
 rw [this]
end
end Go.Proofs.Xx
namespace Go.Proofs.Xx
open Go
abbrev Ks:=List (Nat×Value)
def Ks.get:Ks→Nat→Option Value
 | [],_=>none
 | (j,v) :: r,k=>match Nat.beq j k with|true=>some v|false=>Ks.get r k
def Ks.put (L:Ks) (k:Nat) (v:Value):Ks:=(k,v) :: L
def Kn (t:Tr Value) (L:Ks):Prop:=∀ k v,L.get k=some v→t.get k=some v
theorem Kn.put {t:Tr Value} {L:Ks} (h:Kn t L) (k:Nat) (v:Value):Kn (t.set k v) (L.put k v):=by
 intro j u hj;rw [Tr.QB];simp only [Ks.put,Ks.get] at hj;split at hj
 ·rename_i e
  cases hj
  rw [if_pos (zA6 e).symm]
 ·rename_i e
  rw [if_neg]
  ·exact h j u hj
  ·intro q;subst q;simp at e
def Ks.le (L' L:Ks):Prop:=∀ k v,L'.get k=some v→L.get k=some v
theorem Kn.le {t:Tr Value} {L L':Ks} (h:Kn t L) (hl:Ks.le L' L):Kn t L':=fun k v hk=>h k v (hl k v hk)
theorem Ks.le_nil (L:Ks):Ks.le [] L:=fun k v h=>by cases h
theorem Ks.qbQ {L L':Ks} {k:Nat} {v:Value} (h:L.get k=some v) (hl:Ks.le L' L):Ks.le ((k,v) :: L') L:=by
 intro j u hj;simp only [Ks.get] at hj;split at hj
 ·rename_i e
  cases hj
  rw [← zA6 e];exact h
 ·exact hl j u hj
def kA (L:Ks):Operand→Option Value
 | .tmp k=>L.get k
 | .const v=>match QT v with|true=>some v|false=>none
 | .global _=>none
 | .func f=>some (.func (.func f) #[] #[])
theorem qgG {t:Tr Value} {L:Ks} (h:Kn t L) {o:Operand} {v:Value} (hk:kA L o=some v):zY t o=some v:=by
 cases o with
 | tmp k=>exact h k v hk
 | _=>exact hk
def Ks.tree:Ks→Tr Value
 | []=>.e
 | (k,v) :: r=>(Ks.tree r).set k v
theorem Ks.jH:∀ (L:Ks) (k:Nat),L.tree.get k=L.get k
 | [],k=>Tr.XL k
 | (j,v) :: r,k=>by
  simp only [Ks.tree,Ks.get,Tr.QB];by_cases hk:k=j
  ·subst hk;simp
  ·rw [if_neg hk,Ks.jH r k];have:Nat.beq j k=false:=by
    cases hb:Nat.beq j k with
    | false=>rfl
    | true=>exact absurd (zA6 hb).symm hk
   rw [this]
theorem Kn.tree (L:Ks):Kn L.tree L:=fun k v h=>by rw [Ks.jH];exact h
def TLe (u t:Tr Value):Prop:=∀ k v,u.get k=some v→t.get k=some v
section
variable {u t:Tr Value} (hl:TLe u t)
include hl
theorem zi {o:Operand} {v:Value} (h:zY u o=some v):zY t o=some v:=by
 cases o with
 | tmp k=>exact hl k v h
 | _=>exact h
theorem Vo:∀ {os:List Operand} {vs:List Value},jO u os=some vs→jO t os=some vs
 | [],vs,h=>h
 | o :: r,vs,h=>by
  simp only [jO] at h ⊢;split at h
  ·rename_i e1 e2;rw [zi hl e1,Vo e2];exact h
  ·cases h
theorem Xk:∀ {os:List (Nat×Operand)} {vs:List (Nat×Value)},jG u os=some vs→jG t os=some vs
 | [],vs,h=>h
 | (i,o) :: r,vs,h=>by
  simp only [jG] at h ⊢;split at h
  ·rename_i e1 e2;rw [zi hl e1,Xk e2];exact h
  ·cases h
theorem yK {o:Option Operand} {v:Option Value} (h:jM u o=some v):jM t o=some v:=by
 cases o with
 | none=>exact h
 | some o =>
  simp only [jM] at h ⊢;split at h
  ·rename_i e1;rw [zi hl e1];exact h
  ·cases h
theorem yU {P:Program} {h:AH} {op:Op} {n:Xz} (ha:ja P u h op=some n):ja P t h op=some n:=by
 cases op<;>simp only [ja] at ha ⊢
 case move x=>cases e:zY u x with
  | none=>rw [e] at ha;cases ha
  | some v=>rw [zi hl e];rw [e] at ha;exact ha
 case assign x=>cases e:zY u x with
  | none=>rw [e] at ha;cases ha
  | some v=>rw [zi hl e];rw [e] at ha;exact ha
 case pick c a b =>
  cases e:zY u c with
  | none=>rw [e] at ha;cases ha
  | some v =>
   rw [zi hl e];rw [e] at ha;cases v with
   | bool q =>
    cases q with
    | true=>cases e2:zY u a with
     | none=>simp only [e2] at ha;cases ha
     | some v=>simp only [zi hl e2];simp only [e2] at ha;exact ha
    | false=>cases e2:zY u b with
     | none=>simp only [e2] at ha;cases ha
     | some v=>simp only [zi hl e2];simp only [e2] at ha;exact ha
   | _=>cases ha
 case alloc e=>exact ha
 case box a x=>cases e:zY u x with
  | none=>rw [e] at ha;cases ha
  | some v=>rw [zi hl e];rw [e] at ha;exact ha
 case build ty ps=>cases e:jG u ps.toList with
  | none=>rw [e] at ha;cases ha
  | some v=>rw [Xk hl e];rw [e] at ha;exact ha
 case buildSlice ty m ps=>cases e:jG u ps.toList with
  | none=>rw [e] at ha;cases ha
  | some v=>rw [Xk hl e];rw [e] at ha;exact ha
 case load a x=>cases e:zY u x with
  | none=>rw [e] at ha;cases ha
  | some v=>rw [zi hl e];rw [e] at ha;exact ha
 case nilCheck x=>cases e:zY u x with
  | none=>rw [e] at ha;cases ha
  | some v=>rw [zi hl e];rw [e] at ha;exact ha
 case unOp a b x=>cases e:zY u x with
  | none=>rw [e] at ha;cases ha
  | some v=>rw [zi hl e];rw [e] at ha;exact ha
 case convert a b x=>cases e:zY u x with
  | none=>rw [e] at ha;cases ha
  | some v=>rw [zi hl e];rw [e] at ha;exact ha
 case fieldAddr a x b=>cases e:zY u x with
  | none=>rw [e] at ha;cases ha
  | some v=>rw [zi hl e];rw [e] at ha;exact ha
 case field a x b=>cases e:zY u x with
  | none=>rw [e] at ha;cases ha
  | some v=>rw [zi hl e];rw [e] at ha;exact ha
 case extract x b=>cases e:zY u x with
  | none=>rw [e] at ha;cases ha
  | some v=>rw [zi hl e];rw [e] at ha;exact ha
 case store ty a x =>
  cases e:zY u a with
  | none=>rw [e] at ha;cases ha
  | some v=>cases e2:zY u x with
   | none=>rw [e,e2] at ha;cases ha
   | some v2=>rw [zi hl e,zi hl e2];rw [e,e2] at ha;exact ha
 case binOp op ty a x b =>
  cases e:zY u a with
  | none=>rw [e] at ha;cases ha
  | some v=>cases e2:zY u x with
   | none=>rw [e,e2] at ha;cases ha
   | some v2=>rw [zi hl e,zi hl e2];rw [e,e2] at ha;exact ha
 case indexAddr ty a x =>
  cases e:zY u a with
  | none=>rw [e] at ha;cases ha
  | some v=>cases e2:zY u x with
   | none=>rw [e,e2] at ha;cases ha
   | some v2=>rw [zi hl e,zi hl e2];rw [e,e2] at ha;exact ha
 case index ty a x =>
  cases e:zY u a with
  | none=>rw [e] at ha;cases ha
  | some v=>cases e2:zY u x with
   | none=>rw [e,e2] at ha;cases ha
   | some v2=>rw [zi hl e,zi hl e2];rw [e,e2] at ha;exact ha
 case makeSlice ty a x =>
  cases e:zY u a with
  | none=>rw [e] at ha;cases ha
  | some v=>cases e2:zY u x with
   | none=>rw [e,e2] at ha;cases ha
   | some v2=>rw [zi hl e,zi hl e2];rw [e,e2] at ha;exact ha
 case lookup ty m k ok =>
  cases e:zY u m with
  | none=>rw [e] at ha;cases ha
  | some v=>cases e2:zY u k with
   | none=>rw [e,e2] at ha;cases ha
   | some v2=>rw [zi hl e,zi hl e2];rw [e,e2] at ha;exact ha
 case mapEntry ty m k =>
  cases e:zY u m with
  | none=>rw [e] at ha;cases ha
  | some v=>cases e2:zY u k with
   | none=>rw [e,e2] at ha;cases ha
   | some v2=>rw [zi hl e,zi hl e2];rw [e,e2] at ha;exact ha
 case mapUpdate ty m k x =>
  cases e:zY u m with
  | none=>rw [e] at ha;cases ha
  | some v=>cases e2:zY u k with
   | none=>rw [e,e2] at ha;cases ha
   | some v2=>cases e3:zY u x with
    | none=>rw [e,e2,e3] at ha;cases ha
    | some v3=>rw [zi hl e,zi hl e2,zi hl e3];rw [e,e2,e3] at ha;exact ha
 case insert ty m k x =>
  cases e:zY u m with
  | none=>rw [e] at ha;cases ha
  | some v=>cases e2:zY u k with
   | none=>rw [e,e2] at ha;cases ha
   | some v2=>cases e3:zY u x with
    | none=>rw [e,e2,e3] at ha;cases ha
    | some v3=>rw [zi hl e,zi hl e2,zi hl e3];rw [e,e2,e3] at ha;exact ha
 case entryStore ty m k x =>
  cases e:zY u m with
  | none=>rw [e] at ha;cases ha
  | some v=>cases e2:zY u k with
   | none=>rw [e,e2] at ha;cases ha
   | some v2=>cases e3:zY u x with
    | none=>rw [e,e2,e3] at ha;cases ha
    | some v3=>rw [zi hl e,zi hl e2,zi hl e3];rw [e,e2,e3] at ha;exact ha
 case makeMap ty rs=>exact ha
 case makeFunc fn a b =>
  cases fn<;>simp only at ha ⊢
  case func f =>
   cases e:jO u a.toList with
   | none=>rw [e] at ha;cases ha
   | some v=>cases e2:jO u b.toList with
    | none=>rw [e,e2] at ha;cases ha
    | some v2=>rw [Vo hl e,Vo hl e2];rw [e,e2] at ha;exact ha
  all_goals cases ha
 case slice ty x a b c =>
  cases e:zY u x with
  | none=>rw [e] at ha;cases ha
  | some v=>cases e1:jM u a with
   | none=>rw [e,e1] at ha;cases ha
   | some v1=>cases e2:jM u b with
    | none=>rw [e,e1,e2] at ha;cases ha
    | some v2=>cases e3:jM u c with
     | none=>rw [e,e1,e2,e3] at ha;cases ha
     | some v3=>rw [zi hl e,yK hl e1,yK hl e2,yK hl e3];rw [e,e1,e2,e3] at ha;exact ha
 case call c =>
  obtain ⟨callee,args,argTypes⟩:=c;simp only at ha ⊢;cases e:jO u args.toList with
  | none=>rw [e] at ha;cases ha
  | some vs =>
   rw [Vo hl e];rw [e] at ha;cases callee with
   | builtin b=>exact ha
   | value f =>
    simp only at ha ⊢;cases e2:zY u f with
    | none=>rw [e2] at ha;cases ha
    | some v=>rw [zi hl e2];rw [e2] at ha;exact ha
   | invoke a b=>exact ha
 all_goals cases ha
theorem Qs {ops:Array Oper} {g:Option (Nat×Bool)} {b:Bool} (h:qp ops u g=some b):qp ops t g=some b:=by
 unfold qp at h ⊢;split at h
 ·exact h
 ·rename_i j want
  (try simp only)
  split at h
  ·rename_i o ho
   (try rw [ho])
   (try simp only)
   split at h
   ·rename_i d hd
    (try rw [hd])
    (try simp only)
    cases hg:u.get d with
    | none=>rw [hg] at h;cases h
    | some v=>rw [hl d v hg];rw [hg] at h;exact h
   ·cases h
  ·cases h
theorem XH {P:Program} {h:AH}:∀ {rs:List ResultVar} {vs:List Value},jr P u h rs=some vs→jr P t h rs=some vs
 | [],vs,hr=>hr
 | r :: rs,vs,hr=>by
  simp only [jr] at hr ⊢;have key:∀ v,Jf P u h r=some v→Jf P t h r=some v:=by
   intro v hv;cases r with
   | tmp k=>exact hl k v hv
   | cell a ty =>
    simp only [Jf] at hv ⊢;cases e:u.get a with
    | none=>rw [e] at hv;cases hv
    | some p=>rw [hl a p e];rw [e] at hv;exact hv
  split at hr
  ·rename_i e1 e2
   rw [key _ e1,XH e2];exact hr
  ·cases hr
end
theorem Kn.tle {t:Tr Value} {L:Ks} (h:Kn t L):TLe L.tree t:=fun k v hk=>h k v (by rw [← Ks.jH];exact hk)
end Go.Proofs.Xx
namespace Go.Proofs.Xx
open Go
abbrev KQ:=AX→Ks→AH→Prop
section
variable (P:Program) (X:Extern)
def K (inR:Bool) (sz:Nat) (c:Code) (L:Ks) (h:AH) (Q:KQ):Prop:=∀ t,Kn t L→W P X inR sz c t h (fun x t' h'=>∃ L',Kn t' L'∧Q x L' h')
def KO (sz:Nat) (ops:Array Oper) (os:List Oper) (L:Ks) (h:AH) (R:Ks→AH→Prop):Prop:=∀ t,Kn t L→WO P X sz ops os t h (fun t' h'=>∃ L',Kn t' L'∧R L' h')
end
section
variable {P:Program} {X:Extern} {inR:Bool} {sz:Nat} {L:Ks} {h:AH} {Q:KQ}
theorem K.mono {c:Code} {Q':KQ} (w:K P X inR sz c L h Q) (hq:∀ x L' h',Q x L' h'→Q' x L' h'):K P X inR sz c L h Q' :=
 fun t hk=>(w t hk).mono fun x t' h' ⟨L',h1,h2⟩=>⟨L',h1,hq _ _ _ h2⟩
theorem K.le {c:Code} {L':Ks} (hl:Ks.le L' L) (w:K P X inR sz c L' h Q):K P X inR sz c L h Q:=fun t hk=>w t (hk.le hl)
theorem qi (hq:Q .norm L h):K P X inR sz .skip L h Q:=fun t hk=>qhP ⟨L,hk,hq⟩
theorem qC {id:Nat} (hq:Q (.exit id) L h):K P X inR sz (.exit id) L h Q:=fun t hk=>qhR ⟨L,hk,hq⟩
theorem qo (hq:Q .ret L h):K P X inR sz .ret L h Q:=fun t hk=>qjM ⟨L,hk,hq⟩
theorem qY {l:Nat} (hq:Q .norm L h):K P X inR sz (.label l) L h Q:=fun t hk=>qgh ⟨L,hk,hq⟩
def wB (P:Program) (X:Extern) (inR:Bool) (sz:Nat) (b:Code) (Q:KQ):KQ
 | .norm,L,h=>K P X inR sz b L h Q
 | x,L,h=>Q x L h
theorem qg {a b:Code} (w:K P X inR sz a L h (wB P X inR sz b Q)):K P X inR sz (.seq a b) L h Q:=fun t hk =>
 qjL ((w t hk).mono fun x t' h' ⟨L',h1,h2⟩=>by
  cases x with
  | norm=>exact h2 t' h1
  | exit id=>exact ⟨L',h1,h2⟩
  | ret=>exact ⟨L',h1,h2⟩)
theorem qh3 {c:Operand} {a b:Code} {v:Bool} (hc:kA L c=some (.bool v)) (w:K P X inR sz (if v then a else b) L h Q):K P X inR sz (.cond c a b) L h Q:=fun t hk =>
 qhT (qgG hk hc) (w t hk)
def qbl (id:Nat) (Q:KQ):KQ
 | .exit id',L,h=>if id'=id then Q .norm L h else Q (.exit id') L h
 | x,L,h=>Q x L h
theorem qgn {id:Nat} {body:Code} (w:K P X inR sz body L h (qbl id Q)):K P X inR sz (.block id body) L h Q:=fun t hk =>
 qgi ((w t hk).mono fun x t' h' ⟨L',h1,h2⟩=>by
  cases x with
  | norm=>exact ⟨L',h1,h2⟩
  | exit id' =>
   simp only [qbl] at h2;simp only [qbk];split
   ·rename_i e;rw [if_pos e] at h2;exact ⟨L',h1,h2⟩
   ·rename_i e;rw [if_neg e] at h2;exact ⟨L',h1,h2⟩
  | ret=>exact ⟨L',h1,h2⟩)
theorem qX {body:Code} (w:K P X inR sz body L h Q):K P X inR sz (.scope body) L h Q:=fun t hk=>qgg (w t hk)
def qi4 (I:Nat→Ks→AH→Prop) (m:Nat) (Q:KQ):KQ
 | .norm,L,h=>∃ k L',k<m∧I k L' h∧Ks.le L' L
 | x,L,h=>Q x L h
theorem qh2 {body:Code} (I:Nat→Ks→AH→Prop) (hb:∀ m L h,I m L h→K P X inR sz body L h (qi4 I m Q)) (m:Nat) {L0:Ks} (hi:I m L0 h) (hl:Ks.le L0 L):K P X inR sz (.loop body) L h Q:=fun t hk =>
 qhQ (Q:=fun x t' h'=>∃ L',Kn t' L'∧Q x L' h') (fun m t h=>∃ L,Kn t L∧I m L h) (fun m t h ⟨L,k1,k2⟩=>(hb m L h k2 t k1).mono fun x t' h' ⟨L',h1,h2⟩=>by
  cases x with
  | norm=>obtain ⟨k,L2,h3,h4,h5⟩:=h2;exact ⟨k,h3,L2,h1.le h5,h4⟩
  | exit id=>exact ⟨L',h1,h2⟩
  | ret=>exact ⟨L',h1,h2⟩) m t h ⟨L0,hk.le hl,hi⟩
theorem qc (id:Nat) {ops:Array Oper} (w:KO P X sz ops ops.toList L h (Q .norm)):K P X inR sz (.region id ops false) L h Q:=fun t hk=>qff (w t hk)
variable {ops:Array Oper} {os:List Oper} {o:Oper} {R:Ks→AH→Prop}
theorem qf (hq:R L h):KO P X sz ops [] L h R:=fun t hk=>qhW ⟨L,hk,hq⟩
theorem KO.mono {R':Ks→AH→Prop} (w:KO P X sz ops os L h R') (hq:∀ L' h',R' L' h'→R L' h'):KO P X sz ops os L h R:=fun t hk=>by
 obtain ⟨n,t',h',h1,L',h2,h3⟩:=w t hk;exact ⟨n,t',h',h1,L',h2,hq _ _ h3⟩
def qJ (sz:Nat) (L:Ks) (d:Option Tmp) (v:Value):Option Ks :=
 match d with
 | none=>some L
 | some k=>match Nat.blt k sz with
  | true=>some (L.put k v)
  | false=>none
theorem Ya {t:Tr Value} {L L':Ks} {d:Option Tmp} {v:Value} (hk:Kn t L) (hp:qJ sz L d v=some L'):∃ t',XA sz t d v=some t'∧Kn t' L':=by
 unfold qJ at hp;unfold XA;split at hp
 ·cases hp;exact ⟨t,rfl,hk⟩
 ·split at hp
  ·rename_i e;cases hp;exact ⟨_,by simp only [e],hk.put _ _⟩
  ·cases hp
theorem zJ {L':Ks} {h':AH} {v:Value} (hg:qp ops L.tree o.guard=some true) (ha:ja P L.tree h o.op=some (.val v h')) (hp:qJ sz L o.dst v=some L') (w:KO P X sz ops os L' h' R):KO P X sz ops (o :: os) L h R:=fun t hk=>by
 obtain ⟨t',h1,h2⟩:=Ya hk hp;exact qhU (Qs hk.tle hg) (yU hk.tle ha) h1 (w t' h2)
theorem xq {L':Ks} {h':AH} (hg:qp ops L.tree o.guard=some true) (ha:ja P L.tree h o.op=some (.skip h')) (hp:qJ sz L o.dst (.tuple #[])=some L') (w:KO P X sz ops os L' h' R):KO P X sz ops (o :: os) L h R:=fun t hk=>by
 obtain ⟨t',h1,h2⟩:=Ya hk hp;exact qgj (Qs hk.tle hg) (yU hk.tle ha) h1 (w t' h2)
theorem qh5 {L':Ks} (hg:qp ops L.tree o.guard=some false) (hp:qJ sz L o.dst (.tuple #[])=some L') (w:KO P X sz ops os L' h R):KO P X sz ops (o :: os) L h R:=fun t hk=>by
 obtain ⟨t',h1,h2⟩:=Ya hk hp;exact qhV (Qs hk.tle hg) h1 (w t' h2)
theorem zK {f:FuncId} {args:List Value} {d:Tmp} (hg:qp ops L.tree o.guard=some true) (ha:ja P L.tree h o.op=some (.call f args)) (hd:o.dst=some d) (hs:Nat.blt d sz=true)
 (w:Fn P X f args h (fun v h'=>KO P X sz ops os (L.put d v) h' R)):KO P X sz ops (o :: os) L h R:=fun t hk =>
 qgk (Qs hk.tle hg) (yU hk.tle ha) hd hs (w.mono fun v h' q=>q _ (hk.put d v))
theorem qI {L:Ks} {o:Operand} {v:Value} (hk:kA L o=some v):zY L.tree o=some v:=qgG (Kn.tree L) hk
theorem qfk {L':Ks} {x:Operand} {ty:TypeId} {a v:Value} (ho:o.op = .call { callee:=.builtin .len,args:=#[x],argTypes:=#[ty] }) (hg:qp ops L.tree o.guard=some true) (hx:kA L x=some a)
 (hv:qbt P ty a=some v) (hp:qJ sz L o.dst v=some L') (w:KO P X sz ops os L' h R):KO P X sz ops (o :: os) L h R :=
 zJ hg (by rw [ho];simp only [ja,jO,qI hx,jK,hv,qU]) hp w
theorem qfl {L':Ks} {x i:Operand} {ty:TypeId} {a b v:Value} (ho:o.op = .indexAddr ty x i) (hg:qp ops L.tree o.guard=some true) (hx:kA L x=some a) (hi:kA L i=some b)
 (hv:jB P ty a b=some v) (hp:qJ sz L o.dst v=some L') (w:KO P X sz ops os L' h R):KO P X sz ops (o :: os) L h R :=
 zJ hg (by rw [ho];simp only [ja,qI hx,qI hi,hv,qU]) hp w
theorem GR {L':Ks} {x:Operand} {ty:TypeId} {a v:Value} (ho:o.op = .load ty x) (hg:qp ops L.tree o.guard=some true) (hx:kA L x=some a)
 (hv:Jp P ty a h=some v) (hp:qJ sz L o.dst v=some L') (w:KO P X sz ops os L' h R):KO P X sz ops (o :: os) L h R :=
 zJ hg (by rw [ho];simp only [ja,qI hx,hv,qU]) hp w
theorem jD {L':Ks} {op:BinOp} {x y:Operand} {ty ty2:TypeId} {a b v:Value} (ho:o.op = .binOp op ty x y ty2) (hg:qp ops L.tree o.guard=some true) (hx:kA L x=some a) (hy:kA L y=some b)
 (hv:QO P op ty a b=some v) (hp:qJ sz L o.dst v=some L') (w:KO P X sz ops os L' h R):KO P X sz ops (o :: os) L h R :=
 zJ hg (by rw [ho];simp only [ja,qI hx,qI hy,hv,qU]) hp w
theorem qam {h':AH} {L':Ks} {x y:Operand} {ty:TypeId} {a b:Value} (ho:o.op = .store ty x y) (hg:qp ops L.tree o.guard=some true) (hx:kA L x=some a) (hy:kA L y=some b)
 (hv:Xn P ty a b h=some h') (hp:qJ sz L o.dst (.tuple #[])=some L') (w:KO P X sz ops os L' h' R):KO P X sz ops (o :: os) L h R :=
 xq hg (by rw [ho];simp only [ja,qI hx,qI hy,hv]) hp w
theorem qgo {h':AH} {L':Ks} {x y:Operand} {ty:TypeId} {a b v:Value} (ho:o.op = .makeSlice ty x y) (hg:qp ops L.tree o.guard=some true) (hx:kA L x=some a) (hy:kA L y=some b)
 (hv:QJ P ty a b h=some (v,h')) (hp:qJ sz L o.dst v=some L') (w:KO P X sz ops os L' h' R):KO P X sz ops (o :: os) L h R :=
 zJ hg (by rw [ho];simp only [ja,qI hx,qI hy,hv,Qb]) hp w
theorem qdo {h':AH} {L':Ks} {x y:Operand} {tys:Array TypeId} {a b v:Value} (ho:o.op = .call { callee:=.builtin .append,args:=#[x,y],argTypes:=tys }) (hg:qp ops L.tree o.guard=some true) (hx:kA L x=some a) (hy:kA L y=some b)
 (hv:Qh P tys.toList a b h=some (v,h')) (hp:qJ sz L o.dst v=some L') (w:KO P X sz ops os L' h' R):KO P X sz ops (o :: os) L h R :=
 zJ hg (by rw [ho];simp only [ja,jO,qI hx,qI hy,jK,hv,Qb]) hp w
def qfK (L:Ks):List Operand→Option (List Value)
 | []=>some []
 | o :: r=>match kA L o,qfK L r with
  | some v,some vs=>some (v :: vs)
  | _,_=>none
theorem qbT {L:Ks}:∀ {os:List Operand} {vs:List Value},qfK L os=some vs→jO L.tree os=some vs
 | [],vs,h=>h
 | o :: r,vs,h=>by
  simp only [qfK] at h;simp only [jO];split at h
  ·rename_i e1 e2;rw [qI e1,qbT e2];exact h
  ·cases h
theorem qw {f:FuncId} {args:Array Operand} {tys:Array TypeId} {vs:List Value} {d:Tmp} (ho:o.op = .call { callee:=.value (.func f),args:=args,argTypes:=tys }) (hg:qp ops L.tree o.guard=some true) (ha:qfK L args.toList=some vs)
 (hd:o.dst=some d) (hs:Nat.blt d sz=true) (w:Fn P X f vs h (fun v h'=>KO P X sz ops os (L.put d v) h' R)):KO P X sz ops (o :: os) L h R :=
 zK hg (by rw [ho];simp [ja,qbT ha,zY]) hd hs w
def qj2 (P:Program) (rs:List ResultVar) (R:Value→AH→Prop):KQ
 | .exit _,_,_=>False
 | _,L,h=>∃ vs,jr P L.tree h rs=some vs∧R (ji vs) h
def qeg:Nat→List Value→Ks
 | _,[]=>[]
 | k,v :: r=>(k,v) :: qeg (k+1) r
theorem PD:∀ (vs:List Value) (k j:Nat) (v:Value),(qeg k vs).get j=some v→k≤j∧vs[j - k]? = some v
 | [],k,j,v,h=>by cases h
 | u :: r,k,j,v,h=>by
  simp only [qeg,Ks.get] at h;split at h
  ·rename_i e
   cases h
   have:=zA6 e;subst this;exact ⟨zA3 _,by simp⟩
  ·obtain ⟨h1,h2⟩:=PD r (k+1) j v h;refine ⟨by omega,?_⟩;rw [show j - k=(j - (k+1))+1 by omega,zH4];exact h2
theorem Yt:∀ (vs:List Value) (k:Nat) (t:Tr Value) (j:Nat),(zZ k vs t).get j=if k≤j∧j<k+vs.length then vs[j - k]? else t.get j
 | [],k,t,j=>by simp [zZ];intro h1 h2;omega
 | v :: r,k,t,j=>by
  simp only [zZ];rw [Yt r (k+1) _ j,Tr.QB];by_cases hj:j=k
  ·subst hj;rw [if_neg (by omega),if_pos rfl,if_pos ⟨zA3 _,by simp⟩];simp
  ·by_cases h1:k+1≤j∧j<k+1+r.length
   ·rw [if_pos h1,if_pos (by simp;omega),show j - k=(j - (k+1))+1 by omega,zH4]
   ·rw [if_neg h1,if_neg hj,if_neg (by simp;omega)]
theorem Kn.enter (vs:List Value):Kn (zZ 0 vs .e) (qeg 0 vs):=by
 intro j v hj;obtain ⟨h1,h2⟩:=PD vs 0 j v hj;rw [Yt,if_pos ⟨zB0 _,by have:=(zD5.1 h2).1;omega⟩];exact h2
theorem qL {f:FuncId} {fn:Func} {body:Code} {args:List Value} {R:Value→AH→Prop} (hX:X f args h=none) (hf:P.funcs[f]? = some fn) (hb:fn.body=some body) {n:Nat} (hn:args.length+(fn.ntmps - args.length)=n)
 (w:K P X false n body (qeg 0 args) h (qj2 P fn.results.toList R)):Fn P X f args h R:=by
 subst hn;refine qgq hX hf hb ((w _ (Kn.enter args)).mono fun x t' h' ⟨L',h1,h2⟩=>?_);cases x with
 | exit id=>exact h2.elim
 | norm=>obtain ⟨vs,h3,h4⟩:=h2;exact ⟨vs,XH h1.tle h3,h4⟩
 | ret=>obtain ⟨vs,h3,h4⟩:=h2;exact ⟨vs,XH h1.tle h3,h4⟩
end
end Go.Proofs.Xx
namespace Go.Proofs.Xx
open Go
def WfH (h:AH):Prop:=∀ b,h.next≤b→h.get b=none
theorem WfH.lt {h:AH} (w:WfH h) {b:Nat} {o:Qz} (hg:h.get b=some o):b<h.next:=by
 rcases zA7 b h.next with q|q
 ·exact q
 ·rw [w b q] at hg;cases hg
theorem WfH.add {h:AH} (w:WfH h) (o:Qz):WfH (h.add o):=fun b hb=>by
 have hb':h.next+1≤b:=hb
 rw [AH.zf,if_neg (by omega)];exact w b (by omega)
theorem WfH.put {h:AH} (w:WfH h) {b:Nat} (hb:b<h.next) (o:Qz):WfH (h.put b o):=fun k hk=>by
 have hk':h.next≤k:=hk
 rw [AH.get_put,if_neg (by omega)];exact w k hk'
structure Ext (h h':AH):Prop where
 next:h.next≤h'.next
 old:∀ b,b<h.next→h'.get b=h.get b
 wf:WfH h'
theorem Ext.refl {h:AH} (w:WfH h):Ext h h:=⟨zA3 _,fun _ _=>rfl,w⟩
theorem Ext.trans {a b c:AH} (x:Ext a b) (y:Ext b c):Ext a c:=⟨zD0 x.next y.next,fun k hk=>(y.old k (zE3 hk x.next)).trans (x.old k hk),y.wf⟩
theorem Ext.add {h0 h:AH} (x:Ext h0 h) (o:Qz):Ext h0 (h.add o) :=
 ⟨zD0 x.next (Nat.le_succ _),fun b hb=>by rw [AH.zf,if_neg (by have:=x.next;omega)];exact x.old b hb,x.wf.add o⟩
theorem Ext.put {h0 h:AH} (x:Ext h0 h) {b:Nat} (h1:h0.next≤b) (h2:b<h.next) (o:Qz):Ext h0 (h.put b o) :=
 ⟨x.next,fun k hk=>by rw [AH.get_put,if_neg (by omega)];exact x.old k hk,x.wf.put h2 o⟩
theorem Ext.get {h0 h:AH} (x:Ext h0 h) (w:WfH h0) {b:Nat} {o:Qz} (hg:h0.get b=some o):h.get b=some o:=(x.old b (w.lt hg)).trans hg
theorem qay {c xs:List Value} {o n k:Nat} (h:zq c o n=some xs) (hk:k<n):c[o+k]? = xs[k]?:=by
 unfold zq at h;simp only at h;split at h
 ·cases h
  rw [zC7,if_pos hk,zC3]
 ·cases h
theorem J7 {c xs:List Value} {o n:Nat} (h:zq c o n=some xs):xs.length=n:=by
 unfold zq at h;simp only at h;split at h
 ·rename_i e;cases h;exact zA6 e
 ·cases h
theorem X4 {c:List Value} {o n:Nat} (h:o+n≤c.length):zq c o n=some ((c.drop o).take n):=by
 unfold zq;simp only;have:((c.drop o).take n).length=n:=by rw [zA9,zB4];omega
 rw [this];simp
theorem jQ (c:List Value):zq c 0 c.length=some c:=by rw [X4 (by omega)];simp
theorem ZO {c xs:List Value} {o n:Nat} (h:zq c o n=some xs):xs=(c.drop o).take n∧o+n≤c.length∨n=0∧xs=[]:=by
 have hl:=J7 h;unfold zq at h;simp only at h;split at h
 ·rename_i e
  cases h
  rw [zA9,zB4] at hl;rcases zF4 n with q|q
  ·right;subst q;simp
  ·left;exact ⟨rfl,by omega⟩
 ·cases h
theorem QE {c xs:List Value} {o n i m:Nat} (h:zq c o n=some xs) (him:i+m≤n):zq c (o+i) m=some ((xs.drop i).take m):=by
 rcases ZO h with ⟨rfl,hle⟩|⟨rfl,rfl⟩
 ·rw [X4 (by omega),List.drop_take,List.take_take,List.drop_drop];congr 2;omega
 ·have:m=0:=by omega
  subst this;simp [zq]
def Rd (h:AH) (v:Value) (z n:Nat) (c:List Value):Prop :=
 (v = .slice none 0 0∧n=0∧c=[])∨∃ b o cap cc e s r,v = .slice (some ⟨b,o,none⟩) n cap∧h.get b=some (.cells cc e s r)∧zq cc o (n*z)=some c
theorem Rd.none_ (h:AH) (z:Nat):Rd h (.slice none 0 0) z 0 []:=.inl ⟨rfl,rfl,rfl⟩
theorem Rd.length {h:AH} {v:Value} {z n:Nat} {c:List Value} (r:Rd h v z n c):c.length=n*z:=by
 rcases r with ⟨rfl,rfl,rfl⟩|⟨b,o,cap,cc,e,s,q,rfl,h1,h2⟩
 ·simp
 ·exact J7 h2
theorem Rd.ext {h h':AH} {v:Value} {z n:Nat} {c:List Value} (r:Rd h v z n c) (w:WfH h) (x:Ext h h'):Rd h' v z n c:=by
 rcases r with ⟨rfl,rfl,rfl⟩|⟨b,o,cap,cc,e,s,q,rfl,h1,h2⟩
 ·exact Rd.none_ h' z
 ·exact .inr ⟨b,o,cap,cc,e,s,q,rfl,x.get w h1,h2⟩
section
variable {P:Program} {ty e:TypeId} (hu:P.underlying ty=some (.slice e))
include hu
theorem Rd.len {h:AH} {v:Value} {z n:Nat} {c:List Value} (r:Rd h v z n c):qbt P ty v=some (.int .i64 n):=by
 rcases r with ⟨rfl,rfl,rfl⟩|⟨b,o,cap,cc,e',s,q,rfl,h1,h2⟩<;>simp [qbt,hu]
end
structure Own (h:AH) (v:Value) (b:Nat) (e:TypeId) (z n:Nat) (c:List Value):Prop where
 val:v = .slice (some ⟨b,0,none⟩) n n
 obj:h.get b=some (.cells c e none false)
 len:c.length=n*z
theorem Own.rd {h:AH} {v:Value} {b:Nat} {e:TypeId} {z n:Nat} {c:List Value} (o:Own h v b e z n c):Rd h v z n c :=
 .inr ⟨b,0,n,c,e,none,false,o.val,o.obj,by rw [← o.len];exact jQ c⟩
theorem qel {P:Program} {ty e:TypeId} {z:List Value} {by_:Nat} {h:AH} (w:WfH h) (hu:qV P ty=some e) (hz:zg P e=some z) (hb:QI P e=some by_) {n:Nat} (hn:n*(by_+1)≤140737488355328) :
 ∃ v h',QJ P ty (.int .i64 n) (.int .i64 n) h=some (v,h')∧Own h' v h.next e z.length n (zn z n)∧Ext h h':=by
 refine ⟨.slice (some ⟨h.next,0,none⟩) n n,h.add (.cells (zn z n) e none false),?_,⟨rfl,by rw [AH.zf,if_pos rfl],Ql z n⟩,(Ext.refl w).add _⟩;show QJ P ty (.int .i64 (Int.ofNat n)) (.int .i64 (Int.ofNat n)) h=_
 have h1:Nat.ble n n=true:=zB3 (zA3 _);have h2:Nat.ble (n*(by_+1)) 140737488355328=true:=zB3 hn;simp only [QJ,hu,hz,hb,h1,h2,zF9]
theorem Own.set {P:Program} {ty e:TypeId} (hu:P.underlying ty=some (.slice e)) (hz:zU P e=some 1) {h:AH} {v:Value} {b n:Nat} {c:List Value} (o:Own h v b e 1 n c) {ik:IntKind} {k:Nat} (hk:k<n) {x:Value} (hx:one? x=true) (hc:x.cells=#[x]) :
 ∃ p,jB P ty v (.int ik k)=some p∧Xn P e p x h=some (h.put b (.cells (c.set k x) e none false))∧Own (h.put b (.cells (c.set k x) e none false)) v b e 1 n (c.set k x):=by
 have hkc:k<c.length:=by have:=o.len;omega
 refine ⟨.pointer (some ⟨b,0+k*1,none⟩),?_,?_,⟨o.val,by rw [AH.get_put,if_pos rfl],by rw [zF5];exact o.len⟩⟩
 ·have:Nat.blt k n=true:=by rw [Nat.blt_eq];exact hk
  rw [o.val];show jB P ty _ (.int ik (Int.ofNat k))=_
  simp only [jB,hu,hz,this]
 ·simp only [Xn,Zh,o.obj,hz,hc];have h1:Nat.ble (0+k*1+1) c.length=true:=zB3 (by omega);have h2:splice c (0+k*1) [x]=c.set k x:=by
   simp only [splice,zG1,Nat.mul_one,zC4,List.length_nil,zC6,zC0];rw [List.set_eq_take_append_cons_drop,if_pos hkc]
  have h3:putCells h b (0+k*1) c e none [x]=some (h.put b (.cells (c.set k x) e none false)):=by
   unfold putCells;rw [h2];have:([x].all one? && Nat.ble (0+k*1+[x].length) c.length)=true:=by
    rw [show [x].all one? = true by simp [hx],show [x].length=1 from rfl,h1];rfl
   rw [this]
  exact h3
theorem wrap_i64 {n:Int} (h1 : -9223372036854775808≤n) (h2:n≤9223372036854775807):IntKind.i64.wrap n=n:=IntWalk.i64_in _ (by omega)
theorem qga {P:Program} {ty:TypeId} {a b c:Int} (hc:a+b=c) (h1 : -9223372036854775808≤c) (h2:c≤9223372036854775807):QO P .add ty (.int .i64 a) (.int .i64 b)=some (.int .i64 c):=by
 show some (Value.int .i64 (IntKind.i64.wrap (a+b)))=_
 rw [hc,wrap_i64 h1 h2]
theorem qft {P:Program} {ty:TypeId} {a b c:Int} (hc:a - b=c) (h1 : -9223372036854775808≤c) (h2:c≤9223372036854775807):QO P .sub ty (.int .i64 a) (.int .i64 b)=some (.int .i64 c):=by
 show some (Value.int .i64 (IntKind.i64.wrap (a - b)))=_
 rw [hc,wrap_i64 h1 h2]
theorem qfD {P:Program} {ty:TypeId} {a b c:Int} (hc:a*b=c) (h1 : -9223372036854775808≤c) (h2:c≤9223372036854775807):QO P .mul ty (.int .i64 a) (.int .i64 b)=some (.int .i64 c):=by
 show some (Value.int .i64 (IntKind.i64.wrap (a*b)))=_
 rw [hc,wrap_i64 h1 h2]
def ints (l:List Int):List Value:=l.map (Value.int .i64)
end Go.Proofs.Xx
namespace Go.Proofs.Xx
open Go
theorem pR (b o n c:Nat):wJ (.slice (some ⟨b,o,none⟩) n c) (.slice (some ⟨b,o,none⟩) n c)=true:=by simp [wJ,xM,wK]
theorem Rd.same {h:AH} {v:Value} {z n:Nat} {c:List Value} (r:Rd h v z n c):wJ v v=true:=by
 rcases r with ⟨rfl,rfl,rfl⟩|⟨b,o,cap,cc,e,s,q,rfl,h1,h2⟩
 ·rfl
 ·exact pR _ _ _ _
section
variable {P:Program} {X:Extern} {inR:Bool} {sz:Nat} {L:Ks} {h:AH} {Q:KQ} {ops:Array Oper}
theorem qM (id:Nat) (w:KO P X sz ops ops.toList L h (Q .norm)) (hd:qbe ops=true:=by decide +kernel):K P X inR sz (.region id ops true) L h Q:=fun t hk=>qhS hd (w t hk)
end
end Go.Proofs.Xx
namespace Go.Proofs.Xx
open Go
def Gr (h0 h:AH) (v:Value) (e:TypeId) (z n:Nat) (c:List Value):Prop :=
 (v = .slice none 0 0∧n=0∧c=[])∨∃ b slk,v = .slice (some ⟨b,0,none⟩) n n∧h.get b=some (.cells c e slk false)∧c.length=n*z∧h0.next≤b∧(slk=none∨slk=some z)
theorem Gr.rd {h0 h:AH} {v:Value} {e:TypeId} {z n:Nat} {c:List Value} (g:Gr h0 h v e z n c):Rd h v z n c:=by
 rcases g with ⟨rfl,rfl,rfl⟩|⟨b,slk,rfl,h1,h2,h3,h4⟩
 ·exact Rd.none_ h z
 ·exact .inr ⟨b,0,n,c,e,slk,false,rfl,h1,by rw [← h2];exact jQ c⟩
theorem Gr.nil (h0 h:AH) (e:TypeId) (z:Nat):Gr h0 h (.slice none 0 0) e z 0 []:=.inl ⟨rfl,rfl,rfl⟩
theorem Gr.ext {h0 h h':AH} {v:Value} {e:TypeId} {z n:Nat} {c:List Value} (g:Gr h0 h v e z n c) (w:WfH h) (x:Ext h h'):Gr h0 h' v e z n c:=by
 rcases g with ⟨rfl,rfl,rfl⟩|⟨b,slk,rfl,h1,h2⟩
 ·exact Gr.nil h0 h' e z
 ·exact .inr ⟨b,slk,rfl,x.get w h1,h2⟩
theorem Rd.source {h:AH} {v:Value} {z n:Nat} {c:List Value} (r:Rd h v z n c):Jn z v h=some (n,c):=by
 rcases r with ⟨rfl,rfl,rfl⟩|⟨b,o,cap,cc,e,s,q,rfl,h1,h2⟩
 ·rfl
 ·simp only [Jn,h1,h2]
theorem qhK {P:Program} {ty e:TypeId} {zc:List Value} (hs:qV P ty=some e) (hz:zg P e=some zc) {x:Value} (hx:x.cells.toList.length=zc.length) (hzl:zc.length≤1000) (h:AH) :
 jw P ty 1 [(0,x)] h=some (.slice (some ⟨h.next,0,none⟩) 1 1,h.add (.cells x.cells.toList e none false)):=by
 have k1:Nat.ble (1*zc.length) 16777216=true:=zB3 (by omega);have k3:zn zc 1=zc:=by simp [zn]
 have k2:(Nat.beq x.cells.toList.length zc.length && Nat.ble (0*zc.length+zc.length) zc.length)=true:=by
  rw [hx];simp
 have k4:splice zc (0*zc.length) x.cells.toList=x.cells.toList:=by
  simp only [splice,Nat.zero_mul,List.take_zero,zC0,zG1];rw [hx,List.drop_length,zD6]
 simp only [jw,hs,hz,k1,k3,Vl,k2,k4]
theorem qhL {P:Program} {ty e:TypeId} {zc:List Value} (hs:qV P ty=some e) (hz:zg P e=some zc) (h:AH) :
 jw P ty 0 [] h=some (.slice (some ⟨h.next,0,none⟩) 0 0,h.add (.cells [] e none false)):=by
 have k1:Nat.ble (0*zc.length) 16777216=true:=zB3 (by omega);simp only [jw,hs,hz,k1,Vl,zn]
section
variable {P:Program} {X:Extern} {inR:Bool} {sz:Nat} {L:Ks} {h:AH} {ops:Array Oper} {os:List Oper} {o:Oper} {R:Ks→AH→Prop}
def XK (L:Ks):List (Nat×Operand)→Option (List (Nat×Value))
 | []=>some []
 | (i,o) :: r=>match kA L o,XK L r with
  | some v,some vs=>some ((i,v) :: vs)
  | _,_=>none
theorem wZ {L:Ks}:∀ {os:List (Nat×Operand)} {vs:List (Nat×Value)},XK L os=some vs→jG L.tree os=some vs
 | [],vs,h=>h
 | (i,o) :: r,vs,h=>by
  simp only [XK] at h;simp only [jG];split at h
  ·rename_i e1 e2;rw [qI e1,wZ e2];exact h
  ·cases h
theorem V7 {h':AH} {L':Ks} {ty:TypeId} {n:Nat} {ps:Array (Nat×Operand)} {vs:List (Nat×Value)} {v:Value} (ho:o.op = .buildSlice ty n ps) (hg:qp ops L.tree o.guard=some true) (hx:XK L ps.toList=some vs)
 (hv:jw P ty n vs h=some (v,h')) (hp:qJ sz L o.dst v=some L') (w:KO P X sz ops os L' h' R):KO P X sz ops (o :: os) L h R :=
 zJ hg (by rw [ho];simp only [ja,wZ hx,hv,Qb]) hp w
end
def Q7:Value→Prop
 | .slice _ n cap=>n≤cap
 | _=>True
end Go.Proofs.Xx
namespace Go.Proofs.Xx
open Go Go.RowKit
section
variable {H:Type} {enc:TypeId×Value→H} {P:Program} {W W':World}
theorem JL {α β:Type} {f g:α→Option β}:∀ {l:List α} {r:List β},l.mapM f=some r→(∀ a b,a∈l→b∈r→f a=some b→g a=some b)→l.mapM g=some r:=by
 intro l;induction l with
 | nil=>intro r h _;simpa using h
 | cons a l ih =>
  intro r h hk;rw [List.mapM_cons] at h ⊢;cases hf:f a with
  | none=>rw [hf] at h;cases h
  | some b =>
   rw [hf] at h;cases hm:l.mapM f with
   | none=>rw [hm] at h;cases h
   | some r' =>
    rw [hm] at h;simp at h;subst h;rw [hk a b (by simp) (by simp) hf,ih hm fun x y hx hy=>hk x y (by simp [hx]) (by simp [hy])];rfl
theorem qbi (hb:∀ k,k<W.heap.size→W'.heap[k]? = W.heap[k]?) {base n:Nat} {a:Addr} {cs:List Value} (h:W.cells? base a n=some cs):W'.cells? base a n=some cs:=by
 unfold World.cells? at h ⊢;split at h
 ·rename_i hba
  rw [if_pos hba];refine JL h fun i v _ _ hv=>?_;have hlt:(a.add i).block<W.heap.size:=by
   rcases zA7 (a.add i).block W.heap.size with q|q
   ·exact q
   ·have:W.cell? (a.add i)=none:=by
     unfold World.cell?;rw [Array.getElem?_eq_none q]
    rw [this] at hv;cases hv
  rw [← hv];exact World.cell?_of_block (w:=W) (hb _ hlt)
 ·cases h
def wz (P:Program):List Field→Nat→Nat→Bool
 | [],at_,n=>Nat.beq at_ n
 | f :: r,at_,n=>Nat.beq f.offset at_ && wz P r (at_+P.cellsOf f.type) n
def Zc (P:Program):Nat→TypeId→Bool
 | 0,_=>false
 | m+1,t=>match P.underlying t with
  | some .bool|some .string=>Nat.beq (P.cellsOf t) 1
  | some (.int _)=>Nat.beq (P.cellsOf t) 1
  | some (.slice e)=>Nat.beq (P.cellsOf t) 1 && (Zc P m e && !Nat.beq (P.cellsOf e) 0)
  | some (.struct fs)=>fs.toList.all (fun f=>Zc P m f.type) && wz P fs.toList 0 (P.cellsOf t)
  | some (.array n e)=>Zc P m e && Nat.beq (P.cellsOf t) (n*P.cellsOf e)
  | _=>false
theorem qcl (hb:∀ k,k<W.heap.size→W'.heap[k]? = W.heap[k]?) {base:Nat} {sp:Nat→Bool} {held:Bool}:∀ (fuel m:Nat) (t:TypeId) (cs:List Value) (x:DataW H×List MemPlace),Zc P m t=true →
 DataW.trod enc P W base (fun _=>true) held fuel t cs=some x→(∀ p∈x.2,sp p.block=true)→DataW.trod enc P W' base sp held fuel t cs=some x:=by
 intro fuel;induction fuel with
 | zero=>intro m t cs x _ h _;cases h
 | succ fuel ih =>
  intro m t cs x hp h hsp;cases m with
  | zero=>cases hp
  | succ m =>
  unfold Zc at hp;cases hu:P.underlying t with
  | none=>rw [hu] at hp;cases hp
  | some u =>
   rw [hu] at hp;cases u with
   | bool=>obtain ⟨b,rfl,rfl⟩:=DataW.trod_bool hu h;unfold DataW.trod;rw [hu]
   | int k =>
    obtain ⟨b,rfl,rfl,hwf⟩:=DataW.trod_int hu h;unfold DataW.trod;rw [hu];simp [hwf]
   | string =>
    obtain ⟨b,rfl,rfl,hs⟩:=DataW.trod_string hu h;unfold DataW.trod;rw [hu];simp [hs]
   | struct fs =>
    simp only [zA8,zC8] at hp;unfold DataW.trod at h ⊢;rw [hu] at h ⊢;simp only at h ⊢;split at h
    ·rename_i hc
     rw [if_pos hc];simp only [Option.map_eq_some_iff] at h ⊢;obtain ⟨xs,h1,rfl⟩:=h;refine ⟨xs,JL h1 fun f y hf hy hq=>ih m _ _ _ (hp.1 f hf) hq fun p hp=>hsp p ?_,rfl⟩;simp only [zG9];exact ⟨y,hy,hp⟩
    ·cases h
   | array n e =>
    simp only [zA8] at hp;unfold DataW.trod at h ⊢;rw [hu] at h ⊢;simp only at h ⊢;split at h
    ·rename_i hc
     rw [if_pos hc];simp only [Option.map_eq_some_iff] at h ⊢;obtain ⟨xs,h1,rfl⟩:=h;refine ⟨xs,JL h1 fun f y hf hy hq=>ih m _ _ _ hp.1 hq fun p hp=>hsp p ?_,rfl⟩;simp only [zG9];exact ⟨y,hy,hp⟩
    ·cases h
   | slice e =>
    simp only [zA8,zG3] at hp;have hz:P.cellsOf e≠0:=fun q=>by have:=hp.2.2;rw [q] at this;simp at this
    rcases DataW.trod_slice hu h with ⟨rfl,rfl⟩|⟨a,len,cap,-,-,-,-,rfl,-⟩
    ·unfold DataW.trod;rw [hu];rfl
    ·unfold DataW.trod at h ⊢;rw [hu] at h ⊢;simp only at h ⊢;split at h
     ·rename_i hc
      rw [if_pos hc];simp only [if_true,Option.map_eq_some_iff,Option.bind_eq_some_iff] at h ⊢;obtain ⟨elems,h1,rest,h2,rfl⟩:=h;have key:∀ i y,y∈elems ++ rest→(W.cells? base (a.add (i*P.cellsOf e)) (P.cellsOf e)).bind (DataW.trod enc P W base (fun _=>true) held fuel e)=some y →
       (W'.cells? base (a.add (i*P.cellsOf e)) (P.cellsOf e)).bind (DataW.trod enc P W' base sp held fuel e)=some y:=by
       intro i y hy hq;rw [Option.bind_eq_some_iff] at hq ⊢;obtain ⟨cs',q1,q2⟩:=hq;refine ⟨cs',qbi hb q1,ih m _ _ _ hp.2.1 q2 fun p hp=>hsp p ?_⟩;simp only [zB8,zG9];exact .inr ⟨y,by simpa using hy,hp⟩
      refine ⟨elems,JL h1 fun i y _ hy hq=>key i y (by simp [hy]) hq,rest,?_,rfl⟩;cases hs:sp a.block with
      | true =>
       simp only [if_true];exact JL h2 fun i y _ hy hq=>key (len+i) y (by simp [hy]) hq
      | false =>
       simp only [zD8,if_false];cases rest with
       | nil=>rfl
       | cons y rest =>
        have hp':sp a.block=true:=by
         refine hsp (.cell a.block (a.off+0)) ?_;simp only [zB8];refine .inl ?_;unfold MemPlace.row;rw [zF1];exact ⟨0,zE2.2 (Nat.mul_pos (by simp only [zC4];omega) (by omega)),rfl⟩
        rw [hs] at hp';cases hp'
     ·cases h
   | _=>cases hp
theorem YV (hb:∀ k,k<W.heap.size→W'.heap[k]? = W.heap[k]?) {base:Nat} {sp:Nat→Bool} {held:Bool}:∀ (ts:List TypeId) (vs:List Value) (ds:List (DataW H)) (ps:List MemPlace),ts.all (Zc P 20)=true →
 DataW.TrodAll enc P W base (fun _=>true) held ts vs ds ps→(∀ p∈ps,sp p.block=true)→DataW.TrodAll enc P W' base sp held ts vs ds ps
 | [],[],[],ps,_,h,_=>h
 | t :: ts,v :: vs,d :: ds,ps,hp,h,hsp=>by
  simp only [List.all_cons,zA8] at hp;obtain ⟨p,q,⟨fuel,h1⟩,h2,rfl⟩:=h;exact ⟨p,q,⟨fuel,qcl hb fuel 20 t _ _ hp.1 h1 fun x hx=>hsp x (by simp [hx])⟩,YV hb ts vs ds q hp.2 h2 fun x hx=>hsp x (by simp [hx]),rfl⟩
 | [],[],_ :: _,_,_,h,_=>h.elim
 | [],_ :: _,_,_,_,h,_=>h.elim
 | _ :: _,[],_,_,_,h,_=>h.elim
 | _ :: _,_ :: _,[],_,_,h,_=>h.elim
end
end Go.Proofs.Xx
namespace Go.Proofs.Xx
open Go Go.RowKit
section
variable {P:Program}
theorem Rel.qcd [Glob] {B:Bs} {e:Emb} {h:AH} {w:World} (r:Rel B e h w) {k sh:Nat} {cc:Array Value} {el:TypeId} {fr:Nat×Nat} {c:List Value} (hkB:k<B.lo) (hk:w.heap[k]? = some (.cells cc el fr)) (hsz:sh+c.length≤cc.size)
 (hc:∀ i v,c[i]? = some v→∃ v',cc[sh+i]? = some v'∧VR (e.put h.next ⟨k,sh,0⟩) v v') :
 Rel B (e.put h.next ⟨k,sh,0⟩) (h.add (.cells c el none true)) w∧e.le (e.put h.next ⟨k,sh,0⟩):=by
 have hle:=r.QW ⟨k,sh,0⟩;have hlt:k<w.heap.size:=(zB9.1 hk).1;refine ⟨⟨fun b M q=>?_,fun b hb=>?_,fun b M q=>?_,fun b M p q1 q2=>?_,fun b M p b' M' p' e1 e2 e3 e4 e5 e6 e7=>?_,fun b M p q1 q2 q3=>?_,r.base,r.keep,r.glob⟩,hle⟩
 ·by_cases hb:b=h.next
  ·subst hb;exact zG0 _
  ·rw [Emb.zh _ _ hb] at q;exact Nat.lt_succ_of_lt (r.dom b M q)
 ·have hb':h.next+1≤b:=hb
  rw [AH.zf,if_neg (by omega)];exact r.wf b (by omega)
 ·by_cases hb:b=h.next
  ·subst hb;rw [Emb.qP] at q;cases q;exact hlt
  ·rw [Emb.zh _ _ hb] at q;exact r.rng b M q
 ·rw [AH.zf] at q2;by_cases hb:b=h.next
  ·subst hb;rw [Emb.qP] at q1;cases q1;rw [if_pos rfl] at q2;cases q2
   exact ⟨cc,fr,hk,hsz,hc,(fun _=>⟨rfl,fun q=>by cases q⟩),(fun _ q=>by cases q),(fun q=>by cases q)⟩
  ·rw [Emb.zh _ _ hb] at q1;rw [if_neg hb] at q2;exact (r.obj b M p q1 q2).mono hle
 ·rw [AH.zf] at e2 e4;by_cases hb':b'=h.next
  ·subst hb';rw [if_pos rfl] at e4;cases e4;cases e7
  ·rw [Emb.zh _ _ hb'] at e3;rw [if_neg hb'] at e4;by_cases hb:b=h.next
   ·subst hb;rw [Emb.qP] at e1;cases e1
    rw [if_pos rfl] at e2;cases e2
    have:=r.own b' M' p' e3 e4 e7;simp only at e5;omega
   ·rw [Emb.zh _ _ hb] at e1;rw [if_neg hb] at e2;exact r.inj b M p b' M' p' e1 e2 e3 e4 e5 e6 e7
 ·rw [AH.zf] at q2;by_cases hb:b=h.next
  ·subst hb;rw [if_pos rfl] at q2;cases q2;cases q3
  ·rw [Emb.zh _ _ hb] at q1;rw [if_neg hb] at q2;exact r.own b M p q1 q2 q3
def Bs.of (w:World):Bs:=⟨w.heap.size,w.heap⟩
def RoH (h:AH):Prop:=∀ b o,h.get b=some o→JB o=false
structure WRel [Glob] (w:World) (e:Emb) (h:AH):Prop where
 rel:Rel (Bs.of w) e h w
 ro:RoH h
theorem WRel.empty [Glob] {w:World} (hg:Glob.ok w.heap.size w.heap):WRel w (fun _=>none) ⟨.e,0,0⟩ :=
 ⟨⟨fun b L q=>(by cases q),fun b _=>Tr.XL b,fun b L q=>(by cases q),fun b L o q=>(by cases q),fun b L o b' L' o' q=>(by cases q),fun b L o q=>(by cases q),zA3 _,fun _ _=>rfl,hg⟩,
  fun b o q=>by rw [show (⟨.e,0,0⟩:AH).get b=none from Tr.XL b] at q;cases q⟩
theorem WRel.wfH [Glob] {w:World} {e:Emb} {h:AH} (r:WRel w e h):WfH h:=r.rel.wf
theorem WRel.qcd [Glob] {e:Emb} {h:AH} {w:World} (r:WRel w e h) {k sh:Nat} {cc:Array Value} {el:TypeId} {fr:Nat×Nat} {c:List Value} (hk:w.heap[k]? = some (.cells cc el fr)) (hsz:sh+c.length≤cc.size)
 (hc:∀ i v,c[i]? = some v→∃ v',cc[sh+i]? = some v'∧VR e v v') :
 ∃ e',WRel w e' (h.add (.cells c el none true))∧e.le e'∧Ext h (h.add (.cells c el none true))∧e' h.next=some ⟨k,sh,0⟩:=by
 have hle:=r.rel.QW ⟨k,sh,0⟩;obtain ⟨r1,r2⟩:=Rel.qcd (sh:=sh) (c:=c) r.rel (show k<w.heap.size from (zB9.1 hk).1) hk hsz (fun i v hi=>by obtain ⟨v',h1,h2⟩:=hc i v hi;exact ⟨v',h1,h2.mono hle⟩);refine ⟨_,⟨r1,fun b o q=>?_⟩,r2,(Ext.refl r.wfH).add _,Emb.qP _ _ _⟩;rw [AH.zf] at q;split at q
 ·cases q;rfl
 ·exact r.ro b o q
def AR (P:Program) (h:AH):Nat→TypeId→List Value→Prop
 | 0,_,_=>False
 | f+1,t,cs =>
  match P.underlying t,cs with
  | some .bool,[.bool _]=>True
  | some (.int k),[.int k' n]=>k'=k∧(Lit.int k n).wf=true
  | some .string,[.string s]=>s.size≤maxLen
  | some (.slice e),[v]=>∃ n c,Rd h v (P.cellsOf e) n c∧(n≤maxLen∧n*P.bytesOf e≤reachBytes)∧Q7 v∧∀ i,i<n→AR P h f e ((c.drop (i*P.cellsOf e)).take (P.cellsOf e))
  | some (.struct fs),cs=>cs.length=P.cellsOf t∧∀ fd∈fs.toList,AR P h f fd.type ((cs.drop fd.offset).take (P.cellsOf fd.type))
  | some (.array n e),cs=>cs.length=P.cellsOf t∧∀ i,i<n→AR P h f e ((cs.drop (i*P.cellsOf e)).take (P.cellsOf e))
  | _,_=>False
theorem AR.ext {h h':AH} (w:WfH h) (x:Ext h h'):∀ (f:Nat) (t:TypeId) (cs:List Value),AR P h f t cs→AR P h' f t cs
 | 0,_,_,q=>q
 | f+1,t,cs,q=>by
  unfold AR at q ⊢;split at q
  ·exact q
  ·exact q
  ·exact q
  ·obtain ⟨n,c,h1,h2,hc,h3⟩:=q;exact ⟨n,c,h1.ext w x,h2,hc,fun i hi=>AR.ext w x f _ _ (h3 i hi)⟩
  ·exact ⟨q.1,fun fd hf=>AR.ext w x f _ _ (q.2 fd hf)⟩
  ·exact ⟨q.1,fun i hi=>AR.ext w x f _ _ (q.2 i hi)⟩
  ·exact q
section
variable {H:Type} {enc:TypeId×Value→H}
def Light (P:Program) (t:TypeId) (d:DataW H):Prop:=∀ n∈DataW.weights P t d,n≤reachBytes
theorem Xt:∀ (ts:List TypeId) (ds:List (DataW H)) (j:Nat) (t:TypeId) (d:DataW H),ts[j]? = some t→ds[j]? = some d→∀ n∈DataW.weights P t d,n∈DataW.weightsEach P ts ds
 | [],_,_,_,_,q,_=>by simp at q
 | _ :: _,[],_,_,_,_,q=>by simp at q
 | t :: ts,d :: ds,0,_,_,q1,q2=>by
  simp only [List.getElem?_cons_zero,Option.some.injEq] at q1 q2;subst q1;subst q2;intro n hn;rw [DataW.weightsEach];exact List.mem_append_left _ hn
 | t :: ts,d :: ds,j+1,_,_,q1,q2=>by
  intro n hn;rw [DataW.weightsEach];exact List.mem_append_right _ (Xt ts ds j _ _ (by simpa using q1) (by simpa using q2) n hn)
theorem weightsAll_mem (e:TypeId):∀ (ds:List (DataW H)) (j:Nat) (d:DataW H),ds[j]? = some d→∀ n∈DataW.weights P e d,n∈DataW.weightsAll P e ds
 | [],_,_,q=>by simp at q
 | d :: ds,0,_,q=>by
  simp only [List.getElem?_cons_zero,Option.some.injEq] at q;subst q;intro n hn;rw [DataW.weightsAll];exact List.mem_append_left _ hn
 | d :: ds,j+1,_,q=>by
  intro n hn;rw [DataW.weightsAll];exact List.mem_append_right _ (weightsAll_mem e ds j _ (by simpa using q) n hn)
theorem Light.field {t:TypeId} {fs:Array Field} {ds:List (DataW H)} (hu:P.underlying t=some (.struct fs)) (hl:Light P t (.agg ds)) {i:Nat} {f:Field} {d:DataW H} (hf:fs[i]? = some f) (hd:ds[i]? = some d):Light P f.type d:=fun n hn=>by
 refine hl n ?_;rw [DataW.weights,hu];exact Xt _ _ i _ _ (by simp [hf]) hd n hn
theorem Light.item {t e:TypeId} {k:Nat} {ds:List (DataW H)} (hu:P.underlying t=some (.array k e)) (hl:Light P t (.agg ds)) {i:Nat} {d:DataW H} (hd:ds[i]? = some d):Light P e d:=fun n hn=>by
 refine hl n ?_;rw [DataW.weights,hu];exact weightsAll_mem e _ i _ hd n hn
theorem Light.elem {t e:TypeId} {ds rs:List (DataW H)} (hu:P.underlying t=some (.slice e)) (hl:Light P t (.slice ds rs)) {i:Nat} {d:DataW H} (hd:ds[i]? = some d):Light P e d:=fun n hn=>by
 refine hl n ?_;rw [DataW.weights,hu];exact List.mem_cons_of_mem _ (List.mem_append_left _ (weightsAll_mem e _ i _ hd n hn))
theorem Light.slice {t e:TypeId} {ds rs:List (DataW H)} (hu:P.underlying t=some (.slice e)) (hl:Light P t (.slice ds rs)):ds.length*P.bytesOf e≤reachBytes:=by
 have h1:=hl ((ds.length+rs.length)*P.bytesOf e) (by rw [DataW.weights,hu];exact List.mem_cons_self);exact zD0 (zD3 _ (Nat.le_add_right _ _)) h1
theorem G8:∀ (fs:List Field) (a n:Nat),wz P fs a n=true→a≤n
 | [],a,n,h=>by have:=zA6 h;omega
 | f :: r,a,n,h=>by
  simp only [wz,zA8] at h;have:=G8 r _ n h.2;omega
def qfg [Glob] (enc:TypeId×Value→H) (P:Program) (w:World) (base:Nat) (sp:Nat→Bool) (held:Bool) (n:Nat) (t:TypeId) (cs:List Value):Prop:=∀ e h,WRel w e h→∃ e' h' r,WRel w e' h'∧e.le e'∧Ext h h'∧VRs e' r cs∧AR P h' n t r
theorem WC [Glob] {w:World} {base n:Nat} {sp:Nat→Bool} {held:Bool} {cs:List Value}:∀ (fs:List Field) (a:Nat),wz P fs a cs.length=true →
 (∀ fd∈fs,qfg enc P w base sp held n fd.type ((cs.drop fd.offset).take (P.cellsOf fd.type)))→∀ e h,WRel w e h →
 ∃ e' h' r,WRel w e' h'∧e.le e'∧Ext h h'∧VRs e' r (cs.drop a)∧∀ fd∈fs,a≤fd.offset∧AR P h' n fd.type ((r.drop (fd.offset - a)).take (P.cellsOf fd.type))
 | [],a,ht,_,e,h,r=>by
  have:=zA6 ht;exact ⟨e,h,[],r,e.le_refl,Ext.refl r.wfH,by rw [this,List.drop_length];exact .nil,fun fd q=>by cases q⟩
 | f :: fs,a,ht,hk,e,h,r=>by
  simp only [wz,zA8] at ht;have hoff:=zA6 ht.1;have hle:=G8 fs _ _ ht.2;obtain ⟨e1,h1,c1,r1,l1,x1,v1,a1⟩:=hk f (by simp) e h r;obtain ⟨e2,h2,c2,r2,l2,x2,v2,a2⟩:=WC fs _ ht.2 (fun fd q=>hk fd (by simp [q])) e1 h1 r1;have hc1:c1.length=P.cellsOf f.type:=by
   have:=v1.length;rw [zA9,zB4,hoff] at this;omega
  refine ⟨e2,h2,c1 ++ c2,r2,Emb.le_trans l1 l2,x1.trans x2,?_,?_⟩
  ·have:=(v1.mono l2).append v2;rw [hoff,← List.drop_drop,zH0] at this;exact this
  ·intro fd q;rcases zE7.1 q with rfl|q
   ·refine ⟨by omega,?_⟩;rw [hoff,zG6,List.drop_zero,List.take_append_of_le_length (by omega),zF8 (by omega)];exact a1.ext r1.wfH x2 _ _ _
   ·obtain ⟨q1,q2⟩:=a2 fd q;refine ⟨by omega,?_⟩;rw [show fd.offset - a=c1.length+(fd.offset - (a+P.cellsOf f.type)) by omega,← List.drop_drop,List.drop_left];exact q2
theorem yN [Glob] {w:World} {base n:Nat} {sp:Nat→Bool} {held:Bool} {ty:TypeId} {z:Nat} {cs:List Value}:∀ (k:Nat),k*z≤cs.length →
 (∀ i,i<k→qfg enc P w base sp held n ty ((cs.drop (i*z)).take z))→∀ e h,WRel w e h →
 ∃ e' h' r,WRel w e' h'∧e.le e'∧Ext h h'∧VRs e' r (cs.take (k*z))∧∀ i,i<k→AR P h' n ty ((r.drop (i*z)).take z)
 | 0,_,_,e,h,r=>⟨e,h,[],r,e.le_refl,Ext.refl r.wfH,by simp;exact .nil,fun i q=>by omega⟩
 | k+1,hk,ht,e,h,r=>by
  rw [zE0,Nat.one_mul] at hk;obtain ⟨e1,h1,c1,r1,l1,x1,v1,a1⟩:=yN k (by omega) (fun i q=>ht i (by omega)) e h r;obtain ⟨e2,h2,c2,r2,l2,x2,v2,a2⟩:=ht k (by omega) e1 h1 r1;have hc1:c1.length=k*z:=by
   have:=v1.length;rw [zA9] at this;omega
  have hc2:c2.length=z:=by
   have:=v2.length;rw [zA9,zB4] at this;omega
  refine ⟨e2,h2,c1 ++ c2,r2,Emb.le_trans l1 l2,x1.trans x2,?_,fun i hi=>?_⟩
  ·have:=(v1.mono l2).append v2;rw [zE0,Nat.one_mul,List.take_add];exact this
  ·by_cases hik:i<k
   ·have:(i+1)*z≤k*z:=zD3 z hik;rw [zE0,Nat.one_mul] at this;rw [List.drop_append_of_le_length (by omega),List.take_append_of_le_length (by rw [zB4];omega)];exact (a1 i hik).ext r1.wfH x2 _ _ _
   ·obtain rfl:i=k:=by omega
    rw [← hc1,List.drop_left,zF8 (by omega)];exact a2
theorem embed [Glob] {w:World} {base:Nat} {sp:Nat→Bool} (hsp:∀ b,sp b=true) {held:Bool} (hw:∃ (k:Nat) (cc:Array Value) (el:TypeId) (fr:Nat×Nat),w.heap[k]? = some (.cells cc el fr)):∀ (n m:Nat) (t:TypeId) (cs:List Value) (x:DataW H×List MemPlace),Zc P m t=true →
 DataW.trod enc P w base sp held n t cs=some x→Light P t x.1→qfg enc P w base sp held n t cs
 | 0,_,_,_,_,_,h,_=>by simp [DataW.trod] at h
 | _+1,0,_,_,_,h,_,_=>by cases h
 | n+1,m+1,t,cs,x,hp,h,hlt=>by
  intro e h0 r;unfold Zc at hp;cases hu:P.underlying t with
  | none=>rw [hu] at hp;cases hp
  | some u =>
   rw [hu] at hp;cases u with
   | bool =>
    obtain ⟨b,rfl,-⟩:=DataW.trod_bool hu h;exact ⟨e,h0,[.bool b],r,e.le_refl,Ext.refl r.wfH,.one (.bool b),by unfold AR;rw [hu];trivial⟩
   | int k =>
    obtain ⟨b,rfl,-,hwf⟩:=DataW.trod_int hu h;exact ⟨e,h0,[.int k b],r,e.le_refl,Ext.refl r.wfH,.one (.int k b),by unfold AR;rw [hu];exact ⟨rfl,hwf⟩⟩
   | string =>
    obtain ⟨s,rfl,-,hs⟩:=DataW.trod_string hu h;exact ⟨e,h0,[.string s],r,e.le_refl,Ext.refl r.wfH,.one (.string s),by unfold AR;rw [hu];exact hs⟩
   | struct fs =>
    simp only [zA8,zC8] at hp;obtain ⟨xs,n',hn,hxe,hlen,hxl,hf⟩:=DataW.trod_struct hu h;rw [hxe] at hlt;obtain rfl:n'=n:=by omega
    obtain ⟨e1,h1,c1,r1,l1,x1,v1,a1⟩:=WC fs.toList 0 (by rw [hlen];exact hp.2) (fun fd hfd=>by
     obtain ⟨i,hi,rfl⟩:=List.getElem_of_mem hfd;have hg:fs[i]? = some fs.toList[i]:=by rw [← zC1];exact zA4 hi
     have h2:=hf i _ hg;have hix:i<xs.length:=by rw [hxl];simpa using hi
     rw [zA4 hix] at h2;exact embed hsp hw n' m _ _ _ (hp.1 _ (List.getElem_mem hi)) h2 (hlt.field hu hg (by rw [zH8,zA4 hix];rfl))) e h0 r
    refine ⟨e1,h1,c1,r1,l1,x1,by simpa using v1,?_⟩;unfold AR;rw [hu];have hl1:=v1.length;simp only [List.drop_zero] at hl1;exact ⟨by omega,fun fd hfd=>by have:=(a1 fd hfd).2;simpa using this⟩
   | array k el =>
    simp only [zA8] at hp;have hsz:=zA6 hp.2;obtain ⟨xs,n',hn,hxe,hlen,hxl,hf⟩:=DataW.trod_array hu h;rw [hxe] at hlt;obtain rfl:n'=n:=by omega
    obtain ⟨e1,h1,c1,r1,l1,x1,v1,a1⟩:=yN (z:=P.cellsOf el) (ty:=el) (cs:=cs) k (by omega) (fun i hi=>by
     have h2:=hf i hi;have hix:i<xs.length:=by omega
     rw [zA4 hix] at h2;exact embed hsp hw n' m _ _ _ hp.1 h2 (hlt.item hu (by rw [zH8,zA4 hix];rfl))) e h0 r
    rw [zF8 (by omega)] at v1;refine ⟨e1,h1,c1,r1,l1,x1,v1,?_⟩;unfold AR;rw [hu];exact ⟨by have:=v1.length;omega,a1⟩
   | slice el =>
    simp only [zA8,zG3] at hp;have hz:P.cellsOf el≠0:=fun q=>by have:=hp.2.2;rw [q] at this;simp at this
    rcases DataW.trod_slice hu h with ⟨rfl,-⟩|⟨a,len,cap,elems,rest,n',hn,rfl,hxe,hb,hl,hm,hlen,hel,hrest,-⟩
    ·refine ⟨e,h0,[.slice none 0 0],r,e.le_refl,Ext.refl r.wfH,.one .nilSlice,?_⟩;unfold AR;rw [hu];exact ⟨0,[],Rd.none_ _ _,⟨zB0 _,by rw [Nat.zero_mul];exact zB0 _⟩,zA3 _,fun i hi=>by omega⟩
    ·obtain rfl:n'=n:=by omega
     rw [hxe] at hlt;have hwt:len*P.bytesOf el≤reachBytes:=by have:=hlt.slice hu;rwa [zC5,hlen] at this
     obtain ⟨hr1,hr2⟩:=hrest (hsp _);rcases zF4 cap with hc0|hc0
     ·subst hc0;obtain rfl:len=0:=by omega
      obtain ⟨k,cc,el0,fr,hk⟩:=hw;obtain ⟨e1,r1,l1,x1,q1⟩:=r.qcd (sh:=0) (c:=[]) hk (by simp) (fun i v hi=>by simp at hi);refine ⟨e1,_,[.slice (some ⟨h0.next,0,none⟩) 0 0],r1,l1,x1,.one (.slice h0.next 0 a 0 0 ⟨k,0,0⟩ q1 (zA3 _) (.inr ⟨rfl,rfl⟩)),?_⟩;unfold AR;rw [hu];exact ⟨0,[],.inr ⟨h0.next,0,0,[],el0,none,true,rfl,by rw [AH.zf,if_pos rfl],by simp [zq]⟩,⟨zB0 _,by rw [Nat.zero_mul];exact zB0 _⟩,zA3 _,fun i hi=>by omega⟩
     ·
      have hfirst:∃ cs0 y,w.cells? base a (P.cellsOf el)=some cs0∧DataW.trod enc P w base sp held n' el cs0=some y:=by
       rcases zF4 len with h0'|h0'
       ·have h2:=hr2 0 (by omega);have hix:0<rest.length:=by omega
        rw [zA4 hix,h0',Option.bind_eq_some_iff] at h2;obtain ⟨cs0,q1,q2⟩:=h2;exact ⟨cs0,_,by simpa [Addr.add] using q1,q2⟩
       ·have h2:=hel 0 h0';have hix:0<elems.length:=by omega
        rw [zA4 hix,Option.bind_eq_some_iff] at h2;obtain ⟨cs0,q1,q2⟩:=h2;exact ⟨cs0,_,by simpa [Addr.add] using q1,q2⟩
      obtain ⟨cs0,y0,g1,-⟩:=hfirst;obtain ⟨-,g2,g3⟩:=World.cells?_some g1;have g4:=g3 0 (by omega);rw [zA4 (by omega)] at g4;obtain ⟨ab,ao,asp⟩:=a;simp only [Addr.add,if_true] at g4;unfold World.cell? at g4;simp only at g4;cases hblk:w.heap[ab]? with
      | none=>rw [hblk] at g4;cases g4
      | some ob =>
       rw [hblk] at g4;cases ob with
       | cells cc el0 fr =>
        simp only at g4;cases asp with
        | some s=>simp at g4
        | none =>
         simp only [Option.isSome_none,zD8,if_false] at g4;have hao:ao<cc.size:=(zB9.1 g4).1;have hcell:∀ (i:Nat) (v:Value),w.cell? ⟨ab,ao+i,none⟩=some v↔cc[ao+i]? = some v:=fun i v=>by
          unfold World.cell?;simp [hblk]
         have helem:∀ i,i<len→∃ y,DataW.trod enc P w base sp held n' el (((cc.toList.drop ao).drop (i*P.cellsOf el)).take (P.cellsOf el))=some y∧Light P el y.1∧ao+i*P.cellsOf el+P.cellsOf el≤cc.size:=by
          intro i hi;have h2:=hel i hi;have hix:i<elems.length:=by omega
          rw [zA4 hix,Option.bind_eq_some_iff] at h2;obtain ⟨ci,q1,q2⟩:=h2;obtain ⟨-,q3,q4⟩:=World.cells?_some q1;have hadd:∀ j,((⟨ab,ao,none⟩:Addr).add (i*P.cellsOf el)).add j=⟨ab,ao+(i*P.cellsOf el+j),none⟩:=fun j=>by rw [jJ,jJ,zF7]
          have hlast:ao+i*P.cellsOf el+P.cellsOf el≤cc.size:=by
           have q5:=q4 (P.cellsOf el - 1) (by omega);rw [zA4 (by omega),hadd,hcell] at q5;have:=(zB9.1 q5).1;omega
          refine ⟨elems[i],?_,hlt.elem hu (i:=i) (by rw [zH8,zA4 hix];rfl),hlast⟩;rw [← q2];congr 1
          refine List.ext_getElem? fun j=>?_;by_cases hj:j<P.cellsOf el
          ·rw [zC7,if_pos hj,zC3,zC3];have q5:=q4 j hj;have e2:ci[j]? = some (ci[j]'(by omega)):=zA4 (by omega);rw [e2,hadd,hcell] at q5;rw [e2,zC1];exact q5
          ·rw [zG5 (by rw [zA9];omega),zG5 (by omega)]
         have hfit:ao+len*P.cellsOf el≤cc.size:=by
          rcases zF4 len with h0'|h0'
          ·rw [h0',Nat.zero_mul];omega
          ·obtain ⟨-,-,-,q⟩:=helem (len - 1) (by omega);have:(len - 1)*P.cellsOf el+P.cellsOf el=len*P.cellsOf el:=by
            rw [← Nat.succ_mul];congr 1;omega
           omega
         obtain ⟨e1,h1,c1,r1,l1,x1,v1,a1⟩:=yN (z:=P.cellsOf el) (ty:=el) (cs:=cc.toList.drop ao) len (by simp;omega) (fun i hi=>by
          obtain ⟨y,q1,q2,-⟩:=helem i hi;exact embed hsp hw n' m _ _ _ hp.2.1 q1 q2) e h0 r
         have hc1:c1.length=len*P.cellsOf el:=by
          have:=v1.length;rw [zA9,zB4,zC2] at this;omega
         obtain ⟨e2,r2,l2,x2,q2⟩:=r1.qcd (sh:=ao) (c:=c1) hblk (by omega) (fun i v hi=>by
          obtain ⟨v',q1,q2⟩:=v1.get i v hi;refine ⟨v',?_,q2⟩;rw [zC7,zC3,zC1] at q1;split at q1
          ·exact q1
          ·cases q1)
         refine ⟨e2,_,[.slice (some ⟨h1.next,0,none⟩) len cap],r2,Emb.le_trans l1 l2,x1.trans x2,.one (.slice h1.next 0 ⟨ab,ao,none⟩ len cap ⟨ab,ao,0⟩ q2 hl (.inl rfl)),?_⟩;unfold AR;rw [hu];refine ⟨len,c1,.inr ⟨h1.next,0,cap,c1,el0,none,true,rfl,by rw [AH.zf,if_pos rfl],by rw [← hc1];exact jQ c1⟩,⟨by omega,hwt⟩,hl,fun i hi=>(a1 i hi).ext r1.wfH x2 _ _ _⟩
       | _=>cases g4
   | _=>cases hp
end
end
end Go.Proofs.Xx
namespace Go.Proofs.Xx
open Go Go.RowKit Go.WideShapes Go.ChangeShapes
theorem VRs.WZ {e:Emb} {r:List Value} {v:Value} (h:VRs e r [v]):∃ u,r=[u]∧VR e u v:=by
 cases h with
 | cons u v' s s' h1 h2=>cases h2;exact ⟨u,rfl,h1⟩
section
variable {P:Program}
def qfa (P:Program) (t:TypeId) (r:List Value):Value :=
 match P.underlying t with
 | some (.struct _)|some (.array _ _)=>.agg r.toArray
 | _=>r.headD .nilFunc
theorem qge {w:World} {rc:Reach} {b0 m:Nat} {t:TypeId} {v:Value} {e:Emb} {r:List Value} (hp:Zc P m t=true) (hval:Value.okWide P w rc b0 t v) (hv:VRs e r v.cells.toList):VR e (qfa P t r) v:=by
 cases m with
 | zero=>cases hp
 | succ m =>
  unfold Zc at hp;unfold qfa;unfold Value.okWide at hval;cases hu:P.underlying t with
  | none=>rw [hu] at hp;cases hp
  | some u =>
   rw [hu] at hp hval;cases u with
   | struct fs =>
    obtain ⟨cs,rfl,-⟩:=hval;exact VR.agg (f:=e) r cs.toList (by simpa [Value.cells] using hv)
   | array n el =>
    obtain ⟨cs,rfl,-⟩:=hval;exact VR.agg (f:=e) r cs.toList (by simpa [Value.cells] using hv)
   | bool =>
    have:∃ b,v = .bool b:=by cases v<;>simp_all [Cell.okWide,Cell.ok]
    obtain ⟨b,rfl⟩:=this;obtain ⟨x,rfl,h1⟩:=VRs.WZ (show VRs e r [.bool b] from hv);exact h1
   | int k =>
    have:∃ k' b,v = .int k' b:=by cases v<;>simp_all [Cell.okWide,Cell.ok]
    obtain ⟨k',b,rfl⟩:=this;obtain ⟨x,rfl,h1⟩:=VRs.WZ (show VRs e r [.int k' b] from hv);exact h1
   | string =>
    have:∃ b,v = .string b:=by cases v<;>simp_all [Cell.okWide,Cell.ok]
    obtain ⟨b,rfl⟩:=this;obtain ⟨x,rfl,h1⟩:=VRs.WZ (show VRs e r [.string b] from hv);exact h1
   | slice el =>
    have:∃ a l c,v = .slice a l c:=by cases v<;>simp_all [Cell.okWide,Cell.ok]
    obtain ⟨a,l,c,rfl⟩:=this;obtain ⟨x,rfl,h1⟩:=VRs.WZ (show VRs e r [.slice a l c] from hv);exact h1
   | _=>cases hp
def ArgsR (P:Program) (h:AH):List TypeId→List Value→Prop
 | [],[]=>True
 | t :: ts,u :: us=>(∃ n r,AR P h n t r∧u=qfa P t r)∧ArgsR P h ts us
 | _,_=>False
theorem ArgsR.ext {h h':AH} (w:WfH h) (x:Ext h h'):∀ (ts:List TypeId) (us:List Value),ArgsR P h ts us→ArgsR P h' ts us
 | [],[],q=>q
 | t :: ts,u :: us,q=>⟨let ⟨n,r,h1,h2⟩:=q.1;⟨n,r,h1.ext w x _ _ _,h2⟩,ArgsR.ext w x ts us q.2⟩
 | [],_ :: _,q=>q.elim
 | _ :: _,[],q=>q.elim
theorem ArgsR.cons_inv {h:AH} {t:TypeId} {ts:List TypeId} {us:List Value} (a:ArgsR P h (t :: ts) us):∃ n r us',us=qfa P t r :: us'∧AR P h n t r∧ArgsR P h ts us':=by
 cases us with
 | nil=>exact a.elim
 | cons u us =>
  obtain ⟨⟨n,r,h1,rfl⟩,h2⟩:=a;exact ⟨n,r,us,rfl,h1,h2⟩
theorem ArgsR.jv {h:AH} {us:List Value} (a:ArgsR P h [] us):us=[]:=by
 cases us with
 | nil=>rfl
 | cons u us=>exact a.elim
section
variable {H:Type} {enc:TypeId×Value→H}
theorem kG [Glob] {w:World} {rc:Reach} {b0 base:Nat} {held:Bool} (hw:∃ (k:Nat) (cc:Array Value) (el:TypeId) (fr:Nat×Nat),w.heap[k]? = some (.cells cc el fr)):∀ (ts:List TypeId) (vs:List Value) (ds:List (DataW H)) (ps:List MemPlace),
 ts.all (Zc P 20)=true→(∀ (j:Nat) t v,ts[j]? = some t→vs[j]? = some v→Value.okWide P w rc b0 t v)→DataW.TrodAll enc P w base (fun _=>true) held ts vs ds ps→(∀ n∈DataW.weightsEach P ts ds,n≤reachBytes)→∀ e h,WRel w e h →
 ∃ e' h' us,WRel w e' h'∧e.le e'∧Ext h h'∧VRs e' us vs∧ArgsR P h' ts us
 | [],[],[],_,_,_,_,_,e,h,r=>⟨e,h,[],r,e.le_refl,Ext.refl r.wfH,.nil,trivial⟩
 | t :: ts,v :: vs,d :: ds,ps,hp,hval,hA,hz,e,h,r=>by
  rw [DataW.weightsEach] at hz;simp only [List.all_cons,zA8] at hp;obtain ⟨p,q,⟨fuel,h1⟩,h2,rfl⟩:=hA;obtain ⟨e1,g1,r1,w1,l1,x1,v1,a1⟩:=embed (fun _=>rfl) hw fuel 20 t _ _ hp.1 h1 (fun n hn=>hz n (List.mem_append_left _ hn)) e h r;obtain ⟨e2,g2,us,w2,l2,x2,v2,a2⟩:=kG hw ts vs ds q hp.2 (fun j t v q1 q2=>hval (j+1) t v (by simpa using q1) (by simpa using q2)) h2 (fun n hn=>hz n (List.mem_append_right _ hn)) e1 g1 w1;exact ⟨e2,g2,qfa P t r1 :: us,w2,Emb.le_trans l1 l2,x1.trans x2,.cons _ _ _ _ (qge hp.1 (hval 0 t v rfl rfl) (v1.mono l2)) v2,⟨fuel,r1,a1.ext w1.wfH x2 _ _ _,rfl⟩,a2⟩
 | [],[],_ :: _,_,_,_,h,_,_,_,_=>h.elim
 | [],_ :: _,_,_,_,_,h,_,_,_,_=>h.elim
 | _ :: _,[],_,_,_,_,h,_,_,_,_=>h.elim
 | _ :: _,_ :: _,[],_,_,_,h,_,_,_,_=>h.elim
theorem wX:∀ {ts us:List TypeId} {ds gs:List (DataW H)},(DataW.weightsEach P (ts ++ us) (ds ++ gs)).all (·≤reachBytes)=true→∀ n∈DataW.weightsEach P ts ds,n≤reachBytes
 | [],_,_,_,_=>fun n hn=>by simp [DataW.weightsEach] at hn
 | _ :: _,_,[],_,_=>fun n hn=>by simp [DataW.weightsEach] at hn
 | t :: ts,us,d :: ds,gs,hz=>fun n hn=>by
  rw [zC6,zC6,DataW.weightsEach,List.all_append,zA8] at hz;rw [DataW.weightsEach] at hn;rcases zB8.1 hn with q|q
  ·exact of_decide_eq_true (zC8.1 hz.1 n q)
  ·exact wX hz.2 n q
end
end
end Go.Proofs.Xx
