/-
  The checked run is sound.
-/
import Derived.Test.YtnopenpheaihmaaGreatDoorM2
import Derived.Calls
import Derived.Laws.Externs
import Derived.Test.YtnopenpheaihmaaGreatDoorProg
import Derived.KernelRfl
import Derived.Shelf.Strconv.Itoa1
import Derived.Lib.Bytealg
namespace Go.Proofs.Xx
open Go
set_option linter.unusedSimpArgs false
set_option linter.unusedVariables false
theorem ZM:∀ (l:List Nat) (n i b:Nat),Qj (numbered n l) i=some b→n≤b∧b<n+l.length∧l[b - n]? = some i
 | [],n,i,b,h=>by cases h
 | j :: r,n,i,b,h=>by
  simp only [numbered,Qj] at h
  split at h
  ·rename_i hj
   cases h
   have:=Nat.eq_of_beq_eq_true hj
   subst this
   exact ⟨Nat.le_refl _,by simp,by simp⟩
  ·obtain ⟨h1,h2,h3⟩:=ZM r (n+1) i b h
   refine ⟨by omega,by simp;omega,?_⟩
   rw [show b - n=(b - (n+1))+1 by omega,List.getElem?_cons_succ]
   exact h3
theorem Y9:∀ (l:List Nat) (n i:Nat),VP l i=true→∃ b,Qj (numbered n l) i=some b
 | [],n,i,h=>by cases h
 | j :: r,n,i,h=>by
  simp only [numbered,Qj]
  cases hj:Nat.beq j i with
  | true=>exact ⟨n,rfl⟩
  | false =>
   simp only
   refine Y9 r (n+1) i ?_
   rw [yF] at h ⊢
   rw [List.mem_cons] at h
   rcases h with h|h
   ·subst h;simp at hj
   ·exact h
section
variable {P:Program}
theorem Rel.qfu [Glob] {B:Bs} {e:Emb} {h:AH} {w:World} (r:Rel B e h w) (o:Qn):Rel B e (h.add o) w∧Turn e h w e (h.add o) w:=by
 have hne:∀ b L,e b=some L→b≠h.next:=fun b L q=>by have:=r.dom b L q;omega
 refine ⟨⟨fun b L q=>Nat.lt_succ_of_lt (r.dom b L q),fun b hb=>?_,r.rng,fun b L p q1 q2=>?_,fun k M p k' M' p' e1 e2 e3 e4 e5 e6 e7=>?_,fun b L p q1 q2 q3=>?_,r.base,r.keep,r.glob⟩,
  ⟨e.le_refl,Nat.le_succ _,Nat.le_refl _,fun _ _ q _=>q,fun b L q n=>(by rw [n] at q;cases q),Nat.le_refl _,fun _ _ _=>rfl,fun b hb _=>?_,rfl,rfl,rfl⟩⟩
 ·have hb':h.next+1≤b:=hb
  rw [AH.zi,if_neg (by omega)];exact r.wf b (by omega)
 ·rw [AH.zi,if_neg (hne b L q1)] at q2;exact r.obj b L p q1 q2
 ·rw [AH.zi,if_neg (hne k M e1)] at e2
  rw [AH.zi,if_neg (hne k' M' e3)] at e4
  exact r.inj k M p k' M' p' e1 e2 e3 e4 e5 e6 e7
 ·rw [AH.zi,if_neg (hne b L q1)] at q2;exact r.own b L p q1 q2 q3
 ·rw [AH.zi,if_neg (by omega)]
theorem Rel.qer [Glob] {B:Bs} {e:Emb} {w:World}:∀ (os:List Qn) (h:AH),Rel B e h w→Rel B e (os.foldl AH.add h) w∧Turn e h w e (os.foldl AH.add h) w∧(os.foldl AH.add h).next=h.next+os.length
 | [],h,r=>⟨r,Turn.refl _ _ _,rfl⟩
 | o :: os,h,r=>by
  obtain ⟨r1,u1⟩:=r.qfu o
  obtain ⟨r2,u2,n2⟩:=Rel.qer os (h.add o) r1
  refine ⟨r2,u1.trans u2 r.dom,?_⟩
  rw [List.foldl_cons,n2]
  simp only [AH.add,List.length_cons];omega
theorem Ws [Glob] {X:Extern} {run:zG} (hm:P.follows .mixedOrders=true) (hC:Xg P (jH P X run)) (hY:Yh P (QZ run)) {sz:Nat} {ops:Array Oper} {fl:List Nat} {ids:List (Nat×Nat)}
 {t t':Tr Value} {h h0 h':AH} (hp:YI ops (masks ops.toList []) fl=true) (ho:XD P X run sz ops (masks ops.toList []) fl ids t h0=some (t',h'))
 (ids1:∀ i,VP fl i=true→∃ b,Qj ids i=some b) (ids2:∀ i b,Qj ids i=some b→VP fl i=true∧h.next≤b∧b<h0.next) (ids3:∀ i j b,Qj ids i=some b→Qj ids j=some b→i=j)
 {B:Bs} {e:Emb} {w:World} {tm:Array Value} (r:Rel B e h w) (r0:Rel B e h0 w) (u0:Turn e h w e h0 w) (T:TR e sz t tm) (tv:Nat) :
 ∃ e' w' tm',Rel B e' h' w'∧Turn e h w e' h' w'∧TR e' sz t' tm'∧∀ (fn:FuncId) (ro:Option Nat) (k:List Item) (ds:List Deferred) (cs:List Frame),
  Steps P (lone (fr fn ro tm (.inRegion ops (Region.schedule (P.follows .mixedOrders) ops tv) :: k) ds) cs w) (lone (fr fn ro tm' (.inRegion ops [] :: k) ds) cs w'):=by
 unfold XD at ho
 split at ho
 rotate_left
 ·cases ho
 rename_i l t1 h1 hr
 simp only at ho
 have hkey:t1=t'∧h1=h'∧qez P ops ids (masks ops.toList []) fl ((List.range ops.size).filter (qG ops fl)) (h0 :: ((List.range ops.size).filter (qG ops fl)).map fun i=>hpAt l h1 (i+1)) l:=by
  split at ho
  ·rename_i hall
   cases ho
   refine ⟨rfl,rfl,fun i hi hc o s hoo hs hgo hcalm m k hm hf=>?_⟩
   rw [List.all_eq_true] at hall
   have h1:=hall i (List.mem_range.2 hi)
   unfold gG at h1
   rw [hc,hoo,hs] at h1
   simp only [Bool.false_or,hgo,Bool.not_true,hcalm,List.all_eq_true] at h1
   have h2:=h1 m (List.mem_range.2 (List.getElem?_eq_some_iff.1 hm).1)
   rw [hf,hm] at h2
   exact OkAtP.of (by simpa using h2)
  ·split at ho
   ·rename_i hst
    cases ho
    exact ⟨rfl,rfl,hst⟩
   ·cases ho
 obtain ⟨rfl,rfl,hall⟩:=hkey
 obtain ⟨q1,q2,q3,q4⟩:=X3 ops.toList 0 t h0 l t1 h1 hr
 have c:Canon P X run sz ops ids fl l t t1 h h0 h1:={
  plan:=hp
  startT:=q1
  startH:=q2
  len:=q3.trans Array.length_toList
  step:=fun k o hk=>by
   obtain ⟨s,s1,s2⟩:=q4 k o (by rw [Array.getElem?_toList];exact hk)
   refine ⟨s,s1,?_⟩
   rw [Nat.zero_add] at s2
   exact s2
  checked:=hall
  ids1:=ids1
  ids2:=ids2
  ids3:=ids3 }
 have hk0:kk l h0 h1 (([]:List Nat).filter (qG ops fl))=h0:=rfl
 have S:St B ops ids fl l t h h0 h1 sz e w [] e w tm:={
  rel:=r0
  tr:=T
  turn:=u0
  next:=Nat.le_refl _
  free:=fun j b hj _=>by
   cases he:e b with
   | none=>rfl
   | some L =>
    have:=r.dom b L he
    have:=(ids2 j b hj).2.1
    omega }
 obtain ⟨e',w',tm',p1,p2,p3,p4⟩:=c.go hC hY r.dom ops.size tv (Array.replicate ops.size false) [] (by simp) (by simp) (fun i hi=>by simp [Array.getElem?_replicate,hi]) (Valid.nil ops) e w tm S
 refine ⟨e',w',tm',p1,p2,p3,fun fn ro k ds cs=>?_⟩
 simp only [Region.schedule,hm,Bool.true_or,if_true]
 exact p4 fn ro k ds cs
theorem qfo [Glob] {X:Extern} {run:zG} (hm:P.follows .mixedOrders=true) (hX:Gw P X) (hN:∀ (f:FuncId) (fn:Func),P.funcs[f]? = some fn→fn.body.isSome=true→(fn.name == "runtime.NumGoroutine")=false)
 (hR:Vt P run):GI P X run:=by
 have hC:=Zq hX hN hR
 have hY:=YR hR
 intro sz ops t h t' h' ho B e w tm r T tv
 unfold WR at ho
 simp only at ho
 split at ho
 rotate_left
 ·cases ho
 rename_i hp
 split at ho
 ·rename_i hfl
  rw [hfl] at hp
  refine Ws hm hC hY hp ho (fun i q=>by cases q) (fun i b q=>by cases q) (fun i j b q=>by cases q) r r (Turn.refl _ _ _) T tv
 ·rename_i j rest hfl
  rw [hfl] at hp
  obtain ⟨r0,u0,n0⟩:=Rel.qer ((j :: rest).map (X7 P ops sz h t)) h r
  refine Ws hm hC hY hp ho (fun i q=>Y9 _ _ _ q) (fun i b q=>?_) (fun i k b q1 q2=>?_) r r0 u0 T tv
  ·obtain ⟨a1,a2,a3⟩:=ZM _ _ _ _ q
   refine ⟨yF.2 (List.mem_of_getElem? a3),a1,?_⟩
   rw [n0,List.length_map];exact a2
  ·obtain ⟨a1,a2,a3⟩:=ZM _ _ _ _ q1
   obtain ⟨b1,b2,b3⟩:=ZM _ _ _ _ q2
   rw [a3] at b3
   exact Option.some.inj b3
theorem J7 [Glob] {X:Extern} (hm:P.follows .mixedOrders=true) (hX:Gw P X) (hN:∀ (f:FuncId) (fn:Func),P.funcs[f]? = some fn→fn.body.isSome=true→(fn.name == "runtime.NumGoroutine")=false) (n:Nat) :
 Vt P (exec P X n):=KX hX hN (fun run hR=>qfo hm hX hN hR) n
end
end Go.Proofs.Xx
namespace Go.Proofs.Xx
open Go Go.RowKit
set_option linter.unusedSimpArgs false
set_option linter.unusedVariables false
section
variable {P:Program}
theorem qax [Glob] {X:Extern} {run:zG} (hR:Vt P run) {f:FuncId} {args:List Value} {h h':AH} {v:Value} (hc:jH P X run f args h=some (v,h')) (hXn:X f args h=none)
 {fn:Func} {body:Code} (hfn:P.funcs[f]? = some fn) (hb:fn.body=some body) {B:Bs} {e:Emb} {w:World} {args':List Value} (r:Rel B e h w) (hargs:VRs e args args') :
 ∃ e' v' w',Rel B e' h' w'∧Turn e h w e' h' w'∧VR e' v v'∧Calls P f args'.toArray w (fun en w''=>en = .returned v'∧w''=w'):=by
 unfold jH at hc
 rw [hXn,hfn] at hc
 simp only [hb] at hc
 have hlen:=hargs.length
 have hent:Frame.enter P f args'.toArray .normal=fr f none (args'.toArray ++ Array.replicate (fn.ntmps - args'.length) undef) [.code body] []:=by
  simp [Frame.enter,fr,hfn,hb]
 have T:TR e (args.length+(fn.ntmps - args.length)) (jy 0 args .e) (args'.toArray ++ Array.replicate (fn.ntmps - args'.length) undef):=by
  refine Zx ⟨by simp [hlen],fun k u hk=>by rw [Tr.kG] at hk;cases hk⟩ hargs (by omega) fun j hj=>?_
  rw [Nat.zero_add,Array.getElem?_append_left (by simpa using hj)]
  simp
 split at hc
 ·cases hc
 rotate_left
 ·cases hc
 rename_i x t h1 hx hrun
 split at hc
 rotate_left
 ·cases hc
 rename_i vs hvs
 cases hc
 obtain ⟨e1,w1,tm1,dn,r1,u1,T1,m1,-,a1⟩:=hR _ _ _ _ _ _ _ _ hrun B e w _ f none r T (fun _=>rfl)
 obtain ⟨rs,d1,d2,d3⟩:=m1.ex
 obtain ⟨w2,b2,st2⟩:=JQ (P:=P) (N:=w.heap.size) (e:=e1) (fn:=f) (tm:=tm1) rs w1 d2 d3
 have r2:=r1.beside b2 r.base
 obtain ⟨vs',p1,p2⟩:=Z8 (P:=P) r2 T1 hvs
 have main:∀ cs,∃ todo,Steps P (lone (fr f none (args'.toArray ++ Array.replicate (fn.ntmps - args'.length) undef) [.code body] []) cs w) (lone (gone f tm1 todo dn) cs w1):=by
  cases x with
  | norm =>
   refine fun cs=>⟨[],?_⟩
   have:=a1 [] [] cs
   rw [List.append_nil] at this
   exact Steps.trans this (.one qdy)
  | exit id=>exact (hx id rfl).elim
  | ret =>
   refine fun cs=>?_
   obtain ⟨k',hk⟩:=a1 [] [] cs
   rw [List.append_nil] at hk
   exact ⟨_,Steps.trans hk (.one qdw)⟩
 refine ⟨e1,_,w2,r2,u1.beside b2,JI p2,fun cs=>?_⟩
 obtain ⟨todo,hst⟩:=main cs
 refine ⟨_,w2,gone f tm1 todo [],⟨rfl,rfl⟩,?_,rfl,rfl,rfl,rfl,fn,hfn,?_⟩
 ·rw [hent]
  rw [d1] at hst
  exact Steps.trans hst (st2 todo cs)
 ·rw [show (gone f tm1 todo []).tmps=tm1 from rfl,xR,Sem.run_bind,Array.mapM_eq_mapM_toList,Sem.run_map,p1]
  rfl
theorem Rel.empty [Glob] {B:Bs} {e:Emb} {h:AH} {w:World} (r:Rel B e h w):Rel B (fun _=>none) ⟨.e,0,0⟩ w :=
 ⟨fun b L q=>(by cases q),fun b _=>Tr.kG b,fun b L q=>(by cases q),fun b L o q=>(by cases q),fun b L o b' L' o' q=>(by cases q),fun b L o q=>(by cases q),r.base,r.keep,r.glob⟩
def XT (X:Extern) (f:FuncId) (v:Bool):Extern:=fun g args h=>match Nat.beq g f,args with
 | true,[]=>some (.bool v,h)
 | _,_=>X g args h
theorem gp [Glob] {X X1:Extern} {run:zG} (hX:Gw P X) (hC:Xg P (jH P X1 run)) {f:FuncId} {h':AH} {v:Bool} (hc:jH P X1 run f [] ⟨.e,0,0⟩=some (.bool v,h')):Gw P (XT X f v):=by
 intro g args h u h1 hx B e w args' r hargs
 unfold XT at hx
 split at hx
 ·rename_i hg
  cases hx
  have:=Nat.eq_of_beq_eq_true hg
  subst this
  have:=hargs.QK
  subst this
  obtain ⟨e1,v1,w1,r1,u1,hv,hs⟩:=hC _ _ _ _ _ hc _ _ w [] r.empty .nil
  cases hv
  have hk:∀ k,k<w.heap.size→w1.heap[k]? = w.heap[k]?:=fun k hk=>u1.keep k hk fun b L q=>by cases q
  refine ⟨e,.bool v,w1,?_,?_,.bool v,hs⟩
  ·exact ⟨r.dom,r.wf,fun b L q=>Nat.lt_of_lt_of_le (r.rng b L q) u1.size,fun b L o q1 q2=>(r.obj b L o q1 q2).world (hk _ (r.rng b L q1)),r.inj,r.own,Nat.le_trans r.base u1.size,fun k q=>(hk k (by have:=r.base;omega)).trans (r.keep k q),r.glob⟩
  ·exact ⟨e.le_refl,Nat.le_refl _,Nat.le_refl _,fun _ _ q _=>q,fun b L q n=>(by rw [n] at q;cases q),u1.size,fun k q _=>hk k q,fun _ _ _=>rfl,u1.os,u1.tape,u1.output⟩
 ·exact hX _ _ _ _ _ hx B e w args' r hargs
def zU (n:Nat):Extern:=fun f args h=>match Nat.beq f n,args with
 | true,[x]=>some (x,h)
 | _,_=>none
theorem Vk [Glob] {n:Nat} {fn:Func} (hfn:P.funcs[n]? = some fn) (hname:(fn.name == "runtime.NumGoroutine")=false) (hb:fn.body.isNone=true) (hn:Extern.findNext fn=none)
 (he:Extern.find fn=some Extern.AbiNoEscape.same):Gw P (zU n):=by
 intro f args h v h' hx B e w args' r hargs
 unfold zU at hx
 split at hx
 ·rename_i x hf
  cases hx
  have:=Nat.eq_of_beq_eq_true hf
  subst this
  obtain ⟨x',r',rfl,hx',hr'⟩:=hargs.cons_inv
  have:=hr'.QK;subst this
  refine ⟨e,x',w,r,Turn.refl _ _ _,hx',.inl ?_⟩
  rw [run_callFunc_extern hfn hname hb hn he]
  rfl
 ·cases hx
end
end Go.Proofs.Xx
namespace Go.Proofs.Xx
open Go Go.RowKit Go.Shelf
set_option linter.unusedVariables false
set_option maxRecDepth 100000
def qhS:Ren where
 f x:=match x with | 129=>189 | 284=>224 | 317=>235 | 318=>236|x=>x
 t x:=match x with | 0=>0 | 3=>3 | 4=>4 | 5=>5 | 9=>9 | 46=>74 | 53=>177 | 212=>206|x=>x
 g x:=match x with | 17=>1|x=>x
theorem laysD:LaysM.n284 Tryz.prog qhS where
 mixed:=by kernel_rfl
 f129:=by kernel_rfl
 f284:=by kernel_rfl
 f317:=by kernel_rfl
 f318:=by kernel_rfl
 t0:=by kernel_rfl
 a0:=fun w=>by rfl
 z0:=fun w=>by rfl
 v0:=fun w=>by rfl
 t3:=by kernel_rfl
 a3:=fun w=>by rfl
 z3:=fun w=>by rfl
 v3:=fun w=>by rfl
 t4:=by kernel_rfl
 a4:=fun w=>by rfl
 z4:=fun w=>by rfl
 v4:=fun w=>by rfl
 t5:=by kernel_rfl
 a5:=fun w=>by rfl
 z5:=fun w=>by rfl
 v5:=fun w=>by rfl
 t9:=by kernel_rfl
 a9:=fun w=>by rfl
 z9:=fun w=>by rfl
 v9:=fun w=>by rfl
 t46:=by kernel_rfl
 a46:=fun w=>by rfl
 z46:=fun w=>by rfl
 v46:=fun w=>by rfl
 t53:=by kernel_rfl
 a53:=fun w=>by rfl
 z53:=fun w=>by rfl
 v53:=fun w=>by rfl
 t212:=by kernel_rfl
 a212:=fun w=>by rfl
 z212:=fun w=>by rfl
 v212:=fun w=>by rfl
 g17:=by kernel_rfl
 i0:=by kernel_rfl
 i3:=by kernel_rfl
 i4:=by kernel_rfl
 i5:=by kernel_rfl
 i9:=by kernel_rfl
 i46:=by kernel_rfl
 i53:=by kernel_rfl
 i212:=by kernel_rfl
 m17:=by kernel_rfl
instance globPow:Glob:=⟨fun lo ref=>1<lo∧∃ el fr,ref[1]? = some (.cells (Lib.pow10Tab.map fun z=>Value.int .u64 z).toArray el fr)⟩
theorem qgo:Tryz.prog.globalNamed "internal/strconv.uint64pow10" = some 1:=by kernel_rfl
theorem qal {B:Bs} {e:Emb} {h:AH} {w:World} (r:Rel B e h w):Lib.TabIs Tryz.prog w "internal/strconv.uint64pow10" .u64 Lib.pow10Tab:=by
 obtain ⟨h1,el,fr,h2⟩:=r.glob
 have h3:=(r.keep 1 h1).trans h2
 unfold Lib.TabIs World.var?
 rw [qgo]
 simp only [Option.bind_some,h3]
def ZX (X:Extern) (f:FuncId):Extern:=fun g args h=>match Nat.beq g f,args with
 | true,[.int .u64 u]=>if 1≤u∧u<18446744073709551616 then some (.int .i64 (Lib.nDigits u.toNat),h) else none
 | _,_=>X g args h
theorem Ym {X:Extern} (hX:Gw Tryz.prog X):Gw Tryz.prog (ZX X 224):=by
 intro g args h u h1 hx B e w args' r hargs
 unfold ZX at hx
 split at hx
 ·rename_i z hg
  have:=Nat.eq_of_beq_eq_true hg
  subst this
  split at hx
  rotate_left
  ·cases hx
  rename_i hz
  cases hx
  obtain ⟨x',r',rfl,hx',hr'⟩:=hargs.cons_inv
  have:=hr'.QK;subst this
  cases hx'
  refine ⟨e,.int .i64 (Lib.nDigits z.toNat),w,r,Turn.refl _ _ _,.int _ _,.inr ⟨?_,fun c cs=>?_⟩⟩
  ·exact Go.Proofs.enters_of laysD.f284 (by kernel_rfl) rfl _ _
  ·have hc:=Any.internal_strconv_numDigits laysD z.toNat (by omega) (by omega) w (qal r) (c :: cs)
   rw [show ((z.toNat:Nat):Int)=z by omega] at hc
   obtain ⟨en,w',fr,⟨rfl,rfl⟩,hco,-,hl⟩:=hc
   exact Steps.trans hco (.one (step_leave_returned hl))
 ·exact hX _ _ _ _ _ hx B e w args' r hargs
def Vo (n:Nat):List UInt8 :=
 if n<10 then [UInt8.ofNat (48+n)]
 else if n<100 then [UInt8.ofNat (48+n / 10),UInt8.ofNat (48+n % 10)]
 else if n<1000 then [UInt8.ofNat (48+n / 100),UInt8.ofNat (48+n / 10 % 10),UInt8.ofNat (48+n % 10)]
 else [49,48,48,48]
def qbh (n:Nat):ByteArray:=⟨(Vo n).toArray⟩
def YS (X:Extern) (f:FuncId):Extern:=fun g args h=>match Nat.beq g f,args with
 | true,[.int .i64 z]=>if 0≤z∧z≤1000 then some (.string (qbh z.toNat),h) else X g args h
 | _,_=>X g args h
theorem xm [Glob] {P:Program} {X X1:Extern} {run:zG} (hX:Gw P X) (hC:Xg P (jH P X1 run)) {f:FuncId}
 (hc:∀ n:Nat,n≤1000→∃ h',jH P X1 run f [.int .i64 (n:Int)] ⟨.e,0,0⟩=some (.string (qbh n),h')):Gw P (YS X f):=by
 intro g args h u h1 hx B e w args' r hargs
 unfold YS at hx
 split at hx
 ·rename_i z hg
  split at hx
  rotate_left
  ·exact hX _ _ _ _ _ hx B e w args' r hargs
  rename_i hz
  cases hx
  have:=Nat.eq_of_beq_eq_true hg
  subst this
  obtain ⟨x',r',rfl,hx',hr'⟩:=hargs.cons_inv
  have:=hr'.QK;subst this
  cases hx'
  obtain ⟨h',hc⟩:=hc z.toNat (by omega)
  rw [show ((z.toNat:Nat):Int)=z by omega] at hc
  obtain ⟨e1,v1,w1,r1,u1,hv,hs⟩:=hC _ _ _ _ _ hc _ _ w [.int .i64 z] r.empty (VRs.plain _ _ rfl)
  cases hv
  have hk:∀ k,k<w.heap.size→w1.heap[k]? = w.heap[k]?:=fun k hk=>u1.keep k hk fun b L q=>by cases q
  refine ⟨e,.string (qbh z.toNat),w1,?_,?_,.string _,hs⟩
  ·exact ⟨r.dom,r.wf,fun b L q=>Nat.lt_of_lt_of_le (r.rng b L q) u1.size,fun b L o q1 q2=>(r.obj b L o q1 q2).world (hk _ (r.rng b L q1)),r.inj,r.own,Nat.le_trans r.base u1.size,fun k q=>(hk k (by have:=r.base;omega)).trans (r.keep k q),r.glob⟩
  ·exact ⟨e.le_refl,Nat.le_refl _,Nat.le_refl _,fun _ _ q _=>q,fun b L q n=>(by rw [n] at q;cases q),u1.size,fun k q _=>hk k q,fun _ _ _=>rfl,u1.os,u1.tape,u1.output⟩
 ·exact hX _ _ _ _ _ hx B e w args' r hargs
noncomputable def zl (P:Program) (X1:Extern) (n:Nat) (f:FuncId) (lo k:Nat):Bool:=(List.range k).all fun i=>match jH P X1 (exec P X1 n) f [.int .i64 ((lo+i:Nat):Int)] ⟨.e,0,0⟩ with
 | some (.string s,_)=>s.data.toList == Vo (lo+i)
 | _=>false
theorem qbg {P:Program} {X1:Extern} {n:Nat} {f:FuncId} {lo k:Nat} (h:zl P X1 n f lo k=true):∀ m,lo≤m→m<lo+k→∃ h',jH P X1 (exec P X1 n) f [.int .i64 (m:Int)] ⟨.e,0,0⟩=some (.string (qbh m),h'):=by
 intro m h1 h2
 have:=List.all_eq_true.1 h (m - lo) (by simp;omega)
 rw [show lo+(m - lo)=m by omega] at this
 split at this
 ·rename_i s h' hc
  refine ⟨h',?_⟩
  rw [hc]
  have e:s=qbh m:=by
   cases s with|mk d =>
   have:=eq_of_beq this
   unfold qbh
   congr 1
   rw [← this]
  rw [e]
 ·cases this
def DecUpTo (P:Program) (X1:Extern) (n:Nat) (f:FuncId) (k:Nat):Prop:=∀ m:Nat,m<k→∃ h',jH P X1 (exec P X1 n) f [.int .i64 (m:Int)] ⟨.e,0,0⟩=some (.string (qbh m),h')
theorem DecUpTo.zero {P:Program} {X1:Extern} {n:Nat} {f:FuncId}:DecUpTo P X1 n f 0:=fun m h=>absurd h (Nat.not_lt_zero m)
theorem DecUpTo.step {P:Program} {X1:Extern} {n:Nat} {f:FuncId} {k j:Nat} (d:DecUpTo P X1 n f k) (h:zl P X1 n f k j=true):DecUpTo P X1 n f (k+j):=fun m hm =>
 if q:m<k then d m q else qbg h m (by omega) hm
theorem QU [Glob]:Gw Tryz.prog (zU 200) :=
 Vk Tryz.func200 (by kernel_rfl) (by kernel_rfl) (by kernel_rfl) (by kernel_rfl)
theorem YJ (f:FuncId) (fn:Func) (h:Tryz.prog.funcs[f]? = some fn) (hb:fn.body.isSome=true):(fn.name == "runtime.NumGoroutine")=false:=by
 have h0:Tryz.prog.funcs.all (fun fn=>!(fn.name == "runtime.NumGoroutine"))=true:=by kernel_rfl
 have:=Array.all_eq_true_iff_forall_mem.1 h0 fn (Array.mem_of_getElem? h)
 simpa using this
theorem follows:Tryz.prog.follows .mixedOrders=true:=by kernel_rfl
def Xd:Extern:=ZX (zU 200) 224
theorem qb6:Gw Tryz.prog Xd:=Ym QU
end Go.Proofs.Xx
namespace Go.Proofs.Xx
open Go Go.RowKit
set_option maxRecDepth 100000
theorem qct:zl Tryz.prog Xd 100 111 0 50=true:=by decide +kernel
theorem qaP:zl Tryz.prog Xd 100 111 50 50=true:=by decide +kernel
theorem Po:zl Tryz.prog Xd 100 111 100 50=true:=by decide +kernel
theorem Pn:zl Tryz.prog Xd 100 111 150 50=true:=by decide +kernel
theorem Pm:zl Tryz.prog Xd 100 111 200 50=true:=by decide +kernel
theorem Pj:zl Tryz.prog Xd 100 111 250 50=true:=by decide +kernel
theorem Pi:zl Tryz.prog Xd 100 111 300 50=true:=by decide +kernel
theorem Ph:zl Tryz.prog Xd 100 111 350 50=true:=by decide +kernel
theorem Pg:zl Tryz.prog Xd 100 111 400 50=true:=by decide +kernel
theorem pY:zl Tryz.prog Xd 100 111 450 50=true:=by decide +kernel
end Go.Proofs.Xx
namespace Go.Proofs.Xx
open Go Go.RowKit
set_option maxRecDepth 100000
theorem pX:zl Tryz.prog Xd 100 111 500 50=true:=by decide +kernel
theorem pW:zl Tryz.prog Xd 100 111 550 50=true:=by decide +kernel
theorem pV:zl Tryz.prog Xd 100 111 600 50=true:=by decide +kernel
theorem pU:zl Tryz.prog Xd 100 111 650 50=true:=by decide +kernel
theorem pR:zl Tryz.prog Xd 100 111 700 50=true:=by decide +kernel
theorem pO:zl Tryz.prog Xd 100 111 750 50=true:=by decide +kernel
theorem pM:zl Tryz.prog Xd 100 111 800 50=true:=by decide +kernel
theorem pK:zl Tryz.prog Xd 100 111 850 50=true:=by decide +kernel
theorem pJ:zl Tryz.prog Xd 100 111 900 50=true:=by decide +kernel
theorem pI:zl Tryz.prog Xd 100 111 950 50=true:=by decide +kernel
theorem gV:zl Tryz.prog Xd 100 111 1000 1=true:=by decide +kernel
end Go.Proofs.Xx
namespace Go.Proofs.Xx
open Go Go.RowKit
set_option maxRecDepth 100000
theorem qcu:zl Tryz.prog Xd 100 108 0 100=true:=by decide +kernel
theorem PH:zl Tryz.prog Xd 100 108 100 100=true:=by decide +kernel
theorem PG:zl Tryz.prog Xd 100 108 200 100=true:=by decide +kernel
theorem PE:zl Tryz.prog Xd 100 108 300 100=true:=by decide +kernel
theorem PD:zl Tryz.prog Xd 100 108 400 100=true:=by decide +kernel
theorem Pz:zl Tryz.prog Xd 100 108 500 100=true:=by decide +kernel
theorem Py:zl Tryz.prog Xd 100 108 600 100=true:=by decide +kernel
theorem Px:zl Tryz.prog Xd 100 108 700 100=true:=by decide +kernel
theorem Pv:zl Tryz.prog Xd 100 108 800 100=true:=by decide +kernel
theorem Pq:zl Tryz.prog Xd 100 108 900 100=true:=by decide +kernel
theorem gW:zl Tryz.prog Xd 100 108 1000 1=true:=by decide +kernel
end Go.Proofs.Xx
namespace Go.Proofs.Xx
open Go Go.RowKit
set_option linter.unusedSimpArgs false
set_option linter.unusedVariables false
def QN (c:UInt8):List UInt8→Option Nat
 | []=>none
 | x :: s=>if x=c then some 0 else (QN c s).map (· + 1)
def VS (c:UInt8) (s:List UInt8):Int:=match QN c s with|some i=>i|none=>-1
def qcV (c:UInt8) (s:List UInt8):Nat:=s.countP (· == c)
theorem kJ (c:UInt8):∀ s:List UInt8,(QN c s=none∧Lib.indexByte s c = -1)∨∃ i:Nat,QN c s=some i∧Lib.indexByte s c=i
 | []=>.inl ⟨rfl,rfl⟩
 | x :: s=>by
  unfold QN Lib.indexByte
  by_cases e:x=c
  ·rw [if_pos e,if_pos (by simpa using e)]
   exact .inr ⟨0,rfl,rfl⟩
  ·rw [if_neg e,if_neg (by simpa using e)]
   rcases kJ c s with ⟨h1,h2⟩|⟨i,h1,h2⟩
   ·rw [h1,h2];exact .inl ⟨rfl,rfl⟩
   ·rw [h1,h2]
    refine .inr ⟨i+1,rfl,?_⟩
    rw [if_neg (by intro q;have:=eq_of_beq q;omega)]
    rfl
theorem qec (c:UInt8) (s:List UInt8):Lib.indexByte s c=VS c s:=by
 unfold VS
 rcases kJ c s with ⟨h1,h2⟩|⟨i,h1,h2⟩
 ·rw [h1,h2]
 ·rw [h1,h2]
def withBytes (X:Extern) (cnt ix:Nat):Extern:=fun g args h=>match Nat.beq g cnt,Nat.beq g ix,args with
 | true,_,[.string s,.int .u8 c]=>some (.int .i64 (qcV c.toNat.toUInt8 s.data.toList:Nat),h)
 | _,true,[.string s,.int .u8 c]=>some (.int .i64 (VS c.toNat.toUInt8 s.data.toList),h)
 | _,_,_=>X g args h
theorem gq [Glob] {P:Program} {X:Extern} (hX:Gw P X) {cnt ix:Nat} {f1 f2:Func} (h1:P.funcs[cnt]? = some f1) (h2:P.funcs[ix]? = some f2) (n1:(f1.name == "runtime.NumGoroutine")=false) (n2:(f2.name == "runtime.NumGoroutine")=false)
 (b1:f1.body.isNone=true) (b2:f2.body.isNone=true) (m1:Extern.findNext f1=none) (m2:Extern.findNext f2=none) (e1:Extern.find f1=some Extern.BytealgCount.count) (e2:Extern.find f2=some Extern.BytealgIndexByte.indexByte):Gw P (withBytes X cnt ix):=by
 intro f args h v h' hx B e w args' r hargs
 unfold withBytes at hx
 split at hx
 ·rename_i s c hf
  cases hx
  have:=Nat.eq_of_beq_eq_true hf
  subst this
  obtain ⟨x',r',rfl,hx',hr'⟩:=hargs.cons_inv
  obtain ⟨y',r2,rfl,hy',hr2⟩:=hr'.cons_inv
  have:=hr2.QK;subst this
  cases hx';cases hy'
  refine ⟨e,_,w,r,Turn.refl _ _ _,.int _ _,.inl ?_⟩
  rw [run_callFunc_extern h1 n1 b1 m1 e1,Lib.run_countString]
  rfl
 ·rename_i s c hg hf
  cases hx
  have:=Nat.eq_of_beq_eq_true hg
  subst this
  obtain ⟨x',r',rfl,hx',hr'⟩:=hargs.cons_inv
  obtain ⟨y',r2,rfl,hy',hr2⟩:=hr'.cons_inv
  have:=hr2.QK;subst this
  cases hx';cases hy'
  refine ⟨e,_,w,r,Turn.refl _ _ _,.int _ _,.inl ?_⟩
  rw [run_callFunc_extern h2 n2 b2 m2 e2,Lib.run_indexByteString,qec]
  rfl
 ·exact hX _ _ _ _ _ hx B e w args' r hargs
end Go.Proofs.Xx
