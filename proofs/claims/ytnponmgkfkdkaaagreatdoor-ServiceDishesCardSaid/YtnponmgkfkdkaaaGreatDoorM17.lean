/-
  Dishes as a known function: what is known of the functions that are called by the laws.
-/
import Derived.Test.YtnponmgkfkdkaaaGreatDoorM16
import Derived.Test.YtnponmgkfkdkaaaGreatDoorM4
import Derived.Test.YtnponmgkfkdkaaaGreatDoorM14
import Derived.Test.YtnponmgkfkdkaaaGreatDoorM11
import Derived.Test.YtnponmgkfkdkaaaGreatDoorM12
set_option linter.unusedSimpArgs false
set_option linter.unusedVariables false
set_option linter.unusedSectionVars false
set_option maxRecDepth 100000
set_option maxHeartbeats 4000000
namespace Go.Proofs.Xx
open Go Go.RowKit Go.Proofs
theorem VQ:∀ {l m:List Int},l.flatMap eI=m.flatMap eI→l=m
 | [],[],_=>rfl
 | [],y :: m,h=>by simp [zG2,eI] at h
 | x :: l,[],h=>by simp [zG2,eI] at h
 | x :: l,y :: m,h=>by
  simp only [zG2,eI,List.singleton_append,List.cons.injEq,Value.int.injEq,true_and] at h;rw [h.1,VQ h.2]
theorem kP {h:AH} {v:Value} {l m:List Int} (a:zC h v 1 eI l) (b:zC h v 1 eI m):l=m:=by
 rcases a with ⟨rfl,-,a⟩|⟨b1,o1,c1,cc1,e1,s1,r1,rfl,a1,a2⟩<;>rcases b with ⟨hb,-,b⟩|⟨b2,o2,c2,cc2,e2,s2,r2,hb,b1',b2'⟩
 ·exact VQ (a.trans b.symm)
 ·cases hb
 ·cases hb
 ·injection hb with q1 q2 q3
  cases q1
  rw [b1'] at a1;cases a1
  have hl:l.length=m.length:=by omega
  rw [hl,b2'] at a2;exact VQ (Option.some.inj a2).symm
def DRes (p:Pb) (args:List Value) (h:AH) (r:Value×AH):Prop :=
 ∃ (pv:PbV) (tabs:List Tab) (sq:SlV) (q:List Int),args=[pv.val,sq.val]∧tabs.map (·.toC)=p.tabs.map (·.toC)∧PbOk h pv (p.wt tabs)∧PO (p.wt tabs)∧zC h sq.val 1 eI q∧PartOk (p.wt tabs) q∧r=WF (Ja p q) h
theorem qgN {l m:List Tab} (e:l.map (·.toC)=m.map (·.toC)) {us:List Gu} {ts:List Ti} {cl:List Int} {ru:List Ru} {q:List Int}:∀ n,XT ⟨l,us,ts,cl,ru⟩ q n=XT ⟨m,us,ts,cl,ru⟩ q n
 | 0=>rfl
 | n+1=>by
  have ih:=qgN e (us:=us) (ts:=ts) (cl:=cl) (ru:=ru) (q:=q) n;unfold XT Jy;rw [ih,qdE e]
theorem qhE {l m:List Tab} (e:l.map (·.toC)=m.map (·.toC)) {us:List Gu} {ts:List Ti} {cl:List Int} {ru:List Ru} {q:List Int}:Ja ⟨l,us,ts,cl,ru⟩ q=Ja ⟨m,us,ts,cl,ru⟩ q:=by
 unfold Ja;rw [qgN e]
theorem DRes.uniq {p:Pb} {args:List Value} {h:AH} {r s:Value×AH} (a:DRes p args h r) (b:DRes p args h s):r=s:=by
 obtain ⟨pv,tabs,sq,q,rfl,-,-,-,a1,-,rfl⟩:=a;obtain ⟨pw,tabs',sr,q',hv,-,-,-,b1,-,rfl⟩:=b;simp only [List.cons.injEq,and_true] at hv;rw [← hv.2] at b1;rw [kP a1 b1]
def lawF:List Nat:=[8,3,5,6]
def runX (f:FuncId) (args:List Value) (h:AH) (r:Value×AH):Prop:=∃ n,Qe Tryz.prog Xh (exec Tryz.prog Xh n) f args h=some r
theorem runX.uniq {f:FuncId} {args:List Value} {h:AH} {r s:Value×AH} (a:runX f args h r) (b:runX f args h s):r=s:=by
 obtain ⟨n,a⟩:=a;obtain ⟨m,b⟩:=b;have a':=ZY (QC (Nat.le_max_left n m)) a;have b':=ZY (QC (Nat.le_max_right n m)) b;rw [a'] at b';exact Option.some.inj b'
open Classical in
noncomputable def Xo (p:Pb):Extern:=fun f args h =>
 if lawF.contains f=true then none
 else if hd:f=16∧∃ r,DRes p args h r then some (Classical.choose hd.2)
 else if hr:∃ r,runX f args h r then some (Classical.choose hr) else none
theorem GK {p:Pb} (f:FuncId) (hf:lawF.contains f=true) (args:List Value) (h:AH):Xo p f args h=none:=by
 unfold Xo;rw [if_pos hf]
theorem qgf {p:Pb} {args:List Value} {h:AH} {r:Value×AH} (d:DRes p args h r):Xo p 16 args h=some r:=by
 have hd:16=16∧∃ r,DRes p args h r:=⟨rfl,r,d⟩
 unfold Xo;rw [if_neg (by decide),dif_pos hd];exact congrArg some ((Classical.choose_spec hd.2).uniq d)
theorem qfe {p:Pb} {f:FuncId} {args:List Value} {h:AH} {r:Value×AH} (hf:lawF.contains f=false) (hn:f≠16∨¬ ∃ r,DRes p args h r) (d:runX f args h r):Xo p f args h=some r:=by
 have hd:¬ (f=16∧∃ r,DRes p args h r):=fun q=>hn.elim (fun z=>z q.1) fun z=>z q.2;have hr:∃ r,runX f args h r:=⟨r,d⟩
 unfold Xo;rw [if_neg (by rw [hf];exact Bool.false_ne_true),dif_neg hd,dif_pos hr];exact congrArg some ((Classical.choose_spec hr).uniq d)
theorem qjI (p:Pb):Yl Tryz.prog (Xo p):=by
 intro f args h v h' hx B e w args' r hargs;unfold Xo at hx;split at hx
 ·cases hx
 split at hx
 ·rename_i hd
  obtain ⟨pv,tabs,sq,q,ha,et,H,hP,rq,hQ,hr⟩:=Classical.choose_spec hd.2;obtain rfl:=hd.1;rw [Option.some.inj hx] at hr;subst ha;have:=qdb pv (p.wt tabs) H hP sq q rq hQ B e w args' r hargs;rw [show Ja (p.wt tabs) q=Ja p q from qhE et,← hr] at this;exact this
 split at hx
 ·rename_i hr
  obtain ⟨n,hc⟩:=Classical.choose_spec hr;rw [Option.some.inj hx] at hc;exact hCh n _ _ _ _ _ hc B e w args' r hargs
 ·cases hx
theorem Fn.xo {p:Pb} {f:FuncId} {args:List Value} {h:AH} {Q:Value→AH→Prop} (a:Fn Tryz.prog Xh f args h Q) (hf:lawF.contains f=false:=by decide) (hn:f≠16:=by decide):Fn Tryz.prog (Xo p) f args h Q:=by
 obtain ⟨n,v,h',hc,hq⟩:=a;exact JW (qfe hf (.inl hn) ⟨n,hc⟩) hq
theorem Fn.xoD {p:Pb} {args:List Value} {h:AH} {Q:Value→AH→Prop} (a:Fn Tryz.prog Xh 16 args h Q) (hn:¬ ∃ r,DRes p args h r):Fn Tryz.prog (Xo p) 16 args h Q:=by
 obtain ⟨n,v,h',hc,hq⟩:=a;exact JW (qfe (by decide) (.inr hn) ⟨n,hc⟩) hq
theorem qeJ {h:AH} (w:WfH h) (L:List Di):Hs h (WF L h).2 [.sl (WF L h).1 50 3 jb L]:=by
 match L with
 | [] =>
  refine ⟨⟨zA3 _,fun _ _=>rfl,w⟩,fun _=>False,.inl ⟨rfl,rfl⟩,fun b hb=>hb.elim,trivial⟩
 | x :: r =>
  generalize hL:x :: r=L
  have e:WF L h=(.slice (some ⟨h.next,0,none⟩) L.length L.length,(h.add (.cells (L.flatMap jb) 50 (some 3) false)).lo0):=by rw [← hL];rfl
  rw [e];have x1:Ext h (h.add (.cells (L.flatMap jb) 50 (some 3) false)).lo0:=⟨Nat.le_succ _,fun b hb=>by
   show (h.add _).get b=_
   rw [AH.zf,if_neg (by omega)],fun b hb=>(w.add _) b hb⟩
  refine (Hs.start w).grow x1 (fp:=fun b=>b=h.next) (.inr ⟨h.next,0,L.flatMap jb,some 3,L.length,rfl,by show (h.add _).get _=_;rw [AH.zf,if_pos rfl],rfl,?_,⟨zA3 _,by rw [XO];omega⟩,.inr rfl⟩) fun b hb=>by subst hb;exact ⟨zA3 _,zG0 _⟩
  have e2:(L.flatMap jb).length.beq (L.length*3)=true:=by rw [XO];exact Nat.beq_refl _
  unfold zq;rw [List.drop_zero,zF8 (by rw [XO];omega)];simp only;rw [e2]
theorem qc8 {h0:AH} (w:WfH h0) {p:Pb} (pv:PbV) {tabs:List Tab} (et:tabs.map (·.toC)=p.tabs.map (·.toC)) (H:PbOk h0 pv (p.wt tabs)) (hP:PO (p.wt tabs)) (sq:SlV) (q:List Int) (rq:zC h0 sq.val 1 eI q) (hQ:PartOk (p.wt tabs) q) :
 Fn Tryz.prog (Xo p) 16 [pv.val,sq.val] h0 (fun v h'=>Hs h0 h' [.sl v 50 3 jb (Ja p q)]) :=
 JW (qgf ⟨pv,tabs,sq,q,rfl,et,H,hP,rq,hQ,rfl⟩) (qeJ w _)
theorem P6 {h0:AH} (w:WfH h0) (pv:PbV) (p:Pb) (H:PbOk h0 pv p) (sq:SlV) (q:List Int) (rq:zC h0 sq.val 1 eI q) (hq:q.length≤9223372036854775807) (hn:¬ (PO p∧PartOk p q)) :
 Fn Tryz.prog Xh 16 [pv.val,sq.val] h0 (fun v h'=>v = .slice none 0 0∧Hs h0 h' []):=by
 have S:=Hs.start w;unfold PbV.val;refine qL (by first|rfl|exact KX.no _ _ _ (by decide) rfl) Tryz.func16 rfl rfl ?_;all_goals (repeat' (first|refine qg ?_|refine qh rfl ?_|refine qi ?_|refine qC ?_|refine qj ?_|refine qX ?_|refine qY ?_|(refine qc 0 ?_;(refine bx S ?_;clear S;intro b h S);refine mv ?_;refine qf ?_)|(refine qc 1 ?_;(first|refine lB S rfl rfl ?_|refine zk S rfl rfl ?_|refine jk S ?_|refine lH S ?_);refine mv ?_)))
 (refine qw rfl rfl rfl rfl rfl ((X5 S.wf pv p (H.ext w S.ext) sq.val q (rq.ext w S.ext) hq).mono ?_);rintro _ h ⟨⟨rfl,hv⟩|⟨rfl,hv⟩,x⟩)<;>(replace S:=S.qE x;clear x;refine vl ?_;refine qf ?_)
 ·exact absurd hv hn
 all_goals (repeat' (first|refine qg ?_|refine qh rfl ?_|refine qi ?_|refine qC ?_|refine qj ?_|refine qX ?_|refine qY ?_|(refine qc 0 ?_;(refine bx S ?_;clear S;intro b h S);refine mv ?_;refine qf ?_)|(refine qc 1 ?_;(first|refine lB S rfl rfl ?_|refine zk S rfl rfl ?_|refine jk S ?_|refine lH S ?_);refine mv ?_)|(refine qc 2 ?_;refine mv ?_;refine qf ?_)|(refine qc 3 ?_;skip)))
 refine qo ⟨_,rfl,?_⟩;exact ⟨rfl,S.drop⟩
theorem qbf {h0:AH} (w:WfH h0) {p:Pb} (pv:PbV) {tabs:List Tab} (et:tabs.map (·.toC)=p.tabs.map (·.toC)) (H:PbOk h0 pv (p.wt tabs)) (sq:SlV) (q:List Int) (rq:zC h0 sq.val 1 eI q) (hq:q.length≤9223372036854775807) (hn:¬ (PO (p.wt tabs)∧PartOk (p.wt tabs) q)) :
 Fn Tryz.prog (Xo p) 16 [pv.val,sq.val] h0 (fun v h'=>v = .slice none 0 0∧Hs h0 h' []) :=
 (P6 w pv (p.wt tabs) H sq q rq hq hn).xoD (by
  rintro ⟨r,pw,tabs',sr,q',hv,e2,-,hP,b1,hQ,-⟩;simp only [List.cons.injEq,and_true] at hv;rw [← hv.2] at b1;rw [kP b1 rq] at hQ;have e3:=e2.trans et.symm;exact hn ⟨(qjP e3).1 hP,(qd9 e3).1 hQ⟩)
theorem qa9 [Glob] {P:Program} {H:Type} {enc:TypeId×Value→H} (hm:P.follows .mixedOrders=true) (hN:∀ (f:FuncId) (fn:Func),P.funcs[f]? = some fn→fn.body.isSome=true→(fn.name == "runtime.NumGoroutine")=false)
 {f:FuncId} {fn:Func} {body:Code} (hfn:P.funcs[f]? = some fn) (hb:fn.body=some body) (hpl:fn.params.toList.all (Zc P 20)=true)
 (core:∀ h us,WfH h→ArgsR P h fn.params.toList us→∃ X,Yl P X∧(∀ us h,X f us h=none)∧Fn P X f us h (fun x _=>x = .bool true))
 {w:World} {rc:Reach} {b0:Nat} {args:Array Value} {ds:List (DataW H)} {ps:List MemPlace} (hg:Glob.ok w.heap.size w.heap) (hw:∃ (k:Nat) (cc:Array Value) (el:TypeId) (fr:Nat×Nat),w.heap[k]? = some (.cells cc el fr))
 (hval:∀ (j:Nat) t v,fn.params[j]? = some t→args[j]? = some v→Value.okWide P w rc b0 t v) (hA:DataW.TrodAll enc P w 0 (fun _=>true) true fn.params.toList args.toList ds ps) (hz:∀ n∈DataW.weightsEach P fn.params.toList ds,n≤reachBytes) :
 Calls P f args w fun e w'=>e = .returned (.bool true)∧Below w.heap.size w w':=by
 obtain ⟨e,h,us,r,-,-,v1,a1⟩:=kG (P:=P) hw fn.params.toList args.toList ds ps hpl (fun j t v q1 q2=>hval j t v (by simpa using q1) (by simpa using q2)) hA hz _ _ (WRel.empty hg);obtain ⟨X,hX,hXn,n,v,h',hc,rfl⟩:=core h us r.wfH a1;obtain ⟨e',v',w',r1,t1,hv,hcalls⟩:=qae (ZW hm hX hN n) hc (hXn us h) hfn hb r.rel v1;cases hv
 rw [Array.toArray_toList] at hcalls;refine hcalls.mono fun en w'' ⟨q1,q2⟩=>?_;subst q2;exact ⟨q1,t1.os,t1.tape,t1.output,t1.size,fun k hk=>r1.keep k hk⟩
end Go.Proofs.Xx
namespace Go.Proofs.Xx
open Go Go.RowKit Go.Proofs
def xk (p:Pb) (g:Nat):List UInt8:=(p.us.getD g default).diet
open Classical in
noncomputable def Q4 (p:Pb) (q:List Int) (t:Int) (d:List UInt8):Nat→Int
 | 0=>0
 | n+1=>if tOf p.tabs (q.getD n default)=t∧xk p n=d then Q4 p q t d n+1 else Q4 p q t d n
theorem qeR {p:Pb} {q:List Int} {t:Int} {d:List UInt8}:∀ n,0≤Q4 p q t d n∧Q4 p q t d n≤n
 | 0=>⟨Int.le_refl _,Int.le_refl _⟩
 | n+1=>by
  have ih:=qeR (p:=p) (q:=q) (t:=t) (d:=d) n;unfold Q4;split<;>omega
theorem qgA:∀ {l:List Di},l.Pairwise (fun x y=>¬ zX x y)→∀ {x y:Di},x∈l→y∈l→zX x y→x=y
 | [],_,x,y,h,_,_=>by cases h
 | z :: l,hp,x,y,hx,hy,e=>by
  rw [zH5] at hp;rcases zE7.1 hx with rfl|hx'<;>rcases zE7.1 hy with rfl|hy'
  ·rfl
  ·exact absurd e (hp.1 y hy')
  ·exact absurd (YF e) (hp.1 x hx')
  ·exact qgA hp.2 hx' hy' e
theorem qbq {l:List Di} {x:Di}:(∃ z,z∈l∧zX x z∧(⟨z.t,z.d,z.n+1⟩:Di)∈Zw l x∧(∀ y∈Zw l x,y∈l∨y=⟨z.t,z.d,z.n+1⟩)∧∀ y∈l,∃ y'∈Zw l x,y'.t=y.t∧y'.d=y.d) ∨
 ((∀ y∈l,¬ zX x y)∧Zw l x=l ++ [⟨x.t,x.d,1⟩]):=by
 unfold Zw;cases hk:YJ x l 0 with
 | none=>exact .inr ⟨Vg hk,rfl⟩
 | some k =>
  obtain ⟨-,h1,h2⟩:=Zl hk;rw [Nat.sub_zero] at h1 h2;refine .inl ⟨l.getD k default,qQ h1,h2,?_,fun y hy=>?_,fun y hy=>?_⟩
  ·exact List.mem_iff_getElem?.2 ⟨k,by simp [h1]⟩
  ·exact List.mem_or_eq_of_mem_set hy
  ·obtain ⟨i,hi⟩:=List.mem_iff_getElem?.1 hy;by_cases e:k=i
   ·subst e;have e1:l.getD k default=y:=by rw [zA2,hi];rfl
    refine ⟨⟨(l.getD k default).t,(l.getD k default).d,(l.getD k default).n+1⟩,List.mem_iff_getElem?.2 ⟨k,by simp [h1]⟩,?_⟩;rw [e1];exact ⟨rfl,rfl⟩
   ·exact ⟨y,List.mem_iff_getElem?.2 ⟨i,by rw [List.getElem?_set,if_neg e];exact hi⟩,rfl,rfl⟩
theorem P9 {p:Pb} {q:List Int} (ht:p.tabs.length≤1000):∀ n,(∀ x∈XT p q n,x.t<1000∧1≤x.n∧x.n=Q4 p q (x.t:Int) x.d n)∧∀ (t:Nat) d,1≤Q4 p q (t:Int) d n→∃ x∈XT p q n,x.t=t∧x.d=d
 | 0=>⟨fun x hx=>(by cases hx),fun t d h=>(by unfold Q4 at h;omega)⟩
 | n+1=>by
  obtain ⟨ih1,ih2⟩:=P9 (p:=p) (q:=q) ht n;have hb:=pz p.tabs (q.getD n default);by_cases h0:0≤tOf p.tabs (q.getD n default)
  rotate_left
  ·have hd:XT p q (n+1)=XT p q n:=by rw [XT,if_neg h0]
   have hc:∀ (t:Nat) d,Q4 p q (t:Int) d (n+1)=Q4 p q (t:Int) d n:=fun t d=>by rw [Q4,if_neg (fun z=>h0 (by rw [z.1];omega))]
   rw [hd];exact ⟨fun x hx=>by rw [hc];exact ih1 x hx,fun t d h=>by rw [hc] at h;exact ih2 t d h⟩
  have hd:XT p q (n+1)=Zw (XT p q n) (Jy p q n):=by rw [XT,if_pos h0]
  have hnk:=Gh (p:=p) (q:=q) (n+1);rw [hd] at hnk ⊢;obtain ⟨T,hT⟩:=zH3 h0;have hT':(Jy p q n).t=T:=by show (tOf p.tabs (q.getD n default)).toNat=T;omega
  have hT3:T<1000:=by omega
  have hD':(Jy p q n).d=xk p n:=rfl;have hc1:Q4 p q (T:Int) (xk p n) (n+1)=Q4 p q (T:Int) (xk p n) n+1:=by rw [Q4,if_pos ⟨hT,rfl⟩]
  have hc0:∀ (t:Nat) d,¬ (t=T∧d=xk p n)→Q4 p q (t:Int) d (n+1)=Q4 p q (t:Int) d n:=fun t d z=>by
   rw [Q4,if_neg (fun y=>z ⟨by have:=y.1;omega,y.2.symm⟩)]
  have hk:∀ {y:Di},y.t<1000→(zX (Jy p q n) y↔y.t=T∧y.d=xk p n):=fun {y} hy=>by
   unfold zX Di.tt;rw [hT',hD',Nat.mod_eq_of_lt (by omega),Nat.mod_eq_of_lt (by omega)];exact ⟨fun z=>⟨z.1.symm,z.2.symm⟩,fun z=>⟨z.1.symm,z.2.symm⟩⟩
  rcases qbq (l:=XT p q n) (x:=Jy p q n) with ⟨z,z1,z2,z3,z4,z5⟩|⟨z1,z2⟩
  ·have iz:=ih1 z z1;have kz:=(hk iz.1).1 z2;have en:Q4 p q ((z.t:Nat):Int) z.d (n+1)=z.n+1:=by rw [kz.1,kz.2,hc1,iz.2.2,kz.1,kz.2]
   refine ⟨fun x hx=>?_,fun t d h=>?_⟩
   ·rcases z4 x hx with r|r
    ·have ix:=ih1 x r;by_cases e:zX (Jy p q n) x
     ·have:=qgA hnk hx z3 ⟨e.1.symm.trans z2.1,e.2.symm.trans z2.2⟩;rw [this];exact ⟨iz.1,by show 1≤z.n+1;omega,en.symm⟩
     ·rw [hc0 x.t x.d fun y=>e ((hk ix.1).2 y)];exact ix
    ·rw [r];exact ⟨iz.1,by show 1≤z.n+1;omega,en.symm⟩
   ·by_cases e:t=T∧d=xk p n
    ·exact ⟨_,z3,by show z.t=t;rw [kz.1,e.1],by show z.d=d;rw [kz.2,e.2]⟩
    ·rw [hc0 t d e] at h;obtain ⟨x,hx,e1,e2⟩:=ih2 t d h;obtain ⟨x',hx',e3,e4⟩:=z5 x hx;exact ⟨x',hx',e3.trans e1,e4.trans e2⟩
  ·rw [z2];have h00:Q4 p q (T:Int) (xk p n) n=0:=by
    have:=(qeR (p:=p) (q:=q) (t:=(T:Int)) (d:=xk p n) n).1;rcases Int.lt_or_le (Q4 p q (T:Int) (xk p n) n) 1 with r|r
    ·omega
    ·obtain ⟨x,hx,e1,e2⟩:=ih2 T (xk p n) r;exact absurd ((hk (ih1 x hx).1).2 ⟨e1,e2⟩) (z1 x hx)
   refine ⟨fun x hx=>?_,fun t d h=>?_⟩
   ·rcases zB8.1 hx with r|r
    ·have ix:=ih1 x r;rw [hc0 x.t x.d fun y=>z1 x r ((hk ix.1).2 y)];exact ix
    ·rw [zB5.1 r];show (Jy p q n).t<1000∧1≤(1:Int)∧(1:Int)=Q4 p q ((Jy p q n).t:Int) (Jy p q n).d (n+1)
     rw [hT',hD',hc1,h00];exact ⟨hT3,Int.le_refl _,rfl⟩
   ·by_cases e:t=T∧d=xk p n
    ·exact ⟨⟨(Jy p q n).t,(Jy p q n).d,1⟩,by simp,by show (Jy p q n).t=t;rw [hT',e.1],by show (Jy p q n).d=d;rw [hD',e.2]⟩
    ·rw [hc0 t d e] at h;obtain ⟨x,hx,e1,e2⟩:=ih2 t d h;exact ⟨x,List.mem_append_left _ hx,e1,e2⟩
def Good (p:Pb) (q:List Int) (x:Di):Prop:=x.t<1000∧1≤x.n∧x.n=Q4 p q (x.t:Int) x.d q.length
theorem Gg {p:Pb} {q:List Int} (ht:p.tabs.length≤1000) {x:Di}:x∈Ja p q↔Good p q x:=by
 have s:=P9 (p:=p) (q:=q) ht q.length;unfold Ja;rw [srtD_perm.mem_iff];refine ⟨s.1 x,fun ⟨h1,h2,h3⟩=>?_⟩;obtain ⟨y,hy,e1,e2⟩:=s.2 x.t x.d (by omega);have e3:=(s.1 y hy).2.2;have:y=x:=by
  cases x;cases y
  simp only at e1 e2 e3 h3;subst e1;subst e2;rw [e3,← h3]
 rw [← this];exact hy
theorem qd5 {L:List Di} (h:L.Pairwise jl):L.Nodup:=h.imp fun {a b} z e=>by rw [e] at z;exact diL_ord.irr _ z
theorem qeH (p:Pb) (q:List Int):(Ja p q).Pairwise jl:=gY (Gh _)
theorem qhD {p:Pb} {q:List Int} (ht:p.tabs.length≤1000) {L:List Di} (h:L.Pairwise jl) (hm:∀ x,x∈L↔Good p q x):L=Ja p q :=
 VN P8 h (qeH p q) ((List.perm_ext_iff_of_nodup (qd5 h) (qd5 (qeH p q))).2 fun x=>(hm x).trans (Gg ht).symm)
theorem qb5 {p:Pb} {q:List Int}:(Ja p q).length≤q.length:=by
 unfold Ja;rw [srtD_perm.length_eq];exact Gi _
theorem qdM {p:Pb} {q:List Int} (ht:p.tabs.length≤1000) {L:List Di} (h:L.Pairwise jl) (hm:∀ x∈L,Good p q x):L.length≤q.length :=
 zD0 (@Yb Di (fun _ _=>Classical.propDecidable _) _ _ (qd5 h) fun x hx=>(Gg ht).2 (hm x hx)) qb5
def flD (p:Pb) (d:List UInt8) (st:List Int):List Int:=st.filter fun g=>decide (xk p g.toNat=d)
theorem xm {p:Pb} {q:List Int} {t:Nat} {d:List UInt8}:∀ n,Q4 p q (t:Int) d n=((flD p d (zT p.tabs q (t:Int) n)).length:Int)
 | 0=>rfl
 | n+1=>by
  have ih:=xm (p:=p) (q:=q) (t:=t) (d:=d) n;have hn:tOf p.tabs (q.getD n default)=(t:Int)→0≤q.getD n default:=fun e=>by
   rcases Int.lt_or_le (q.getD n default) 0 with r|r
   ·have:=gz (l:=p.tabs) r;omega
   ·exact r
  rw [Q4,zT];by_cases h1:tOf p.tabs (q.getD n default)=(t:Int)
  ·rw [if_pos (show 0≤q.getD n default∧_ from ⟨hn h1,h1⟩)];unfold flD at ih ⊢;rw [zD1,zB2];by_cases h2:xk p n=d
   ·rw [if_pos ⟨h1,h2⟩,ih];simp [h2]
   ·rw [if_neg (fun z=>h2 z.2),ih];simp [h2]
  ·rw [if_neg (fun z=>h1 z.1),if_neg (fun z=>h1 z.2),ih]
theorem Y2 {l:List Tab} {q:List Int} {t:Int}:∀ {n:Nat} {g:Int},g∈zT l q t n→0≤g∧g<n
 | 0,g,h=>by cases h
 | n+1,g,h=>by
  rw [zT] at h;split at h
  ·rcases zB8.1 h with r|r
   ·have:=Y2 r;omega
   ·rw [zB5] at r;omega
  ·have:=Y2 h;omega
end Go.Proofs.Xx
namespace Go.Proofs.Xx
open Go Go.RowKit Go.Proofs
def ElD (last:List UInt8) (sm:Bool) (d:List UInt8):Prop:=sm=false∨jE last d
abbrev JX (p:Pb) (st:List Int) (j:Nat):List UInt8:=xk p (st.getD j default).toNat
def BstE (p:Pb) (st:List Int) (last:List UInt8) (sm:Bool) (k:Nat) (b:Int):Prop :=
 (b = -1∧∀ j,j<k→¬ ElD last sm (JX p st j))∨∃ m:Nat,b=m∧m<k∧ElD last sm (JX p st m)∧∀ j,j<k→ElD last sm (JX p st j)→¬ jE (JX p st j) (JX p st m)
theorem BstE.skip {p:Pb} {st:List Int} {last:List UInt8} {sm:Bool} {k:Nat} {b:Int} (h:BstE p st last sm k b) (hk:¬ ElD last sm (JX p st k)):BstE p st last sm (k+1) b:=by
 rcases h with ⟨h1,h2⟩|⟨m,h1,h2,h3,h4⟩
 ·refine .inl ⟨h1,fun j hj=>?_⟩;by_cases e:j=k
  ·subst e;exact hk
  ·exact h2 j (by omega)
 ·refine .inr ⟨m,h1,by omega,h3,fun j hj hE=>?_⟩;by_cases e:j=k
  ·subst e;exact absurd hE hk
  ·exact h4 j (by omega) hE
theorem BstE.not {p:Pb} {st:List Int} {last:List UInt8} {sm:Bool} {k m:Nat} (h:BstE p st last sm k (m:Int)) (hk:¬ jE (JX p st k) (JX p st m)):BstE p st last sm (k+1) (m:Int):=by
 rcases h with ⟨h1,h2⟩|⟨m',h1,h2,h3,h4⟩
 ·omega
 ·obtain rfl:m=m':=by omega
  refine .inr ⟨m,h1,by omega,h3,fun j hj hE=>?_⟩;by_cases e:j=k
  ·subst e;exact hk
  ·exact h4 j (by omega) hE
theorem BstE.take {p:Pb} {st:List Int} {last:List UInt8} {sm:Bool} {k:Nat} {b:Int} (h:BstE p st last sm k b) (hk:ElD last sm (JX p st k)) (hb:b<0∨∃ m:Nat,b=m∧jE (JX p st k) (JX p st m)):BstE p st last sm (k+1) (k:Int):=by
 refine .inr ⟨k,rfl,zG0 _,hk,fun j hj hE c=>?_⟩;by_cases e:j=k
 ·subst e;exact zL _ c
 have hj:j<k:=by omega
 rcases h with ⟨h1,h2⟩|⟨m,h1,h2,h3,h4⟩
 ·exact h2 j hj hE
 ·rcases hb with hb|⟨m',hb,hb2⟩
  ·omega
  ·obtain rfl:m=m':=by omega
   exact h4 j hj hE (je c hb2)
open Classical in
noncomputable def elL (p:Pb) (st:List Int) (last:List UInt8) (sm:Bool):List Int:=st.filter fun g=>decide (ElD last sm (xk p g.toNat))
theorem filter_lt {α:Type} {P Q:α→Bool} (h:∀ x,P x=true→Q x=true):∀ {l:List α} {x:α},x∈l→P x=false→Q x=true→(l.filter P).length<(l.filter Q).length
 | [],x,hx,_,_=>by cases hx
 | y :: l,x,hx,h1,h2=>by
  have le:∀ m:List α,(m.filter P).length≤(m.filter Q).length:=fun m=>by
   induction m with
   | nil=>exact zA3 _
   | cons z m ih =>
    rw [zD7,zD7];by_cases q:P z=true
    ·rw [if_pos q,if_pos (h z q)];simp;exact ih
    ·rw [if_neg q];split
     ·simp;omega
     ·exact ih
  rw [zD7,zD7];rcases zE7.1 hx with rfl|hx
  ·rw [h1,h2];have:=le l;simp;omega
  ·have ih:=filter_lt h hx h1 h2;by_cases q:P y=true
   ·rw [if_pos q,if_pos (h y q)];simp;exact ih
   ·rw [if_neg q];split
    ·simp;omega
    ·exact ih
theorem qhC {p:Pb} {st:List Int} {last:List UInt8} {sm:Bool} {m:Nat} (hm:m<st.length) (h:ElD last sm (JX p st m)):(elL p st (JX p st m) true).length<(elL p st last sm).length:=by
 refine filter_lt (fun g hg=>?_) (qQ hm) ?_ ?_
 ·have hg:ElD (JX p st m) true (xk p g.toNat):=by simpa using hg
  have hg:jE (JX p st m) (xk p g.toNat):=hg.resolve_left (by simp);have:ElD last sm (xk p g.toNat):=h.elim .inl fun z=>.inr (je z hg);simpa using this
 ·have:¬ ElD (JX p st m) true (JX p st m):=fun z=>z.elim (by simp) (zL _);exact @decide_eq_false _ (Classical.propDecidable _) this
 ·exact @decide_eq_true _ (Classical.propDecidable _) h
def OutI (p:Pb) (q:List Int) (t:Nat) (last:List UInt8) (sm:Bool) (L:List Di):Prop :=
 L.Pairwise jl∧∀ x,x∈L↔Good p q x∧(x.t<t∨(x.t=t∧sm=true∧¬ jE last x.d))
theorem OutI.start {p:Pb} {q:List Int}:OutI p q 0 [] false []:=by
 refine ⟨.nil,fun x=>⟨fun h=>(by cases h),fun h=>?_⟩⟩;rcases h.2 with h|⟨_,h,_⟩
 ·omega
 ·cases h
theorem PT {p:Pb} {q:List Int} {x:Di} (h:Good p q x):∃ j,j<(zT p.tabs q (x.t:Int) q.length).length∧JX p (zT p.tabs q (x.t:Int) q.length) j=x.d:=by
 obtain ⟨-,h2,h3⟩:=h;rw [xm] at h3;have:(flD p x.d (zT p.tabs q (x.t:Int) q.length))≠[]:=fun e=>by rw [e] at h3;simp at h3;omega
 obtain ⟨g,hg⟩:=List.exists_mem_of_ne_nil _ this;unfold flD at hg;obtain ⟨g1,g2⟩:=zD9.1 hg;obtain ⟨j,hj,e⟩:=zx.1 g1;exact ⟨j,hj,by unfold JX;rw [e];simpa using g2⟩
theorem OutI.next {p:Pb} {q:List Int} {t:Nat} {last:List UInt8} {sm:Bool} {L:List Di} (h:OutI p q t last sm L) (hn:∀ j,j<(zT p.tabs q (t:Int) q.length).length→¬ ElD last sm (JX p (zT p.tabs q (t:Int) q.length) j)):OutI p q (t+1) [] false L:=by
 refine ⟨h.1,fun x=>(h.2 x).trans ⟨fun ⟨a,b⟩=>⟨a,.inl (by rcases b with b|b<;>omega)⟩,fun ⟨a,b⟩=>⟨a,?_⟩⟩⟩;rcases b with b|⟨-,b,-⟩
 ·by_cases e:x.t<t
  ·exact .inl e
  ·have e:x.t=t:=by omega
   obtain ⟨j,hj,e2⟩:=PT a;rw [e] at hj e2;have:=hn j hj;rw [e2] at this;refine .inr ⟨e,?_,fun z=>this (.inr z)⟩;cases sm with
   | true=>rfl
   | false=>exact absurd (.inl rfl) this
 ·cases b
theorem OutI.step {p:Pb} {q:List Int} {t:Nat} {last:List UInt8} {sm:Bool} {L:List Di} (h:OutI p q t last sm L) (ht:t<1000) {m:Nat} (hm:m<(zT p.tabs q (t:Int) q.length).length) (h1:ElD last sm (JX p (zT p.tabs q (t:Int) q.length) m))
 (h2:∀ j,j<(zT p.tabs q (t:Int) q.length).length→ElD last sm (JX p (zT p.tabs q (t:Int) q.length) j)→¬ jE (JX p (zT p.tabs q (t:Int) q.length) j) (JX p (zT p.tabs q (t:Int) q.length) m)) :
 OutI p q t (JX p (zT p.tabs q (t:Int) q.length) m) true (L ++ [⟨t,JX p (zT p.tabs q (t:Int) q.length) m,((flD p (JX p (zT p.tabs q (t:Int) q.length) m) (zT p.tabs q (t:Int) q.length)).length:Int)⟩]):=by
 obtain ⟨st,hst⟩:∃ st,zT p.tabs q (t:Int) q.length=st:=⟨_,rfl⟩
 have gs:∀ {x:Di},Good p q x→x.t=t→∃ j,j<st.length∧JX p st j=x.d:=fun {x} hx e=>by
  have:=PT hx;rw [e,hst] at this;exact this
 rw [hst] at hm h1 h2 ⊢;have hg:Good p q ⟨t,JX p st m,((flD p (JX p st m) st).length:Int)⟩:=by
  refine ⟨ht,?_,by show _=Q4 p q (t:Int) (JX p st m) q.length;rw [xm,hst]⟩;have:st.getD m default∈flD p (JX p st m) st:=zD9.2 ⟨qQ hm,decide_eq_true rfl⟩;have:=List.length_pos_of_mem this;show 1≤((flD p (JX p st m) st).length:Int)
  omega
 refine ⟨List.pairwise_append.2 ⟨h.1,List.pairwise_singleton _ _,fun a ha b hb=>?_⟩,fun x=>?_⟩
 ·rw [zB5.1 hb];obtain ⟨a1,a2⟩:=(h.2 a).1 ha;have ha3:=a1.1;unfold jl Di.tt;show a.t % 1024<t % 1024∨(a.t % 1024=t % 1024∧jE a.d (JX p st m))
  rw [Nat.mod_eq_of_lt (by omega),Nat.mod_eq_of_lt (by omega)];rcases a2 with a2|⟨a2,a3,a4⟩
  ·exact .inl a2
  ·refine .inr ⟨a2,?_⟩;have hl:jE last (JX p st m):=h1.resolve_left (by rw [a3];simp);rcases Zd last a.d with r|r|r
   ·exact absurd r a4
   ·rw [← r];exact hl
   ·exact je r hl
 ·rw [zB8,zB5,h.2 x];constructor
  ·rintro (⟨a1,a2⟩|rfl)
   ·refine ⟨a1,a2.imp_right fun ⟨a2,a3,a4⟩=>⟨a2,rfl,fun c=>?_⟩⟩;have hl:jE last (JX p st m):=h1.resolve_left (by rw [a3];simp);exact a4 (je hl c)
   ·exact ⟨hg,.inr ⟨rfl,rfl,zL _⟩⟩
  ·rintro ⟨a1,a2⟩;rcases a2 with a2|⟨a2,-,a4⟩
   ·exact .inl ⟨a1,.inl a2⟩
   ·obtain ⟨j,hj,e⟩:=gs a1 a2;by_cases hE:ElD last sm (JX p st j)
    ·right
     have h3:=h2 j hj hE;rw [e] at h3;rcases Zd x.d (JX p st m) with r|r|r
     ·exact absurd r h3
     ·have e3:=a1.2.2;rw [xm,a2,hst,r] at e3;cases x
      simp only at a2 r e3;subst a2;subst r;rw [e3]
     ·exact absurd r a4
    ·left
     rw [e] at hE;refine ⟨a1,.inr ⟨a2,?_,fun z=>hE (.inr z)⟩⟩;cases sm with
     | true=>rfl
     | false=>exact absurd (.inl rfl) hE
theorem OutI.done {p:Pb} {q:List Int} {L:List Di} (ht:p.tabs.length≤1000) (h:OutI p q p.tabs.length [] false L):L=Ja p q:=by
 refine qhD ht h.1 fun x=>(h.2 x).trans ⟨fun a=>a.1,fun a=>⟨a,.inl ?_⟩⟩;have:∀ n,1≤Q4 p q (x.t:Int) x.d n→x.t<p.tabs.length:=fun n=>by
  induction n with
  | zero=>intro z;rw [Q4] at z;omega
  | succ n ih =>
   intro z;rw [Q4] at z;split at z
   ·rename_i y
    have:=(pz p.tabs (q.getD n default)).2;rw [y.1] at this;omega
   ·exact ih z
 exact this q.length (by rw [← a.2.2];exact a.2.1)
theorem OutI.len {p:Pb} {q:List Int} {t:Nat} {last:List UInt8} {sm:Bool} {L:List Di} (ht:p.tabs.length≤1000) (h:OutI p q t last sm L):L.length≤q.length:=qdM ht h.1 fun x hx=>((h.2 x).1 hx).1
end Go.Proofs.Xx
namespace Go.Proofs.Xx
open Go Go.RowKit Go.Proofs
def eDr (x:Di):List Value:=[.int .i64 (x.t:Int),str x.d,.int .i64 x.n]
theorem qeG:∀ {L:List Di},(∀ x∈L,x.t<1000)→L.flatMap eDr=L.flatMap jb
 | [],_=>rfl
 | x :: L,h=>by
  have hx:=h x (by simp);rw [zG2,zG2,qeG fun y hy=>h y (List.mem_cons_of_mem _ hy)];congr 1
  unfold eDr jb Di.tt;rw [Nat.mod_eq_of_lt (by omega)]
theorem qje {p:Pb} {d:List UInt8} {st:List Int} {k:Nat} (hk:k<st.length):((flD p d (st.take (k+1))).length:Int)=if xk p (st.getD k default).toNat=d then ((flD p d (st.take k)).length:Int)+1 else ((flD p d (st.take k)).length:Int):=by
 unfold flD;rw [ZK hk,zD1,zB2];by_cases e:xk p (st.getD k default).toNat=d
 ·rw [if_pos e,zD7,if_pos (decide_eq_true e)];simp
 ·rw [if_neg e,zD7,if_neg (by simpa using e)];simp
variable [Flag]
theorem qaT {h0:AH} (w:WfH h0) (pv:PbV) (p:Pb) (H:PbOk h0 pv p) (hP:PO p) (vq:Value) (q:List Int) (rq:zC h0 vq 1 eI q) (hQ:PartOk p q) :
 Fn Tryz.prog Xh 40 [pv.val,vq] h0 (fun u h'=>Hs h0 h' [.sl u 76 3 jb (Ja p q)]):=by
 have S:=Hs.start w;have hql:=hQ.len;have h64:p.us.length≤64:=hP.rl.l64;have hr:=H.tab.rd;have hl:=H.tab.len;have ht16:=hP.tabs.1;have hgl:pv.gs.length=p.us.length:=H.rol.len;have rg:zC h0 pv.vg.val 9 eG pv.gs:=H.rol.rg;have hgd:∀ j,j<p.us.length→(pv.gs.getD j default).diet=xk p j:=fun j hj=>by unfold xk;rw [← (hP.gst H hj).1]
 have hqb:∀ x∈q,-1≤x∧x≤1000000:=fun x hx=>by
  have:=hQ.rng x hx;have:=zQ p.tabs p.tabs.length;omega
 unfold PbV.val;refine qL (by first|rfl) Tryz.func40 rfl rfl ?_;all_goals (repeat' (first|refine qg ?_|(refine qc 0 ?_;(refine bx S ?_;clear S;intro b h S);refine mv ?_;refine qf ?_)))
 obtain ⟨b2,hnm⟩:∃ x,x=b:=⟨_,rfl⟩;subst hnm;all_goals (repeat' (first|refine qg ?_|refine qj ?_|(refine qc 1 ?_;refine mv ?_;refine qf ?_)|(refine qc 2 ?_;refine mv ?_;refine qf ?_)))
 replace S:Hs h0 _ [.sl (.slice none 0 0) 76 3 eDr [],.blk b2 pv.cs 28]:=S.Xg;refine qH (σ:=Nat×Value×List Di) (fun (i,v5,L) h'=>Hs h0 h' [.sl v5 76 3 eDr L,.blk b2 pv.cs 28]∧i≤p.tabs.length∧OutI p q i [] false L) (fun (i,v5,L)=>p.tabs.length - i) (fun (i,v5,L)=>[(1,vq),(2,.pointer (some ⟨b2,0,none⟩)),(5,v5),(6,.int .i64 i)]) (0,.slice none 0 0,([]:List Di)) qx ?_ ?_
 ·exact ⟨S,zB0 _,OutI.start⟩
 clear S;rintro ⟨i,v5,L⟩ h ⟨S,g1,g2⟩;all_goals (repeat' (first|refine qg ?_|refine qh rfl ?_|refine qi ?_|refine qC ?_|refine qj ?_|(refine qc 3 ?_;refine mv ?_;refine vl ?_;refine lB S rfl rfl ?_;refine jf S ?_;(first|(refine cS ?_ ?_<;>intro hc))<;>(refine qf ?_))))
 ·have hi:i<p.tabs.length:=by omega
  have hsl:=JF (l:=p.tabs) (q:=q) (t:=i) q.length;have hsm:∀ x∈zT p.tabs q (i:Int) q.length,0≤x∧x<q.length:=fun x hx=>Y2 hx;all_goals (repeat' (first|(refine qc 5 ?_;refine lB S rfl rfl ?_;refine mv ?_;refine mv ?_)))
  (refine qw rfl rfl rfl rfl rfl ((Y7 S.wf pv p (H.ext w S.ext) hP.tabs vq q (rq.ext w S.ext) (by omega) hqb (i:Int)).mono ?_);rintro u h x)<;>(replace S:=S.jm x;clear x;refine mv ?_;refine qf ?_)
  have gstep:=fun {last:List UInt8} {sm:Bool} {L:List Di} (h:OutI p q i last sm L) {m:Nat}=>OutI.step h (by omega) (m:=m);have gnext:=fun {last:List UInt8} {sm:Bool} {L:List Di} (h:OutI p q i last sm L)=>OutI.next h
  obtain ⟨st,hst⟩:∃ st,zT p.tabs q (i:Int) q.length=st:=⟨_,rfl⟩
  rw [hst] at S hsl hsm gstep gnext;all_goals (repeat' (first|refine qg ?_|refine qj ?_|(refine qc 6 ?_;refine mv ?_;refine mv ?_;refine qf ?_)))
  refine qH (σ:=Value×List Di×List UInt8×Bool) (fun (v5,L,last,sm) h'=>Hs h0 h' [.sl u 3 1 eI st,.sl v5 76 3 eDr L,.blk b2 pv.cs 28]∧last.length≤1000∧OutI p q i last sm L) (fun (v5,L,last,sm)=>(elL p st last sm).length) (fun (v5,L,last,sm)=>[(1,vq),(2,.pointer (some ⟨b2,0,none⟩)),(5,v5),(6,.int .i64 i),(7,u),(8,str last),(9,.bool sm)]) (v5,L,([]:List UInt8),false) qx ?_ ?_
  ·exact ⟨S,zB0 _,g2⟩
  clear S g2;rintro ⟨v5,L,last,sm⟩ h ⟨S,g0,g2⟩;have gL:=OutI.len (by omega) g2;all_goals (repeat' (first|refine qg ?_|refine qj ?_|(refine qc 7 ?_;refine mv ?_;refine qf ?_)|(refine qc 8 ?_;refine mv ?_;refine qf ?_)))
  refine qH (σ:=Nat×Int) (fun (k,b) h'=>Hs h0 h' [.sl u 3 1 eI st,.sl v5 76 3 eDr L,.blk b2 pv.cs 28]∧k≤st.length∧BstE p st last sm k b) (fun (k,b)=>st.length - k) (fun (k,b)=>[(1,vq),(2,.pointer (some ⟨b2,0,none⟩)),(5,v5),(6,.int .i64 i),(7,u),(8,str last),(9,.bool sm),(10,.int .i64 b),(11,.int .i64 k)]) (0,-1) qx ?_ ?_
  ·exact ⟨S,zB0 _,.inl ⟨rfl,fun j hj=>absurd hj (zB7 _)⟩⟩
  clear S;rintro ⟨k,b⟩ h ⟨S,f1,f2⟩;all_goals (repeat' (first|refine qg ?_|refine qh rfl ?_|refine qi ?_|refine qC ?_|refine qj ?_|(refine qc 9 ?_;refine mv ?_;refine mv ?_;refine xe S rfl rfl ?_;(first|(refine cS ?_ ?_<;>intro hc))<;>(refine qf ?_))))
  ·have hk:k<st.length:=by omega
   have hx:=hsm _ (qQ hk);have hgk:=hgd (st.getD k default).toNat (by omega);all_goals (repeat' (first|refine qg ?_|(refine qM 11 ?_;refine vl ?_;refine lB S rfl rfl ?_;refine mv ?_;refine mv ?_;refine qO S rfl rfl ?_;refine zk S rfl rfl ?_;refine jF S ?_;refine fB S ?_;refine jk S ?_;refine mv ?_;refine qf ?_)))
   have hkk:st.getD (k:Int).toNat default=st.getD k default:=rfl;have f3:=f2;rcases f3 with ⟨rfl,e2⟩|⟨m,rfl,e2,e3,e4⟩
   ·cases sm
    ·all_goals (repeat' (first|refine qh rfl ?_|(refine qc 10 ?_;refine mv ?_;refine ad ?_;refine mv ?_;refine qf ?_)|(refine qM 12 ?_;refine mv ?_;refine vl ?_;refine mv ?_;refine off ?_;refine off ?_;(refine off ?_)<;>(refine vl ?_;refine mv ?_;refine mv ?_;(first|(refine cT ?_))<;>((refine mv ?_);refine off ?_;refine off ?_;refine off ?_;refine off ?_;refine off ?_;refine off ?_;refine off ?_;refine off ?_;refine off ?_;refine off ?_;(refine off ?_)<;>((refine vl ?_);refine vl ?_;refine qf ?_))))|(refine qc 13 ?_;refine mv ?_;refine mv ?_;refine qf ?_)))
     refine ⟨(k+1,(k:Int)),?_,?_,qx⟩
     ·show st.length - (k+1)<st.length - k;omega
     ·exact ⟨S,by (try dsimp only);omega,f2.take (.inl rfl) (.inl (by decide))⟩
    ·all_goals (repeat' (first|refine qh rfl ?_|refine qi ?_|(refine qc 10 ?_;refine mv ?_;refine ad ?_;refine mv ?_;refine qf ?_)|(refine qM 12 ?_;refine mv ?_;refine vl ?_;(iterate 3 refine mv ?_);(first|(refine tO ?_ ?_<;>intro hc))<;>(refine vl ?_;refine mv ?_;(first|refine off ?_|refine mv ?_);(first|refine off ?_|(refine cT ?_))<;>((first|refine off ?_|refine mv ?_);refine off ?_;refine off ?_;refine off ?_;refine off ?_;refine off ?_;refine off ?_;refine off ?_;refine off ?_;refine off ?_;refine off ?_;(refine off ?_)<;>((first|refine off ?_|refine vl ?_);refine vl ?_;refine qf ?_))))|(refine qc 13 ?_;refine mv ?_;refine mv ?_;refine qf ?_)))
     ·rw [hkk,hgk] at hc;refine ⟨(k+1,(k:Int)),?_,?_,qx⟩
      ·show st.length - (k+1)<st.length - k;omega
      ·exact ⟨S,by (try dsimp only);omega,f2.take (.inr hc) (.inl (by decide))⟩
     ·rw [hkk,hgk] at hc;refine ⟨(k+1,(-1:Int)),?_,?_,qx⟩
      ·show st.length - (k+1)<st.length - k;omega
      ·exact ⟨S,by (try dsimp only);omega,f2.skip (fun z=>z.elim (by simp) hc)⟩
   ·have hxm:=hsm _ (qQ (show m<st.length by omega));have hgm:=hgd (st.getD m default).toNat (by omega);have hmm:st.getD (m:Int).toNat default=st.getD m default:=rfl;cases sm
    ·all_goals (repeat' (first|refine qh rfl ?_|refine qi ?_|(refine qc 10 ?_;refine mv ?_;refine ad ?_;refine mv ?_;refine qf ?_)|(refine qM 12 ?_;refine mv ?_;refine vl ?_;refine mv ?_;refine off ?_;refine off ?_;(refine off ?_)<;>(refine vl ?_;refine mv ?_;refine mv ?_;(first|(refine cF ?_))<;>((refine mv ?_);refine mv ?_;(first|(refine vl ?_));(first|(refine lB S rfl rfl ?_));refine mv ?_;refine mv ?_;(first|(refine qO S rfl rfl ?_));(first|(refine zk S rfl rfl ?_));(first|(refine jF S ?_));(first|(refine fB S ?_));(first|(refine jk S ?_));(first|(refine tO ?_ ?_<;>intro hc))<;>((refine vl ?_);refine vl ?_;refine qf ?_))))|(refine qc 13 ?_;refine mv ?_;refine mv ?_;refine qf ?_)))
     ·rw [hkk,hgk,hmm,hgm] at hc;refine ⟨(k+1,(k:Int)),?_,?_,qx⟩
      ·show st.length - (k+1)<st.length - k;omega
      ·exact ⟨S,by (try dsimp only);omega,f2.take (.inl rfl) (.inr ⟨m,rfl,hc⟩)⟩
     ·rw [hkk,hgk,hmm,hgm] at hc;refine ⟨(k+1,(m:Int)),?_,?_,qx⟩
      ·show st.length - (k+1)<st.length - k;omega
      ·exact ⟨S,by (try dsimp only);omega,f2.not hc⟩
    ·all_goals (repeat' (first|refine qh rfl ?_|refine qi ?_|(refine qc 10 ?_;refine mv ?_;refine ad ?_;refine mv ?_;refine qf ?_)|(refine qM 12 ?_;refine mv ?_;refine vl ?_;(iterate 3 refine mv ?_);(first|(refine tO ?_ ?_<;>intro hc))<;>(refine vl ?_;refine mv ?_;(first|refine off ?_|refine mv ?_);(first|refine off ?_|(refine cF ?_))<;>((first|refine off ?_|refine mv ?_);(first|refine off ?_|refine mv ?_);(first|refine off ?_|(refine vl ?_));(first|refine off ?_|(refine lB S rfl rfl ?_));(first|refine off ?_|refine mv ?_);(first|refine off ?_|refine mv ?_);(first|refine off ?_|(refine qO S rfl rfl ?_));(first|refine off ?_|(refine zk S rfl rfl ?_));(first|refine off ?_|(refine jF S ?_));(first|refine off ?_|(refine fB S ?_));(first|refine off ?_|(refine jk S ?_));(first|refine off ?_|(refine tO ?_ ?_<;>intro hc))<;>((first|refine off ?_|refine vl ?_);refine vl ?_;refine qf ?_))))|(refine qc 13 ?_;refine mv ?_;refine mv ?_;refine qf ?_)))
     ·rename_i hd
      rw [hkk,hgk] at hd;rw [hkk,hgk,hmm,hgm] at hc;refine ⟨(k+1,(k:Int)),?_,?_,qx⟩
      ·show st.length - (k+1)<st.length - k;omega
      ·exact ⟨S,by (try dsimp only);omega,f2.take (.inr hd) (.inr ⟨m,rfl,hc⟩)⟩
     ·rw [hkk,hgk,hmm,hgm] at hc;refine ⟨(k+1,(m:Int)),?_,?_,qx⟩
      ·show st.length - (k+1)<st.length - k;omega
      ·exact ⟨S,by (try dsimp only);omega,f2.not hc⟩
     ·rw [hkk,hgk] at hc;refine ⟨(k+1,(m:Int)),?_,?_,qx⟩
      ·show st.length - (k+1)<st.length - k;omega
      ·exact ⟨S,by (try dsimp only);omega,f2.skip (fun z=>z.elim (by simp) hc)⟩
  ·obtain rfl:k=st.length:=by omega
   rcases f2 with ⟨rfl,e2⟩|⟨m,rfl,e2,e3,e4⟩
   ·all_goals (repeat' (first|refine qh rfl ?_|refine qC ?_|(refine qc 4 ?_;refine mv ?_;refine ad ?_;refine mv ?_;refine qf ?_)|(refine qc 14 ?_;refine mv ?_;(refine cT ?_)<;>(refine qf ?_))))
    refine ⟨(i+1,v5,L),?_,?_,qx⟩
    ·show p.tabs.length - (i+1)<p.tabs.length - i;omega
    ·exact ⟨S.pick,by (try dsimp only);omega,gnext g2 e2⟩
   ·have hxm:=hsm _ (qQ e2);have hgm:=hgd (st.getD m default).toNat (by omega);have hmm:st.getD (m:Int).toNat default=st.getD m default:=rfl;have hn:=gstep g2 e2 e3 e4;have hlt:=qhC e2 e3;have hdl:(JX p st m).length≤1000:=by
     have:=(hP.gst H (show (st.getD m default).toNat<p.us.length by omega)).2.2.2;show (p.us.getD (st.getD m default).toNat default).diet.length≤1000
     omega
    all_goals (repeat' (first|refine qg ?_|refine qh rfl ?_|refine qi ?_|refine qj ?_|(refine qc 14 ?_;refine mv ?_;(refine cF ?_)<;>(refine qf ?_))|(refine qM 15 ?_;refine vl ?_;refine lB S rfl rfl ?_;refine mv ?_;refine mv ?_;refine qO S rfl rfl ?_;refine zk S rfl rfl ?_;refine jF S ?_;refine fB S ?_;refine jk S ?_;refine mv ?_;refine mv ?_;refine qf ?_)|(refine qc 16 ?_;refine mv ?_;refine qf ?_)|(refine qc 17 ?_;refine mv ?_;refine qf ?_)))
    rw [hmm,hgm];obtain ⟨d,hd⟩:∃ d,JX p st m=d:=⟨_,rfl⟩
    rw [hd] at hn hlt hdl;rw [show xk p (st.getD m default).toNat=d from hd];refine qH (σ:=Nat) (fun k h'=>Hs h0 h' [.sl u 3 1 eI st,.sl v5 76 3 eDr L,.blk b2 pv.cs 28]∧k≤st.length) (fun k=>st.length - k) (fun k=>[(1,vq),(2,.pointer (some ⟨b2,0,none⟩)),(5,v5),(6,.int .i64 i),(7,u),(8,str d),(9,.bool true),(13,.int .i64 ((flD p d (st.take k)).length:Int)),(14,.int .i64 k)]) 0 qx ?_ ?_
    ·exact ⟨S,zB0 _⟩
    clear S;rintro k h ⟨S,j1⟩;have hfl:(flD p d (st.take k)).length≤st.length:=zD0 (zE9 _ _) (List.length_take_le' _ _);all_goals (repeat' (first|refine qg ?_|refine qh rfl ?_|refine qi ?_|refine qC ?_|refine qj ?_|(refine qc 18 ?_;refine mv ?_;refine mv ?_;refine xe S rfl rfl ?_;(first|(refine cS ?_ ?_<;>intro hc))<;>(refine qf ?_))))
    ·have hk:k<st.length:=by omega
     have hx:=hsm _ (qQ hk);have hgk:=hgd (st.getD k default).toNat (by omega);have hkk:st.getD (k:Int).toNat default=st.getD k default:=rfl;have ha:=qje (p:=p) (d:=d) hk;all_goals (repeat' (first|refine qh rfl ?_|refine qi ?_|(refine qc 19 ?_;refine mv ?_;refine ad ?_;refine mv ?_;refine qf ?_)|(refine qM 20 ?_;refine vl ?_;refine lB S rfl rfl ?_;refine mv ?_;refine mv ?_;refine qO S rfl rfl ?_;refine zk S rfl rfl ?_;refine jF S ?_;refine fB S ?_;refine jk S ?_;refine mv ?_;(refine tS ?_ ?_<;>intro hc)<;>(refine qf ?_))|(refine qc 21 ?_;refine mv ?_;refine ad ?_;refine mv ?_;refine qf ?_)))
     ·rw [hkk,hgk] at hc;rw [if_pos hc] at ha;rw [← ha];refine ⟨k+1,?_,?_,qx⟩
      ·show st.length - (k+1)<st.length - k;omega
      ·exact ⟨S,by (try dsimp only);omega⟩
     ·rw [hkk,hgk] at hc;rw [if_neg hc] at ha;rw [← ha];refine ⟨k+1,?_,?_,qx⟩
      ·show st.length - (k+1)<st.length - k;omega
      ·exact ⟨S,by (try dsimp only);omega⟩
    ·obtain rfl:k=st.length:=by omega
     rw [zD4];all_goals (repeat' (first|(refine qc 22 ?_;(iterate 4 refine mv ?_);refine vl ?_;(refine one 3 S ?_;clear S;intro u h S))))
     refine app (y0:=(⟨i,d,((flD p d st).length:Int)⟩:Di)) S rfl rfl ?_;clear S;intro v h S;refine mv ?_;refine qf ?_;refine ⟨(v,L ++ [⟨i,d,((flD p d st).length:Int)⟩],d,true),?_,?_,qx⟩
     ·exact hlt
     ·exact ⟨S.pick,hdl,hn⟩
 ·obtain rfl:i=p.tabs.length:=by omega
  obtain rfl:=g2.done (by omega);all_goals (repeat' (first|(refine qc 23 ?_;refine mv ?_;refine mv ?_;refine qf ?_)))
  refine qo ⟨_,rfl,?_⟩;replace S:=S.only .here;have e:(Ja p q).flatMap eDr=(Ja p q).flatMap jb:=qeG fun x hx=>((Gg (by omega)).1 hx).1;refine S.conv fun fp k=>?_;rcases k with k|⟨b,o,cc,slk,cap,k1,k2,k3,k4,k5⟩
  ·exact .inl k
  ·exact .inr ⟨b,o,cc,slk,cap,k1,k2,k3,by rw [e] at k4;exact k4,k5⟩
end Go.Proofs.Xx
namespace Go.Proofs.Xx
open Go Go.Proofs
def qfj (h0:AH) (g:Nat) (cap:List Value) (key:Int→Int) (p:Int→Prop):Prop :=
 ∀ h x y,Ext h0 h→p x→p y→Fn Tryz.prog Xh g (.int .i64 x :: .int .i64 y :: cap) h (fun v h'=>∃ d,v = .int .i64 d∧(d<0↔key x<key y)∧Hs h h' [])
def Inc (a b:Nat) (l:List Int):Prop:=∀ i j,a≤i→i<j→j<b→l.getD i default<l.getD j default
abbrev cvV (g:Nat) (cap:List Value):Value:=.func (.func g) #[] cap.toArray
theorem qfO {h0 h:AH} {rs:List Rs} {v:Value} {l:List Int} {g:Nat} {cap:List Value} {key:Int→Int} {p:Int→Prop} (a b:Nat) (S:Hs h0 h (.sl v 3 1 eI l :: rs)) (C:qfj h0 g cap key p) (hp:∀ k,a≤k→k<b→p (l.getD k default)) (hab:a≤b) (hb:b≤l.length) (hl:l.length≤1000000) (hi:Inc a b l) :
 Fn Tryz.prog Xh 187 [v,.int .i64 a,.int .i64 b,cvV g cap] h (fun _ h'=>∃ l',Sw a b l l'∧Srt (jS key) a b l'∧Hs h0 h' (.sl v 3 1 eI l' :: rs)):=by
 have W:=Vd key;refine qL (by first|rfl) Tryz.func187 rfl rfl ?_;all_goals (repeat' (first|refine qg ?_|refine qj ?_|(refine qc 0 ?_;refine mv ?_;refine ad ?_;refine mv ?_;refine qf ?_)))
 refine qH (σ:=Nat×List Int) (fun (i,m) h'=>Hs h0 h' (.sl v 3 1 eI m :: rs)∧a<i∧Sw a (min i b) l m∧Srt (jS key) a (min i b) m) (fun (i,m)=>b - i) (fun (i,m)=>[(0,v),(1,.int .i64 a),(2,.int .i64 b),(3,cvV g cap),(8,.int .i64 i)]) (a+1,l) qx ?_ ?_
 ·exact ⟨S,by omega,.refl _,fun i j q1 q2 q3=>by omega⟩
 clear S;rintro ⟨i,m⟩ h ⟨S,h1,h2,h3⟩;have hml:=h2.len;all_goals (repeat' (first|refine qg ?_|refine qh rfl ?_|refine qi ?_|refine qC ?_|refine qj ?_|(refine qc 1 ?_;refine mv ?_;refine mv ?_;(first|(refine cS ?_ ?_<;>intro hc))<;>(refine qf ?_))|(refine qc 3 ?_;refine mv ?_;refine mv ?_;refine qf ?_)))
 ·have hib:i<b:=by omega
  rw [zE4 (by omega)] at h2 h3;refine qH (σ:=Nat×List Int) (fun (j,n) h'=>Hs h0 h' (.sl v 3 1 eI n :: rs)∧a≤j∧j≤i∧Sw a (i+1) l n∧InsI (jS key) a i j n∧n.getD j default=l.getD i default∧∀ k,a≤k→k≤i→k≠j→n.getD k default<l.getD i default) (fun (j,n)=>j) (fun (j,n)=>[(0,v),(1,.int .i64 a),(2,.int .i64 b),(3,cvV g cap),(8,.int .i64 i),(9,.int .i64 j)]) (i,m) qx ?_ ?_
  ·refine ⟨S,by omega,zA3 _,h2.mono (zA3 _) (by omega) (by omega),InsI.start h3,h2.out (.inr (zA3 _)),fun k q1 q2 q3=>?_⟩;obtain ⟨r,r1,r2,r3⟩:=h2.in_ q1 (by omega);rw [r3];exact hi r i r1 r2 hib
  clear S h2 h3 hml;rintro ⟨j,n⟩ h ⟨S,k1,k2,k3,k4,k5,k6⟩;have hnl:=k3.len;have hpn:=fun k (q1:a≤k) (q2:k<b)=>(k3.mono (zA3 _) (by omega) hb).all hp k q1 q2;all_goals (repeat' (first|refine qg ?_|refine qh rfl ?_|refine qC ?_|(refine qc 2 ?_;refine mv ?_;refine ad ?_;refine mv ?_;refine qf ?_)|(refine qM 4 ?_;refine mv ?_;refine mv ?_;(first|(refine cS ?_ ?_<;>intro hc))<;>(refine mv ?_;(first|refine off ?_|refine mv ?_);(first|refine off ?_|refine mv ?_);(first|refine off ?_|refine mv ?_);(first|refine off ?_|(refine qO S rfl rfl ?_));(first|refine off ?_|(refine zk S rfl rfl ?_));(first|refine off ?_|refine mv ?_);(first|refine off ?_|refine mv ?_);(first|refine off ?_|(refine sb ?_));(first|refine off ?_|(refine qO S rfl rfl ?_));(first|refine off ?_|(refine zk S rfl rfl ?_));(first|(refine off ?_;(refine off ?_)<;>(refine vl ?_;refine qf ?_))|skip)))))
  ·simp only [qN,zA0];(refine zK rfl rfl rfl rfl ((C _ _ _ S.ext (hpn j (by omega) (by omega)) (hpn (j - 1) (by omega) (by omega))).mono ?_);rintro _ h ⟨d,rfl,hd,x⟩)<;>(replace S:=S.qE x;clear x;have hd:=hd.trans (qep (show n.getD (j - 1) default<n.getD j default by rw [k5];exact k6 _ (by omega) (by omega) (by omega))).symm;(first|(first|(refine cS ?_ ?_<;>intro hc)))<;>(refine vl ?_;refine qf ?_))
   all_goals (repeat' (first|refine qg ?_|refine qh rfl ?_|refine qi ?_|refine qC ?_|refine qj ?_|(refine qc 2 ?_;refine mv ?_;refine ad ?_;refine mv ?_;refine qf ?_)|(refine qc 5 ?_;refine mv ?_;refine sb ?_;refine mv ?_;refine qf ?_)|(refine qM 6 ?_;(iterate 4 refine mv ?_);refine sb ?_;refine mv ?_;refine mv ?_;refine sb ?_;refine qO S rfl rfl ?_;refine zk S rfl rfl ?_;refine mv ?_;refine mv ?_;refine qO S rfl rfl ?_;refine zk S rfl rfl ?_;refine qO S rfl rfl ?_;(first|(refine JY S rfl rfl ?_;clear S;intro h S));refine qO S rfl rfl ?_;(first|(refine JY S rfl rfl ?_;clear S;intro h S));refine qf ?_)))
   ·simp only [qN,zA0] at S;have hjs:=k4.next W (by omega) k2 (by omega) (hd.1 (by assumption))
    refine ⟨(j - 1,swp n j (j - 1)),?_,?_,qx⟩
    ·show j - 1<j;omega
    ·refine ⟨S,by omega,by omega,k3.step j (j - 1) ⟨by omega,by omega⟩ ⟨by omega,by omega⟩ (by omega),hjs,?_,fun k q1 q2 q3=>?_⟩
     ·rw [swp_get (by omega) (by omega),if_pos rfl];exact k5
     ·rw [swp_get (by omega) (by omega),if_neg q3];split
      ·exact k6 _ (by omega) (by omega) (by omega)
      ·exact k6 _ q1 q2 (by assumption)
   ·refine ⟨(i+1,n),?_,?_,qx⟩
    ·show b - (i+1)<b - i;omega
    ·simp only [zE4 (show i+1≤b by omega)];exact ⟨S,by omega,k3,k4.done W (.inr fun q=>absurd (hd.2 q) (by assumption))⟩
  ·refine ⟨(i+1,n),?_,?_,qx⟩
   ·show b - (i+1)<b - i;omega
   ·simp only [zE4 (show i+1≤b by omega)];exact ⟨S,by omega,k3,k4.done W (.inl (by omega))⟩
 ·rw [Nat.min_eq_right (by omega)] at h2 h3;refine ⟨_,rfl,?_⟩;exact ⟨m,h2,h3,S⟩
theorem vM {h0 h:AH} {rs:List Rs} {v:Value} {l:List Int} {g:Nat} {cap:List Value} {key:Int→Int} {p:Int→Prop} (S:Hs h0 h (.sl v 3 1 eI l :: rs)) (C:qfj h0 g cap key p) (hp:∀ k,0≤k→k<l.length→p (l.getD k default)) (hl:l.length<20) (hi:Inc 0 l.length l) :
 Fn Tryz.prog Xh 74 [v,cvV g cap] h (fun _ h'=>∃ l',Sw 0 l.length l l'∧Srt (jS key) 0 l.length l'∧Hs h0 h' (.sl v 3 1 eI l' :: rs)):=by
 have R:Fn Tryz.prog Xh 130 [v,.int .i64 l.length,cvV g cap] h (fun _ h'=>∃ l',Sw 0 l.length l l'∧Srt (jS key) 0 l.length l'∧Hs h0 h' (.sl v 3 1 eI l' :: rs)):=by
  refine qL (by first|rfl) Tryz.func130 rfl rfl ?_;all_goals (repeat' (first|refine qg ?_|refine qj ?_|(refine qc 0 ?_;refine mv ?_;refine qf ?_)|(refine qc 1 ?_;(iterate 3 refine mv ?_);refine qf ?_)))
  refine qH (σ:=Unit) (fun _ h'=>Hs h0 h' (.sl v 3 1 eI l :: rs)) (fun _=>0) (fun _=>[(0,v),(1,.int .i64 l.length),(2,cvV g cap),(6,.int .i64 20),(7,.int .i64 0),(8,.int .i64 20)]) () qx ?_ ?_
  ·exact S
  clear S;rintro - h S;all_goals (repeat' (first|refine qg ?_|refine qh rfl ?_|refine qC ?_|(refine qc 2 ?_;refine mv ?_;refine mv ?_;(refine cF ?_)<;>(refine qf ?_))|(refine qc 6 ?_;(iterate 4 refine mv ?_);skip)))
  (refine qw rfl rfl rfl rfl rfl ((qfO 0 l.length S C hp (zB0 _) (zA3 _) (by omega) hi).mono ?_);rintro _ h ⟨l',g1,g2,S2⟩)<;>(clear S;refine qf ?_)
  all_goals (repeat' (refine qj ?_))
  refine qH (σ:=Unit) (fun _ h'=>Hs h0 h' (.sl v 3 1 eI l' :: rs)) (fun _=>0) (fun _=>[(0,v),(1,.int .i64 l.length),(2,cvV g cap),(6,.int .i64 20)]) () qx ?_ ?_
  ·exact S2
  clear S2;rintro - h S;all_goals (repeat' (first|refine qg ?_|refine qh rfl ?_|refine qC ?_|(refine qc 7 ?_;refine mv ?_;refine mv ?_;(refine cF ?_)<;>(refine qf ?_))))
  refine ⟨_,rfl,?_⟩;exact ⟨l',g1,g2,S⟩
 refine qL (by first|rfl) Tryz.func74 rfl rfl ?_;all_goals (repeat' (first|(refine qc 0 ?_;refine mv ?_;refine mv ?_;refine xe S rfl rfl ?_;refine mv ?_)))
 (refine qw rfl rfl rfl rfl rfl ((R).mono ?_);rintro _ h ⟨l',g1,g2,S2⟩)<;>(clear S;refine qf ?_)
 all_goals (repeat' (fail))
 refine ⟨_,rfl,?_⟩;exact ⟨l',g1,g2,S2⟩
def XD (ts cl:List Int) (t:Int):Nat→Int
 | 0=>64
 | i+1=>if ts.getD i default=t∧cl≠[] then min (XD ts cl t i) (cl.getD i default) else XD ts cl t i
noncomputable def Gj (p:Pb) (q:List Int) (t:Int):Int:=XD (q.map (tOf p.tabs)) p.cl t q.length
theorem qeU {ts cl:List Int} (h:∀ c∈cl,0≤c∧c<64) {t:Int}:∀ i,0≤XD ts cl t i∧XD ts cl t i≤64
 | 0=>by simp [XD]
 | i+1=>by
  have ih:=qeU h (ts:=ts) (t:=t) i;rw [XD];split
  ·rcases zA7 i cl.length with r|r
   ·have:=h _ (qQ r);omega
   ·rw [zA2,zG5 r];show 0≤min _ (0:Int)∧min _ (0:Int)≤64
    omega
  ·exact ih
theorem qct {h0:AH} {b:Nat} {vc:Value} {cs:List Int} (hb:h0.get b=some (.cells [vc] 25 none false)) (rc:zC h0 vc 1 eI cs) (hc:∀ i,0≤cs.getD i default∧cs.getD i default≤64) (hw:WfH h0):qfj h0 75 [.pointer (some ⟨b,0,none⟩)] (fun x=>cs.getD x.toNat default) (fun x=>0≤x∧x<cs.length):=by
 intro h x y e hx hy;have S:=Hs.start e.wf;have hb':=e.get hw hb;have rc':=rc.ext hw e;have hcx:=hc x.toNat;have hcy:=hc y.toNat;have w:=e.wf;refine qL (by first|rfl) Tryz.func75 rfl rfl ?_;all_goals (repeat' (first|refine qg ?_|(refine qc 0 ?_;refine mv ?_;refine qf ?_)|(refine qM 1 ?_;refine lH S ?_;refine mv ?_;refine jF S ?_;refine jk S ?_;refine lH S ?_;refine mv ?_;refine jF S ?_;refine jk S ?_;refine sb ?_;refine mv ?_;refine qf ?_)))
 refine qo ⟨_,rfl,?_⟩;exact ⟨_,rfl,by show _↔cs.getD x.toNat default<cs.getD y.toNat default;omega,S⟩
theorem pM {h0:AH} (w:WfH h0) (pv:PbV) (p:Pb) (H:PbOk h0 pv p) (vq:Value) (q:List Int) (rq:zC h0 vq 1 eI q) (hq:q.length≤9223372036854775807) :
 Fn Tryz.prog Xh 22 [pv.val,vq] h0 (fun u h'=>(¬ (PO p∧PartOk p q)∧u = .slice none 0 0∧Hs h0 h' [])∨(PO p∧PartOk p q∧∃ l':List Int,l'.Perm (srv (zS p q))∧l'.Pairwise (jS (Gj p q))∧Hs h0 h' [.sl u 3 1 eI l'])):=by
 have S:=Hs.start w;have hr:=H.tab.rd;have hl:=H.tab.len;unfold PbV.val;refine qL (by first|rfl) Tryz.func22 rfl rfl ?_;all_goals (repeat' (first|refine qg ?_|(refine qc 0 ?_;(refine bx S ?_;clear S;intro b h S);refine mv ?_;refine qf ?_)))
 obtain ⟨b2,hnm⟩:∃ x,x=b:=⟨_,rfl⟩;subst hnm;all_goals (repeat' (first|(refine qc 1 ?_;refine lB S rfl rfl ?_;refine mv ?_)))
 (refine qw rfl rfl rfl rfl rfl ((X5 S.wf pv p (H.ext w S.ext) vq q (rq.ext w S.ext) hq).mono ?_);rintro _ h ⟨⟨rfl,hv⟩|⟨rfl,hv⟩,x⟩)<;>(replace S:=S.qE x;clear x;refine vl ?_;refine qf ?_)
 rotate_left
 ·all_goals (repeat' (first|refine qg ?_|refine qh rfl ?_|(refine qc 2 ?_;refine mv ?_;refine qf ?_)))
  refine qo ⟨_,rfl,?_⟩;exact .inl ⟨hv,rfl,S.drop⟩
 obtain ⟨hP,hQ⟩:=hv;have hq64:=hQ.ql hP;have hqm:=hQ.qm hl;have hcl:=hP.cl;all_goals (repeat' (first|refine qg ?_|refine qh rfl ?_|refine qi ?_|(refine qc 3 ?_;refine vl ?_;refine lB S rfl rfl ?_;refine jf S ?_)))
 refine qa6 (z:=1) (by_:=8) (enc:=eI) (y0:=0) S rfl rfl rfl rfl rfl rfl rfl rfl rfl (by intro _;rfl) (by first|omega) rfl rfl ?_;clear S;intro v h S;obtain ⟨sC,rfl⟩:=S.sV v;(refine al S ?_;clear S;intro b h S);(first|(refine sB S rfl rfl ?_;clear S;intro h S));refine qf ?_;simp only [zA0] at S;obtain ⟨b5,hnm⟩:∃ x,x=b:=⟨_,rfl⟩;subst hnm;replace S:Hs h0 h [.blk b5 [sC.val] 25,.sl sC.val 3 1 eI (List.replicate p.tabs.length 0),.blk b2 pv.cs 28]:=S;all_goals (repeat' (first|refine qg ?_|refine qj ?_|(refine qc 4 ?_;refine lB S rfl rfl ?_;refine xe S rfl rfl ?_;refine mv ?_;refine qf ?_)))
 have hrl:(List.replicate p.tabs.length (0:Int)).length=p.tabs.length:=by simp
 rw [hrl];refine qH (σ:=Nat×List Int) (fun (i,c) h'=>Hs h0 h' [.blk b5 [sC.val] 25,.sl sC.val 3 1 eI c,.blk b2 pv.cs 28]∧i≤p.tabs.length∧c.length=p.tabs.length∧(∀ j,j<i→c.getD j default=64)) (fun (i,c)=>p.tabs.length - i) (fun (i,c)=>[(1,vq),(2,.pointer (some ⟨b2,0,none⟩)),(5,.pointer (some ⟨b5,0,none⟩)),(19,.int .i64 p.tabs.length),(20,.int .i64 i)]) (0,List.replicate p.tabs.length 0) qx ?_ ?_
 ·exact ⟨S,zB0 _,hrl,fun j hj=>absurd hj (zB7 _)⟩
 clear S;rintro ⟨i,c⟩ h ⟨S,g1,g2,g3⟩;all_goals (repeat' (first|refine qg ?_|refine qh rfl ?_|refine qi ?_|refine qC ?_|refine qj ?_|(refine qc 5 ?_;(first|(refine cS ?_ ?_<;>intro hc))<;>(refine qf ?_))|(refine qc 6 ?_;refine mv ?_;refine mv ?_;refine qf ?_)))
 ·all_goals (repeat' (first|(refine qc 7 ?_;refine lB S rfl rfl ?_;refine mv ?_;refine qO S rfl rfl ?_;(first|(refine JY S rfl rfl ?_;clear S;intro h S));refine qf ?_)|(refine qc 8 ?_;refine ad ?_;refine mv ?_;refine qf ?_)))
  refine ⟨(i+1,c.set i 64),?_,?_,qx⟩
  ·show p.tabs.length - (i+1)<p.tabs.length - i;omega
  ·refine ⟨S,by omega,by rw [zF5];exact g2,fun j hj=>?_⟩;rw [zA2,List.getElem?_set];by_cases e:i=j
   ·subst e;rw [if_pos rfl,if_pos (by omega)];rfl
   ·rw [if_neg e,← zA2];exact g3 j (by omega)
 obtain rfl:i=p.tabs.length:=by omega
 all_goals (repeat' (first|(refine qc 9 ?_;refine lB S rfl rfl ?_;refine mv ?_)))
 (refine qw rfl rfl rfl rfl rfl ((YA S.wf pv p (H.ext w S.ext) vq q (rq.ext w S.ext) (by omega) hqm).mono ?_);rintro vt h x)<;>(replace S:=S.jm x;clear x;refine xe S rfl rfl ?_;refine mv ?_;refine qf ?_)
 all_goals (repeat' (refine qj ?_))
 obtain ⟨ts,hts⟩:∃ ts,q.map (tOf p.tabs)=ts:=⟨_,rfl⟩
 have htl:ts.length=q.length:=by rw [← hts];simp
 have htb:∀ i,i<ts.length→-1≤ts.getD i default∧ts.getD i default<p.tabs.length:=fun i hi=>by
  obtain ⟨x,-,hx⟩:=zF1.1 (show ts.getD i default∈q.map (tOf p.tabs) by rw [hts];exact qQ hi);rw [← hx];exact pz _ _
 have hcb:=fun t=>qeU hcl.2 (ts:=ts) (t:=t);have hrc:=H.cl;rw [hts] at S ⊢;refine qH (σ:=Nat×List Int) (fun (i,c) h'=>Hs h0 h' [.sl vt 3 1 eI ts,.blk b5 [sC.val] 25,.sl sC.val 3 1 eI c,.blk b2 pv.cs 28]∧i≤ts.length∧c.length=p.tabs.length∧(∀ t:Nat,t<p.tabs.length→c.getD t default=XD ts p.cl t i)) (fun (i,c)=>ts.length - i) (fun (i,c)=>[(1,vq),(2,.pointer (some ⟨b2,0,none⟩)),(5,.pointer (some ⟨b5,0,none⟩)),(29,vt),(30,.int .i64 ts.length),(31,.int .i64 i)]) (0,c) qx ?_ ?_
 ·exact ⟨S,zB0 _,g2,fun t ht=>by rw [g3 t ht];rfl⟩
 clear S g1 g2 g3;rintro ⟨i,c⟩ h ⟨S,g1,g2,g3⟩;all_goals (repeat' (first|refine qg ?_|refine qh rfl ?_|refine qi ?_|refine qC ?_|refine qj ?_|(refine qc 10 ?_;(first|(refine cS ?_ ?_<;>intro hc))<;>(refine qf ?_))|(refine qc 11 ?_;refine mv ?_;refine qO S rfl rfl ?_;refine zk S rfl rfl ?_;refine mv ?_;refine mv ?_;refine qf ?_)))
 ·have hi:i<ts.length:=by omega
  obtain ⟨x,hx⟩:∃ x,ts.getD (i:Int).toNat default=x:=⟨_,rfl⟩
  rw [hx];replace hx:ts.getD i default=x:=hx;have hb:=htb i hi;rw [hx] at hb;have hs:∀ t:Int,XD ts p.cl t (i+1)=if x=t∧p.cl≠[] then min (XD ts p.cl t i) (p.cl.getD i default) else XD ts p.cl t i:=fun t=>by rw [XD,hx]
  have hil:i<p.us.length:=by have:=hQ.len;omega
  all_goals (repeat' (first|refine qh rfl ?_|refine qi ?_|(refine qc 12 ?_;refine mv ?_;(first|(refine cS ?_ ?_<;>intro hc))<;>(refine mv ?_;(first|refine off ?_|(refine vl ?_));(first|refine off ?_|(refine lB S rfl rfl ?_));(first|refine off ?_|(refine jf S ?_));(first|refine off ?_|(first|(refine cS ?_ ?_<;>intro hc)))<;>(refine vl ?_;refine qf ?_)))))
  ·obtain ⟨t,rfl⟩:=zH3 (show 0≤x by omega);have hne:p.cl≠[]:=List.ne_nil_of_length_pos (by omega);have hll:p.cl.length=p.us.length:=by
    rcases hcl.1 with r|r
    ·exact absurd (zE8.1 r) hne
    ·exact r
   have htn:t<p.tabs.length:=by omega
   have b1:=hcb (t:Int) i;rw [← g3 t htn] at b1;replace b1:0≤c.getD (t:Int).toNat default∧c.getD (t:Int).toNat default≤64:=b1;have hif:i<p.cl.length:=by omega
   all_goals (repeat' (first|(refine qM 13 ?_;refine lB S rfl rfl ?_;refine mv ?_;refine lB S rfl rfl ?_;refine mv ?_;refine qO S rfl rfl ?_;refine zk S rfl rfl ?_;refine vl ?_;refine lB S rfl rfl ?_;refine mv ?_;refine jF S ?_;refine jk S ?_;refine mn ?_;refine qO S rfl rfl ?_;(first|(refine JY S rfl rfl ?_;clear S;intro h S));refine qf ?_)|(refine qc 14 ?_;refine ad ?_;refine mv ?_;refine qf ?_)))
   refine ⟨(i+1,c.set t (min (c.getD t default) (p.cl.getD i default))),?_,?_,qx⟩
   ·show ts.length - (i+1)<ts.length - i;omega
   ·refine ⟨S,by omega,by rw [zF5];exact g2,fun u hu=>?_⟩;rw [hs,zA2,List.getElem?_set];by_cases e:t=u
    ·subst e;rw [if_pos rfl,if_pos (by omega),if_pos ⟨rfl,hne⟩,← g3 t hu];rfl
    ·rw [if_neg e,if_neg (fun z=>e (by have:=z.1;omega)),← zA2];exact g3 u hu
  all_goals
   all_goals (repeat' (first|(refine qc 14 ?_;refine ad ?_;refine mv ?_;refine qf ?_)))
   refine ⟨(i+1,c),?_,?_,qx⟩
   ·show ts.length - (i+1)<ts.length - i;omega
   ·refine ⟨S,by omega,g2,fun u hu=>?_⟩;rw [hs,if_neg (fun z=>?_)]
    ·exact g3 u hu
    ·first
      | (exfalso;have:=z.1;omega)
      | (exfalso;have:=List.length_pos_iff.2 z.2;omega)
 obtain rfl:i=ts.length:=by omega
 have hB:h.get b5=some (.cells [sC.val] 25 none false):=S.gB (b:=b5);have rb:zC h sC.val 1 eI c:=Rd.QU S (.there (.there .here));have hcc:∀ x,0≤c.getD x default∧c.getD x default≤64:=fun x=>by
  rcases zA7 x c.length with r|r
  ·rw [g3 x (by omega)];exact hcb _ _
  ·rw [zA2,zG5 r];show 0≤(0:Int)∧(0:Int)≤64
   omega
 have hK:=qct hB rb hcc S.wf;have hsl:=gX (pl:=zS p q);have hpv:(zS p q).length=p.tabs.length:=Zk;have ht16:=hP.tabs.1;all_goals (repeat' (first|(refine qc 15 ?_;refine lB S rfl rfl ?_;refine mv ?_)))
 (refine qw rfl rfl rfl rfl rfl ((qaF S.wf pv p (H.ext w S.ext) vq q (rq.ext w S.ext) (by omega) hqm).mono ?_);rintro vs h2 x)<;>(have T:=S;replace S:=x;clear x;refine mv ?_;refine qf ?_)
 all_goals (repeat' (refine qg ?_))
 all_goals (repeat' (first|(refine qc 16 ?_;refine mv ?_;refine vl ?_)))
 have hp1:∀ j,0≤j→j<(srv (zS p q)).length→0≤(srv (zS p q)).getD j default∧(srv (zS p q)).getD j default<c.length:=fun j _ hj=>by
  have:=qdL (p:=p) (q:=q) _ (qQ hj);omega
 have hi1:Inc 0 (srv (zS p q)).length (srv (zS p q)):=fun x y _ q1 q2=>by
  have:=zD2.1 (srv_inc (pl:=zS p q)) x y (by omega) q2 q1;rw [zA2,zA4 (by omega),zA2,zA4 q2];exact this
 (refine qw rfl rfl rfl rfl rfl ((vM S hK hp1 (by omega) hi1).mono ?_);rintro _ h3 ⟨out,k1,k2,S2⟩)<;>(replace S:=S2;clear S2;refine qf ?_)
 all_goals (repeat' (first|refine qg ?_|(refine qc 17 ?_;refine mv ?_;refine mv ?_;refine qf ?_)))
 refine qo ⟨_,rfl,?_⟩;have hpm:=k1.perm;refine .inr ⟨hP,hQ,out,hpm,?_,T.drop.jm S⟩;have hnd:out.Nodup:=hpm.nodup_iff.2 (srv_inc.imp fun h=>Int.ne_of_lt h);have hk:∀ x∈out,c.getD x.toNat default=Gj p q x:=fun x hx=>by
  have:=qdL x (hpm.mem_iff.1 hx);rw [g3 x.toNat (by omega),Int.toNat_of_nonneg this.1,Gj,hts,htl]
 rw [zD2];intro i j hi hj hij;have e:=k2 i j (zB0 _) hij (by rw [← k1.len];exact hj);rw [zA2,zA4 hj,zA2,zA4 hi] at e;have ne:=zD2.1 hnd i j hi hj hij;have m1:=hk _ (List.getElem_mem hi);have m2:=hk _ (List.getElem_mem hj);replace e:¬ (c.getD (out[j]).toNat default<c.getD (out[i]).toNat default∨(c.getD (out[j]).toNat default=c.getD (out[i]).toNat default∧out[j]<out[i])):=e;rw [m1,m2] at e;show Gj p q out[i]<Gj p q out[j]∨(Gj p q out[i]=Gj p q out[j]∧out[i]<out[j])
 omega
end Go.Proofs.Xx
namespace Go.Proofs.Xx
def qj5 (stops way:List Int):List (List Int):=stops.flatMap fun t=>if t∈way then [] else [way ++ [t]]
def qj7 (stops:List Int):Nat→List (List Int)
 | 0=>[[]]
 | n+1=>(qj7 stops n).flatMap (qj5 stops)
def qkO (L:List Int→Int) (b:List Int) (l:List (List Int)):List Int:=l.foldl (fun b c=>if L c<L b then c else b) b
theorem wU {r:Int→Int→Prop} (ha:∀ x y,r x y→¬ r y x):∀ {l m:List Int},l.Perm m→l.Pairwise r→m.Pairwise r→l=m
 | [],m,h,_,_=>(List.nil_perm.1 h).symm
 | x :: l,[],h,_,_=>absurd h.length_eq (by simp)
 | x :: l,y :: m,h,h1,h2=>by
  rw [zH5] at h1 h2;by_cases e:x=y
  ·subst e;rw [wU ha ((List.perm_cons x).1 h) h1.2 h2.2]
  ·have a:x∈m:=(zE7.1 (h.mem_iff.1 (List.mem_cons_self ..))).resolve_left e;have b:y∈l:=(zE7.1 (h.mem_iff.2 (List.mem_cons_self ..))).resolve_left (Ne.symm e);exact absurd (h2.1 x a) (ha _ _ (h1.1 y b))
theorem wY {k:Int→Int} (x y:Int) (h:jS k x y):¬ jS k y x:=by
 unfold jS at *;omega
def jh (cls:Int→Int) (st:List Int) (n:Nat):List Int:=(List.range n).flatMap fun c:Nat=>st.filter fun t=>decide (cls t=(c:Int))
theorem pO {cls:Int→Int} {st:List Int} {n:Nat}:jh cls st (n+1)=jh cls st n ++ st.filter fun t=>decide (cls t=(n:Int)):=by
 unfold jh;rw [List.range_succ,List.flatMap_append];simp
theorem serveL_mem {cls:Int→Int} {st:List Int} {n:Nat} {t:Int}:t∈jh cls st n↔t∈st∧0≤cls t∧cls t<n:=by
 unfold jh;rw [zG9];constructor
 ·rintro ⟨c,hc,h⟩;rw [zE2] at hc;have:=zD9.1 h;have e:cls t=c:=by simpa using this.2
  exact ⟨this.1,by omega,by omega⟩
 ·rintro ⟨h1,h2,h3⟩;exact ⟨(cls t).toNat,zE2.2 (by omega),zD9.2 ⟨h1,by simp;omega⟩⟩
theorem xK {cls:Int→Int} {st:List Int} (hs:st.Pairwise (· < ·)):∀ {n:Nat},(jh cls st n).Pairwise (jS cls)
 | 0=>by simp [jh]
 | n+1=>by
  rw [pO,List.pairwise_append];refine ⟨xK hs,?_,fun a ha b hb=>.inl ?_⟩
  ·have h1:(st.filter fun t=>decide (cls t=(n:Int))).Pairwise (· < ·):=hs.filter _;refine h1.imp_of_mem fun {a b} ha hb hab=>.inr ⟨?_,hab⟩;have q1:cls a=n:=by simpa using (zD9.1 ha).2
   have q2:cls b=n:=by simpa using (zD9.1 hb).2
   omega
  ·have q1:=serveL_mem.1 ha;have q2:cls b=n:=by simpa using (zD9.1 hb).2
   omega
theorem qaJ {cls key:Int→Int} {st l:List Int} {n:Nat} (hs:st.Pairwise (· < ·)) (hc:∀ t∈st,0≤cls t∧cls t<n) (hk:∀ x∈st,∀ y∈st,(key x<key y↔cls x<cls y)) (hp:l.Perm st) (hl:l.Pairwise (jS key)):l=jh cls st n:=by
 have nd:st.Nodup:=hs.imp fun h=>Int.ne_of_lt h;have o:=xK (cls:=cls) hs (n:=n);have nd2:(jh cls st n).Nodup:=o.imp fun {a b} h e=>by subst e;exact wY _ _ h h
 have p:(jh cls st n).Perm st:=(List.perm_ext_iff_of_nodup nd2 nd).2 fun t=>serveL_mem.trans ⟨fun h=>h.1,fun h=>⟨h,hc t h⟩⟩;refine wU (r:=jS cls) (fun x y=>wY x y) (hp.trans p.symm) (hl.imp_of_mem fun {a b} ha hb h=>?_) o;have q1:=hk a (hp.mem_iff.1 ha) b (hp.mem_iff.1 hb);have q2:=hk b (hp.mem_iff.1 hb) a (hp.mem_iff.1 ha);unfold jS at *;omega
def rcG (p:Pb) (g:Int):Int:=if 0<p.cl.length then p.cl.getD g.toNat default else 0
def Kw (p:Pb) (st:List Int):Int:=st.foldl (fun a g=>min a (rcG p g)) 1000
theorem qgv {p:Pb} {st:List Int} {g:Int}:Kw p (st ++ [g])=min (Kw p st) (rcG p g):=by
 unfold Kw;rw [List.foldl_append];rfl
noncomputable def Zj (p:Pb) (q:List Int) (t:Int):Int:=Kw p (zT p.tabs q t q.length)
theorem qgw {p:Pb} {q:List Int} (hP:PO p) (hQ:PartOk p q) {n:Nat} (hn:n<q.length):0≤rcG p (n:Int)∧rcG p (n:Int)<64:=by
 unfold rcG;split
 ·rename_i h
  have hl:=hP.cl.1;have:=hQ.len;have:=hP.cl.2 _ (qQ (show (n:Int).toNat<p.cl.length by omega));exact this
 ·omega
theorem qbJ {p:Pb} {q:List Int} (hP:PO p) (hQ:PartOk p q) {t:Int} (ht:0≤t):∀ n,n≤q.length→(zT p.tabs q t n=[]∧Kw p (zT p.tabs q t n)=1000∧XD (q.map (tOf p.tabs)) p.cl t n=64) ∨
 (zT p.tabs q t n≠[]∧0≤Kw p (zT p.tabs q t n)∧Kw p (zT p.tabs q t n)<64∧((p.cl≠[]∧XD (q.map (tOf p.tabs)) p.cl t n=Kw p (zT p.tabs q t n))∨(p.cl=[]∧Kw p (zT p.tabs q t n)=0∧XD (q.map (tOf p.tabs)) p.cl t n=64)))
 | 0,_=>.inl ⟨rfl,rfl,rfl⟩
 | n+1,hn=>by
  have ih:=qbJ hP hQ ht n (by omega);have hm:(q.map (tOf p.tabs)).getD n default=tOf p.tabs (q.getD n default):=by
   rw [zA2,zH8,zA2,zA4 (by omega)];rfl
  have hneg:tOf p.tabs (q.getD n default)=t→0≤q.getD n default:=fun e=>by
   rcases Int.lt_or_le (q.getD n default) 0 with r|r
   ·have:=gz (l:=p.tabs) r;omega
   ·exact r
  have hb:=qgw hP hQ (n:=n) (by omega);rw [zT,XD,hm];by_cases e:tOf p.tabs (q.getD n default)=t
  ·rw [if_pos (show 0≤q.getD n default∧_ from ⟨hneg e,e⟩),qgv];refine .inr ⟨by simp,?_⟩;by_cases hc:p.cl=[]
   ·have hg:rcG p (n:Int)=0:=by unfold rcG;rw [hc];rfl
    rw [if_neg (fun z=>z.2 hc),hg];rcases ih with ⟨-,h2,h3⟩|⟨-,h2,h3,⟨h4,-⟩|⟨-,h5,h6⟩⟩
    ·rw [h2];exact ⟨by decide,by decide,.inr ⟨hc,by decide,h3⟩⟩
    ·exact absurd hc h4
    ·rw [h5];exact ⟨by decide,by decide,.inr ⟨hc,by decide,h6⟩⟩
   ·have hg:rcG p (n:Int)=p.cl.getD n default:=by unfold rcG;rw [if_pos (List.length_pos_iff.2 hc)];rfl
    rw [if_pos ⟨e,hc⟩,← hg];rcases ih with ⟨-,h2,h3⟩|⟨-,h2,h3,⟨-,h4⟩|⟨h4,-⟩⟩
    ·rw [h2,h3];exact ⟨by omega,by omega,.inl ⟨hc,by omega⟩⟩
    ·rw [h4];exact ⟨by omega,by omega,.inl ⟨hc,rfl⟩⟩
    ·exact absurd h4 hc
  ·rw [if_neg (fun z=>e z.2),if_neg (fun z=>e z.1)];exact ih
theorem qfw {p:Pb} {q:List Int} {t:Int} (h:t∈srv (zS p q)):0≤t∧t<p.tabs.length∧zT p.tabs q t q.length≠[]:=by
 obtain ⟨k,h1,rfl,h2⟩:=qbE.1 h;rw [Zk] at h1;refine ⟨Int.natCast_nonneg _,by omega,fun e=>?_⟩;have:=Ko (p:=p) (q:=q) h1;rw [e] at this;simp only [List.length_nil] at this;omega
theorem qcq {p:Pb} {q:List Int} (hP:PO p) (hQ:PartOk p q) {l:List Int} (hp:l.Perm (srv (zS p q))) (hl:l.Pairwise (jS (Gj p q))):l=jh (Zj p q) (srv (zS p q)) 64:=by
 have hs:=fun {t:Int} (h:t∈srv (zS p q))=>qfw h;have hr:=fun {t:Int} (h:t∈srv (zS p q))=>(qbJ hP hQ (hs h).1 q.length (zA3 _)).resolve_left fun z=>(hs h).2.2 z.1;refine qaJ (key:=Gj p q) ?_ (fun t ht=>?_) (fun x hx y hy=>?_) hp hl
 ·exact srv_inc
 ·have:=hr ht;exact ⟨this.2.1,this.2.2.1⟩
 ·have a:=(hr hx).2.2.2;have b:=(hr hy).2.2.2;show XD _ _ _ _<XD _ _ _ _↔Kw _ _<Kw _ _
  rcases a with ⟨a1,a2⟩|⟨a1,a2,a3⟩<;>rcases b with ⟨b1,b2⟩|⟨b1,b2,b3⟩
  ·rw [a2,b2]
  ·exact absurd b1 a1
  ·exact absurd a1 b1
  ·rw [a2,b2,a3,b3];exact Iff.intro (fun z=>absurd z (by decide)) fun z=>absurd z (by decide)
variable [Flag]
theorem qcB {h0:AH} (w:WfH h0) (pv:PbV) (p:Pb) (H:PbOk h0 pv p) (hP:PO p) (vq:Value) (q:List Int) (rq:zC h0 vq 1 eI q) (hQ:PartOk p q) (t:Int) :
 Fn Tryz.prog Xh 100 [pv.val,vq,.int .i64 t] h0 (fun u h'=>u = .int .i64 (Zj p q t)∧Hs h0 h' []):=by
 have S:=Hs.start w;have hql:=hQ.len;have h64:p.us.length≤64:=hP.rl.l64;have hr:=H.tab.rd;have hl:=H.tab.len;have ht16:=hP.tabs.1;have rc:zC h0 pv.vc.val 1 eI p.cl:=H.cl;have hcl:=hP.cl;have hqb:∀ x∈q,-1≤x∧x≤1000000:=fun x hx=>by
  have:=hQ.rng x hx;have:=zQ p.tabs p.tabs.length;omega
 have hgb:=fun {n:Nat}=>qgw hP hQ (n:=n);unfold PbV.val;refine qL (by first|rfl) Tryz.func100 rfl rfl ?_;all_goals (repeat' (first|refine qg ?_|(refine qc 0 ?_;(refine bx S ?_;clear S;intro b h S);refine mv ?_;refine qf ?_)))
 obtain ⟨b3,hnm⟩:∃ x,x=b:=⟨_,rfl⟩;subst hnm;all_goals (repeat' (first|(refine qc 1 ?_;refine lB S rfl rfl ?_;refine mv ?_;refine mv ?_)))
 have hsl:=JF (l:=p.tabs) (q:=q) (t:=t) q.length;have hsm:∀ x∈zT p.tabs q t q.length,0≤x∧x<q.length:=fun x hx=>Y2 hx;(refine qw rfl rfl rfl rfl rfl ((Y7 S.wf pv p (H.ext w S.ext) hP.tabs vq q (rq.ext w S.ext) (by omega) hqb t).mono ?_);rintro u h x)<;>(replace S:=S.jm x;clear x;refine mv ?_;refine qf ?_)
 have hv:Zj p q t=Kw p (zT p.tabs q t q.length):=rfl;rw [hv];obtain ⟨st,hst⟩:∃ st,zT p.tabs q t q.length=st:=⟨_,rfl⟩
 rw [hst] at S hsl hsm ⊢;all_goals (repeat' (first|refine qg ?_|refine qj ?_|(refine qc 2 ?_;refine mv ?_;refine qf ?_)|(refine qc 3 ?_;refine mv ?_;refine qf ?_)))
 refine qH (σ:=Nat) (fun k h'=>Hs h0 h' [.sl u 3 1 eI st,.blk b3 pv.cs 28]∧k≤st.length∧0≤Kw p (st.take k)∧Kw p (st.take k)≤1000) (fun k=>st.length - k) (fun k=>[(3,.pointer (some ⟨b3,0,none⟩)),(7,u),(8,.int .i64 (Kw p (st.take k))),(9,.int .i64 k)]) 0 qx ?_ ?_
 ·exact ⟨S,zB0 _,(show (0:Int)≤1000 by decide),Int.le_refl _⟩
 clear S;rintro k h ⟨S,g1,g2,g3⟩;all_goals (repeat' (first|refine qg ?_|refine qh rfl ?_|refine qi ?_|refine qC ?_|refine qj ?_|(refine qc 4 ?_;refine mv ?_;refine mv ?_;refine xe S rfl rfl ?_;(first|(refine cS ?_ ?_<;>intro hc))<;>(refine qf ?_))))
 ·have hk:k<st.length:=by omega
  have hx:=hsm _ (qQ hk);have hgx:=hgb (show (st.getD k default).toNat<q.length by omega);rw [Int.toNat_of_nonneg hx.1] at hgx;have hs:Kw p (st.take (k+1))=min (Kw p (st.take k)) (rcG p (st.getD k default)):=by rw [ZK hk,qgv]
  have hkk:st.getD (k:Int).toNat default=st.getD k default:=rfl;all_goals (repeat' (first|refine qg ?_|refine qh rfl ?_|refine qi ?_|(refine qc 6 ?_;refine mv ?_;refine qf ?_)|(refine qc 7 ?_;refine vl ?_;refine lB S rfl rfl ?_;refine jf S ?_;(first|(refine cS ?_ ?_<;>intro hc))<;>(refine qf ?_))))
  ·have hcp:0<p.cl.length:=by omega
   have hcg:p.cl.getD (st.getD k default).toNat default=rcG p (st.getD k default):=by unfold rcG;rw [if_pos hcp]
   all_goals (repeat' (first|(refine qc 5 ?_;refine mv ?_;refine ad ?_;refine mv ?_;refine qf ?_)|(refine qM 8 ?_;refine vl ?_;refine lB S rfl rfl ?_;refine mv ?_;refine mv ?_;refine qO S rfl rfl ?_;refine zk S rfl rfl ?_;refine jF S ?_;refine jk S ?_;refine mv ?_;refine qf ?_)|(refine qc 9 ?_;refine mv ?_;refine mv ?_;refine mn ?_;refine mv ?_;refine qf ?_)))
   rw [hkk,hcg,← hs];refine ⟨k+1,?_,?_,qx⟩
   ·show st.length - (k+1)<st.length - k;omega
   ·exact ⟨S,by (try dsimp only);omega,by (try dsimp only);omega,by (try dsimp only);omega⟩
  ·have hcg:(0:Int)=rcG p (st.getD k default):=by unfold rcG;rw [if_neg (by omega)]
   all_goals (repeat' (first|(refine qc 5 ?_;refine mv ?_;refine ad ?_;refine mv ?_;refine qf ?_)|(refine qc 9 ?_;refine mv ?_;refine mv ?_;refine mn ?_;refine mv ?_;refine qf ?_)))
   rw [hcg,← hs];refine ⟨k+1,?_,?_,qx⟩
   ·show st.length - (k+1)<st.length - k;omega
   ·exact ⟨S,by (try dsimp only);omega,by (try dsimp only);omega,by (try dsimp only);omega⟩
 ·obtain rfl:k=st.length:=by omega
  rw [zD4];all_goals (repeat' (first|(refine qc 10 ?_;refine mv ?_;refine mv ?_;refine qf ?_)))
  refine qo ⟨_,rfl,?_⟩;exact ⟨rfl,S.drop⟩
theorem qcF {h0:AH} (w:WfH h0) (pv:PbV) (p:Pb) (H:PbOk h0 pv p) (hP:PO p) (vq:Value) (q:List Int) (rq:zC h0 vq 1 eI q) (hQ:PartOk p q) :
 Fn Tryz.prog Xh 42 [pv.val,vq] h0 (fun u h'=>Hs h0 h' [.sl u 3 1 eI (jh (Zj p q) (srv (zS p q)) 64)]):=by
 have S:=Hs.start w;have hql:=hQ.len;have h64:p.us.length≤64:=hP.rl.l64;have hr:=H.tab.rd;have hl:=H.tab.len;have ht16:=hP.tabs.1;have hqb:∀ x∈q,-1≤x∧x≤1000000:=fun x hx=>by
  have:=hQ.rng x hx;have:=zQ p.tabs p.tabs.length;omega
 unfold PbV.val;refine qL (by first|rfl) Tryz.func42 rfl rfl ?_;all_goals (repeat' (first|refine qg ?_|(refine qc 0 ?_;(refine bx S ?_;clear S;intro b h S);refine mv ?_;refine qf ?_)))
 obtain ⟨b2,hnm⟩:∃ x,x=b:=⟨_,rfl⟩;subst hnm;all_goals (repeat' (first|(refine qc 1 ?_;refine lB S rfl rfl ?_;refine mv ?_)))
 (refine qw rfl rfl rfl rfl rfl ((qaR S.wf pv p (H.ext w S.ext) hP.tabs vq q (rq.ext w S.ext) (by omega) hqb).mono ?_);rintro u h x)<;>(replace S:=S.jm x;clear x;refine mv ?_;refine qf ?_)
 obtain ⟨st,hst⟩:∃ st,srv (zS p q)=st:=⟨_,rfl⟩
 rw [hst] at S ⊢;have hsl:st.length≤16:=by
  rw [← hst];have:=gX (pl:=zS p q);rw [Zk] at this;omega
 have hol:∀ c:Nat,(jh (Zj p q) st c).length≤16*c:=fun c=>by
  unfold jh;induction c with
  | zero=>exact zB0 _
  | succ c ih =>
   rw [List.range_succ,List.flatMap_append,zB2];have:=zE9 (fun t=>decide (Zj p q t=(c:Int))) st;simp only [zG2,List.flatMap_nil,zD6];omega
 all_goals (repeat' (first|refine qg ?_|refine qj ?_|(refine qc 2 ?_;refine mv ?_;refine qf ?_)|(refine qc 3 ?_;refine mv ?_;refine qf ?_)))
 replace S:Hs h0 _ [.sl (.slice none 0 0) 3 1 eI [],.sl u 3 1 eI st,.blk b2 pv.cs 28]:=S.Xg;refine qH (σ:=Nat×Value) (fun (c,v6) h'=>Hs h0 h' [.sl v6 3 1 eI (jh (Zj p q) st c),.sl u 3 1 eI st,.blk b2 pv.cs 28]∧c≤64) (fun (c,v6)=>64 - c) (fun (c,v6)=>[(1,vq),(2,.pointer (some ⟨b2,0,none⟩)),(5,u),(6,v6),(7,.int .i64 c)]) (0,.slice none 0 0) qx ?_ ?_
 ·exact ⟨S,zB0 _⟩
 clear S;rintro ⟨c,v6⟩ h ⟨S,g1⟩;have hc1:=hol c;all_goals (repeat' (first|refine qg ?_|refine qh rfl ?_|refine qi ?_|refine qC ?_|refine qj ?_|(refine qc 4 ?_;refine mv ?_;(first|(refine cS ?_ ?_<;>intro hc))<;>(refine qf ?_))))
 ·have hc:c<64:=by omega
  all_goals (repeat' (first|refine qj ?_|(refine qc 6 ?_;refine mv ?_;refine qf ?_)))
  refine qH (σ:=Nat×Value) (fun (i,v6) h'=>Hs h0 h' [.sl v6 3 1 eI (jh (Zj p q) st c ++ (st.take i).filter fun t=>decide (Zj p q t=(c:Int))),.sl u 3 1 eI st,.blk b2 pv.cs 28]∧i≤st.length) (fun (i,v6)=>st.length - i) (fun (i,v6)=>[(1,vq),(2,.pointer (some ⟨b2,0,none⟩)),(5,u),(6,v6),(7,.int .i64 c),(8,.int .i64 i)]) (0,v6) qx ?_ ?_
  ·exact ⟨by simpa using S,zB0 _⟩
  clear S;rintro ⟨i,v6⟩ h ⟨S,f1⟩;have hfl:((st.take i).filter fun t=>decide (Zj p q t=(c:Int))).length≤i:=zD0 (zE9 _ _) (by rw [zA9];omega);have htl:(jh (Zj p q) st c ++ (st.take i).filter fun t=>decide (Zj p q t=(c:Int))).length≤2000:=by rw [zB2];omega
  all_goals (repeat' (first|refine qg ?_|refine qh rfl ?_|refine qi ?_|refine qC ?_|refine qj ?_|(refine qc 7 ?_;refine mv ?_;refine mv ?_;refine xe S rfl rfl ?_;(first|(refine cS ?_ ?_<;>intro hc))<;>(refine qf ?_))))
  ·have hi:i<st.length:=by omega
   have hkk:st.getD (i:Int).toNat default=st.getD i default:=rfl;all_goals (repeat' (first|(refine qM 9 ?_;refine lB S rfl rfl ?_;(iterate 3 refine mv ?_);refine qO S rfl rfl ?_;refine zk S rfl rfl ?_)))
   (refine qw rfl rfl rfl rfl rfl ((qcB S.wf pv p (H.ext w S.ext) hP vq q (rq.ext w S.ext) hQ (st.getD i default)).mono ?_);rintro _ h ⟨rfl,x⟩)<;>(replace S:=S.qE x;clear x;refine mv ?_;(first|(refine cS ?_ ?_<;>intro hc))<;>(refine qf ?_))
   all_goals (repeat' (first|refine qh rfl ?_|refine qi ?_|(refine qc 10 ?_;(iterate 3 refine mv ?_);refine qO S rfl rfl ?_;refine zk S rfl rfl ?_;(refine one 1 S ?_;clear S;intro u h S))))
   ·have e:(st.take (i+1)).filter (fun t=>decide (Zj p q t=(c:Int)))=(st.take i).filter (fun t=>decide (Zj p q t=(c:Int))) ++ [st.getD i default]:=by
     rw [ZK hi,zD1,zD7,if_pos (decide_eq_true (by assumption))];rfl
    refine app (y0:=(st.getD i default)) S rfl rfl ?_;clear S;intro v h S;refine mv ?_;refine qf ?_;rw [zF2,← e] at S;all_goals (repeat' (first|(refine qc 8 ?_;refine mv ?_;refine ad ?_;refine mv ?_;refine qf ?_)))
    refine ⟨(i+1,v),?_,?_,qx⟩
    ·show st.length - (i+1)<st.length - i;omega
    ·exact ⟨S,by (try dsimp only);omega⟩
   ·have e:(st.take (i+1)).filter (fun t=>decide (Zj p q t=(c:Int)))=(st.take i).filter (fun t=>decide (Zj p q t=(c:Int))):=by
     rw [ZK hi,zD1,zD7,if_neg (by simpa using by assumption)];simp
    rw [← e] at S;all_goals (repeat' (first|(refine qc 8 ?_;refine mv ?_;refine ad ?_;refine mv ?_;refine qf ?_)))
    refine ⟨(i+1,v6),?_,?_,qx⟩
    ·show st.length - (i+1)<st.length - i;omega
    ·exact ⟨S,by (try dsimp only);omega⟩
  ·obtain rfl:i=st.length:=by omega
   rw [zD4,← pO] at S;all_goals (repeat' (first|(refine qc 5 ?_;refine mv ?_;refine ad ?_;refine mv ?_;refine qf ?_)))
   refine ⟨(c+1,v6),?_,?_,qx⟩
   ·show 64 - (c+1)<64 - c;omega
   ·exact ⟨S,by (try dsimp only);omega⟩
 ·obtain rfl:c=64:=by omega
  all_goals (repeat' (first|(refine qc 11 ?_;refine mv ?_;refine mv ?_;refine qf ?_)))
  refine qo ⟨_,rfl,?_⟩;exact S.only .here
end Go.Proofs.Xx
